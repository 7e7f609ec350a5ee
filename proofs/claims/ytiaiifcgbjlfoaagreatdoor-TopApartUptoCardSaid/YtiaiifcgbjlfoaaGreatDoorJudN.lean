/- conf.Judge of one plan, walked: the whole. -/
import Derived.Test.YtiaiifcgbjlfoaaGreatDoorSortI
import Derived.Test.YtiaiifcgbjlfoaaGreatDoorSortW
set_option linter.all false
namespace Go.Proofs.YtiaiifcgbjlfoaaGreatDoor
open Go Go.Abs
def qUX (r:Th (Int)):AV:= .i .i64 fun _=>(r ())
def qUY (a:Int) (b:Int):Int:=a
def qS2 (a:Int) (b:Int):Prop:=(a=1∨a=10)∧b=10∨a=1∧b=1
def qQo:Det:=fun A=>match A with
 |[.i .i64 a,.i .i64 b]=>some (fun _=>qS2 (a ()) (b ()),qUX fun _=>qUY (a ()) (b ()))
 |_=>none
set_option maxRecDepth 100000 in
set_option maxHeartbeats 4000000 in
theorem qUZ (a:Int) (b:Int) (hp:qS2 a b):qO Tryz.prog 127 [.i .i64 fun _=>a,.i .i64 fun _=>b] [] (qAf (qUX fun _=>qUY a b) []):=by
 refine qAe qI zl qP (qAb qI zl qEd mixed) (keep:=[0,1,4,6]) Tryz.func127 rfl ?_
 have hp':(a=1∨a=10)∧b=10∨a=1∧b=1:=hp
 rcases hp' with⟨rfl|rfl,rfl⟩|⟨rfl,rfl⟩
 all_goals cbv
 repeat' first|(refine LoopVC.un 6 ?_;cbv)|(refine Imp.mk fun h=> ?_;first|exact absurd h (by decide+kernel)|exact absurd (beq_iff_eq.1 h).symm hn|exact absurd (beq_iff_eq.1 h) hn|(exfalso;simp only[nc,decide_eq_true_eq,decide_eq_false_iff_not,Bool.not_eq_true',Bool.not_eq_false']at h;omega)|skip)|(refine Gen.mk fun r hr=> ?_;subst hr;cbv)|(refine AllS.mk fun r hr=> ?_;first|obtain rfl:=List.perm_singleton.1 hr.1|obtain rfl:=List.perm_nil.1 hr.1|skip;cbv)|(refine Stp.mk ?_;cbv)|(refine Gen.mk fun r hr=> ?_;(try simp only[Dat.ok,Dat.dec,Leaf.ok,Leaf.val,Z0,Z1,Z2,Z3,Z4,Z5,Z6,Z7,Z8,Z9,Z10,Z11,Z12,Z13,Z14,qA,qB]at hr);cbv)|exact trivial|rfl|refine Both.mk ?_ ?_|(refine Imp.mk fun h=> ?_;(try dsimp only at h);(try simp only[nc,Int.toNat_natCast,ne_eq,zz]at h);(try simp only[nc]at h))|refine Ob.mk ?_ ?_|refine Chk.mk (by kernel_rfl) ?_|refine Eq'.mk ?_|(refine AllN.mk fun i hi=> ?_;cbv)|(refine AllC.mk fun c hc hcm=> ?_;(try dsimp only at hc);cbv)|(refine AllS.mk fun r hr=> ?_;(try simp only[Dat.ok,Dat.dec,Leaf.ok,Leaf.val,Z0,Z1,Z2,Z3,Z4,Z5,Z6,Z7,Z8,Z9,Z10,Z11,Z12,Z13,Z14,qA]at hr);cbv)
 all_goals decide+kernel
theorem qRU:qBf Tryz.prog 127 (qM qQo):=qS fun A p r h hp0=>by
 unfold qQo at h
 split at h
 ·rename_i a b
  cases h
  have hp:=hp0
  exact⟨rfl,qO.pre (A':=[.i .i64 fun _=>a (),.i .i64 fun _=>b ()]) (qUZ (a ()) (b ()) hp) (.mk (.mk (.mk rfl) (.mk rfl)) (.mk (.mk (.mk rfl) (.mk rfl)) (trivial)))⟩
 ·cases h
noncomputable def cJ0:FuncId→Con:=fun f=>match f with
 |127=>qH (qM qQo)
 |126=>qAg E qDx qAa [0,1,2,6] Tryz.f126
 |_=>fun _ _ _=>Bad 1001
theorem qU0:qY Tryz.prog cJ0:=fun f A H K h=>by
 unfold cJ0 at h
 split at h
 ·exact⟨⟨Tryz.f127,Tryz.func127,by kernel_rfl,by kernel_rfl⟩,qE qRU h⟩
 ·exact⟨⟨Tryz.f126,Tryz.func126,by kernel_rfl,by kernel_rfl⟩,qAi qI zl qP qD Tryz.func126 h⟩
 ·cases h
def dJ0:FuncId→Option Dt:=fun f=>match f with
 |127=>some (.c qQo)
 |_=>none
theorem qU1:qBk Tryz.prog dJ0:=fun f d h=>by
 unfold dJ0 at h
 split at h
 ·cases h;exact⟨⟨Tryz.f127,Tryz.func127,by kernel_rfl,by kernel_rfl⟩,qRU⟩
 ·cases h
def qU2 (r:Th (Int×Int)):AV:= .tup [.i .i64 fun _=>(r ()).1,.i .i64 fun _=>(r ()).2]
def qU3 (l:(List Int)):Int×Int:=(if l.length=0 then(1:Int)else 10,(0:Int))
def qU4 (l:(List Int)):Prop:=l=[]∨l=[10]∨l=[1,10]∨l=[10,10]
def qQp:Det:=fun A=>match A with
 |[l]=>some (fun _=>Leaf.ok (List Int) l∧qU4 (Leaf.val l),qU2 fun _=>qU3 (Leaf.val l))
 |_=>none
set_option maxRecDepth 100000 in
set_option maxHeartbeats 4000000 in
theorem qU5 (l:(List Int)) (hp:qU4 l):qO Tryz.prog 99 [Leaf.av fun _=>l] [] (qAf (qU2 fun _=>qU3 l) []):=by
 refine qAe qI zl qU0 (qAb qI zl qU1 mixed) (keep:=[0,2,3,5,6,8,11,12,13,14,15,20,22,23,24,25,36]) Tryz.func99 rfl ?_
 have hp':l=[]∨l=[10]∨l=[1,10]∨l=[10,10]:=hp
 rcases hp' with rfl|rfl|rfl|rfl
 all_goals cbv
 repeat' first|(refine LoopVC.un 6 ?_;cbv)|(refine Imp.mk fun h=> ?_;first|exact absurd h (by decide+kernel)|exact absurd (beq_iff_eq.1 h).symm hn|exact absurd (beq_iff_eq.1 h) hn|(exfalso;simp only[nc,decide_eq_true_eq,decide_eq_false_iff_not,Bool.not_eq_true',Bool.not_eq_false']at h;omega)|skip)|(refine Gen.mk fun r hr=> ?_;subst hr;cbv)|(refine AllS.mk fun r hr=> ?_;first|obtain rfl:=List.perm_singleton.1 hr.1|obtain rfl:=List.perm_nil.1 hr.1|skip;cbv)|(refine Stp.mk ?_;cbv)|(refine Gen.mk fun r hr=> ?_;(try simp only[Dat.ok,Dat.dec,Leaf.ok,Leaf.val,Z0,Z1,Z2,Z3,Z4,Z5,Z6,Z7,Z8,Z9,Z10,Z11,Z12,Z13,Z14,qA,qB]at hr);cbv)|exact trivial|rfl|refine Both.mk ?_ ?_|(refine Imp.mk fun h=> ?_;(try dsimp only at h);(try simp only[nc,Int.toNat_natCast,ne_eq,zz]at h);(try simp only[nc]at h))|refine Ob.mk ?_ ?_|refine Chk.mk (by kernel_rfl) ?_|refine Eq'.mk ?_|(refine AllN.mk fun i hi=> ?_;cbv)|(refine AllC.mk fun c hc hcm=> ?_;(try dsimp only at hc);cbv)|(refine AllS.mk fun r hr=> ?_;(try simp only[Dat.ok,Dat.dec,Leaf.ok,Leaf.val,Z0,Z1,Z2,Z3,Z4,Z5,Z6,Z7,Z8,Z9,Z10,Z11,Z12,Z13,Z14,qA]at hr);cbv)
 all_goals first
  |decide+kernel
  |(unfold InR;decide+kernel)
  |(unfold qS2;decide+kernel)
  |fail
theorem qRV:qBf Tryz.prog 99 (qM qQp):=qS fun A p r h hp0=>by
 unfold qQp at h
 split at h
 ·rename_i l
  cases h
  obtain⟨g0,hp⟩:=hp0
  exact⟨rfl,qO.pre (A':=[Leaf.av fun _=>(Leaf.val l:(List Int))]) (qU5 (Leaf.val l) hp) (.mk (Leaf.hle _ g0) (trivial))⟩
 ·cases h
def tkL:Task:=⟨2,10,10⟩
def qU6 (r:Th (Int)):AV:= .i .i64 fun _=>(r ())
def qU7 (l:(List Task)):Int:=(0:Int)
def qU8 (l:(List Task)):Prop:=l=[]∨l=[tkL]
def qOi:Det:=fun A=>match A with
 |[l]=>some (fun _=>Leaf.ok (List Task) l∧qU8 (Leaf.val l),qU6 fun _=>qU7 (Leaf.val l))
 |_=>none
set_option maxRecDepth 100000 in
set_option maxHeartbeats 4000000 in
theorem qU9 (l:(List Task)) (hp:qU8 l):qO Tryz.prog 94 [Leaf.av fun _=>l] [] (qAf (qU6 fun _=>qU7 l) []):=by
 refine qAe qI zl qP qD (keep:=[0,2,4,7,8,9,10,11,45]) Tryz.func94 rfl ?_
 have hp':l=[]∨l=[tkL]:=hp
 rcases hp' with rfl|rfl
 all_goals cbv
 repeat' first|(refine LoopVC.un 6 ?_;cbv)|(refine Imp.mk fun h=> ?_;first|exact absurd h (by decide+kernel)|exact absurd (beq_iff_eq.1 h).symm hn|exact absurd (beq_iff_eq.1 h) hn|(exfalso;simp only[nc,decide_eq_true_eq,decide_eq_false_iff_not,Bool.not_eq_true',Bool.not_eq_false']at h;omega)|skip)|(refine Gen.mk fun r hr=> ?_;subst hr;cbv)|(refine AllS.mk fun r hr=> ?_;first|obtain rfl:=List.perm_singleton.1 hr.1|obtain rfl:=List.perm_nil.1 hr.1|skip;cbv)|(refine Stp.mk ?_;cbv)|(refine Gen.mk fun r hr=> ?_;(try simp only[Dat.ok,Dat.dec,Leaf.ok,Leaf.val,Z0,Z1,Z2,Z3,Z4,Z5,Z6,Z7,Z8,Z9,Z10,Z11,Z12,Z13,Z14,qA,qB]at hr);cbv)|exact trivial|rfl|refine Both.mk ?_ ?_|(refine Imp.mk fun h=> ?_;(try dsimp only at h);(try simp only[nc,Int.toNat_natCast,ne_eq,zz]at h);(try simp only[nc]at h))|refine Ob.mk ?_ ?_|refine Chk.mk (by kernel_rfl) ?_|refine Eq'.mk ?_|(refine AllN.mk fun i hi=> ?_;cbv)|(refine AllC.mk fun c hc hcm=> ?_;(try dsimp only at hc);cbv)|(refine AllS.mk fun r hr=> ?_;(try simp only[Dat.ok,Dat.dec,Leaf.ok,Leaf.val,Z0,Z1,Z2,Z3,Z4,Z5,Z6,Z7,Z8,Z9,Z10,Z11,Z12,Z13,Z14,qA]at hr);cbv)
 all_goals first
  |decide+kernel
  |(unfold InR;decide+kernel)
  |fail
theorem qOj:qBf Tryz.prog 94 (qM qOi):=qS fun A p r h hp0=>by
 unfold qOi at h
 split at h
 ·rename_i l
  cases h
  obtain⟨g0,hp⟩:=hp0
  exact⟨rfl,qO.pre (A':=[Leaf.av fun _=>(Leaf.val l:(List Task))]) (qU9 (Leaf.val l) hp) (.mk (Leaf.hle _ g0) (trivial))⟩
 ·cases h
noncomputable def cJ1:FuncId→Con:=fun f=>match f with
 |94=>qH (qM qOi)
 |99=>qH (qM qQp)
 |_=>fun _ _ _=>Bad 1001
theorem qVa:qY Tryz.prog cJ1:=fun f A H K h=>by
 unfold cJ1 at h
 split at h
 ·exact⟨⟨Tryz.f94,Tryz.func94,by kernel_rfl,by kernel_rfl⟩,qE qOj h⟩
 ·exact⟨⟨Tryz.f99,Tryz.func99,by kernel_rfl,by kernel_rfl⟩,qE qRV h⟩
 ·cases h
def qVb (r:Th (Int×Int)):AV:= .tup [.i .i64 fun _=>(r ()).1,.i .i64 fun _=>(r ()).2]
def qVc (l:(List Task)):Int×Int:=(if l.length=0 then(1:Int)else 10,(0:Int))
def qVd (l:(List Task)):Prop:=l=[]∨l=[tkL]
def qS3:Det:=fun A=>match A with
 |[l]=>some (fun _=>Leaf.ok (List Task) l∧qVd (Leaf.val l),qVb fun _=>qVc (Leaf.val l))
 |_=>none
set_option maxRecDepth 100000 in
set_option maxHeartbeats 4000000 in
theorem qVe (l:(List Task)) (hp:qVd l):qO Tryz.prog 98 [Leaf.av fun _=>l] [] (qAf (qVb fun _=>qVc l) []):=by
 refine qAe qI zl qVa qD (keep:=[0,2,3,4,5,7,11,13,14,15,16]) Tryz.func98 rfl ?_
 have hp':l=[]∨l=[tkL]:=hp
 rcases hp' with rfl|rfl
 all_goals cbv
 repeat' first|(refine LoopVC.un 6 ?_;cbv)|(refine Imp.mk fun h=> ?_;first|exact absurd h (by decide+kernel)|exact absurd (beq_iff_eq.1 h).symm hn|exact absurd (beq_iff_eq.1 h) hn|(exfalso;simp only[nc,decide_eq_true_eq,decide_eq_false_iff_not,Bool.not_eq_true',Bool.not_eq_false']at h;omega)|skip)|(refine Gen.mk fun r hr=> ?_;subst hr;cbv)|(refine AllS.mk fun r hr=> ?_;first|obtain rfl:=List.perm_singleton.1 hr.1|obtain rfl:=List.perm_nil.1 hr.1|skip;cbv)|(refine Stp.mk ?_;cbv)|(refine Gen.mk fun r hr=> ?_;(try simp only[Dat.ok,Dat.dec,Leaf.ok,Leaf.val,Z0,Z1,Z2,Z3,Z4,Z5,Z6,Z7,Z8,Z9,Z10,Z11,Z12,Z13,Z14,qA,qB]at hr);cbv)|exact trivial|rfl|refine Both.mk ?_ ?_|(refine Imp.mk fun h=> ?_;(try dsimp only at h);(try simp only[nc,Int.toNat_natCast,ne_eq,zz]at h);(try simp only[nc]at h))|refine Ob.mk ?_ ?_|refine Chk.mk (by kernel_rfl) ?_|refine Eq'.mk ?_|(refine AllN.mk fun i hi=> ?_;cbv)|(refine AllC.mk fun c hc hcm=> ?_;(try dsimp only at hc);cbv)|(refine AllS.mk fun r hr=> ?_;(try simp only[Dat.ok,Dat.dec,Leaf.ok,Leaf.val,Z0,Z1,Z2,Z3,Z4,Z5,Z6,Z7,Z8,Z9,Z10,Z11,Z12,Z13,Z14,qA]at hr);cbv)
 all_goals first
  |decide+kernel
  |(unfold InR;decide+kernel)
  |exact⟨⟨rfl,fun i _=>Dat.hok _⟩,by first|exact .inl rfl|exact .inr rfl⟩
  |exact⟨trivial,.inl rfl⟩
  |exact⟨⟨rfl,fun i _=>Dat.hok _⟩,by first|exact .inl rfl|exact .inr (.inl rfl)|exact .inr (.inr (.inl rfl))|exact .inr (.inr (.inr rfl))⟩
  |exact⟨⟨rfl,fun _ _=>trivial⟩,.inr (.inl rfl)⟩
  |exact⟨⟨rfl,fun i (hi:i<2)=>by rcases i with _|_|i;all_goals first|trivial|omega⟩,by first|exact .inr (.inr (.inl rfl))|exact .inr (.inr (.inr rfl))⟩
  |fail
theorem qVf:qBf Tryz.prog 98 (qM qS3):=qS fun A p r h hp0=>by
 unfold qS3 at h
 split at h
 ·rename_i l
  cases h
  obtain⟨g0,hp⟩:=hp0
  exact⟨rfl,qO.pre (A':=[Leaf.av fun _=>(Leaf.val l:(List Task))]) (qVe (Leaf.val l) hp) (.mk (Leaf.hle _ g0) (trivial))⟩
 ·cases h
noncomputable def cJ2:FuncId→Con:=fun f=>match f with
 |129=>qAg E qDx qAa [0,2,3,4,5,8,13,25,32,44] Tryz.f129
 |128=>qOg
 |_=>fun _ _ _=>Bad 1001
theorem qVg:qY Tryz.prog cJ2:=fun f A H K h=>by
 unfold cJ2 at h
 split at h
 ·exact⟨⟨Tryz.f129,Tryz.func129,by kernel_rfl,by kernel_rfl⟩,qAi qI zl qP qD Tryz.func129 h⟩
 ·exact⟨⟨Tryz.f128,Tryz.func128,by kernel_rfl,by kernel_rfl⟩,qQn h⟩
 ·cases h
def qX8 (r:Th ((List Int))):AV:= .own 0 fun _=>(r ()).length
def qX9 (r:Th ((List Int))):Hp:=[qA2 3 fun _=>(r ())]
def qS4 (l:(List Task)) (below:Int):(List Int):=(if l.length=0 then []else [10]:List Int)
def qVh (l:(List Task)) (below:Int):Prop:=(l=[]∨l=[tkL])∧below=11
set_option maxRecDepth 100000 in
set_option maxHeartbeats 4000000 in
theorem qVi (l:(List Task)) (below:Int) (hp:qVh l below):qO Tryz.prog 100 [Leaf.av fun _=>l,.i .i64 fun _=>below] [] (qAf (qX8 fun _=>qS4 l below) (qX9 fun _=>qS4 l below)):=by
 refine qAe qI zl qVg qD (keep:=[0,1,4,5,7,8,9,10,11,12,19]) Tryz.func100 rfl ?_
 have hp':(l=[]∨l=[tkL])∧below=11:=hp
 rcases hp' with⟨rfl|rfl,rfl⟩
 ·cbv
  refine LoopVC.frame [5,7,8,11,12,19] Unit (fun _=>[(11,.i .i64 fun _=>0),(5,.own 0 fun _=>0)]) (fun _=>[(0,qA2 3 fun _=>([]:List Int))]) [0] (fun _=>0) () rfl (fun _=>rfl) ?_ ?_ fun _=> ?_
  ·cbv
   repeat' first|(refine Stp.mk ?_;cbv)|(refine Gen.mk fun r hr=> ?_;(try simp only[Dat.ok,Dat.dec,Leaf.ok,Leaf.val,Z0,Z1,Z2,Z3,Z4,Z5,Z6,Z7,Z8,Z9,Z10,Z11,Z12,Z13,Z14,qA,qB]at hr);cbv)|exact trivial|rfl|refine Both.mk ?_ ?_|(refine Imp.mk fun h=> ?_;(try dsimp only at h);(try simp only[nc,Int.toNat_natCast,ne_eq,zz]at h);(try simp only[nc]at h))|refine Ob.mk ?_ ?_|refine Chk.mk (by kernel_rfl) ?_|refine Eq'.mk ?_|(refine AllN.mk fun i hi=> ?_;cbv)|(refine AllC.mk fun c hc hcm=> ?_;(try dsimp only at hc);cbv)|(refine AllS.mk fun r hr=> ?_;(try simp only[Dat.ok,Dat.dec,Leaf.ok,Leaf.val,Z0,Z1,Z2,Z3,Z4,Z5,Z6,Z7,Z8,Z9,Z10,Z11,Z12,Z13,Z14,qA]at hr);cbv)
   all_goals fail
  ·cbv
   repeat' first|(refine Stp.mk ?_;cbv)|(refine Gen.mk fun r hr=> ?_;(try simp only[Dat.ok,Dat.dec,Leaf.ok,Leaf.val,Z0,Z1,Z2,Z3,Z4,Z5,Z6,Z7,Z8,Z9,Z10,Z11,Z12,Z13,Z14,qA,qB]at hr);cbv)|exact trivial|rfl|refine Both.mk ?_ ?_|(refine Imp.mk fun h=> ?_;(try dsimp only at h);(try simp only[nc,Int.toNat_natCast,ne_eq,zz]at h);(try simp only[nc]at h))|refine Ob.mk ?_ ?_|refine Chk.mk (by kernel_rfl) ?_|refine Eq'.mk ?_|(refine AllN.mk fun i hi=> ?_;cbv)|(refine AllC.mk fun c hc hcm=> ?_;(try dsimp only at hc);cbv)|(refine AllS.mk fun r hr=> ?_;(try simp only[Dat.ok,Dat.dec,Leaf.ok,Leaf.val,Z0,Z1,Z2,Z3,Z4,Z5,Z6,Z7,Z8,Z9,Z10,Z11,Z12,Z13,Z14,qA]at hr);cbv)
   all_goals fail
  cbv
  repeat' first|(refine LoopVC.un 6 ?_;cbv)|(refine Imp.mk fun h=> ?_;first|exact absurd h (by decide+kernel)|exact absurd (beq_iff_eq.1 h).symm hn|exact absurd (beq_iff_eq.1 h) hn|(exfalso;simp only[nc,decide_eq_true_eq,decide_eq_false_iff_not,Bool.not_eq_true',Bool.not_eq_false']at h;omega)|skip)|(refine Gen.mk fun r hr=> ?_;subst hr;cbv)|(refine AllS.mk fun r hr=> ?_;first|obtain rfl:=List.perm_singleton.1 hr.1|obtain rfl:=List.perm_nil.1 hr.1|skip;cbv)|(refine Stp.mk ?_;cbv)|(refine Gen.mk fun r hr=> ?_;(try simp only[Dat.ok,Dat.dec,Leaf.ok,Leaf.val,Z0,Z1,Z2,Z3,Z4,Z5,Z6,Z7,Z8,Z9,Z10,Z11,Z12,Z13,Z14,qA,qB]at hr);cbv)|exact trivial|rfl|refine Both.mk ?_ ?_|(refine Imp.mk fun h=> ?_;(try dsimp only at h);(try simp only[nc,Int.toNat_natCast,ne_eq,zz]at h);(try simp only[nc]at h))|refine Ob.mk ?_ ?_|refine Chk.mk (by kernel_rfl) ?_|refine Eq'.mk ?_|(refine AllN.mk fun i hi=> ?_;cbv)|(refine AllC.mk fun c hc hcm=> ?_;(try dsimp only at hc);cbv)|(refine AllS.mk fun r hr=> ?_;(try simp only[Dat.ok,Dat.dec,Leaf.ok,Leaf.val,Z0,Z1,Z2,Z3,Z4,Z5,Z6,Z7,Z8,Z9,Z10,Z11,Z12,Z13,Z14,qA]at hr);cbv)
  all_goals try (have e:r=[]:=hr.trans (by first|rfl|(simp[qKC];done)|exact List.mergeSort_nil)
                 subst e)
  all_goals first
   |decide+kernel
   |exact⟨rfl,rfl,fun i hi=>absurd hi (Nat.not_lt_zero _),by decide⟩
   |exact absurd hi (Nat.not_lt_zero _)
   |fail
 ·cbv
  repeat' first|(refine LoopVC.un 6 ?_;cbv)|(refine Imp.mk fun h=> ?_;first|exact absurd h (by decide+kernel)|exact absurd (beq_iff_eq.1 h).symm hn|exact absurd (beq_iff_eq.1 h) hn|(exfalso;simp only[nc,decide_eq_true_eq,decide_eq_false_iff_not,Bool.not_eq_true',Bool.not_eq_false']at h;omega)|skip)|(refine Gen.mk fun r hr=> ?_;subst hr;cbv)|(refine AllS.mk fun r hr=> ?_;first|obtain rfl:=List.perm_singleton.1 hr.1|obtain rfl:=List.perm_nil.1 hr.1|skip;cbv)|(refine Stp.mk ?_;cbv)|(refine Gen.mk fun r hr=> ?_;(try simp only[Dat.ok,Dat.dec,Leaf.ok,Leaf.val,Z0,Z1,Z2,Z3,Z4,Z5,Z6,Z7,Z8,Z9,Z10,Z11,Z12,Z13,Z14,qA,qB]at hr);cbv)|exact trivial|rfl|refine Both.mk ?_ ?_|(refine Imp.mk fun h=> ?_;(try dsimp only at h);(try simp only[nc,Int.toNat_natCast,ne_eq,zz]at h);(try simp only[nc]at h))|refine Ob.mk ?_ ?_|refine Chk.mk (by kernel_rfl) ?_|refine Eq'.mk ?_|(refine AllN.mk fun i hi=> ?_;cbv)|(refine AllC.mk fun c hc hcm=> ?_;(try dsimp only at hc);cbv)|(refine AllS.mk fun r hr=> ?_;(try simp only[Dat.ok,Dat.dec,Leaf.ok,Leaf.val,Z0,Z1,Z2,Z3,Z4,Z5,Z6,Z7,Z8,Z9,Z10,Z11,Z12,Z13,Z14,qA]at hr);cbv)
  all_goals try (have e:r=[10]:=hr.trans (List.mergeSort_singleton (10:Int))
                 subst e)
  all_goals first
   |decide+kernel
   |(unfold InR;decide+kernel)
   |exact⟨rfl,rfl,fun i _=>trivial,by decide⟩
   |(have hi1:i<1:=hi
     obtain rfl:i=0:=by omega
     rfl)
   |fail
def qYa (r:Th ((List Int))):AV:=Leaf.av fun _=>(r ())
def qS5:Det:=fun A=>match A with
 |[l,.i .i64 below]=>some (fun _=>Leaf.ok (List Task) l∧qVh (Leaf.val l) (below ()),qYa fun _=>qS4 (Leaf.val l) (below ()))
 |_=>none
theorem qS6:∀A p r,qS5 A=some (p,r)→p ()→qJV Tryz.prog 100 A r:=fun A p r h hp0=>by
 unfold qS5 at h
 split at h
 ·rename_i l below
  cases h
  obtain⟨g0,hp⟩:=hp0
  exact qO.fresh (A:=[l,.i .i64 below]) (qO.pre (A':=[Leaf.av fun _=>(Leaf.val l:(List Task)),.i .i64 fun _=>below ()]) (qVi (Leaf.val l) (below ()) hp) (.mk (Leaf.hle _ g0) (.mk (.mk (.mk rfl) (.mk rfl)) (trivial)))) rfl (q:=_) (d:=_) rfl (by intro p hp;repeat (first|(cases hp;done)|(rcases List.mem_cons.1 hp with rfl|hp;· exact Nat.le_refl _))) rfl rfl ⟨.mk fun _ _=>rfl,trivial⟩
 ·cases h
def sL:Set:=⟨10,[⟨0,5⟩]⟩
noncomputable def cJ3:FuncId→Con:=fun f=>match f with
 |63=>qAg E qDx qAa [0,2] Tryz.f63
 |_=>fun _ _ _=>Bad 1001
theorem qOk:qY Tryz.prog cJ3:=fun f A H K h=>by
 unfold cJ3 at h
 split at h
 ·exact⟨⟨Tryz.f63,Tryz.func63,by kernel_rfl,by kernel_rfl⟩,qAi qI zl qP qD Tryz.func63 h⟩
 ·cases h
def qVj (r:Th (Int)):AV:= .i .i64 fun _=>(r ())
def qVk (s:Set) (t:Int):Int:=(if t=5 then 5 else 10:Int)
def qVl (s:Set) (t:Int):Prop:=s=sL∧(t=5∨t=15)
def qS7:Det:=fun A=>match A with
 |[.agg s,.i .i64 t]=>some (fun _=>Dat.ok Set s∧qVl (Dat.dec s) (t ()),qVj fun _=>qVk (Dat.dec s) (t ()))
 |_=>none
set_option maxRecDepth 100000 in
set_option maxHeartbeats 4000000 in
theorem qVm (s:Set) (t:Int) (hp:qVl s t):qO Tryz.prog 29 [.agg (Dat.enc fun _=>s),.i .i64 fun _=>t] [] (qAf (qVj fun _=>qVk s t) []):=by
 refine qAe qI zl qP qD (keep:=[0,1,2,4,5,7,8,10,12,13,14,15,37,38,39,40]) Tryz.func29 rfl ?_
 obtain⟨rfl,rfl|rfl⟩:s=sL∧(t=5∨t=15):=hp
 all_goals cbv
 repeat' first|(refine LoopVC.un 6 ?_;cbv)|(refine Imp.mk fun h=> ?_;first|exact absurd h (by decide+kernel)|exact absurd (beq_iff_eq.1 h).symm hn|exact absurd (beq_iff_eq.1 h) hn|(exfalso;simp only[nc,decide_eq_true_eq,decide_eq_false_iff_not,Bool.not_eq_true',Bool.not_eq_false']at h;omega)|skip)|(refine Gen.mk fun r hr=> ?_;subst hr;cbv)|(refine AllS.mk fun r hr=> ?_;first|obtain rfl:=List.perm_singleton.1 hr.1|obtain rfl:=List.perm_nil.1 hr.1|skip;cbv)|(refine Stp.mk ?_;cbv)|(refine Gen.mk fun r hr=> ?_;(try simp only[Dat.ok,Dat.dec,Leaf.ok,Leaf.val,Z0,Z1,Z2,Z3,Z4,Z5,Z6,Z7,Z8,Z9,Z10,Z11,Z12,Z13,Z14,qA,qB]at hr);cbv)|exact trivial|rfl|refine Both.mk ?_ ?_|(refine Imp.mk fun h=> ?_;(try dsimp only at h);(try simp only[nc,Int.toNat_natCast,ne_eq,zz]at h);(try simp only[nc]at h))|refine Ob.mk ?_ ?_|refine Chk.mk (by kernel_rfl) ?_|refine Eq'.mk ?_|(refine AllN.mk fun i hi=> ?_;cbv)|(refine AllC.mk fun c hc hcm=> ?_;(try dsimp only at hc);cbv)|(refine AllS.mk fun r hr=> ?_;(try simp only[Dat.ok,Dat.dec,Leaf.ok,Leaf.val,Z0,Z1,Z2,Z3,Z4,Z5,Z6,Z7,Z8,Z9,Z10,Z11,Z12,Z13,Z14,qA]at hr);cbv)
 all_goals first
  |decide+kernel
  |(unfold InR;decide+kernel)
  |exact⟨⟨trivial,rfl,fun i _=>Dat.hok _⟩,rfl,rfl⟩
  |exact⟨⟨trivial,rfl,fun i _=>Dat.hok _⟩,rfl,.inl rfl⟩
  |exact⟨⟨trivial,rfl,fun i _=>Dat.hok _⟩,rfl,.inr rfl⟩
  |fail
theorem qVn:qBf Tryz.prog 29 (qM qS7):=qS fun A p r h hp0=>by
 unfold qS7 at h
 split at h
 ·rename_i s t
  cases h
  obtain⟨g0,hp⟩:=hp0
  exact⟨rfl,qO.pre (A':=[.agg (Dat.enc fun _=>(Dat.dec s:Set)),.i .i64 fun _=>t ()]) (qVm (Dat.dec s) (t ()) hp) (.mk (Dat.hle _ g0) (.mk (.mk (.mk rfl) (.mk rfl)) (trivial)))⟩
 ·cases h
def dJ4:FuncId→Option Dt:=fun f=>match f with
 |29=>some (.c qS7)
 |_=>none
theorem qVo:qBk Tryz.prog dJ4:=fun f d h=>by
 unfold dJ4 at h
 split at h
 ·cases h;exact⟨⟨Tryz.f29,Tryz.func29,by kernel_rfl,by kernel_rfl⟩,qVn⟩
 ·cases h
noncomputable def cJ4:FuncId→Con:=fun f=>match f with
 |28=>qAg E cJ3 qAa [0,1,2,3,5,9,13,15,16,17,18,38] Tryz.f28
 |_=>fun _ _ _=>Bad 1001
theorem qVp:qY Tryz.prog cJ4:=fun f A H K h=>by
 unfold cJ4 at h
 split at h
 ·exact⟨⟨Tryz.f28,Tryz.func28,by kernel_rfl,by kernel_rfl⟩,qAi qI zl qOk qD Tryz.func28 h⟩
 ·cases h
noncomputable def cJ5:FuncId→Con:=fun f=>match f with
 |28=>qAg E cJ3 qAa [0,1,2,3,5,9,13,15,16,17,18,38] Tryz.f28
 |9=>qAg E cJ4 (qHK E dJ4) [0,1,2,3,6,7,8,12,24] Tryz.f9
 |_=>fun _ _ _=>Bad 1001
theorem qVq:qY Tryz.prog cJ5:=fun f A H K h=>by
 unfold cJ5 at h
 split at h
 ·exact⟨⟨Tryz.f28,Tryz.func28,by kernel_rfl,by kernel_rfl⟩,qAi qI zl qOk qD Tryz.func28 h⟩
 ·exact⟨⟨Tryz.f9,Tryz.func9,by kernel_rfl,by kernel_rfl⟩,qAi qI zl qVp (qAb qI zl qVo mixed) Tryz.func9 h⟩
 ·cases h
noncomputable def cJ6:FuncId→Con:=fun f=>match f with
 |130=>qAg E cJ5 qAa [0,1,2,3,6,7,8,9,11,12,13,18,25,27,28,29,30,35,55] Tryz.f130
 |_=>fun _ _ _=>Bad 1001
theorem qVr:qY Tryz.prog cJ6:=fun f A H K h=>by
 unfold cJ6 at h
 split at h
 ·exact⟨⟨Tryz.f130,Tryz.func130,by kernel_rfl,by kernel_rfl⟩,qAi qI zl qVq qD Tryz.func130 h⟩
 ·cases h
def qVs (r:Th (Int×Int)):AV:= .tup [.i .i64 fun _=>(r ()).1,.i .i64 fun _=>(r ()).2]
def qVt (s:Set) (n:Int):Int×Int:=((5:Int),(0:Int))
def qVu (s:Set) (n:Int):Prop:=s=sL∧n=10
def qS8:Det:=fun A=>match A with
 |[.agg s,.i .i64 n]=>some (fun _=>Dat.ok Set s∧qVu (Dat.dec s) (n ()),qVs fun _=>qVt (Dat.dec s) (n ()))
 |_=>none
set_option maxRecDepth 100000 in
set_option maxHeartbeats 4000000 in
theorem qVv (s:Set) (n:Int) (hp:qVu s n):qO Tryz.prog 101 [.agg (Dat.enc fun _=>s),.i .i64 fun _=>n] [] (qAf (qVs fun _=>qVt s n) []):=by
 refine qAe qI zl qVr qD (keep:=[0,1,2,4,5]) Tryz.func101 rfl ?_
 obtain⟨rfl,rfl⟩:s=sL∧n=10:=hp
 cbv
 repeat' first|(refine LoopVC.un 6 ?_;cbv)|(refine Imp.mk fun h=> ?_;first|exact absurd h (by decide+kernel)|exact absurd (beq_iff_eq.1 h).symm hn|exact absurd (beq_iff_eq.1 h) hn|(exfalso;simp only[nc,decide_eq_true_eq,decide_eq_false_iff_not,Bool.not_eq_true',Bool.not_eq_false']at h;omega)|skip)|(refine Gen.mk fun r hr=> ?_;subst hr;cbv)|(refine AllS.mk fun r hr=> ?_;first|obtain rfl:=List.perm_singleton.1 hr.1|obtain rfl:=List.perm_nil.1 hr.1|skip;cbv)|(refine Stp.mk ?_;cbv)|(refine Gen.mk fun r hr=> ?_;(try simp only[Dat.ok,Dat.dec,Leaf.ok,Leaf.val,Z0,Z1,Z2,Z3,Z4,Z5,Z6,Z7,Z8,Z9,Z10,Z11,Z12,Z13,Z14,qA,qB]at hr);cbv)|exact trivial|rfl|refine Both.mk ?_ ?_|(refine Imp.mk fun h=> ?_;(try dsimp only at h);(try simp only[nc,Int.toNat_natCast,ne_eq,zz]at h);(try simp only[nc]at h))|refine Ob.mk ?_ ?_|refine Chk.mk (by kernel_rfl) ?_|refine Eq'.mk ?_|(refine AllN.mk fun i hi=> ?_;cbv)|(refine AllC.mk fun c hc hcm=> ?_;(try dsimp only at hc);cbv)|(refine AllS.mk fun r hr=> ?_;(try simp only[Dat.ok,Dat.dec,Leaf.ok,Leaf.val,Z0,Z1,Z2,Z3,Z4,Z5,Z6,Z7,Z8,Z9,Z10,Z11,Z12,Z13,Z14,qA]at hr);cbv)
 all_goals first
  |decide+kernel
  |(unfold InR;decide+kernel)
  |exact⟨⟨trivial,rfl,fun i _=>Dat.hok _⟩,rfl,rfl⟩
  |exact⟨⟨trivial,rfl,fun i _=>Dat.hok _⟩,rfl,.inl rfl⟩
  |exact⟨⟨trivial,rfl,fun i _=>Dat.hok _⟩,rfl,.inr rfl⟩
  |fail
theorem qVw:qBf Tryz.prog 101 (qM qS8):=qS fun A p r h hp0=>by
 unfold qS8 at h
 split at h
 ·rename_i s n
  cases h
  obtain⟨g0,hp⟩:=hp0
  exact⟨rfl,qO.pre (A':=[.agg (Dat.enc fun _=>(Dat.dec s:Set)),.i .i64 fun _=>n ()]) (qVv (Dat.dec s) (n ()) hp) (.mk (Dat.hle _ g0) (.mk (.mk (.mk rfl) (.mk rfl)) (trivial)))⟩
 ·cases h
def dEm:FuncId→Option Dt:=fun f=>match f with
 |_=>none
theorem qRW:qBk Tryz.prog dEm:=fun f d h=>by
 unfold dEm at h
 split at h
 ·cases h
noncomputable def cJ7:FuncId→Con:=fun f=>match f with
 |98=>qH (qM qS3)
 |94=>qH (qM qOi)
 |28=>qAg E cJ3 qAa [0,1,2,3,5,9,13,15,16,17,18,38] Tryz.f28
 |99=>qH (qM qQp)
 |100=>qDE qS5
 |101=>qH (qM qS8)
 |102=>qAg E qDx (qHK E dEm) [0,1,4,5,7,8,9,10,11,17] Tryz.f102
 |_=>fun _ _ _=>Bad 1001
theorem qVx:qY Tryz.prog cJ7:=fun f A H K h=>by
 unfold cJ7 at h
 split at h
 ·exact⟨⟨Tryz.f98,Tryz.func98,by kernel_rfl,by kernel_rfl⟩,qE qVf h⟩
 ·exact⟨⟨Tryz.f94,Tryz.func94,by kernel_rfl,by kernel_rfl⟩,qE qOj h⟩
 ·exact⟨⟨Tryz.f28,Tryz.func28,by kernel_rfl,by kernel_rfl⟩,qAi qI zl qOk qD Tryz.func28 h⟩
 ·exact⟨⟨Tryz.f99,Tryz.func99,by kernel_rfl,by kernel_rfl⟩,qE qRV h⟩
 ·exact⟨⟨Tryz.f100,Tryz.func100,by kernel_rfl,by kernel_rfl⟩,qAY qS6 h⟩
 ·exact⟨⟨Tryz.f101,Tryz.func101,by kernel_rfl,by kernel_rfl⟩,qE qVw h⟩
 ·exact⟨⟨Tryz.f102,Tryz.func102,by kernel_rfl,by kernel_rfl⟩,qAi qI zl qP (qAb qI zl qRW mixed) Tryz.func102 h⟩
 ·cases h
def qVy (r:Th (Bool×Int×Int)):AV:= .tup [.b fun _=>(r ()).1,.i .i64 fun _=>(r ()).2.1,.i .i64 fun _=>(r ()).2.2]
def qVz (l:(List Task)) (s:Set):Bool×Int×Int:=(true,(0:Int),(0:Int))
def qVA (l:(List Task)) (s:Set):Prop:=l=[]∧s=⟨10,[]⟩∨l=[tkL]∧s=sL
def qQq:Det:=fun A=>match A with
 |[l,.agg s]=>some (fun _=>Leaf.ok (List Task) l∧Dat.ok Set s∧qVA (Leaf.val l) (Dat.dec s),qVy fun _=>qVz (Leaf.val l) (Dat.dec s))
 |_=>none
set_option maxRecDepth 100000 in
set_option maxHeartbeats 4000000 in
theorem qVB (l:(List Task)) (s:Set) (hp:qVA l s):qO Tryz.prog 61 [Leaf.av fun _=>l,.agg (Dat.enc fun _=>s)] [] (qAf (qVy fun _=>qVz l s) []):=by
 refine qAe qI zl qVx qD (keep:=[0,1,3,4,5,6,7,8,9,10,11,13,14,24,29,36,50,54,55,56,57,70]) Tryz.func61 rfl ?_
 have hp':l=[]∧s=⟨10,[]⟩∨l=[tkL]∧s=sL:=hp
 rcases hp' with⟨rfl,rfl⟩|⟨rfl,rfl⟩
 all_goals cbv
 repeat' first|(refine LoopVC.un 6 ?_;cbv)|(refine Imp.mk fun h=> ?_;first|exact absurd h (by decide+kernel)|exact absurd (beq_iff_eq.1 h).symm hn|exact absurd (beq_iff_eq.1 h) hn|(exfalso;simp only[nc,decide_eq_true_eq,decide_eq_false_iff_not,Bool.not_eq_true',Bool.not_eq_false']at h;omega)|skip)|(refine Gen.mk fun r hr=> ?_;subst hr;cbv)|(refine AllS.mk fun r hr=> ?_;first|obtain rfl:=List.perm_singleton.1 hr.1|obtain rfl:=List.perm_nil.1 hr.1|skip;cbv)|(refine Stp.mk ?_;cbv)|(refine Gen.mk fun r hr=> ?_;(try simp only[Dat.ok,Dat.dec,Leaf.ok,Leaf.val,Z0,Z1,Z2,Z3,Z4,Z5,Z6,Z7,Z8,Z9,Z10,Z11,Z12,Z13,Z14,qA,qB]at hr);cbv)|exact trivial|rfl|refine Both.mk ?_ ?_|(refine Imp.mk fun h=> ?_;(try dsimp only at h);(try simp only[nc,Int.toNat_natCast,ne_eq,zz]at h);(try simp only[nc]at h))|refine Ob.mk ?_ ?_|refine Chk.mk (by kernel_rfl) ?_|refine Eq'.mk ?_|(refine AllN.mk fun i hi=> ?_;cbv)|(refine AllC.mk fun c hc hcm=> ?_;(try dsimp only at hc);cbv)|(refine AllS.mk fun r hr=> ?_;(try simp only[Dat.ok,Dat.dec,Leaf.ok,Leaf.val,Z0,Z1,Z2,Z3,Z4,Z5,Z6,Z7,Z8,Z9,Z10,Z11,Z12,Z13,Z14,qA]at hr);cbv)
 all_goals first
  |decide+kernel
  |(unfold InR;decide+kernel)
  |exact⟨⟨trivial,rfl,fun i _=>Dat.hok _⟩,rfl,rfl⟩
  |exact⟨⟨trivial,rfl,fun i _=>Dat.hok _⟩,rfl,.inl rfl⟩
  |exact⟨⟨trivial,rfl,fun i _=>Dat.hok _⟩,rfl,.inr rfl⟩
  |exact⟨⟨rfl,fun i _=>Dat.hok _⟩,.inl rfl⟩
  |exact⟨⟨rfl,fun i _=>Dat.hok _⟩,.inr rfl⟩
  |exact⟨⟨rfl,fun i (hi:i<2)=>by rcases i with _|_|i;all_goals first|trivial|omega⟩,by first|exact .inr (.inr (.inl rfl))|exact .inr (.inr (.inr rfl))⟩
  |exact⟨⟨rfl,fun i _=>Dat.hok _⟩,.inl rfl,rfl⟩
  |exact⟨⟨rfl,fun i _=>Dat.hok _⟩,.inr rfl,rfl⟩
  |fail
theorem qRX:qBf Tryz.prog 61 (qM qQq):=qS fun A p r h hp0=>by
 unfold qQq at h
 split at h
 ·rename_i l s
  cases h
  obtain⟨g0,g1,hp⟩:=hp0
  exact⟨rfl,qO.pre (A':=[Leaf.av fun _=>(Leaf.val l:(List Task)),.agg (Dat.enc fun _=>(Dat.dec s:Set))]) (qVB (Leaf.val l) (Dat.dec s) hp) (.mk (Leaf.hle _ g0) (.mk (Dat.hle _ g1) (trivial)))⟩
 ·cases h
end Go.Proofs.YtiaiifcgbjlfoaaGreatDoor

namespace Go.Proofs.YtiaiifcgbjlfoaaGreatDoor
open Go Go.Abs
def tL:Table:=⟨10,[⟨0,5,2⟩]⟩
noncomputable def cT1:FuncId→Con:=fun f=>match f with
 |63=>qAg E qDx qAa [0,2] Tryz.f63
 |64=>qH qLG
 |65=>qEQ
 |_=>fun _ _ _=>Bad 1001
theorem qVC:qY Tryz.prog cT1:=fun f A H K h=>by
 unfold cT1 at h
 split at h
 ·exact⟨⟨Tryz.f63,Tryz.func63,by kernel_rfl,by kernel_rfl⟩,qAi qI zl qP qD Tryz.func63 h⟩
 ·exact⟨⟨Tryz.f64,Tryz.func64,by kernel_rfl,by kernel_rfl⟩,qE qOh h⟩
 ·exact⟨⟨Tryz.f65,Tryz.func65,by kernel_rfl,by kernel_rfl⟩,qGj h⟩
 ·cases h
noncomputable def cT2:FuncId→Con:=fun f=>match f with
 |26=>qAg E qDx qAa [0,2] Tryz.f26
 |62=>qAg E qDx qAa [0,2] Tryz.f62
 |_=>fun _ _ _=>Bad 1001
theorem qRY:qY Tryz.prog cT2:=fun f A H K h=>by
 unfold cT2 at h
 split at h
 ·exact⟨⟨Tryz.f26,Tryz.func26,by kernel_rfl,by kernel_rfl⟩,qAi qI zl qP qD Tryz.func26 h⟩
 ·exact⟨⟨Tryz.f62,Tryz.func62,by kernel_rfl,by kernel_rfl⟩,qAi qI zl qP qD Tryz.func62 h⟩
 ·cases h
noncomputable def cT3:FuncId→Con:=fun f=>match f with
 |25=>qAg E cT2 qAa [0,1,2,3,5,9,13,15,16,17,18,52] Tryz.f25
 |26=>qAg E qDx qAa [0,2] Tryz.f26
 |27=>qAg E cT1 (qHK E dEm) [0,1,4,5,6,8,9,12,16,24,25,26,27,45,57,63] Tryz.f27
 |_=>fun _ _ _=>Bad 1001
theorem qVD:qY Tryz.prog cT3:=fun f A H K h=>by
 unfold cT3 at h
 split at h
 ·exact⟨⟨Tryz.f25,Tryz.func25,by kernel_rfl,by kernel_rfl⟩,qAi qI zl qRY qD Tryz.func25 h⟩
 ·exact⟨⟨Tryz.f26,Tryz.func26,by kernel_rfl,by kernel_rfl⟩,qAi qI zl qP qD Tryz.func26 h⟩
 ·exact⟨⟨Tryz.f27,Tryz.func27,by kernel_rfl,by kernel_rfl⟩,qAi qI zl qVC (qAb qI zl qRW mixed) Tryz.func27 h⟩
 ·cases h
def qVE (r:Th (Set×Int)):AV:= .tup [.agg [.i .i64 fun _=>(r ()).1.size,.own 0 fun _=>(r ()).1.spans.length],.i .i64 fun _=>(r ()).2]
def qVF (r:Th (Set×Int)):Hp:=[qA2 108 fun _=>(r ()).1.spans]
def qMP (t:Table) (n:Int):Set×Int:=(⟨10,if n=2 then [⟨0,5⟩]else []⟩,0)
def qVG (t:Table) (n:Int):Prop:=t=tL∧0≤n∧n<16
def qS9:PC:=fun A K=>match A with
 |[.agg t,.i .i64 n]=>Ob (fun _=>Dat.ok Table t∧qVG (Dat.dec t) (n ())) (Gen (α:=Set×Int) (fun _=>qMP (Dat.dec t) (n ())) fun r=>K (qVE fun _=>r) (qVF fun _=>r))
 |_=>Bad 1002
set_option maxRecDepth 100000 in
set_option maxHeartbeats 4000000 in
theorem qVH (t:Table) (n:Int) (hp:qVG t n):qO Tryz.prog 8 [.agg (Dat.enc fun _=>t),.i .i64 fun _=>n] [] (qAf (qVE fun _=>qMP t n) (qVF fun _=>qMP t n)):=by
 refine qAe qI zl qVD qD (keep:=[0,1,2,4,5,6,7,9,13,18,21,22,23,24,30]) Tryz.func8 rfl ?_
 obtain⟨rfl,n0,n1⟩:t=tL∧0≤n∧n<16:=hp
 obtain rfl|hn:n=2∨¬n=2:=by omega
 ·cbv
  repeat' first|(refine LoopVC.un 6 ?_;cbv)|(refine Imp.mk fun h=> ?_;first|exact absurd h (by decide+kernel)|exact absurd (beq_iff_eq.1 h).symm hn|exact absurd (beq_iff_eq.1 h) hn|(exfalso;simp only[nc,decide_eq_true_eq,decide_eq_false_iff_not,Bool.not_eq_true',Bool.not_eq_false']at h;omega)|skip)|(refine Gen.mk fun r hr=> ?_;subst hr;cbv)|(refine AllS.mk fun r hr=> ?_;first|obtain rfl:=List.perm_singleton.1 hr.1|obtain rfl:=List.perm_nil.1 hr.1|skip;cbv)|(refine Stp.mk ?_;cbv)|(refine Gen.mk fun r hr=> ?_;(try simp only[Dat.ok,Dat.dec,Leaf.ok,Leaf.val,Z0,Z1,Z2,Z3,Z4,Z5,Z6,Z7,Z8,Z9,Z10,Z11,Z12,Z13,Z14,qA,qB]at hr);cbv)|exact trivial|rfl|refine Both.mk ?_ ?_|(refine Imp.mk fun h=> ?_;(try dsimp only at h);(try simp only[nc,Int.toNat_natCast,ne_eq,zz]at h);(try simp only[nc]at h))|refine Ob.mk ?_ ?_|refine Chk.mk (by kernel_rfl) ?_|refine Eq'.mk ?_|(refine AllN.mk fun i hi=> ?_;cbv)|(refine AllC.mk fun c hc hcm=> ?_;(try dsimp only at hc);cbv)|(refine AllS.mk fun r hr=> ?_;(try simp only[Dat.ok,Dat.dec,Leaf.ok,Leaf.val,Z0,Z1,Z2,Z3,Z4,Z5,Z6,Z7,Z8,Z9,Z10,Z11,Z12,Z13,Z14,qA]at hr);cbv)
  all_goals first
   |decide+kernel
   |(unfold InR;decide+kernel)
   |exact⟨⟨rfl,fun _ _=>⟨trivial,trivial⟩⟩,show _≤_ by decide+kernel⟩
   |exact⟨rfl,rfl,fun i _=>Dat.hok _,by decide+kernel⟩
   |(have hi1:i<1:=hi
     obtain rfl:i=0:=by omega
     decide+kernel)
   |fail
 ·cbv
  repeat' first|(refine LoopVC.un 6 ?_;cbv)|(refine Imp.mk fun h=> ?_;first|exact absurd h (by decide+kernel)|exact absurd (beq_iff_eq.1 h).symm hn|exact absurd (beq_iff_eq.1 h) hn|(exfalso;simp only[nc,decide_eq_true_eq,decide_eq_false_iff_not,Bool.not_eq_true',Bool.not_eq_false']at h;omega)|skip)|(refine Gen.mk fun r hr=> ?_;subst hr;cbv)|(refine AllS.mk fun r hr=> ?_;first|obtain rfl:=List.perm_singleton.1 hr.1|obtain rfl:=List.perm_nil.1 hr.1|skip;cbv)|(refine Stp.mk ?_;cbv)|(refine Gen.mk fun r hr=> ?_;(try simp only[Dat.ok,Dat.dec,Leaf.ok,Leaf.val,Z0,Z1,Z2,Z3,Z4,Z5,Z6,Z7,Z8,Z9,Z10,Z11,Z12,Z13,Z14,qA,qB]at hr);cbv)|exact trivial|rfl|refine Both.mk ?_ ?_|(refine Imp.mk fun h=> ?_;(try dsimp only at h);(try simp only[nc,Int.toNat_natCast,ne_eq,zz]at h);(try simp only[nc]at h))|refine Ob.mk ?_ ?_|refine Chk.mk (by kernel_rfl) ?_|refine Eq'.mk ?_|(refine AllN.mk fun i hi=> ?_;cbv)|(refine AllC.mk fun c hc hcm=> ?_;(try dsimp only at hc);cbv)|(refine AllS.mk fun r hr=> ?_;(try simp only[Dat.ok,Dat.dec,Leaf.ok,Leaf.val,Z0,Z1,Z2,Z3,Z4,Z5,Z6,Z7,Z8,Z9,Z10,Z11,Z12,Z13,Z14,qA]at hr);cbv)
  all_goals first
   |decide+kernel
   |(unfold InR;decide+kernel)
   |exact⟨trivial,show _≤_ by decide+kernel⟩
   |exact⟨rfl,rfl,fun i _=>Dat.hok _,by decide+kernel⟩
   |(unfold qMP;rw[if_neg hn];rfl)
   |(have hi1:i<0:=hi
     omega)
   |fail
theorem qVI:qBf Tryz.prog 8 (qS9):=fun A K h=>by
 unfold qS9 at h
 split at h
 ·rename_i t n
  cases h with
  |mk h1 h2=>
   obtain⟨g0,hp⟩:=h1
   refine qO.pre ?_ (A':=[.agg (Dat.enc fun _=>(Dat.dec t:Table)),.i .i64 fun _=>n ()]) (.mk (Dat.hle _ g0) (.mk (.mk (.mk rfl) (.mk rfl)) (trivial)))
   exact qO.out (K:=fun r H _=>K r H) (qVH (Dat.dec t) (n ()) hp) rfl h2.out
 ·cases h
noncomputable def cM1:FuncId→Con:=fun f=>match f with
 |26=>qAg E qDx qAa [0,2] Tryz.f26
 |_=>fun _ _ _=>Bad 1001
theorem qVJ:qY Tryz.prog cM1:=fun f A H K h=>by
 unfold cM1 at h
 split at h
 ·exact⟨⟨Tryz.f26,Tryz.func26,by kernel_rfl,by kernel_rfl⟩,qAi qI zl qP qD Tryz.func26 h⟩
 ·cases h
def dM0:FuncId→Option Dt:=fun f=>match f with
 |_=>none
theorem qVK:qBk Tryz.prog dM0:=fun f d h=>by
 unfold dM0 at h
 split at h
 ·cases h
noncomputable def cM2:FuncId→Con:=fun f=>match f with
 |62=>qAg E qDx qAa [0,2] Tryz.f62
 |95=>qAg E cM1 (qHK E dM0) [0,1,3,4] Tryz.f95
 |25=>qAg E cT2 qAa [0,1,2,3,5,9,13,15,16,17,18,52] Tryz.f25
 |96=>qJC
 |_=>fun _ _ _=>Bad 1001
theorem qVL:qY Tryz.prog cM2:=fun f A H K h=>by
 unfold cM2 at h
 split at h
 ·exact⟨⟨Tryz.f62,Tryz.func62,by kernel_rfl,by kernel_rfl⟩,qAi qI zl qP qD Tryz.func62 h⟩
 ·exact⟨⟨Tryz.f95,Tryz.func95,by kernel_rfl,by kernel_rfl⟩,qAi qI zl qVJ (qAb qI zl qVK mixed) Tryz.func95 h⟩
 ·exact⟨⟨Tryz.f25,Tryz.func25,by kernel_rfl,by kernel_rfl⟩,qAi qI zl qRY qD Tryz.func25 h⟩
 ·exact⟨⟨Tryz.f96,Tryz.func96,by kernel_rfl,by kernel_rfl⟩,qMO h⟩
 ·cases h
def qVM (r:Th (Table×Int)):AV:= .tup [.agg [.i .i64 fun _=>(r ()).1.frame,.own 0 fun _=>(r ()).1.windows.length],.i .i64 fun _=>(r ()).2]
def qVN (r:Th (Table×Int)):Hp:=[qA2 106 fun _=>(r ()).1.windows]
def qTa (n:Int) (l:(List Want)):Table×Int:=(tL,0)
def qVO (n:Int) (l:(List Want)):Prop:=n=10∧l=[⟨2,0,5,10⟩]
def qTb:PC:=fun A K=>match A with
 |[.i .i64 n,l]=>Ob (fun _=>Leaf.ok (List Want) l∧qVO (n ()) (Leaf.val l)) (Gen (α:=Table×Int) (fun _=>qTa (n ()) (Leaf.val l)) fun r=>K (qVM fun _=>r) (qVN fun _=>r))
 |_=>Bad 1002
set_option maxRecDepth 100000 in
set_option maxHeartbeats 4000000 in
theorem qVP (n:Int) (l:(List Want)) (hp:qVO n l):qO Tryz.prog 60 [.i .i64 fun _=>n,Leaf.av fun _=>l] [] (qAf (qVM fun _=>qTa n l) (qVN fun _=>qTa n l)):=by
 refine qAe qI zl qVL qD (keep:=[0,1,4,5,6,8,9,11,12,15,19,21,22,23,24,30,40,44,45,46,47,52,77]) Tryz.func60 rfl ?_
 obtain⟨rfl,rfl⟩:n=10∧l=[⟨2,0,5,10⟩]:=hp
 cbv
 repeat' first|(refine LoopVC.un 6 ?_;cbv)|(refine Imp.mk fun h=> ?_;first|exact absurd h (by decide+kernel)|exact absurd (beq_iff_eq.1 h).symm hn|exact absurd (beq_iff_eq.1 h) hn|(exfalso;simp only[nc,decide_eq_true_eq,decide_eq_false_iff_not,Bool.not_eq_true',Bool.not_eq_false']at h;omega)|skip)|(refine Gen.mk fun r hr=> ?_;subst hr;cbv)|(refine AllS.mk fun r hr=> ?_;first|obtain rfl:=List.perm_singleton.1 hr.1|obtain rfl:=List.perm_nil.1 hr.1|skip;cbv)|(refine Stp.mk ?_;cbv)|(refine Gen.mk fun r hr=> ?_;(try simp only[Dat.ok,Dat.dec,Leaf.ok,Leaf.val,Z0,Z1,Z2,Z3,Z4,Z5,Z6,Z7,Z8,Z9,Z10,Z11,Z12,Z13,Z14,qA,qB]at hr);cbv)|exact trivial|rfl|refine Both.mk ?_ ?_|(refine Imp.mk fun h=> ?_;(try dsimp only at h);(try simp only[nc,Int.toNat_natCast,ne_eq,zz]at h);(try simp only[nc]at h))|refine Ob.mk ?_ ?_|refine Chk.mk (by kernel_rfl) ?_|refine Eq'.mk ?_|(refine AllN.mk fun i hi=> ?_;cbv)|(refine AllC.mk fun c hc hcm=> ?_;(try dsimp only at hc);cbv)|(refine AllS.mk fun r hr=> ?_;(try simp only[Dat.ok,Dat.dec,Leaf.ok,Leaf.val,Z0,Z1,Z2,Z3,Z4,Z5,Z6,Z7,Z8,Z9,Z10,Z11,Z12,Z13,Z14,qA]at hr);cbv)
 all_goals first
  |decide+kernel
  |(unfold InR;decide+kernel)
  |exact⟨⟨rfl,fun _ _=>⟨trivial,trivial,trivial⟩⟩,show _≤_ by decide+kernel⟩
  |exact⟨rfl,rfl,fun i _=>Dat.hok _,by decide+kernel⟩
  |exact⟨rfl,rfl,fun i _=>⟨trivial,trivial,trivial⟩,by decide+kernel⟩
  |(have hi1:i<1:=hi
    obtain rfl:i=0:=by omega
    decide+kernel)
  |fail
theorem qVQ:qBf Tryz.prog 60 (qTb):=fun A K h=>by
 unfold qTb at h
 split at h
 ·rename_i n l
  cases h with
  |mk h1 h2=>
   obtain⟨g0,hp⟩:=h1
   refine qO.pre ?_ (A':=[.i .i64 fun _=>n (),Leaf.av fun _=>(Leaf.val l:(List Want))]) (.mk (.mk (.mk rfl) (.mk rfl)) (.mk (Leaf.hle _ g0) (trivial)))
   exact qO.out (K:=fun r H _=>K r H) (qVP (n ()) (Leaf.val l) hp) rfl h2.out
 ·cases h
end Go.Proofs.YtiaiifcgbjlfoaaGreatDoor

namespace Go.Proofs.YtiaiifcgbjlfoaaGreatDoor
open Go Go.Abs
def plL:Plan:=⟨10,[⟨2,0,5,10⟩],[⟨2,tkL⟩]⟩
noncomputable def cK0:FuncId→Con:=fun f=>match f with
 |124=>qAg E qDx qAa [0,2] Tryz.f124
 |_=>fun _ _ _=>Bad 1001
theorem qVR:qY Tryz.prog cK0:=fun f A H K h=>by
 unfold cK0 at h
 split at h
 ·exact⟨⟨Tryz.f124,Tryz.func124,by kernel_rfl,by kernel_rfl⟩,qAi qI zl qP qD Tryz.func124 h⟩
 ·cases h
noncomputable def cK1:FuncId→Con:=fun f=>match f with
 |70=>qAg E cK0 qAa [0,1,4,5,7,8,9,16] Tryz.f70
 |_=>fun _ _ _=>Bad 1001
theorem qVS:qY Tryz.prog cK1:=fun f A H K h=>by
 unfold cK1 at h
 split at h
 ·exact⟨⟨Tryz.f70,Tryz.func70,by kernel_rfl,by kernel_rfl⟩,qAi qI zl qVR qD Tryz.func70 h⟩
 ·cases h
noncomputable def cK2:FuncId→Con:=fun f=>match f with
 |32=>qAg E cK1 qAa [0,1,4] Tryz.f32
 |_=>fun _ _ _=>Bad 1001
theorem qVT:qY Tryz.prog cK2:=fun f A H K h=>by
 unfold cK2 at h
 split at h
 ·exact⟨⟨Tryz.f32,Tryz.func32,by kernel_rfl,by kernel_rfl⟩,qAi qI zl qVS qD Tryz.func32 h⟩
 ·cases h
noncomputable def cK3:FuncId→Con:=fun f=>match f with
 |92=>qAg E qDx qAa [0,2] Tryz.f92
 |93=>qAg E cK2 qAa [0,2] Tryz.f93
 |94=>qH (qM qOi)
 |_=>fun _ _ _=>Bad 1001
theorem qVU:qY Tryz.prog cK3:=fun f A H K h=>by
 unfold cK3 at h
 split at h
 ·exact⟨⟨Tryz.f92,Tryz.func92,by kernel_rfl,by kernel_rfl⟩,qAi qI zl qP qD Tryz.func92 h⟩
 ·exact⟨⟨Tryz.f93,Tryz.func93,by kernel_rfl,by kernel_rfl⟩,qAi qI zl qVT qD Tryz.func93 h⟩
 ·exact⟨⟨Tryz.f94,Tryz.func94,by kernel_rfl,by kernel_rfl⟩,qE qOj h⟩
 ·cases h
def qVV (r:Th (Int)):AV:= .i .i64 fun _=>(r ())
def qVW (p:Plan):Int:=(0:Int)
def qVX (p:Plan):Prop:=p=plL
def qTc:Det:=fun A=>match A with
 |[.agg p]=>some (fun _=>Dat.ok Plan p∧qVX (Dat.dec p),qVV fun _=>qVW (Dat.dec p))
 |_=>none
set_option maxRecDepth 100000 in
set_option maxHeartbeats 4000000 in
theorem qVY (p:Plan) (hp:qVX p):qO Tryz.prog 59 [.agg (Dat.enc fun _=>p)] [] (qAf (qVV fun _=>qVW p) []):=by
 refine qAe qI zl qVU qD (keep:=[0,1,2,4,6,14,24,26,27,28,29,46,49,50,51,52,65]) Tryz.func59 rfl ?_
 obtain rfl:p=plL:=hp
 cbv
 repeat' first|(refine LoopVC.un 6 ?_;cbv)|(refine Imp.mk fun h=> ?_;first|exact absurd h (by decide+kernel)|exact absurd (beq_iff_eq.1 h).symm hn|exact absurd (beq_iff_eq.1 h) hn|(exfalso;simp only[nc,decide_eq_true_eq,decide_eq_false_iff_not,Bool.not_eq_true',Bool.not_eq_false']at h;omega)|skip)|(refine Gen.mk fun r hr=> ?_;subst hr;cbv)|(refine AllS.mk fun r hr=> ?_;first|obtain rfl:=List.perm_singleton.1 hr.1|obtain rfl:=List.perm_nil.1 hr.1|skip;cbv)|(refine Stp.mk ?_;cbv)|(refine Gen.mk fun r hr=> ?_;(try simp only[Dat.ok,Dat.dec,Leaf.ok,Leaf.val,Z0,Z1,Z2,Z3,Z4,Z5,Z6,Z7,Z8,Z9,Z10,Z11,Z12,Z13,Z14,qA,qB]at hr);cbv)|exact trivial|rfl|refine Both.mk ?_ ?_|(refine Imp.mk fun h=> ?_;(try dsimp only at h);(try simp only[nc,Int.toNat_natCast,ne_eq,zz]at h);(try simp only[nc]at h))|refine Ob.mk ?_ ?_|refine Chk.mk (by kernel_rfl) ?_|refine Eq'.mk ?_|(refine AllN.mk fun i hi=> ?_;cbv)|(refine AllC.mk fun c hc hcm=> ?_;(try dsimp only at hc);cbv)|(refine AllS.mk fun r hr=> ?_;(try simp only[Dat.ok,Dat.dec,Leaf.ok,Leaf.val,Z0,Z1,Z2,Z3,Z4,Z5,Z6,Z7,Z8,Z9,Z10,Z11,Z12,Z13,Z14,qA]at hr);cbv)
 all_goals first
  |decide+kernel
  |(unfold InR;decide+kernel)
  |exact⟨⟨rfl,fun _ _=>⟨trivial,trivial,trivial⟩⟩,.inr rfl⟩
  |fail
theorem qVZ:qBf Tryz.prog 59 (qM qTc):=qS fun A p r h hp0=>by
 unfold qTc at h
 split at h
 ·rename_i p
  cases h
  obtain⟨g0,hp⟩:=hp0
  exact⟨rfl,qO.pre (A':=[.agg (Dat.enc fun _=>(Dat.dec p:Plan))]) (qVY (Dat.dec p) hp) (.mk (Dat.hle _ g0) (trivial))⟩
 ·cases h
noncomputable def cK4:FuncId→Con:=fun f=>match f with
 |59=>qH (qM qTc)
 |60=>qH qTb
 |8=>qH qS9
 |61=>qH (qM qQq)
 |_=>fun _ _ _=>Bad 1001
theorem qV0:qY Tryz.prog cK4:=fun f A H K h=>by
 unfold cK4 at h
 split at h
 ·exact⟨⟨Tryz.f59,Tryz.func59,by kernel_rfl,by kernel_rfl⟩,qE qVZ h⟩
 ·exact⟨⟨Tryz.f60,Tryz.func60,by kernel_rfl,by kernel_rfl⟩,qE qVQ h⟩
 ·exact⟨⟨Tryz.f8,Tryz.func8,by kernel_rfl,by kernel_rfl⟩,qE qVI h⟩
 ·exact⟨⟨Tryz.f61,Tryz.func61,by kernel_rfl,by kernel_rfl⟩,qE qRX h⟩
 ·cases h
def dK4:FuncId→Option Dt:=fun f=>match f with
 |61=>some (.c qQq)
 |_=>none
theorem qV1:qBk Tryz.prog dK4:=fun f d h=>by
 unfold dK4 at h
 split at h
 ·cases h;exact⟨⟨Tryz.f61,Tryz.func61,by kernel_rfl,by kernel_rfl⟩,qRX⟩
 ·cases h
structure JuX where
 k:Nat
 hk:k≤16
theorem qOl {n i:Nat}(h:i<n):(List.replicate n true).getD i Dat.d0=true:=by
 rw[List.getD_eq_getElem?_getD,List.getElem?_replicate,if_pos h];rfl
theorem qOm {k i:Nat}{b:Bool}(hb:b=true) (h:i<(List.replicate k true).length+1):(bif decide (i<(List.replicate k true).length)then(List.replicate k true).getD i Dat.d0 else b)=(List.replicate (k+1) true).getD i Dat.d0:=by
 rw[List.length_replicate]at h ⊢
 rw[qOl h,hb]
 by_cases q:i<k
 ·rw[decide_eq_true q,cond_true,qOl q]
 ·rw[decide_eq_false q];rfl
theorem qQr {k:Nat}:(List.replicate k true).length+1=(List.replicate (k+1) true).length:=by rw[List.length_replicate,List.length_replicate]
def qYb (r:Th (Table×(List Bool)×Int)):AV:= .tup [.agg [.i .i64 fun _=>(r ()).1.frame,.own 0 fun _=>(r ()).1.windows.length],.own 1 fun _=>(r ()).2.1.length,.i .i64 fun _=>(r ()).2.2]
def qYc (r:Th (Table×(List Bool)×Int)):Hp:=[qA2 106 fun _=>(r ()).1.windows,qA2 4 fun _=>(r ()).2.1]
def qTd (p:Plan):Table×(List Bool)×Int:=(tL,List.replicate 16 true,0)
def qV2 (p:Plan):Prop:=p=plL
set_option maxRecDepth 100000 in
set_option maxHeartbeats 4000000 in
theorem qV3 (p:Plan) (hp:qV2 p):qO Tryz.prog 23 [.agg (Dat.enc fun _=>p)] [] (qAf (qYb fun _=>qTd p) (qYc fun _=>qTd p)):=by
 refine qAe qI zl qV0 (qAb qI zl qV1 mixed) (keep:=[0,1,2,3,4,5,6,7,8,9,10,12,13,15,17,21,33,36,37,40,41,42,43,49]) Tryz.func23 rfl ?_
 obtain rfl:p=plL:=hp
 cbv
 iterate 40 (all_goals try first|(refine Imp.mk fun h=> ?_;first|exact absurd h (by decide+kernel)|skip)|(refine Gen.mk fun r hr=> ?_;subst hr;cbv)|(refine Stp.mk ?_;cbv)|exact trivial|rfl|refine Both.mk ?_ ?_|refine Ob.mk ?_ ?_|refine Chk.mk (by kernel_rfl) ?_|refine Eq'.mk ?_|(refine AllN.mk fun i hi=> ?_;cbv)|(refine AllC.mk fun c hc hcm=> ?_;cbv))
 all_goals try first
  |exact⟨⟨trivial,⟨rfl,fun i _=>Dat.hok _⟩,rfl,fun i _=>Dat.hok _⟩,rfl⟩
  |exact⟨⟨rfl,fun i _=>Dat.hok _⟩,rfl,rfl⟩
 refine LoopVC.frame [8,9,10,12,13,15,17,36,37,40,41,42,43,49] JuX (fun x=>[(36,.i .i64 fun _=>x.k),(8,.own 4 fun _=>(List.replicate x.k true).length)]) (fun x=>[(4,qA2 4 fun _=>List.replicate x.k true)]) [4,5] (fun x=>16-x.k) ⟨0,Nat.zero_le _⟩ rfl (fun _=>rfl) ?_ ?_ fun⟨k,hk⟩=> ?_
 ·cbv
  repeat' first|(refine Stp.mk ?_;cbv)|(refine Gen.mk fun r hr=> ?_;(try simp only[Dat.ok,Dat.dec,Leaf.ok,Leaf.val,Z0,Z1,Z2,Z3,Z4,Z5,Z6,Z7,Z8,Z9,Z10,Z11,Z12,Z13,Z14,qA,qB]at hr);cbv)|exact trivial|rfl|refine Both.mk ?_ ?_|(refine Imp.mk fun h=> ?_;(try dsimp only at h);(try simp only[nc,Int.toNat_natCast,ne_eq,zz]at h);(try simp only[nc]at h))|refine Ob.mk ?_ ?_|refine Chk.mk (by kernel_rfl) ?_|refine Eq'.mk ?_|(refine AllN.mk fun i hi=> ?_;cbv)|(refine AllC.mk fun c hc hcm=> ?_;(try dsimp only at hc);cbv)|(refine AllS.mk fun r hr=> ?_;(try simp only[Dat.ok,Dat.dec,Leaf.ok,Leaf.val,Z0,Z1,Z2,Z3,Z4,Z5,Z6,Z7,Z8,Z9,Z10,Z11,Z12,Z13,Z14,qA]at hr);cbv)
  all_goals fail
 ·cbv
  repeat' first|(refine Stp.mk ?_;cbv)|(refine Gen.mk fun r hr=> ?_;(try simp only[Dat.ok,Dat.dec,Leaf.ok,Leaf.val,Z0,Z1,Z2,Z3,Z4,Z5,Z6,Z7,Z8,Z9,Z10,Z11,Z12,Z13,Z14,qA,qB]at hr);cbv)|exact trivial|rfl|refine Both.mk ?_ ?_|(refine Imp.mk fun h=> ?_;(try dsimp only at h);(try simp only[nc,Int.toNat_natCast,ne_eq,zz]at h);(try simp only[nc]at h))|refine Ob.mk ?_ ?_|refine Chk.mk (by kernel_rfl) ?_|refine Eq'.mk ?_|(refine AllN.mk fun i hi=> ?_;cbv)|(refine AllC.mk fun c hc hcm=> ?_;(try dsimp only at hc);cbv)|(refine AllS.mk fun r hr=> ?_;(try simp only[Dat.ok,Dat.dec,Leaf.ok,Leaf.val,Z0,Z1,Z2,Z3,Z4,Z5,Z6,Z7,Z8,Z9,Z10,Z11,Z12,Z13,Z14,qA]at hr);cbv)
  all_goals fail
 have hk9:k≤16:=hk
 have kl:(List.replicate k true).length=k:=List.length_replicate ..
 dsimp only
 obtain rfl|rfl|⟨hn,k16⟩:k=2∨k=16∨(¬(2:Int)=(k:Int)∧k<16):=by omega
 ·cbv
  repeat' first|(refine LoopVC.un 6 ?_;cbv)|(refine Imp.mk fun h=> ?_;first|exact absurd h (by decide+kernel)|exact absurd (beq_iff_eq.1 h).symm hn|exact absurd (beq_iff_eq.1 h) hn|(exfalso;simp only[nc,decide_eq_true_eq,decide_eq_false_iff_not,Bool.not_eq_true',Bool.not_eq_false']at h;omega)|skip)|(refine Gen.mk fun r hr=> ?_;subst hr;cbv)|(refine AllS.mk fun r hr=> ?_;first|obtain rfl:=List.perm_singleton.1 hr.1|obtain rfl:=List.perm_nil.1 hr.1|skip;cbv)|(refine Stp.mk ?_;cbv)|(refine Gen.mk fun r hr=> ?_;(try simp only[Dat.ok,Dat.dec,Leaf.ok,Leaf.val,Z0,Z1,Z2,Z3,Z4,Z5,Z6,Z7,Z8,Z9,Z10,Z11,Z12,Z13,Z14,qA,qB]at hr);cbv)|exact trivial|rfl|refine Both.mk ?_ ?_|(refine Imp.mk fun h=> ?_;(try dsimp only at h);(try simp only[nc,Int.toNat_natCast,ne_eq,zz]at h);(try simp only[nc]at h))|refine Ob.mk ?_ ?_|refine Chk.mk (by kernel_rfl) ?_|refine Eq'.mk ?_|(refine AllN.mk fun i hi=> ?_;cbv)|(refine AllC.mk fun c hc hcm=> ?_;(try dsimp only at hc);cbv)|(refine AllS.mk fun r hr=> ?_;(try simp only[Dat.ok,Dat.dec,Leaf.ok,Leaf.val,Z0,Z1,Z2,Z3,Z4,Z5,Z6,Z7,Z8,Z9,Z10,Z11,Z12,Z13,Z14,qA]at hr);cbv)
  all_goals first
   |decide+kernel
   |(unfold InR;decide+kernel)
   |exact⟨⟨trivial,rfl,fun i _=>Dat.hok _⟩,rfl,by decide,by decide⟩
   |exact⟨⟨rfl,fun _ _=>⟨trivial,trivial,trivial⟩⟩,⟨trivial,rfl,fun i _=>Dat.hok _⟩,.inr ⟨rfl,rfl⟩⟩
   |(refine⟨⟨2+1,by omega⟩, ?_, ?_,rfl,by(try dsimp only);omega⟩
     ·cbv
      repeat' first|(refine Stp.mk ?_;cbv)|(refine Gen.mk fun r hr=> ?_;(try simp only[Dat.ok,Dat.dec,Leaf.ok,Leaf.val,Z0,Z1,Z2,Z3,Z4,Z5,Z6,Z7,Z8,Z9,Z10,Z11,Z12,Z13,Z14,qA,qB]at hr);cbv)|exact trivial|rfl|refine Both.mk ?_ ?_|(refine Imp.mk fun h=> ?_;(try dsimp only at h);(try simp only[nc,Int.toNat_natCast,ne_eq,zz]at h);(try simp only[nc]at h))|refine Ob.mk ?_ ?_|refine Chk.mk (by kernel_rfl) ?_|refine Eq'.mk ?_|(refine AllN.mk fun i hi=> ?_;cbv)|(refine AllC.mk fun c hc hcm=> ?_;(try dsimp only at hc);cbv)|(refine AllS.mk fun r hr=> ?_;(try simp only[Dat.ok,Dat.dec,Leaf.ok,Leaf.val,Z0,Z1,Z2,Z3,Z4,Z5,Z6,Z7,Z8,Z9,Z10,Z11,Z12,Z13,Z14,qA]at hr);cbv)
      all_goals first
       |exact qQr
       |fail
     ·cbv
      repeat' first|(refine Stp.mk ?_;cbv)|(refine Gen.mk fun r hr=> ?_;(try simp only[Dat.ok,Dat.dec,Leaf.ok,Leaf.val,Z0,Z1,Z2,Z3,Z4,Z5,Z6,Z7,Z8,Z9,Z10,Z11,Z12,Z13,Z14,qA,qB]at hr);cbv)|exact trivial|rfl|refine Both.mk ?_ ?_|(refine Imp.mk fun h=> ?_;(try dsimp only at h);(try simp only[nc,Int.toNat_natCast,ne_eq,zz]at h);(try simp only[nc]at h))|refine Ob.mk ?_ ?_|refine Chk.mk (by kernel_rfl) ?_|refine Eq'.mk ?_|(refine AllN.mk fun i hi=> ?_;cbv)|(refine AllC.mk fun c hc hcm=> ?_;(try dsimp only at hc);cbv)|(refine AllS.mk fun r hr=> ?_;(try simp only[Dat.ok,Dat.dec,Leaf.ok,Leaf.val,Z0,Z1,Z2,Z3,Z4,Z5,Z6,Z7,Z8,Z9,Z10,Z11,Z12,Z13,Z14,qA]at hr);cbv)
      all_goals first
       |exact qQr
       |exact qOm (by first|rfl|decide+kernel) hi
       |fail)
   |fail
 ·cbv
  repeat' first|(refine LoopVC.un 6 ?_;cbv)|(refine Imp.mk fun h=> ?_;first|exact absurd h (by decide+kernel)|exact absurd (beq_iff_eq.1 h).symm hn|exact absurd (beq_iff_eq.1 h) hn|(exfalso;simp only[nc,decide_eq_true_eq,decide_eq_false_iff_not,Bool.not_eq_true',Bool.not_eq_false']at h;omega)|skip)|(refine Gen.mk fun r hr=> ?_;subst hr;cbv)|(refine AllS.mk fun r hr=> ?_;first|obtain rfl:=List.perm_singleton.1 hr.1|obtain rfl:=List.perm_nil.1 hr.1|skip;cbv)|(refine Stp.mk ?_;cbv)|(refine Gen.mk fun r hr=> ?_;(try simp only[Dat.ok,Dat.dec,Leaf.ok,Leaf.val,Z0,Z1,Z2,Z3,Z4,Z5,Z6,Z7,Z8,Z9,Z10,Z11,Z12,Z13,Z14,qA,qB]at hr);cbv)|exact trivial|rfl|refine Both.mk ?_ ?_|(refine Imp.mk fun h=> ?_;(try dsimp only at h);(try simp only[nc,Int.toNat_natCast,ne_eq,zz]at h);(try simp only[nc]at h))|refine Ob.mk ?_ ?_|refine Chk.mk (by kernel_rfl) ?_|refine Eq'.mk ?_|(refine AllN.mk fun i hi=> ?_;cbv)|(refine AllC.mk fun c hc hcm=> ?_;(try dsimp only at hc);cbv)|(refine AllS.mk fun r hr=> ?_;(try simp only[Dat.ok,Dat.dec,Leaf.ok,Leaf.val,Z0,Z1,Z2,Z3,Z4,Z5,Z6,Z7,Z8,Z9,Z10,Z11,Z12,Z13,Z14,qA]at hr);cbv)
  all_goals first
   |decide+kernel
   |(unfold InR;decide+kernel)
   |(exact congrArg (fun l:List Bool=>l.getD i Dat.d0) rfl)
   |fail
 ·have et:∀t:Table,(qMP t (k:Int)).1=⟨10,[]⟩:=fun t=>by
   unfold qMP
   rw[if_neg (fun q=>hn q.symm)]
  cbv
  repeat' first|(refine LoopVC.un 6 ?_;cbv)|(refine Imp.mk fun h=> ?_;first|exact absurd h (by decide+kernel)|exact absurd (beq_iff_eq.1 h).symm hn|exact absurd (beq_iff_eq.1 h) hn|(exfalso;simp only[nc,decide_eq_true_eq,decide_eq_false_iff_not,Bool.not_eq_true',Bool.not_eq_false']at h;omega)|skip)|(refine Gen.mk fun r hr=> ?_;subst hr;cbv)|(refine AllS.mk fun r hr=> ?_;first|obtain rfl:=List.perm_singleton.1 hr.1|obtain rfl:=List.perm_nil.1 hr.1|skip;cbv)|(refine Stp.mk ?_;cbv)|(refine Gen.mk fun r hr=> ?_;(try simp only[Dat.ok,Dat.dec,Leaf.ok,Leaf.val,Z0,Z1,Z2,Z3,Z4,Z5,Z6,Z7,Z8,Z9,Z10,Z11,Z12,Z13,Z14,qA,qB]at hr);cbv)|exact trivial|rfl|refine Both.mk ?_ ?_|(refine Imp.mk fun h=> ?_;(try dsimp only at h);(try simp only[nc,Int.toNat_natCast,ne_eq,zz]at h);(try simp only[nc]at h))|refine Ob.mk ?_ ?_|refine Chk.mk (by kernel_rfl) ?_|refine Eq'.mk ?_|(refine AllN.mk fun i hi=> ?_;cbv)|(refine AllC.mk fun c hc hcm=> ?_;(try dsimp only at hc);cbv)|(refine AllS.mk fun r hr=> ?_;(try simp only[Dat.ok,Dat.dec,Leaf.ok,Leaf.val,Z0,Z1,Z2,Z3,Z4,Z5,Z6,Z7,Z8,Z9,Z10,Z11,Z12,Z13,Z14,qA]at hr);cbv)
  all_goals first
   |decide+kernel
   |(unfold InR;rw[nc];omega)
   |(unfold InR;decide+kernel)
   |exact Nat.le_refl _
   |exact⟨⟨trivial,rfl,fun i _=>Dat.hok _⟩,rfl,by(first|omega|(rw[nc];omega)),by(first|omega|(rw[nc];omega))⟩
   |(refine⟨trivial,⟨trivial,rfl,fun i _=>Dat.hok _⟩,.inl ⟨rfl, ?_⟩⟩
     simp only[Dat.dec,Leaf.val,Z0,Z1,Z2,Z3,Z4,Z5,Z6,Z7,Z8,Z9,Z10,Z11,Z12,Z13,Z14,qA]
     exact et _)
   |exact⟨Nat.le_refl _,Nat.le_refl _,by dsimp only;omega,by dsimp only;omega,Nat.le_refl _⟩
   |(refine⟨⟨k+1,by omega⟩, ?_, ?_,rfl,by(try dsimp only);omega⟩
     ·cbv
      repeat' first|(refine Stp.mk ?_;cbv)|(refine Gen.mk fun r hr=> ?_;(try simp only[Dat.ok,Dat.dec,Leaf.ok,Leaf.val,Z0,Z1,Z2,Z3,Z4,Z5,Z6,Z7,Z8,Z9,Z10,Z11,Z12,Z13,Z14,qA,qB]at hr);cbv)|exact trivial|rfl|refine Both.mk ?_ ?_|(refine Imp.mk fun h=> ?_;(try dsimp only at h);(try simp only[nc,Int.toNat_natCast,ne_eq,zz]at h);(try simp only[nc]at h))|refine Ob.mk ?_ ?_|refine Chk.mk (by kernel_rfl) ?_|refine Eq'.mk ?_|(refine AllN.mk fun i hi=> ?_;cbv)|(refine AllC.mk fun c hc hcm=> ?_;(try dsimp only at hc);cbv)|(refine AllS.mk fun r hr=> ?_;(try simp only[Dat.ok,Dat.dec,Leaf.ok,Leaf.val,Z0,Z1,Z2,Z3,Z4,Z5,Z6,Z7,Z8,Z9,Z10,Z11,Z12,Z13,Z14,qA]at hr);cbv)
      all_goals first
       |exact qQr
       |fail
     ·cbv
      repeat' first|(refine Stp.mk ?_;cbv)|(refine Gen.mk fun r hr=> ?_;(try simp only[Dat.ok,Dat.dec,Leaf.ok,Leaf.val,Z0,Z1,Z2,Z3,Z4,Z5,Z6,Z7,Z8,Z9,Z10,Z11,Z12,Z13,Z14,qA,qB]at hr);cbv)|exact trivial|rfl|refine Both.mk ?_ ?_|(refine Imp.mk fun h=> ?_;(try dsimp only at h);(try simp only[nc,Int.toNat_natCast,ne_eq,zz]at h);(try simp only[nc]at h))|refine Ob.mk ?_ ?_|refine Chk.mk (by kernel_rfl) ?_|refine Eq'.mk ?_|(refine AllN.mk fun i hi=> ?_;cbv)|(refine AllC.mk fun c hc hcm=> ?_;(try dsimp only at hc);cbv)|(refine AllS.mk fun r hr=> ?_;(try simp only[Dat.ok,Dat.dec,Leaf.ok,Leaf.val,Z0,Z1,Z2,Z3,Z4,Z5,Z6,Z7,Z8,Z9,Z10,Z11,Z12,Z13,Z14,qA]at hr);cbv)
      all_goals first
       |exact qQr
       |exact qOm (by first|rfl|decide+kernel) hi
       |fail)
   |fail
end Go.Proofs.YtiaiifcgbjlfoaaGreatDoor
