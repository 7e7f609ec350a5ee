/- conf.Judge of one plan, walked. -/
import Derived.Test.YtiaiifcgbjlfoaaGreatDoorSortI
import Derived.Test.YtiaiifcgbjlfoaaGreatDoorSortW
set_option linter.all false
namespace Go.Proofs.YtiaiifcgbjlfoaaGreatDoor
open Go Go.Abs
def gcL_R (r:Th (Int)):AV:= .i .i64 fun _=>(r ())
def gcL_S (a:Int) (b:Int):Int:=a
def gcL_P (a:Int) (b:Int):Prop:=(a=1∨a=10)∧b=10∨a=1∧b=1
def gcL_D:Det:=fun A=>match A with
 |[.i .i64 a,.i .i64 b]=>some (fun _=>gcL_P (a ()) (b ()),gcL_R fun _=>gcL_S (a ()) (b ()))
 |_=>none
set_option maxRecDepth 100000 in
set_option maxHeartbeats 4000000 in
theorem gcL_vc (a:Int) (b:Int) (hp:gcL_P a b):FnOk Tryz.prog 127 [.i .i64 fun _=>a,.i .i64 fun _=>b] [] (outA (gcL_R fun _=>gcL_S a b) []):=by
 refine fn_ok envOk zl noCon_ok (draws_ok envOk zl noDet_ok mixed) (keep:=[0,1,4,6]) Tryz.func127 rfl ?_
 have hp':(a=1∨a=10)∧b=10∨a=1∧b=1:=hp
 rcases hp' with⟨rfl|rfl,rfl⟩|⟨rfl,rfl⟩
 all_goals cbv
 repeat' first|(refine LoopVC.un 6 ?_;cbv)|(refine Imp.mk fun h=> ?_;first|exact absurd h (by decide+kernel)|exact absurd (beq_iff_eq.1 h).symm hn|exact absurd (beq_iff_eq.1 h) hn|(exfalso;simp only[nc,decide_eq_true_eq,decide_eq_false_iff_not,Bool.not_eq_true',Bool.not_eq_false']at h;omega)|skip)|(refine Gen.mk fun r hr=> ?_;subst hr;cbv)|(refine AllS.mk fun r hr=> ?_;first|obtain rfl:=List.perm_singleton.1 hr.1|obtain rfl:=List.perm_nil.1 hr.1|skip;cbv)|(refine Stp.mk ?_;cbv)|(refine Gen.mk fun r hr=> ?_;(try simp only[Dat.ok,Dat.dec,Leaf.ok,Leaf.val,Z0,Z1,Z2,Z3,Z4,Z5,Z6,Z7,Z8,Z9,Z10,Z11,Z12,Z13,Z14,Z15,Z16,Z17,Z18,Z19,Z20,Z21,Z22,val_sl,val_nil]at hr);cbv)|exact trivial|rfl|refine Both.mk ?_ ?_|(refine Imp.mk fun h=> ?_;(try dsimp only at h);(try simp only[nc,Int.toNat_natCast,ne_eq,zz]at h);(try simp only[nc]at h))|refine Ob.mk ?_ ?_|refine Chk.mk (by kernel_rfl) ?_|refine Eq'.mk ?_|(refine AllN.mk fun i hi=> ?_;cbv)|(refine AllC.mk fun c hc hcm=> ?_;(try dsimp only at hc);cbv)|(refine AllS.mk fun r hr=> ?_;(try simp only[Dat.ok,Dat.dec,Leaf.ok,Leaf.val,Z0,Z1,Z2,Z3,Z4,Z5,Z6,Z7,Z8,Z9,Z10,Z11,Z12,Z13,Z14,Z15,Z16,Z17,Z18,Z19,Z20,Z21,Z22,val_sl]at hr);cbv)
 all_goals decide+kernel
theorem gcL_ok:PcOk Tryz.prog 127 (detPC gcL_D):=det_okA fun A p r h hp0=>by
 unfold gcL_D at h
 split at h
 ·rename_i a b
  cases h
  have hp:=hp0
  exact⟨rfl,FnOk.pre (A':=[.i .i64 fun _=>a (),.i .i64 fun _=>b ()]) (gcL_vc (a ()) (b ()) hp) (.mk (.mk (.mk rfl) (.mk rfl)) (.mk (.mk (.mk rfl) (.mk rfl)) (trivial)))⟩
 ·cases h
noncomputable def cJ0:FuncId→Con:=fun f=>match f with
 |127=>pureCon (detPC gcL_D)
 |126=>inlCon E noCon noDraws [0,1,2,6] Tryz.f126
 |_=>fun _ _ _=>Bad 1001
theorem cJ0_ok:ConOk Tryz.prog cJ0:=fun f A H K h=>by
 unfold cJ0 at h
 split at h
 ·exact⟨⟨Tryz.f127,Tryz.func127,by kernel_rfl,by kernel_rfl⟩,pureCon_ok gcL_ok h⟩
 ·exact⟨⟨Tryz.f126,Tryz.func126,by kernel_rfl,by kernel_rfl⟩,inl_ok envOk zl noCon_ok noDraws_ok Tryz.func126 h⟩
 ·cases h
def dJ0:FuncId→Option Dt:=fun f=>match f with
 |127=>some (.c gcL_D)
 |_=>none
theorem dJ0_ok:DetOk Tryz.prog dJ0:=fun f d h=>by
 unfold dJ0 at h
 split at h
 ·cases h;exact⟨⟨Tryz.f127,Tryz.func127,by kernel_rfl,by kernel_rfl⟩,gcL_ok⟩
 ·cases h
def lcL_R (r:Th (Int×Int)):AV:= .tup [.i .i64 fun _=>(r ()).1,.i .i64 fun _=>(r ()).2]
def lcL_S (l:(List Int)):Int×Int:=(if l.length=0 then(1:Int)else 10,(0:Int))
def lcL_P (l:(List Int)):Prop:=l=[]∨l=[10]∨l=[1,10]∨l=[10,10]
def lcL_D:Det:=fun A=>match A with
 |[l]=>some (fun _=>Leaf.ok (List Int) l∧lcL_P (Leaf.val l),lcL_R fun _=>lcL_S (Leaf.val l))
 |_=>none
set_option maxRecDepth 100000 in
set_option maxHeartbeats 4000000 in
theorem lcL_vc (l:(List Int)) (hp:lcL_P l):FnOk Tryz.prog 99 [Leaf.av fun _=>l] [] (outA (lcL_R fun _=>lcL_S l) []):=by
 refine fn_ok envOk zl cJ0_ok (draws_ok envOk zl dJ0_ok mixed) (keep:=[0,2,3,5,6,8,11,12,13,14,15,20,22,23,24,25,36]) Tryz.func99 rfl ?_
 have hp':l=[]∨l=[10]∨l=[1,10]∨l=[10,10]:=hp
 rcases hp' with rfl|rfl|rfl|rfl
 all_goals cbv
 repeat' first|(refine LoopVC.un 6 ?_;cbv)|(refine Imp.mk fun h=> ?_;first|exact absurd h (by decide+kernel)|exact absurd (beq_iff_eq.1 h).symm hn|exact absurd (beq_iff_eq.1 h) hn|(exfalso;simp only[nc,decide_eq_true_eq,decide_eq_false_iff_not,Bool.not_eq_true',Bool.not_eq_false']at h;omega)|skip)|(refine Gen.mk fun r hr=> ?_;subst hr;cbv)|(refine AllS.mk fun r hr=> ?_;first|obtain rfl:=List.perm_singleton.1 hr.1|obtain rfl:=List.perm_nil.1 hr.1|skip;cbv)|(refine Stp.mk ?_;cbv)|(refine Gen.mk fun r hr=> ?_;(try simp only[Dat.ok,Dat.dec,Leaf.ok,Leaf.val,Z0,Z1,Z2,Z3,Z4,Z5,Z6,Z7,Z8,Z9,Z10,Z11,Z12,Z13,Z14,Z15,Z16,Z17,Z18,Z19,Z20,Z21,Z22,val_sl,val_nil]at hr);cbv)|exact trivial|rfl|refine Both.mk ?_ ?_|(refine Imp.mk fun h=> ?_;(try dsimp only at h);(try simp only[nc,Int.toNat_natCast,ne_eq,zz]at h);(try simp only[nc]at h))|refine Ob.mk ?_ ?_|refine Chk.mk (by kernel_rfl) ?_|refine Eq'.mk ?_|(refine AllN.mk fun i hi=> ?_;cbv)|(refine AllC.mk fun c hc hcm=> ?_;(try dsimp only at hc);cbv)|(refine AllS.mk fun r hr=> ?_;(try simp only[Dat.ok,Dat.dec,Leaf.ok,Leaf.val,Z0,Z1,Z2,Z3,Z4,Z5,Z6,Z7,Z8,Z9,Z10,Z11,Z12,Z13,Z14,Z15,Z16,Z17,Z18,Z19,Z20,Z21,Z22,val_sl]at hr);cbv)
 all_goals first
  |decide+kernel
  |(unfold InR;decide+kernel)
  |(unfold gcL_P;decide+kernel)
  |fail
theorem lcL_ok:PcOk Tryz.prog 99 (detPC lcL_D):=det_okA fun A p r h hp0=>by
 unfold lcL_D at h
 split at h
 ·rename_i l
  cases h
  obtain⟨g0,hp⟩:=hp0
  exact⟨rfl,FnOk.pre (A':=[Leaf.av fun _=>(Leaf.val l:(List Int))]) (lcL_vc (Leaf.val l) hp) (.mk (Leaf.hle _ g0) (trivial))⟩
 ·cases h
def tkL:Task:=⟨2,10,10⟩
def tcL_R (r:Th (Int)):AV:= .i .i64 fun _=>(r ())
def tcL_S (l:(List Task)):Int:=(0:Int)
def tcL_P (l:(List Task)):Prop:=l=[]∨l=[tkL]
def tcL_D:Det:=fun A=>match A with
 |[l]=>some (fun _=>Leaf.ok (List Task) l∧tcL_P (Leaf.val l),tcL_R fun _=>tcL_S (Leaf.val l))
 |_=>none
set_option maxRecDepth 100000 in
set_option maxHeartbeats 4000000 in
theorem tcL_vc (l:(List Task)) (hp:tcL_P l):FnOk Tryz.prog 94 [Leaf.av fun _=>l] [] (outA (tcL_R fun _=>tcL_S l) []):=by
 refine fn_ok envOk zl noCon_ok noDraws_ok (keep:=[0,2,4,7,8,9,10,11,45]) Tryz.func94 rfl ?_
 have hp':l=[]∨l=[tkL]:=hp
 rcases hp' with rfl|rfl
 all_goals cbv
 repeat' first|(refine LoopVC.un 6 ?_;cbv)|(refine Imp.mk fun h=> ?_;first|exact absurd h (by decide+kernel)|exact absurd (beq_iff_eq.1 h).symm hn|exact absurd (beq_iff_eq.1 h) hn|(exfalso;simp only[nc,decide_eq_true_eq,decide_eq_false_iff_not,Bool.not_eq_true',Bool.not_eq_false']at h;omega)|skip)|(refine Gen.mk fun r hr=> ?_;subst hr;cbv)|(refine AllS.mk fun r hr=> ?_;first|obtain rfl:=List.perm_singleton.1 hr.1|obtain rfl:=List.perm_nil.1 hr.1|skip;cbv)|(refine Stp.mk ?_;cbv)|(refine Gen.mk fun r hr=> ?_;(try simp only[Dat.ok,Dat.dec,Leaf.ok,Leaf.val,Z0,Z1,Z2,Z3,Z4,Z5,Z6,Z7,Z8,Z9,Z10,Z11,Z12,Z13,Z14,Z15,Z16,Z17,Z18,Z19,Z20,Z21,Z22,val_sl,val_nil]at hr);cbv)|exact trivial|rfl|refine Both.mk ?_ ?_|(refine Imp.mk fun h=> ?_;(try dsimp only at h);(try simp only[nc,Int.toNat_natCast,ne_eq,zz]at h);(try simp only[nc]at h))|refine Ob.mk ?_ ?_|refine Chk.mk (by kernel_rfl) ?_|refine Eq'.mk ?_|(refine AllN.mk fun i hi=> ?_;cbv)|(refine AllC.mk fun c hc hcm=> ?_;(try dsimp only at hc);cbv)|(refine AllS.mk fun r hr=> ?_;(try simp only[Dat.ok,Dat.dec,Leaf.ok,Leaf.val,Z0,Z1,Z2,Z3,Z4,Z5,Z6,Z7,Z8,Z9,Z10,Z11,Z12,Z13,Z14,Z15,Z16,Z17,Z18,Z19,Z20,Z21,Z22,val_sl]at hr);cbv)
 all_goals first
  |decide+kernel
  |(unfold InR;decide+kernel)
  |fail
theorem tcL_ok:PcOk Tryz.prog 94 (detPC tcL_D):=det_okA fun A p r h hp0=>by
 unfold tcL_D at h
 split at h
 ·rename_i l
  cases h
  obtain⟨g0,hp⟩:=hp0
  exact⟨rfl,FnOk.pre (A':=[Leaf.av fun _=>(Leaf.val l:(List Task))]) (tcL_vc (Leaf.val l) hp) (.mk (Leaf.hle _ g0) (trivial))⟩
 ·cases h
noncomputable def cJ1:FuncId→Con:=fun f=>match f with
 |94=>pureCon (detPC tcL_D)
 |99=>pureCon (detPC lcL_D)
 |_=>fun _ _ _=>Bad 1001
theorem cJ1_ok:ConOk Tryz.prog cJ1:=fun f A H K h=>by
 unfold cJ1 at h
 split at h
 ·exact⟨⟨Tryz.f94,Tryz.func94,by kernel_rfl,by kernel_rfl⟩,pureCon_ok tcL_ok h⟩
 ·exact⟨⟨Tryz.f99,Tryz.func99,by kernel_rfl,by kernel_rfl⟩,pureCon_ok lcL_ok h⟩
 ·cases h
def rdL_R (r:Th (Int×Int)):AV:= .tup [.i .i64 fun _=>(r ()).1,.i .i64 fun _=>(r ()).2]
def rdL_S (l:(List Task)):Int×Int:=(if l.length=0 then(1:Int)else 10,(0:Int))
def rdL_P (l:(List Task)):Prop:=l=[]∨l=[tkL]
def rdL_D:Det:=fun A=>match A with
 |[l]=>some (fun _=>Leaf.ok (List Task) l∧rdL_P (Leaf.val l),rdL_R fun _=>rdL_S (Leaf.val l))
 |_=>none
set_option maxRecDepth 100000 in
set_option maxHeartbeats 4000000 in
theorem rdL_vc (l:(List Task)) (hp:rdL_P l):FnOk Tryz.prog 98 [Leaf.av fun _=>l] [] (outA (rdL_R fun _=>rdL_S l) []):=by
 refine fn_ok envOk zl cJ1_ok noDraws_ok (keep:=[0,2,3,4,5,7,11,13,14,15,16]) Tryz.func98 rfl ?_
 have hp':l=[]∨l=[tkL]:=hp
 rcases hp' with rfl|rfl
 all_goals cbv
 repeat' first|(refine LoopVC.un 6 ?_;cbv)|(refine Imp.mk fun h=> ?_;first|exact absurd h (by decide+kernel)|exact absurd (beq_iff_eq.1 h).symm hn|exact absurd (beq_iff_eq.1 h) hn|(exfalso;simp only[nc,decide_eq_true_eq,decide_eq_false_iff_not,Bool.not_eq_true',Bool.not_eq_false']at h;omega)|skip)|(refine Gen.mk fun r hr=> ?_;subst hr;cbv)|(refine AllS.mk fun r hr=> ?_;first|obtain rfl:=List.perm_singleton.1 hr.1|obtain rfl:=List.perm_nil.1 hr.1|skip;cbv)|(refine Stp.mk ?_;cbv)|(refine Gen.mk fun r hr=> ?_;(try simp only[Dat.ok,Dat.dec,Leaf.ok,Leaf.val,Z0,Z1,Z2,Z3,Z4,Z5,Z6,Z7,Z8,Z9,Z10,Z11,Z12,Z13,Z14,Z15,Z16,Z17,Z18,Z19,Z20,Z21,Z22,val_sl,val_nil]at hr);cbv)|exact trivial|rfl|refine Both.mk ?_ ?_|(refine Imp.mk fun h=> ?_;(try dsimp only at h);(try simp only[nc,Int.toNat_natCast,ne_eq,zz]at h);(try simp only[nc]at h))|refine Ob.mk ?_ ?_|refine Chk.mk (by kernel_rfl) ?_|refine Eq'.mk ?_|(refine AllN.mk fun i hi=> ?_;cbv)|(refine AllC.mk fun c hc hcm=> ?_;(try dsimp only at hc);cbv)|(refine AllS.mk fun r hr=> ?_;(try simp only[Dat.ok,Dat.dec,Leaf.ok,Leaf.val,Z0,Z1,Z2,Z3,Z4,Z5,Z6,Z7,Z8,Z9,Z10,Z11,Z12,Z13,Z14,Z15,Z16,Z17,Z18,Z19,Z20,Z21,Z22,val_sl]at hr);cbv)
 all_goals first
  |decide+kernel
  |(unfold InR;decide+kernel)
  |exact⟨⟨rfl,fun i _=>Dat.hok _⟩,by first|exact .inl rfl|exact .inr rfl⟩
  |exact⟨trivial,.inl rfl⟩
  |exact⟨⟨rfl,fun i _=>Dat.hok _⟩,by first|exact .inl rfl|exact .inr (.inl rfl)|exact .inr (.inr (.inl rfl))|exact .inr (.inr (.inr rfl))⟩
  |exact⟨⟨rfl,fun _ _=>trivial⟩,.inr (.inl rfl)⟩
  |exact⟨⟨rfl,fun i (hi:i<2)=>by rcases i with _|_|i;all_goals first|trivial|omega⟩,by first|exact .inr (.inr (.inl rfl))|exact .inr (.inr (.inr rfl))⟩
  |fail
theorem rdL_ok:PcOk Tryz.prog 98 (detPC rdL_D):=det_okA fun A p r h hp0=>by
 unfold rdL_D at h
 split at h
 ·rename_i l
  cases h
  obtain⟨g0,hp⟩:=hp0
  exact⟨rfl,FnOk.pre (A':=[Leaf.av fun _=>(Leaf.val l:(List Task))]) (rdL_vc (Leaf.val l) hp) (.mk (Leaf.hle _ g0) (trivial))⟩
 ·cases h
noncomputable def cJ2:FuncId→Con:=fun f=>match f with
 |129=>inlCon E noCon noDraws [0,2,3,4,5,8,13,25,32,44] Tryz.f129
 |128=>sortI_K
 |_=>fun _ _ _=>Bad 1001
theorem cJ2_ok:ConOk Tryz.prog cJ2:=fun f A H K h=>by
 unfold cJ2 at h
 split at h
 ·exact⟨⟨Tryz.f129,Tryz.func129,by kernel_rfl,by kernel_rfl⟩,inl_ok envOk zl noCon_ok noDraws_ok Tryz.func129 h⟩
 ·exact⟨⟨Tryz.f128,Tryz.func128,by kernel_rfl,by kernel_rfl⟩,sortI_ok h⟩
 ·cases h
def duL_R (r:Th ((List Int))):AV:= .own 0 fun _=>(r ()).length
def duL_H (r:Th ((List Int))):Hp:=[vecO 3 fun _=>(r ())]
def duL_S (l:(List Task)) (below:Int):(List Int):=(if l.length=0 then []else [10]:List Int)
def duL_P (l:(List Task)) (below:Int):Prop:=(l=[]∨l=[tkL])∧below=11
set_option maxRecDepth 100000 in
set_option maxHeartbeats 4000000 in
theorem duL_vc (l:(List Task)) (below:Int) (hp:duL_P l below):FnOk Tryz.prog 100 [Leaf.av fun _=>l,.i .i64 fun _=>below] [] (outA (duL_R fun _=>duL_S l below) (duL_H fun _=>duL_S l below)):=by
 refine fn_ok envOk zl cJ2_ok noDraws_ok (keep:=[0,1,4,5,7,8,9,10,11,12,19]) Tryz.func100 rfl ?_
 have hp':(l=[]∨l=[tkL])∧below=11:=hp
 rcases hp' with⟨rfl|rfl,rfl⟩
 ·cbv
  refine LoopVC.frame [5,7,8,11,12,19] Unit (fun _=>[(11,.i .i64 fun _=>0),(5,.own 0 fun _=>0)]) (fun _=>[(0,vecO 3 fun _=>([]:List Int))]) [0] (fun _=>0) () rfl (fun _=>rfl) ?_ ?_ fun _=> ?_
  ·cbv
   repeat' first|(refine Stp.mk ?_;cbv)|(refine Gen.mk fun r hr=> ?_;(try simp only[Dat.ok,Dat.dec,Leaf.ok,Leaf.val,Z0,Z1,Z2,Z3,Z4,Z5,Z6,Z7,Z8,Z9,Z10,Z11,Z12,Z13,Z14,Z15,Z16,Z17,Z18,Z19,Z20,Z21,Z22,val_sl,val_nil]at hr);cbv)|exact trivial|rfl|refine Both.mk ?_ ?_|(refine Imp.mk fun h=> ?_;(try dsimp only at h);(try simp only[nc,Int.toNat_natCast,ne_eq,zz]at h);(try simp only[nc]at h))|refine Ob.mk ?_ ?_|refine Chk.mk (by kernel_rfl) ?_|refine Eq'.mk ?_|(refine AllN.mk fun i hi=> ?_;cbv)|(refine AllC.mk fun c hc hcm=> ?_;(try dsimp only at hc);cbv)|(refine AllS.mk fun r hr=> ?_;(try simp only[Dat.ok,Dat.dec,Leaf.ok,Leaf.val,Z0,Z1,Z2,Z3,Z4,Z5,Z6,Z7,Z8,Z9,Z10,Z11,Z12,Z13,Z14,Z15,Z16,Z17,Z18,Z19,Z20,Z21,Z22,val_sl]at hr);cbv)
   all_goals fail
  ·cbv
   repeat' first|(refine Stp.mk ?_;cbv)|(refine Gen.mk fun r hr=> ?_;(try simp only[Dat.ok,Dat.dec,Leaf.ok,Leaf.val,Z0,Z1,Z2,Z3,Z4,Z5,Z6,Z7,Z8,Z9,Z10,Z11,Z12,Z13,Z14,Z15,Z16,Z17,Z18,Z19,Z20,Z21,Z22,val_sl,val_nil]at hr);cbv)|exact trivial|rfl|refine Both.mk ?_ ?_|(refine Imp.mk fun h=> ?_;(try dsimp only at h);(try simp only[nc,Int.toNat_natCast,ne_eq,zz]at h);(try simp only[nc]at h))|refine Ob.mk ?_ ?_|refine Chk.mk (by kernel_rfl) ?_|refine Eq'.mk ?_|(refine AllN.mk fun i hi=> ?_;cbv)|(refine AllC.mk fun c hc hcm=> ?_;(try dsimp only at hc);cbv)|(refine AllS.mk fun r hr=> ?_;(try simp only[Dat.ok,Dat.dec,Leaf.ok,Leaf.val,Z0,Z1,Z2,Z3,Z4,Z5,Z6,Z7,Z8,Z9,Z10,Z11,Z12,Z13,Z14,Z15,Z16,Z17,Z18,Z19,Z20,Z21,Z22,val_sl]at hr);cbv)
   all_goals fail
  cbv
  repeat' first|(refine LoopVC.un 6 ?_;cbv)|(refine Imp.mk fun h=> ?_;first|exact absurd h (by decide+kernel)|exact absurd (beq_iff_eq.1 h).symm hn|exact absurd (beq_iff_eq.1 h) hn|(exfalso;simp only[nc,decide_eq_true_eq,decide_eq_false_iff_not,Bool.not_eq_true',Bool.not_eq_false']at h;omega)|skip)|(refine Gen.mk fun r hr=> ?_;subst hr;cbv)|(refine AllS.mk fun r hr=> ?_;first|obtain rfl:=List.perm_singleton.1 hr.1|obtain rfl:=List.perm_nil.1 hr.1|skip;cbv)|(refine Stp.mk ?_;cbv)|(refine Gen.mk fun r hr=> ?_;(try simp only[Dat.ok,Dat.dec,Leaf.ok,Leaf.val,Z0,Z1,Z2,Z3,Z4,Z5,Z6,Z7,Z8,Z9,Z10,Z11,Z12,Z13,Z14,Z15,Z16,Z17,Z18,Z19,Z20,Z21,Z22,val_sl,val_nil]at hr);cbv)|exact trivial|rfl|refine Both.mk ?_ ?_|(refine Imp.mk fun h=> ?_;(try dsimp only at h);(try simp only[nc,Int.toNat_natCast,ne_eq,zz]at h);(try simp only[nc]at h))|refine Ob.mk ?_ ?_|refine Chk.mk (by kernel_rfl) ?_|refine Eq'.mk ?_|(refine AllN.mk fun i hi=> ?_;cbv)|(refine AllC.mk fun c hc hcm=> ?_;(try dsimp only at hc);cbv)|(refine AllS.mk fun r hr=> ?_;(try simp only[Dat.ok,Dat.dec,Leaf.ok,Leaf.val,Z0,Z1,Z2,Z3,Z4,Z5,Z6,Z7,Z8,Z9,Z10,Z11,Z12,Z13,Z14,Z15,Z16,Z17,Z18,Z19,Z20,Z21,Z22,val_sl]at hr);cbv)
  all_goals try (have e:r=[]:=hr.trans (by first|rfl|(simp[sortL];done)|exact List.mergeSort_nil)
                 subst e)
  all_goals first
   |decide+kernel
   |exact⟨rfl,rfl,fun i hi=>absurd hi (Nat.not_lt_zero _),by decide⟩
   |exact absurd hi (Nat.not_lt_zero _)
   |fail
 ·cbv
  repeat' first|(refine LoopVC.un 6 ?_;cbv)|(refine Imp.mk fun h=> ?_;first|exact absurd h (by decide+kernel)|exact absurd (beq_iff_eq.1 h).symm hn|exact absurd (beq_iff_eq.1 h) hn|(exfalso;simp only[nc,decide_eq_true_eq,decide_eq_false_iff_not,Bool.not_eq_true',Bool.not_eq_false']at h;omega)|skip)|(refine Gen.mk fun r hr=> ?_;subst hr;cbv)|(refine AllS.mk fun r hr=> ?_;first|obtain rfl:=List.perm_singleton.1 hr.1|obtain rfl:=List.perm_nil.1 hr.1|skip;cbv)|(refine Stp.mk ?_;cbv)|(refine Gen.mk fun r hr=> ?_;(try simp only[Dat.ok,Dat.dec,Leaf.ok,Leaf.val,Z0,Z1,Z2,Z3,Z4,Z5,Z6,Z7,Z8,Z9,Z10,Z11,Z12,Z13,Z14,Z15,Z16,Z17,Z18,Z19,Z20,Z21,Z22,val_sl,val_nil]at hr);cbv)|exact trivial|rfl|refine Both.mk ?_ ?_|(refine Imp.mk fun h=> ?_;(try dsimp only at h);(try simp only[nc,Int.toNat_natCast,ne_eq,zz]at h);(try simp only[nc]at h))|refine Ob.mk ?_ ?_|refine Chk.mk (by kernel_rfl) ?_|refine Eq'.mk ?_|(refine AllN.mk fun i hi=> ?_;cbv)|(refine AllC.mk fun c hc hcm=> ?_;(try dsimp only at hc);cbv)|(refine AllS.mk fun r hr=> ?_;(try simp only[Dat.ok,Dat.dec,Leaf.ok,Leaf.val,Z0,Z1,Z2,Z3,Z4,Z5,Z6,Z7,Z8,Z9,Z10,Z11,Z12,Z13,Z14,Z15,Z16,Z17,Z18,Z19,Z20,Z21,Z22,val_sl]at hr);cbv)
  all_goals try (have e:r=[10]:=hr.trans (List.mergeSort_singleton (10:Int))
                 subst e)
  all_goals first
   |decide+kernel
   |(unfold InR;decide+kernel)
   |exact⟨rfl,rfl,fun i _=>trivial,by decide⟩
   |(have hi1:i<1:=hi
     obtain rfl:i=0:=by omega
     rfl)
   |fail
def duF_R (r:Th ((List Int))):AV:=Leaf.av fun _=>(r ())
def duF_D:Det:=fun A=>match A with
 |[l,.i .i64 below]=>some (fun _=>Leaf.ok (List Task) l∧duL_P (Leaf.val l) (below ()),duF_R fun _=>duL_S (Leaf.val l) (below ()))
 |_=>none
theorem duF_okF:∀A p r,duF_D A=some (p,r)→p ()→FrOk Tryz.prog 100 A r:=fun A p r h hp0=>by
 unfold duF_D at h
 split at h
 ·rename_i l below
  cases h
  obtain⟨g0,hp⟩:=hp0
  exact FnOk.fresh (A:=[l,.i .i64 below]) (FnOk.pre (A':=[Leaf.av fun _=>(Leaf.val l:(List Task)),.i .i64 fun _=>below ()]) (duL_vc (Leaf.val l) (below ()) hp) (.mk (Leaf.hle _ g0) (.mk (.mk (.mk rfl) (.mk rfl)) (trivial)))) rfl (q:=_) (d:=_) rfl (by intro p hp;repeat (first|(cases hp;done)|(rcases List.mem_cons.1 hp with rfl|hp;· exact Nat.le_refl _))) rfl rfl ⟨.mk fun _ _=>rfl,trivial⟩
 ·cases h
def sL:Set:=⟨10,[⟨0,5⟩]⟩
noncomputable def cJ3:FuncId→Con:=fun f=>match f with
 |63=>inlCon E noCon noDraws [0,2] Tryz.f63
 |_=>fun _ _ _=>Bad 1001
theorem cJ3_ok:ConOk Tryz.prog cJ3:=fun f A H K h=>by
 unfold cJ3 at h
 split at h
 ·exact⟨⟨Tryz.f63,Tryz.func63,by kernel_rfl,by kernel_rfl⟩,inl_ok envOk zl noCon_ok noDraws_ok Tryz.func63 h⟩
 ·cases h
def upL_R (r:Th (Int)):AV:= .i .i64 fun _=>(r ())
def upL_S (s:Set) (t:Int):Int:=(if t=5 then 5 else 10:Int)
def upL_P (s:Set) (t:Int):Prop:=s=sL∧(t=5∨t=15)
def upL_D:Det:=fun A=>match A with
 |[.agg s,.i .i64 t]=>some (fun _=>Dat.ok Set s∧upL_P (Dat.dec s) (t ()),upL_R fun _=>upL_S (Dat.dec s) (t ()))
 |_=>none
set_option maxRecDepth 100000 in
set_option maxHeartbeats 4000000 in
theorem upL_vc (s:Set) (t:Int) (hp:upL_P s t):FnOk Tryz.prog 29 [.agg (Dat.enc fun _=>s),.i .i64 fun _=>t] [] (outA (upL_R fun _=>upL_S s t) []):=by
 refine fn_ok envOk zl noCon_ok noDraws_ok (keep:=[0,1,2,4,5,7,8,10,12,13,14,15,37,38,39,40]) Tryz.func29 rfl ?_
 obtain⟨rfl,rfl|rfl⟩:s=sL∧(t=5∨t=15):=hp
 all_goals cbv
 repeat' first|(refine LoopVC.un 6 ?_;cbv)|(refine Imp.mk fun h=> ?_;first|exact absurd h (by decide+kernel)|exact absurd (beq_iff_eq.1 h).symm hn|exact absurd (beq_iff_eq.1 h) hn|(exfalso;simp only[nc,decide_eq_true_eq,decide_eq_false_iff_not,Bool.not_eq_true',Bool.not_eq_false']at h;omega)|skip)|(refine Gen.mk fun r hr=> ?_;subst hr;cbv)|(refine AllS.mk fun r hr=> ?_;first|obtain rfl:=List.perm_singleton.1 hr.1|obtain rfl:=List.perm_nil.1 hr.1|skip;cbv)|(refine Stp.mk ?_;cbv)|(refine Gen.mk fun r hr=> ?_;(try simp only[Dat.ok,Dat.dec,Leaf.ok,Leaf.val,Z0,Z1,Z2,Z3,Z4,Z5,Z6,Z7,Z8,Z9,Z10,Z11,Z12,Z13,Z14,Z15,Z16,Z17,Z18,Z19,Z20,Z21,Z22,val_sl,val_nil]at hr);cbv)|exact trivial|rfl|refine Both.mk ?_ ?_|(refine Imp.mk fun h=> ?_;(try dsimp only at h);(try simp only[nc,Int.toNat_natCast,ne_eq,zz]at h);(try simp only[nc]at h))|refine Ob.mk ?_ ?_|refine Chk.mk (by kernel_rfl) ?_|refine Eq'.mk ?_|(refine AllN.mk fun i hi=> ?_;cbv)|(refine AllC.mk fun c hc hcm=> ?_;(try dsimp only at hc);cbv)|(refine AllS.mk fun r hr=> ?_;(try simp only[Dat.ok,Dat.dec,Leaf.ok,Leaf.val,Z0,Z1,Z2,Z3,Z4,Z5,Z6,Z7,Z8,Z9,Z10,Z11,Z12,Z13,Z14,Z15,Z16,Z17,Z18,Z19,Z20,Z21,Z22,val_sl]at hr);cbv)
 all_goals first
  |decide+kernel
  |(unfold InR;decide+kernel)
  |exact⟨⟨trivial,rfl,fun i _=>Dat.hok _⟩,rfl,rfl⟩
  |exact⟨⟨trivial,rfl,fun i _=>Dat.hok _⟩,rfl,.inl rfl⟩
  |exact⟨⟨trivial,rfl,fun i _=>Dat.hok _⟩,rfl,.inr rfl⟩
  |fail
theorem upL_ok:PcOk Tryz.prog 29 (detPC upL_D):=det_okA fun A p r h hp0=>by
 unfold upL_D at h
 split at h
 ·rename_i s t
  cases h
  obtain⟨g0,hp⟩:=hp0
  exact⟨rfl,FnOk.pre (A':=[.agg (Dat.enc fun _=>(Dat.dec s:Set)),.i .i64 fun _=>t ()]) (upL_vc (Dat.dec s) (t ()) hp) (.mk (Dat.hle _ g0) (.mk (.mk (.mk rfl) (.mk rfl)) (trivial)))⟩
 ·cases h
def dJ4:FuncId→Option Dt:=fun f=>match f with
 |29=>some (.c upL_D)
 |_=>none
theorem dJ4_ok:DetOk Tryz.prog dJ4:=fun f d h=>by
 unfold dJ4 at h
 split at h
 ·cases h;exact⟨⟨Tryz.f29,Tryz.func29,by kernel_rfl,by kernel_rfl⟩,upL_ok⟩
 ·cases h
noncomputable def cJ4:FuncId→Con:=fun f=>match f with
 |28=>inlCon E cJ3 noDraws [0,1,2,3,5,9,13,15,16,17,18,38] Tryz.f28
 |_=>fun _ _ _=>Bad 1001
theorem cJ4_ok:ConOk Tryz.prog cJ4:=fun f A H K h=>by
 unfold cJ4 at h
 split at h
 ·exact⟨⟨Tryz.f28,Tryz.func28,by kernel_rfl,by kernel_rfl⟩,inl_ok envOk zl cJ3_ok noDraws_ok Tryz.func28 h⟩
 ·cases h
noncomputable def cJ5:FuncId→Con:=fun f=>match f with
 |28=>inlCon E cJ3 noDraws [0,1,2,3,5,9,13,15,16,17,18,38] Tryz.f28
 |9=>inlCon E cJ4 (draws E dJ4) [0,1,2,3,6,7,8,12,24] Tryz.f9
 |_=>fun _ _ _=>Bad 1001
theorem cJ5_ok:ConOk Tryz.prog cJ5:=fun f A H K h=>by
 unfold cJ5 at h
 split at h
 ·exact⟨⟨Tryz.f28,Tryz.func28,by kernel_rfl,by kernel_rfl⟩,inl_ok envOk zl cJ3_ok noDraws_ok Tryz.func28 h⟩
 ·exact⟨⟨Tryz.f9,Tryz.func9,by kernel_rfl,by kernel_rfl⟩,inl_ok envOk zl cJ4_ok (draws_ok envOk zl dJ4_ok mixed) Tryz.func9 h⟩
 ·cases h
noncomputable def cJ6:FuncId→Con:=fun f=>match f with
 |130=>inlCon E cJ5 noDraws [0,1,2,3,6,7,8,9,11,12,13,18,25,27,28,29,30,35,55] Tryz.f130
 |_=>fun _ _ _=>Bad 1001
theorem cJ6_ok:ConOk Tryz.prog cJ6:=fun f A H K h=>by
 unfold cJ6 at h
 split at h
 ·exact⟨⟨Tryz.f130,Tryz.func130,by kernel_rfl,by kernel_rfl⟩,inl_ok envOk zl cJ5_ok noDraws_ok Tryz.func130 h⟩
 ·cases h
def leL_R (r:Th (Int×Int)):AV:= .tup [.i .i64 fun _=>(r ()).1,.i .i64 fun _=>(r ()).2]
def leL_S (s:Set) (n:Int):Int×Int:=((5:Int),(0:Int))
def leL_P (s:Set) (n:Int):Prop:=s=sL∧n=10
def leL_D:Det:=fun A=>match A with
 |[.agg s,.i .i64 n]=>some (fun _=>Dat.ok Set s∧leL_P (Dat.dec s) (n ()),leL_R fun _=>leL_S (Dat.dec s) (n ()))
 |_=>none
set_option maxRecDepth 100000 in
set_option maxHeartbeats 4000000 in
theorem leL_vc (s:Set) (n:Int) (hp:leL_P s n):FnOk Tryz.prog 101 [.agg (Dat.enc fun _=>s),.i .i64 fun _=>n] [] (outA (leL_R fun _=>leL_S s n) []):=by
 refine fn_ok envOk zl cJ6_ok noDraws_ok (keep:=[0,1,2,4,5]) Tryz.func101 rfl ?_
 obtain⟨rfl,rfl⟩:s=sL∧n=10:=hp
 cbv
 repeat' first|(refine LoopVC.un 6 ?_;cbv)|(refine Imp.mk fun h=> ?_;first|exact absurd h (by decide+kernel)|exact absurd (beq_iff_eq.1 h).symm hn|exact absurd (beq_iff_eq.1 h) hn|(exfalso;simp only[nc,decide_eq_true_eq,decide_eq_false_iff_not,Bool.not_eq_true',Bool.not_eq_false']at h;omega)|skip)|(refine Gen.mk fun r hr=> ?_;subst hr;cbv)|(refine AllS.mk fun r hr=> ?_;first|obtain rfl:=List.perm_singleton.1 hr.1|obtain rfl:=List.perm_nil.1 hr.1|skip;cbv)|(refine Stp.mk ?_;cbv)|(refine Gen.mk fun r hr=> ?_;(try simp only[Dat.ok,Dat.dec,Leaf.ok,Leaf.val,Z0,Z1,Z2,Z3,Z4,Z5,Z6,Z7,Z8,Z9,Z10,Z11,Z12,Z13,Z14,Z15,Z16,Z17,Z18,Z19,Z20,Z21,Z22,val_sl,val_nil]at hr);cbv)|exact trivial|rfl|refine Both.mk ?_ ?_|(refine Imp.mk fun h=> ?_;(try dsimp only at h);(try simp only[nc,Int.toNat_natCast,ne_eq,zz]at h);(try simp only[nc]at h))|refine Ob.mk ?_ ?_|refine Chk.mk (by kernel_rfl) ?_|refine Eq'.mk ?_|(refine AllN.mk fun i hi=> ?_;cbv)|(refine AllC.mk fun c hc hcm=> ?_;(try dsimp only at hc);cbv)|(refine AllS.mk fun r hr=> ?_;(try simp only[Dat.ok,Dat.dec,Leaf.ok,Leaf.val,Z0,Z1,Z2,Z3,Z4,Z5,Z6,Z7,Z8,Z9,Z10,Z11,Z12,Z13,Z14,Z15,Z16,Z17,Z18,Z19,Z20,Z21,Z22,val_sl]at hr);cbv)
 all_goals first
  |decide+kernel
  |(unfold InR;decide+kernel)
  |exact⟨⟨trivial,rfl,fun i _=>Dat.hok _⟩,rfl,rfl⟩
  |exact⟨⟨trivial,rfl,fun i _=>Dat.hok _⟩,rfl,.inl rfl⟩
  |exact⟨⟨trivial,rfl,fun i _=>Dat.hok _⟩,rfl,.inr rfl⟩
  |fail
theorem leL_ok:PcOk Tryz.prog 101 (detPC leL_D):=det_okA fun A p r h hp0=>by
 unfold leL_D at h
 split at h
 ·rename_i s n
  cases h
  obtain⟨g0,hp⟩:=hp0
  exact⟨rfl,FnOk.pre (A':=[.agg (Dat.enc fun _=>(Dat.dec s:Set)),.i .i64 fun _=>n ()]) (leL_vc (Dat.dec s) (n ()) hp) (.mk (Dat.hle _ g0) (.mk (.mk (.mk rfl) (.mk rfl)) (trivial)))⟩
 ·cases h
def dEm:FuncId→Option Dt:=fun f=>match f with
 |_=>none
theorem dEm_ok:DetOk Tryz.prog dEm:=fun f d h=>by
 unfold dEm at h
 split at h
 ·cases h
noncomputable def cJ7:FuncId→Con:=fun f=>match f with
 |98=>pureCon (detPC rdL_D)
 |94=>pureCon (detPC tcL_D)
 |28=>inlCon E cJ3 noDraws [0,1,2,3,5,9,13,15,16,17,18,38] Tryz.f28
 |99=>pureCon (detPC lcL_D)
 |100=>frCon duF_D
 |101=>pureCon (detPC leL_D)
 |102=>inlCon E noCon (draws E dEm) [0,1,4,5,7,8,9,10,11,17] Tryz.f102
 |_=>fun _ _ _=>Bad 1001
theorem cJ7_ok:ConOk Tryz.prog cJ7:=fun f A H K h=>by
 unfold cJ7 at h
 split at h
 ·exact⟨⟨Tryz.f98,Tryz.func98,by kernel_rfl,by kernel_rfl⟩,pureCon_ok rdL_ok h⟩
 ·exact⟨⟨Tryz.f94,Tryz.func94,by kernel_rfl,by kernel_rfl⟩,pureCon_ok tcL_ok h⟩
 ·exact⟨⟨Tryz.f28,Tryz.func28,by kernel_rfl,by kernel_rfl⟩,inl_ok envOk zl cJ3_ok noDraws_ok Tryz.func28 h⟩
 ·exact⟨⟨Tryz.f99,Tryz.func99,by kernel_rfl,by kernel_rfl⟩,pureCon_ok lcL_ok h⟩
 ·exact⟨⟨Tryz.f100,Tryz.func100,by kernel_rfl,by kernel_rfl⟩,frCon_ok duF_okF h⟩
 ·exact⟨⟨Tryz.f101,Tryz.func101,by kernel_rfl,by kernel_rfl⟩,pureCon_ok leL_ok h⟩
 ·exact⟨⟨Tryz.f102,Tryz.func102,by kernel_rfl,by kernel_rfl⟩,inl_ok envOk zl noCon_ok (draws_ok envOk zl dEm_ok mixed) Tryz.func102 h⟩
 ·cases h
def ftL_R (r:Th (Bool×Int×Int)):AV:= .tup [.b fun _=>(r ()).1,.i .i64 fun _=>(r ()).2.1,.i .i64 fun _=>(r ()).2.2]
def ftL_S (l:(List Task)) (s:Set):Bool×Int×Int:=(true,(0:Int),(0:Int))
def ftL_P (l:(List Task)) (s:Set):Prop:=l=[]∧s=⟨10,[]⟩∨l=[tkL]∧s=sL
def ftL_D:Det:=fun A=>match A with
 |[l,.agg s]=>some (fun _=>Leaf.ok (List Task) l∧Dat.ok Set s∧ftL_P (Leaf.val l) (Dat.dec s),ftL_R fun _=>ftL_S (Leaf.val l) (Dat.dec s))
 |_=>none
set_option maxRecDepth 100000 in
set_option maxHeartbeats 4000000 in
theorem ftL_vc (l:(List Task)) (s:Set) (hp:ftL_P l s):FnOk Tryz.prog 61 [Leaf.av fun _=>l,.agg (Dat.enc fun _=>s)] [] (outA (ftL_R fun _=>ftL_S l s) []):=by
 refine fn_ok envOk zl cJ7_ok noDraws_ok (keep:=[0,1,3,4,5,6,7,8,9,10,11,13,14,24,29,36,50,54,55,56,57,70]) Tryz.func61 rfl ?_
 have hp':l=[]∧s=⟨10,[]⟩∨l=[tkL]∧s=sL:=hp
 rcases hp' with⟨rfl,rfl⟩|⟨rfl,rfl⟩
 all_goals cbv
 repeat' first|(refine LoopVC.un 6 ?_;cbv)|(refine Imp.mk fun h=> ?_;first|exact absurd h (by decide+kernel)|exact absurd (beq_iff_eq.1 h).symm hn|exact absurd (beq_iff_eq.1 h) hn|(exfalso;simp only[nc,decide_eq_true_eq,decide_eq_false_iff_not,Bool.not_eq_true',Bool.not_eq_false']at h;omega)|skip)|(refine Gen.mk fun r hr=> ?_;subst hr;cbv)|(refine AllS.mk fun r hr=> ?_;first|obtain rfl:=List.perm_singleton.1 hr.1|obtain rfl:=List.perm_nil.1 hr.1|skip;cbv)|(refine Stp.mk ?_;cbv)|(refine Gen.mk fun r hr=> ?_;(try simp only[Dat.ok,Dat.dec,Leaf.ok,Leaf.val,Z0,Z1,Z2,Z3,Z4,Z5,Z6,Z7,Z8,Z9,Z10,Z11,Z12,Z13,Z14,Z15,Z16,Z17,Z18,Z19,Z20,Z21,Z22,val_sl,val_nil]at hr);cbv)|exact trivial|rfl|refine Both.mk ?_ ?_|(refine Imp.mk fun h=> ?_;(try dsimp only at h);(try simp only[nc,Int.toNat_natCast,ne_eq,zz]at h);(try simp only[nc]at h))|refine Ob.mk ?_ ?_|refine Chk.mk (by kernel_rfl) ?_|refine Eq'.mk ?_|(refine AllN.mk fun i hi=> ?_;cbv)|(refine AllC.mk fun c hc hcm=> ?_;(try dsimp only at hc);cbv)|(refine AllS.mk fun r hr=> ?_;(try simp only[Dat.ok,Dat.dec,Leaf.ok,Leaf.val,Z0,Z1,Z2,Z3,Z4,Z5,Z6,Z7,Z8,Z9,Z10,Z11,Z12,Z13,Z14,Z15,Z16,Z17,Z18,Z19,Z20,Z21,Z22,val_sl]at hr);cbv)
 all_goals first
  |decide+kernel
  |(unfold InR;decide+kernel)
  |exact⟨⟨trivial,rfl,fun i _=>Dat.hok _⟩,rfl,rfl⟩
  |exact⟨⟨trivial,rfl,fun i _=>Dat.hok _⟩,rfl,.inl rfl⟩
  |exact⟨⟨trivial,rfl,fun i _=>Dat.hok _⟩,rfl,.inr rfl⟩
  |exact⟨⟨rfl,fun i _=>Dat.hok _⟩,.inl rfl⟩
  |exact⟨⟨rfl,fun i _=>Dat.hok _⟩,.inr rfl⟩
  |exact⟨⟨rfl,fun i (hi:i<2)=>by rcases i with _|_|i;all_goals first|trivial|omega⟩,by first|exact .inr (.inr (.inl rfl))|exact .inr (.inr (.inr rfl))⟩
  |exact⟨⟨rfl,fun i _=>Dat.hok _⟩,.inl rfl,rfl⟩
  |exact⟨⟨rfl,fun i _=>Dat.hok _⟩,.inr rfl,rfl⟩
  |fail
theorem ftL_ok:PcOk Tryz.prog 61 (detPC ftL_D):=det_okA fun A p r h hp0=>by
 unfold ftL_D at h
 split at h
 ·rename_i l s
  cases h
  obtain⟨g0,g1,hp⟩:=hp0
  exact⟨rfl,FnOk.pre (A':=[Leaf.av fun _=>(Leaf.val l:(List Task)),.agg (Dat.enc fun _=>(Dat.dec s:Set))]) (ftL_vc (Leaf.val l) (Dat.dec s) hp) (.mk (Leaf.hle _ g0) (.mk (Dat.hle _ g1) (trivial)))⟩
 ·cases h
end Go.Proofs.YtiaiifcgbjlfoaaGreatDoor
