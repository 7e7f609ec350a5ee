/- conf.Judge of one plan, walked: the whole. -/
import Derived.Test.YtiaiifcgbjlfoaaGreatDoorJudM
set_option linter.all false
namespace Go.Proofs.YtiaiifcgbjlfoaaGreatDoor
open Go Go.Abs
def plL:Plan:=⟨10,[⟨2,0,5,10⟩],[⟨2,tkL⟩]⟩
noncomputable def cK0:FuncId→Con:=fun f=>match f with
 |124=>inlCon E noCon noDraws [0,2] Tryz.f124
 |_=>fun _ _ _=>Bad 1001
theorem cK0_ok:ConOk Tryz.prog cK0:=fun f A H K h=>by
 unfold cK0 at h
 split at h
 ·exact⟨⟨Tryz.f124,Tryz.func124,by kernel_rfl,by kernel_rfl⟩,inl_ok envOk zl noCon_ok noDraws_ok Tryz.func124 h⟩
 ·cases h
noncomputable def cK1:FuncId→Con:=fun f=>match f with
 |70=>inlCon E cK0 noDraws [0,1,4,5,7,8,9,16] Tryz.f70
 |_=>fun _ _ _=>Bad 1001
theorem cK1_ok:ConOk Tryz.prog cK1:=fun f A H K h=>by
 unfold cK1 at h
 split at h
 ·exact⟨⟨Tryz.f70,Tryz.func70,by kernel_rfl,by kernel_rfl⟩,inl_ok envOk zl cK0_ok noDraws_ok Tryz.func70 h⟩
 ·cases h
noncomputable def cK2:FuncId→Con:=fun f=>match f with
 |32=>inlCon E cK1 noDraws [0,1,4] Tryz.f32
 |_=>fun _ _ _=>Bad 1001
theorem cK2_ok:ConOk Tryz.prog cK2:=fun f A H K h=>by
 unfold cK2 at h
 split at h
 ·exact⟨⟨Tryz.f32,Tryz.func32,by kernel_rfl,by kernel_rfl⟩,inl_ok envOk zl cK1_ok noDraws_ok Tryz.func32 h⟩
 ·cases h
noncomputable def cK3:FuncId→Con:=fun f=>match f with
 |92=>inlCon E noCon noDraws [0,2] Tryz.f92
 |93=>inlCon E cK2 noDraws [0,2] Tryz.f93
 |94=>pureCon (detPC tcL_D)
 |_=>fun _ _ _=>Bad 1001
theorem cK3_ok:ConOk Tryz.prog cK3:=fun f A H K h=>by
 unfold cK3 at h
 split at h
 ·exact⟨⟨Tryz.f92,Tryz.func92,by kernel_rfl,by kernel_rfl⟩,inl_ok envOk zl noCon_ok noDraws_ok Tryz.func92 h⟩
 ·exact⟨⟨Tryz.f93,Tryz.func93,by kernel_rfl,by kernel_rfl⟩,inl_ok envOk zl cK2_ok noDraws_ok Tryz.func93 h⟩
 ·exact⟨⟨Tryz.f94,Tryz.func94,by kernel_rfl,by kernel_rfl⟩,pureCon_ok tcL_ok h⟩
 ·cases h
def ckL_R (r:Th (Int)):AV:= .i .i64 fun _=>(r ())
def ckL_S (p:Plan):Int:=(0:Int)
def ckL_P (p:Plan):Prop:=p=plL
def ckL_D:Det:=fun A=>match A with
 |[.agg p]=>some (fun _=>Dat.ok Plan p∧ckL_P (Dat.dec p),ckL_R fun _=>ckL_S (Dat.dec p))
 |_=>none
set_option maxRecDepth 100000 in
set_option maxHeartbeats 4000000 in
theorem ckL_vc (p:Plan) (hp:ckL_P p):FnOk Tryz.prog 59 [.agg (Dat.enc fun _=>p)] [] (outA (ckL_R fun _=>ckL_S p) []):=by
 refine fn_ok envOk zl cK3_ok noDraws_ok (keep:=[0,1,2,4,6,14,24,26,27,28,29,46,49,50,51,52,65]) Tryz.func59 rfl ?_
 obtain rfl:p=plL:=hp
 cbv
 repeat' first|(refine LoopVC.un 6 ?_;cbv)|(refine Imp.mk fun h=> ?_;first|exact absurd h (by decide+kernel)|exact absurd (beq_iff_eq.1 h).symm hn|exact absurd (beq_iff_eq.1 h) hn|(exfalso;simp only[nc,decide_eq_true_eq,decide_eq_false_iff_not,Bool.not_eq_true',Bool.not_eq_false']at h;omega)|skip)|(refine Gen.mk fun r hr=> ?_;subst hr;cbv)|(refine AllS.mk fun r hr=> ?_;first|obtain rfl:=List.perm_singleton.1 hr.1|obtain rfl:=List.perm_nil.1 hr.1|skip;cbv)|(refine Stp.mk ?_;cbv)|(refine Gen.mk fun r hr=> ?_;(try simp only[Dat.ok,Dat.dec,Leaf.ok,Leaf.val,Z0,Z1,Z2,Z3,Z4,Z5,Z6,Z7,Z8,Z9,Z10,Z11,Z12,Z13,Z14,Z15,Z16,Z17,Z18,Z19,Z20,Z21,Z22,val_sl,val_nil]at hr);cbv)|exact trivial|rfl|refine Both.mk ?_ ?_|(refine Imp.mk fun h=> ?_;(try dsimp only at h);(try simp only[nc,Int.toNat_natCast,ne_eq,zz]at h);(try simp only[nc]at h))|refine Ob.mk ?_ ?_|refine Chk.mk (by kernel_rfl) ?_|refine Eq'.mk ?_|(refine AllN.mk fun i hi=> ?_;cbv)|(refine AllC.mk fun c hc hcm=> ?_;(try dsimp only at hc);cbv)|(refine AllS.mk fun r hr=> ?_;(try simp only[Dat.ok,Dat.dec,Leaf.ok,Leaf.val,Z0,Z1,Z2,Z3,Z4,Z5,Z6,Z7,Z8,Z9,Z10,Z11,Z12,Z13,Z14,Z15,Z16,Z17,Z18,Z19,Z20,Z21,Z22,val_sl]at hr);cbv)
 all_goals first
  |decide+kernel
  |(unfold InR;decide+kernel)
  |exact⟨⟨rfl,fun _ _=>⟨trivial,trivial,trivial⟩⟩,.inr rfl⟩
  |fail
theorem ckL_ok:PcOk Tryz.prog 59 (detPC ckL_D):=det_okA fun A p r h hp0=>by
 unfold ckL_D at h
 split at h
 ·rename_i p
  cases h
  obtain⟨g0,hp⟩:=hp0
  exact⟨rfl,FnOk.pre (A':=[.agg (Dat.enc fun _=>(Dat.dec p:Plan))]) (ckL_vc (Dat.dec p) hp) (.mk (Dat.hle _ g0) (trivial))⟩
 ·cases h
noncomputable def cK4:FuncId→Con:=fun f=>match f with
 |59=>pureCon (detPC ckL_D)
 |60=>pureCon mkL_C
 |8=>pureCon tmL_C
 |61=>pureCon (detPC ftL_D)
 |_=>fun _ _ _=>Bad 1001
theorem cK4_ok:ConOk Tryz.prog cK4:=fun f A H K h=>by
 unfold cK4 at h
 split at h
 ·exact⟨⟨Tryz.f59,Tryz.func59,by kernel_rfl,by kernel_rfl⟩,pureCon_ok ckL_ok h⟩
 ·exact⟨⟨Tryz.f60,Tryz.func60,by kernel_rfl,by kernel_rfl⟩,pureCon_ok mkL_ok h⟩
 ·exact⟨⟨Tryz.f8,Tryz.func8,by kernel_rfl,by kernel_rfl⟩,pureCon_ok tmL_ok h⟩
 ·exact⟨⟨Tryz.f61,Tryz.func61,by kernel_rfl,by kernel_rfl⟩,pureCon_ok ftL_ok h⟩
 ·cases h
def dK4:FuncId→Option Dt:=fun f=>match f with
 |61=>some (.c ftL_D)
 |_=>none
theorem dK4_ok:DetOk Tryz.prog dK4:=fun f d h=>by
 unfold dK4 at h
 split at h
 ·cases h;exact⟨⟨Tryz.f61,Tryz.func61,by kernel_rfl,by kernel_rfl⟩,ftL_ok⟩
 ·cases h
structure JuX where
 k:Nat
 hk:k≤16
theorem rep_get {n i:Nat}(h:i<n):(List.replicate n true).getD i Dat.d0=true:=by
 rw[List.getD_eq_getElem?_getD,List.getElem?_replicate,if_pos h];rfl
theorem rep_bif {k i:Nat}{b:Bool}(hb:b=true) (h:i<(List.replicate k true).length+1):(bif decide (i<(List.replicate k true).length)then(List.replicate k true).getD i Dat.d0 else b)=(List.replicate (k+1) true).getD i Dat.d0:=by
 rw[List.length_replicate]at h ⊢
 rw[rep_get h,hb]
 by_cases q:i<k
 ·rw[decide_eq_true q,cond_true,rep_get q]
 ·rw[decide_eq_false q];rfl
theorem rep_l {k:Nat}:(List.replicate k true).length+1=(List.replicate (k+1) true).length:=by rw[List.length_replicate,List.length_replicate]
def juL_R (r:Th (Table×(List Bool)×Int)):AV:= .tup [.agg [.i .i64 fun _=>(r ()).1.frame,.own 0 fun _=>(r ()).1.windows.length],.own 1 fun _=>(r ()).2.1.length,.i .i64 fun _=>(r ()).2.2]
def juL_H (r:Th (Table×(List Bool)×Int)):Hp:=[vecO 106 fun _=>(r ()).1.windows,vecO 4 fun _=>(r ()).2.1]
def juL_S (p:Plan):Table×(List Bool)×Int:=(tL,List.replicate 16 true,0)
def juL_P (p:Plan):Prop:=p=plL
set_option maxRecDepth 100000 in
set_option maxHeartbeats 4000000 in
theorem juL_vc (p:Plan) (hp:juL_P p):FnOk Tryz.prog 23 [.agg (Dat.enc fun _=>p)] [] (outA (juL_R fun _=>juL_S p) (juL_H fun _=>juL_S p)):=by
 refine fn_ok envOk zl cK4_ok (draws_ok envOk zl dK4_ok mixed) (keep:=[0,1,2,3,4,5,6,7,8,9,10,12,13,15,17,21,33,36,37,40,41,42,43,49]) Tryz.func23 rfl ?_
 obtain rfl:p=plL:=hp
 cbv
 iterate 40 (all_goals try first|(refine Imp.mk fun h=> ?_;first|exact absurd h (by decide+kernel)|skip)|(refine Gen.mk fun r hr=> ?_;subst hr;cbv)|(refine Stp.mk ?_;cbv)|exact trivial|rfl|refine Both.mk ?_ ?_|refine Ob.mk ?_ ?_|refine Chk.mk (by kernel_rfl) ?_|refine Eq'.mk ?_|(refine AllN.mk fun i hi=> ?_;cbv)|(refine AllC.mk fun c hc hcm=> ?_;cbv))
 all_goals try first
  |exact⟨⟨trivial,⟨rfl,fun i _=>Dat.hok _⟩,rfl,fun i _=>Dat.hok _⟩,rfl⟩
  |exact⟨⟨rfl,fun i _=>Dat.hok _⟩,rfl,rfl⟩
 refine LoopVC.frame [8,9,10,12,13,15,17,36,37,40,41,42,43,49] JuX (fun x=>[(36,.i .i64 fun _=>x.k),(8,.own 4 fun _=>(List.replicate x.k true).length)]) (fun x=>[(4,vecO 4 fun _=>List.replicate x.k true)]) [4,5] (fun x=>16-x.k) ⟨0,Nat.zero_le _⟩ rfl (fun _=>rfl) ?_ ?_ fun⟨k,hk⟩=> ?_
 ·cbv
  repeat' first|(refine Stp.mk ?_;cbv)|(refine Gen.mk fun r hr=> ?_;(try simp only[Dat.ok,Dat.dec,Leaf.ok,Leaf.val,Z0,Z1,Z2,Z3,Z4,Z5,Z6,Z7,Z8,Z9,Z10,Z11,Z12,Z13,Z14,Z15,Z16,Z17,Z18,Z19,Z20,Z21,Z22,val_sl,val_nil]at hr);cbv)|exact trivial|rfl|refine Both.mk ?_ ?_|(refine Imp.mk fun h=> ?_;(try dsimp only at h);(try simp only[nc,Int.toNat_natCast,ne_eq,zz]at h);(try simp only[nc]at h))|refine Ob.mk ?_ ?_|refine Chk.mk (by kernel_rfl) ?_|refine Eq'.mk ?_|(refine AllN.mk fun i hi=> ?_;cbv)|(refine AllC.mk fun c hc hcm=> ?_;(try dsimp only at hc);cbv)|(refine AllS.mk fun r hr=> ?_;(try simp only[Dat.ok,Dat.dec,Leaf.ok,Leaf.val,Z0,Z1,Z2,Z3,Z4,Z5,Z6,Z7,Z8,Z9,Z10,Z11,Z12,Z13,Z14,Z15,Z16,Z17,Z18,Z19,Z20,Z21,Z22,val_sl]at hr);cbv)
  all_goals fail
 ·cbv
  repeat' first|(refine Stp.mk ?_;cbv)|(refine Gen.mk fun r hr=> ?_;(try simp only[Dat.ok,Dat.dec,Leaf.ok,Leaf.val,Z0,Z1,Z2,Z3,Z4,Z5,Z6,Z7,Z8,Z9,Z10,Z11,Z12,Z13,Z14,Z15,Z16,Z17,Z18,Z19,Z20,Z21,Z22,val_sl,val_nil]at hr);cbv)|exact trivial|rfl|refine Both.mk ?_ ?_|(refine Imp.mk fun h=> ?_;(try dsimp only at h);(try simp only[nc,Int.toNat_natCast,ne_eq,zz]at h);(try simp only[nc]at h))|refine Ob.mk ?_ ?_|refine Chk.mk (by kernel_rfl) ?_|refine Eq'.mk ?_|(refine AllN.mk fun i hi=> ?_;cbv)|(refine AllC.mk fun c hc hcm=> ?_;(try dsimp only at hc);cbv)|(refine AllS.mk fun r hr=> ?_;(try simp only[Dat.ok,Dat.dec,Leaf.ok,Leaf.val,Z0,Z1,Z2,Z3,Z4,Z5,Z6,Z7,Z8,Z9,Z10,Z11,Z12,Z13,Z14,Z15,Z16,Z17,Z18,Z19,Z20,Z21,Z22,val_sl]at hr);cbv)
  all_goals fail
 have hk9:k≤16:=hk
 have kl:(List.replicate k true).length=k:=List.length_replicate ..
 dsimp only
 obtain rfl|rfl|⟨hn,k16⟩:k=2∨k=16∨(¬(2:Int)=(k:Int)∧k<16):=by omega
 ·cbv
  repeat' first|(refine LoopVC.un 6 ?_;cbv)|(refine Imp.mk fun h=> ?_;first|exact absurd h (by decide+kernel)|exact absurd (beq_iff_eq.1 h).symm hn|exact absurd (beq_iff_eq.1 h) hn|(exfalso;simp only[nc,decide_eq_true_eq,decide_eq_false_iff_not,Bool.not_eq_true',Bool.not_eq_false']at h;omega)|skip)|(refine Gen.mk fun r hr=> ?_;subst hr;cbv)|(refine AllS.mk fun r hr=> ?_;first|obtain rfl:=List.perm_singleton.1 hr.1|obtain rfl:=List.perm_nil.1 hr.1|skip;cbv)|(refine Stp.mk ?_;cbv)|(refine Gen.mk fun r hr=> ?_;(try simp only[Dat.ok,Dat.dec,Leaf.ok,Leaf.val,Z0,Z1,Z2,Z3,Z4,Z5,Z6,Z7,Z8,Z9,Z10,Z11,Z12,Z13,Z14,Z15,Z16,Z17,Z18,Z19,Z20,Z21,Z22,val_sl,val_nil]at hr);cbv)|exact trivial|rfl|refine Both.mk ?_ ?_|(refine Imp.mk fun h=> ?_;(try dsimp only at h);(try simp only[nc,Int.toNat_natCast,ne_eq,zz]at h);(try simp only[nc]at h))|refine Ob.mk ?_ ?_|refine Chk.mk (by kernel_rfl) ?_|refine Eq'.mk ?_|(refine AllN.mk fun i hi=> ?_;cbv)|(refine AllC.mk fun c hc hcm=> ?_;(try dsimp only at hc);cbv)|(refine AllS.mk fun r hr=> ?_;(try simp only[Dat.ok,Dat.dec,Leaf.ok,Leaf.val,Z0,Z1,Z2,Z3,Z4,Z5,Z6,Z7,Z8,Z9,Z10,Z11,Z12,Z13,Z14,Z15,Z16,Z17,Z18,Z19,Z20,Z21,Z22,val_sl]at hr);cbv)
  all_goals first
   |decide+kernel
   |(unfold InR;decide+kernel)
   |exact⟨⟨trivial,rfl,fun i _=>Dat.hok _⟩,rfl,by decide,by decide⟩
   |exact⟨⟨rfl,fun _ _=>⟨trivial,trivial,trivial⟩⟩,⟨trivial,rfl,fun i _=>Dat.hok _⟩,.inr ⟨rfl,rfl⟩⟩
   |(refine⟨⟨2+1,by omega⟩, ?_, ?_,rfl,by(try dsimp only);omega⟩
     ·cbv
      repeat' first|(refine Stp.mk ?_;cbv)|(refine Gen.mk fun r hr=> ?_;(try simp only[Dat.ok,Dat.dec,Leaf.ok,Leaf.val,Z0,Z1,Z2,Z3,Z4,Z5,Z6,Z7,Z8,Z9,Z10,Z11,Z12,Z13,Z14,Z15,Z16,Z17,Z18,Z19,Z20,Z21,Z22,val_sl,val_nil]at hr);cbv)|exact trivial|rfl|refine Both.mk ?_ ?_|(refine Imp.mk fun h=> ?_;(try dsimp only at h);(try simp only[nc,Int.toNat_natCast,ne_eq,zz]at h);(try simp only[nc]at h))|refine Ob.mk ?_ ?_|refine Chk.mk (by kernel_rfl) ?_|refine Eq'.mk ?_|(refine AllN.mk fun i hi=> ?_;cbv)|(refine AllC.mk fun c hc hcm=> ?_;(try dsimp only at hc);cbv)|(refine AllS.mk fun r hr=> ?_;(try simp only[Dat.ok,Dat.dec,Leaf.ok,Leaf.val,Z0,Z1,Z2,Z3,Z4,Z5,Z6,Z7,Z8,Z9,Z10,Z11,Z12,Z13,Z14,Z15,Z16,Z17,Z18,Z19,Z20,Z21,Z22,val_sl]at hr);cbv)
      all_goals first
       |exact rep_l
       |fail
     ·cbv
      repeat' first|(refine Stp.mk ?_;cbv)|(refine Gen.mk fun r hr=> ?_;(try simp only[Dat.ok,Dat.dec,Leaf.ok,Leaf.val,Z0,Z1,Z2,Z3,Z4,Z5,Z6,Z7,Z8,Z9,Z10,Z11,Z12,Z13,Z14,Z15,Z16,Z17,Z18,Z19,Z20,Z21,Z22,val_sl,val_nil]at hr);cbv)|exact trivial|rfl|refine Both.mk ?_ ?_|(refine Imp.mk fun h=> ?_;(try dsimp only at h);(try simp only[nc,Int.toNat_natCast,ne_eq,zz]at h);(try simp only[nc]at h))|refine Ob.mk ?_ ?_|refine Chk.mk (by kernel_rfl) ?_|refine Eq'.mk ?_|(refine AllN.mk fun i hi=> ?_;cbv)|(refine AllC.mk fun c hc hcm=> ?_;(try dsimp only at hc);cbv)|(refine AllS.mk fun r hr=> ?_;(try simp only[Dat.ok,Dat.dec,Leaf.ok,Leaf.val,Z0,Z1,Z2,Z3,Z4,Z5,Z6,Z7,Z8,Z9,Z10,Z11,Z12,Z13,Z14,Z15,Z16,Z17,Z18,Z19,Z20,Z21,Z22,val_sl]at hr);cbv)
      all_goals first
       |exact rep_l
       |exact rep_bif (by first|rfl|decide+kernel) hi
       |fail)
   |fail
 ·cbv
  repeat' first|(refine LoopVC.un 6 ?_;cbv)|(refine Imp.mk fun h=> ?_;first|exact absurd h (by decide+kernel)|exact absurd (beq_iff_eq.1 h).symm hn|exact absurd (beq_iff_eq.1 h) hn|(exfalso;simp only[nc,decide_eq_true_eq,decide_eq_false_iff_not,Bool.not_eq_true',Bool.not_eq_false']at h;omega)|skip)|(refine Gen.mk fun r hr=> ?_;subst hr;cbv)|(refine AllS.mk fun r hr=> ?_;first|obtain rfl:=List.perm_singleton.1 hr.1|obtain rfl:=List.perm_nil.1 hr.1|skip;cbv)|(refine Stp.mk ?_;cbv)|(refine Gen.mk fun r hr=> ?_;(try simp only[Dat.ok,Dat.dec,Leaf.ok,Leaf.val,Z0,Z1,Z2,Z3,Z4,Z5,Z6,Z7,Z8,Z9,Z10,Z11,Z12,Z13,Z14,Z15,Z16,Z17,Z18,Z19,Z20,Z21,Z22,val_sl,val_nil]at hr);cbv)|exact trivial|rfl|refine Both.mk ?_ ?_|(refine Imp.mk fun h=> ?_;(try dsimp only at h);(try simp only[nc,Int.toNat_natCast,ne_eq,zz]at h);(try simp only[nc]at h))|refine Ob.mk ?_ ?_|refine Chk.mk (by kernel_rfl) ?_|refine Eq'.mk ?_|(refine AllN.mk fun i hi=> ?_;cbv)|(refine AllC.mk fun c hc hcm=> ?_;(try dsimp only at hc);cbv)|(refine AllS.mk fun r hr=> ?_;(try simp only[Dat.ok,Dat.dec,Leaf.ok,Leaf.val,Z0,Z1,Z2,Z3,Z4,Z5,Z6,Z7,Z8,Z9,Z10,Z11,Z12,Z13,Z14,Z15,Z16,Z17,Z18,Z19,Z20,Z21,Z22,val_sl]at hr);cbv)
  all_goals first
   |decide+kernel
   |(unfold InR;decide+kernel)
   |(exact congrArg (fun l:List Bool=>l.getD i Dat.d0) rfl)
   |fail
 ·have et:∀t:Table,(tmL_S t (k:Int)).1=⟨10,[]⟩:=fun t=>by
   unfold tmL_S
   rw[if_neg (fun q=>hn q.symm)]
  cbv
  repeat' first|(refine LoopVC.un 6 ?_;cbv)|(refine Imp.mk fun h=> ?_;first|exact absurd h (by decide+kernel)|exact absurd (beq_iff_eq.1 h).symm hn|exact absurd (beq_iff_eq.1 h) hn|(exfalso;simp only[nc,decide_eq_true_eq,decide_eq_false_iff_not,Bool.not_eq_true',Bool.not_eq_false']at h;omega)|skip)|(refine Gen.mk fun r hr=> ?_;subst hr;cbv)|(refine AllS.mk fun r hr=> ?_;first|obtain rfl:=List.perm_singleton.1 hr.1|obtain rfl:=List.perm_nil.1 hr.1|skip;cbv)|(refine Stp.mk ?_;cbv)|(refine Gen.mk fun r hr=> ?_;(try simp only[Dat.ok,Dat.dec,Leaf.ok,Leaf.val,Z0,Z1,Z2,Z3,Z4,Z5,Z6,Z7,Z8,Z9,Z10,Z11,Z12,Z13,Z14,Z15,Z16,Z17,Z18,Z19,Z20,Z21,Z22,val_sl,val_nil]at hr);cbv)|exact trivial|rfl|refine Both.mk ?_ ?_|(refine Imp.mk fun h=> ?_;(try dsimp only at h);(try simp only[nc,Int.toNat_natCast,ne_eq,zz]at h);(try simp only[nc]at h))|refine Ob.mk ?_ ?_|refine Chk.mk (by kernel_rfl) ?_|refine Eq'.mk ?_|(refine AllN.mk fun i hi=> ?_;cbv)|(refine AllC.mk fun c hc hcm=> ?_;(try dsimp only at hc);cbv)|(refine AllS.mk fun r hr=> ?_;(try simp only[Dat.ok,Dat.dec,Leaf.ok,Leaf.val,Z0,Z1,Z2,Z3,Z4,Z5,Z6,Z7,Z8,Z9,Z10,Z11,Z12,Z13,Z14,Z15,Z16,Z17,Z18,Z19,Z20,Z21,Z22,val_sl]at hr);cbv)
  all_goals first
   |decide+kernel
   |(unfold InR;rw[nc];omega)
   |(unfold InR;decide+kernel)
   |exact Nat.le_refl _
   |exact⟨⟨trivial,rfl,fun i _=>Dat.hok _⟩,rfl,by(first|omega|(rw[nc];omega)),by(first|omega|(rw[nc];omega))⟩
   |(refine⟨trivial,⟨trivial,rfl,fun i _=>Dat.hok _⟩,.inl ⟨rfl, ?_⟩⟩
     simp only[Dat.dec,Leaf.val,Z0,Z1,Z2,Z3,Z4,Z5,Z6,Z7,Z8,Z9,Z10,Z11,Z12,Z13,Z14,Z15,Z16,Z17,Z18,Z19,Z20,Z21,Z22,val_sl]
     exact et _)
   |exact⟨Nat.le_refl _,Nat.le_refl _,by dsimp only;omega,by dsimp only;omega,Nat.le_refl _⟩
   |(refine⟨⟨k+1,by omega⟩, ?_, ?_,rfl,by(try dsimp only);omega⟩
     ·cbv
      repeat' first|(refine Stp.mk ?_;cbv)|(refine Gen.mk fun r hr=> ?_;(try simp only[Dat.ok,Dat.dec,Leaf.ok,Leaf.val,Z0,Z1,Z2,Z3,Z4,Z5,Z6,Z7,Z8,Z9,Z10,Z11,Z12,Z13,Z14,Z15,Z16,Z17,Z18,Z19,Z20,Z21,Z22,val_sl,val_nil]at hr);cbv)|exact trivial|rfl|refine Both.mk ?_ ?_|(refine Imp.mk fun h=> ?_;(try dsimp only at h);(try simp only[nc,Int.toNat_natCast,ne_eq,zz]at h);(try simp only[nc]at h))|refine Ob.mk ?_ ?_|refine Chk.mk (by kernel_rfl) ?_|refine Eq'.mk ?_|(refine AllN.mk fun i hi=> ?_;cbv)|(refine AllC.mk fun c hc hcm=> ?_;(try dsimp only at hc);cbv)|(refine AllS.mk fun r hr=> ?_;(try simp only[Dat.ok,Dat.dec,Leaf.ok,Leaf.val,Z0,Z1,Z2,Z3,Z4,Z5,Z6,Z7,Z8,Z9,Z10,Z11,Z12,Z13,Z14,Z15,Z16,Z17,Z18,Z19,Z20,Z21,Z22,val_sl]at hr);cbv)
      all_goals first
       |exact rep_l
       |fail
     ·cbv
      repeat' first|(refine Stp.mk ?_;cbv)|(refine Gen.mk fun r hr=> ?_;(try simp only[Dat.ok,Dat.dec,Leaf.ok,Leaf.val,Z0,Z1,Z2,Z3,Z4,Z5,Z6,Z7,Z8,Z9,Z10,Z11,Z12,Z13,Z14,Z15,Z16,Z17,Z18,Z19,Z20,Z21,Z22,val_sl,val_nil]at hr);cbv)|exact trivial|rfl|refine Both.mk ?_ ?_|(refine Imp.mk fun h=> ?_;(try dsimp only at h);(try simp only[nc,Int.toNat_natCast,ne_eq,zz]at h);(try simp only[nc]at h))|refine Ob.mk ?_ ?_|refine Chk.mk (by kernel_rfl) ?_|refine Eq'.mk ?_|(refine AllN.mk fun i hi=> ?_;cbv)|(refine AllC.mk fun c hc hcm=> ?_;(try dsimp only at hc);cbv)|(refine AllS.mk fun r hr=> ?_;(try simp only[Dat.ok,Dat.dec,Leaf.ok,Leaf.val,Z0,Z1,Z2,Z3,Z4,Z5,Z6,Z7,Z8,Z9,Z10,Z11,Z12,Z13,Z14,Z15,Z16,Z17,Z18,Z19,Z20,Z21,Z22,val_sl]at hr);cbv)
      all_goals first
       |exact rep_l
       |exact rep_bif (by first|rfl|decide+kernel) hi
       |fail)
   |fail
end Go.Proofs.YtiaiifcgbjlfoaaGreatDoor
