/- What lives at the top: a plan, a program, a number. -/
import Derived.Test.YtiaiifcgbjlfoaaGreatDoorJudN
import Derived.Test.YtiaiifcgbjlfoaaGreatDoorPgr6
import Derived.Test.YtiaiifcgbjlfoaaGreatDoorPairX
set_option linter.all false
namespace Go.Proofs.YtiaiifcgbjlfoaaGreatDoor
open Go Go.Abs
def juF_R (r:Th (Table×(List Bool)×Int)):AV:= .tup [.agg [.i .i64 fun _=>(r ()).1.frame,Leaf.av fun _=>(r ()).1.windows],Leaf.av fun _=>(r ()).2.1,.i .i64 fun _=>(r ()).2.2]
def juF_D:Det:=fun A=>match A with
 |[.agg p]=>some (fun _=>Dat.ok Plan p∧juL_P (Dat.dec p),juF_R fun _=>juL_S (Dat.dec p))
 |_=>none
theorem juF_okF:∀A p r,juF_D A=some (p,r)→p ()→FrOk Tryz.prog 23 A r:=fun A p r h hp0=>by
 unfold juF_D at h
 split at h
 ·rename_i p
  cases h
  obtain⟨g0,hp⟩:=hp0
  exact FnOk.fresh (A:=[.agg p]) (FnOk.pre (A':=[.agg (Dat.enc fun _=>(Dat.dec p:Plan))]) (juL_vc (Dat.dec p) hp) (.mk (Dat.hle _ g0) (trivial))) rfl (q:=_) (d:=_) rfl (by intro p hp;repeat (first|(cases hp;done)|(rcases List.mem_cons.1 hp with rfl|hp;· exact Nat.le_refl _))) rfl rfl ⟨.mk fun _ _=>rfl,.mk fun _ _=>rfl,trivial⟩
 ·cases h
def parseF_R (r:Th ((List Ins)×Int×Int)):AV:= .tup [Leaf.av fun _=>(r ()).1,.i .i64 fun _=>(r ()).2.1,.i .i64 fun _=>(r ()).2.2]
def parseF_D:Det:=fun A=>match A with
 |[.s s]=>some (fun _=>True,parseF_R fun _=>parseV (s ()))
 |_=>none
theorem parseF_okF:∀A p r,parseF_D A=some (p,r)→p ()→FrOk Tryz.prog 13 A r:=fun A p r h hp0=>by
 unfold parseF_D at h
 split at h
 ·rename_i s
  cases h
  exact FnOk.fresh (A:=[.s s]) (FnOk.pre (A':=[.s fun _=>s ()]) (parseC2_vc (s ())) (.mk (.mk rfl) (trivial))) rfl (q:=_) (d:=_) rfl (by intro p hp;repeat (first|(cases hp;done)|(rcases List.mem_cons.1 hp with rfl|hp;· exact Nat.le_refl _))) rfl rfl ⟨.mk fun _ _=>rfl,trivial⟩
 ·cases h
structure eqE_X (l m:List Emit) where
 k:Nat
 hk:k≤l.length
 hv:∀j,j<k→l.getD j Dat.d0=m.getD j Dat.d0
def eqE_R (r:Th (Bool)):AV:= .b fun _=>(r ())
def eqE_S (l:(List Emit)) (m:(List Emit)):Bool:=decide (l=m)
def eqE_P (l:(List Emit)) (m:(List Emit)):Prop:=l.length≤9223372036854775807
def eqE_D:Det:=fun A=>match A with
 |[l,m]=>some (fun _=>Leaf.ok (List Emit) l∧Leaf.ok (List Emit) m∧eqE_P (Leaf.val l) (Leaf.val m),eqE_R fun _=>eqE_S (Leaf.val l) (Leaf.val m))
 |_=>none
set_option maxRecDepth 100000 in
set_option maxHeartbeats 4000000 in
theorem eqE_vc (l:(List Emit)) (m:(List Emit)) (hp:eqE_P l m):FnOk Tryz.prog 24 [Leaf.av fun _=>l,Leaf.av fun _=>m] [] (outA (eqE_R fun _=>eqE_S l m) []):=by
 refine fn_ok envOk zl noCon_ok (draws_ok envOk zl noDet_ok mixed) (keep:=[0,1,4,5,10,12,13,14,24]) Tryz.func24 rfl ?_
 have hp':l.length≤9223372036854775807:=hp
 have fin:∀(b:Bool) H kl,b=decide (l=m)→outA (eqE_R fun _=>eqE_S l m) [] (.bc b) H kl:=by
  rintro b H kl rfl
  cbv
  repeat' first|(refine Stp.mk ?_;cbv)|(refine Gen.mk fun r hr=> ?_;(try simp only[Dat.ok,Dat.dec,Leaf.ok,Leaf.val,Z0,Z1,Z2,Z3,Z4,Z5,Z6,Z7,Z8,Z9,Z10,Z11,Z12,Z13,Z14,Z15,Z16,Z17,Z18,Z19,Z20,Z21,Z22,val_sl,val_nil]at hr);cbv)|exact trivial|rfl|refine Both.mk ?_ ?_|(refine Imp.mk fun h=> ?_;(try dsimp only at h);(try simp only[nc,Int.toNat_natCast,ne_eq,zz]at h);(try simp only[nc]at h))|refine Ob.mk ?_ ?_|refine Chk.mk (by kernel_rfl) ?_|refine Eq'.mk ?_|(refine AllN.mk fun i hi=> ?_;cbv)|(refine AllC.mk fun c hc hcm=> ?_;(try dsimp only at hc);cbv)|(refine AllS.mk fun r hr=> ?_;(try simp only[Dat.ok,Dat.dec,Leaf.ok,Leaf.val,Z0,Z1,Z2,Z3,Z4,Z5,Z6,Z7,Z8,Z9,Z10,Z11,Z12,Z13,Z14,Z15,Z16,Z17,Z18,Z19,Z20,Z21,Z22,val_sl]at hr);cbv)
 generalize outA (eqE_R fun _=>eqE_S l m) []=K at fin
 cbv
 refine Both.mk (Imp.mk fun h1=> ?_) (Imp.mk fun h1=> ?_)
 all_goals (refine Stp.mk ?_;cbv;(try dsimp only at h1);(try simp only[nc,Int.toNat_natCast,ne_eq,zz]at h1);(try simp only[nc]at h1))
 ·refine fin _ _ _ ?_
  exact(decide_eq_false (fun h=>by subst h;omega)).symm
 ·have hlen:l.length=m.length:=by omega
  refine LoopVC.frame [4,5,13,14,24] (eqE_X l m) (fun x=>[(13,.i .i64 fun _=>x.k)]) (fun _=>[]) [] (fun x=>l.length-x.k)
   ⟨0,Nat.zero_le _,fun j hj=>absurd hj (Nat.not_lt_zero _)⟩ rfl (fun _=>rfl) ?_ ?_ fun⟨k,hk,hv⟩=> ?_
  ·cbv
   repeat' first|(refine Stp.mk ?_;cbv)|(refine Gen.mk fun r hr=> ?_;(try simp only[Dat.ok,Dat.dec,Leaf.ok,Leaf.val,Z0,Z1,Z2,Z3,Z4,Z5,Z6,Z7,Z8,Z9,Z10,Z11,Z12,Z13,Z14,Z15,Z16,Z17,Z18,Z19,Z20,Z21,Z22,val_sl,val_nil]at hr);cbv)|exact trivial|rfl|refine Both.mk ?_ ?_|(refine Imp.mk fun h=> ?_;(try dsimp only at h);(try simp only[nc,Int.toNat_natCast,ne_eq,zz]at h);(try simp only[nc]at h))|refine Ob.mk ?_ ?_|refine Chk.mk (by kernel_rfl) ?_|refine Eq'.mk ?_|(refine AllN.mk fun i hi=> ?_;cbv)|(refine AllC.mk fun c hc hcm=> ?_;(try dsimp only at hc);cbv)|(refine AllS.mk fun r hr=> ?_;(try simp only[Dat.ok,Dat.dec,Leaf.ok,Leaf.val,Z0,Z1,Z2,Z3,Z4,Z5,Z6,Z7,Z8,Z9,Z10,Z11,Z12,Z13,Z14,Z15,Z16,Z17,Z18,Z19,Z20,Z21,Z22,val_sl]at hr);cbv)
  ·cbv
  ·cbv
   repeat' first|(refine Stp.mk ?_;cbv)|(refine Gen.mk fun r hr=> ?_;(try simp only[Dat.ok,Dat.dec,Leaf.ok,Leaf.val,Z0,Z1,Z2,Z3,Z4,Z5,Z6,Z7,Z8,Z9,Z10,Z11,Z12,Z13,Z14,Z15,Z16,Z17,Z18,Z19,Z20,Z21,Z22,val_sl,val_nil]at hr);cbv)|exact trivial|rfl|refine Both.mk ?_ ?_|(refine Imp.mk fun h=> ?_;(try dsimp only at h);(try simp only[nc,Int.toNat_natCast,ne_eq,zz]at h);(try simp only[nc]at h))|refine Ob.mk ?_ ?_|refine Chk.mk (by kernel_rfl) ?_|refine Eq'.mk ?_|(refine AllN.mk fun i hi=> ?_;cbv)|(refine AllC.mk fun c hc hcm=> ?_;(try dsimp only at hc);cbv)|(refine AllS.mk fun r hr=> ?_;(try simp only[Dat.ok,Dat.dec,Leaf.ok,Leaf.val,Z0,Z1,Z2,Z3,Z4,Z5,Z6,Z7,Z8,Z9,Z10,Z11,Z12,Z13,Z14,Z15,Z16,Z17,Z18,Z19,Z20,Z21,Z22,val_sl]at hr);cbv)
   all_goals ((try dsimp only at*);(try simp only[nc,Int.toNat_natCast,ne_eq,zz]at*);(try simp only[nc]at*))
   all_goals first
    |omega
    |(unfold InR;omega)
    |(refine fin _ _ _ (decide_eq_true ?_).symm
      apply List.ext_getElem hlen
      intro i h1 h2
      have:=hv i (by omega)
      simpa[h1,h2]using this)
    |(refine fin _ _ _ (decide_eq_false fun h=> ?_).symm
      subst h
      simp_all;done)
    |skip
   all_goals (
    refine⟨⟨k+1,by omega,fun j hj=> ?_⟩, ?_,trivial,rfl,by(try dsimp only);omega⟩
    ·rcases Nat.lt_succ_iff_lt_or_eq.1 hj with hj|rfl
     ·exact hv j hj
     ·first|assumption|(generalize l.getD j Dat.d0=a at*;generalize m.getD j Dat.d0=b at*;cases a;cases b;simp_all;done)
    ·cbv
     repeat' first|(refine Stp.mk ?_;cbv)|(refine Gen.mk fun r hr=> ?_;(try simp only[Dat.ok,Dat.dec,Leaf.ok,Leaf.val,Z0,Z1,Z2,Z3,Z4,Z5,Z6,Z7,Z8,Z9,Z10,Z11,Z12,Z13,Z14,Z15,Z16,Z17,Z18,Z19,Z20,Z21,Z22,val_sl,val_nil]at hr);cbv)|exact trivial|rfl|refine Both.mk ?_ ?_|(refine Imp.mk fun h=> ?_;(try dsimp only at h);(try simp only[nc,Int.toNat_natCast,ne_eq,zz]at h);(try simp only[nc]at h))|refine Ob.mk ?_ ?_|refine Chk.mk (by kernel_rfl) ?_|refine Eq'.mk ?_|(refine AllN.mk fun i hi=> ?_;cbv)|(refine AllC.mk fun c hc hcm=> ?_;(try dsimp only at hc);cbv)|(refine AllS.mk fun r hr=> ?_;(try simp only[Dat.ok,Dat.dec,Leaf.ok,Leaf.val,Z0,Z1,Z2,Z3,Z4,Z5,Z6,Z7,Z8,Z9,Z10,Z11,Z12,Z13,Z14,Z15,Z16,Z17,Z18,Z19,Z20,Z21,Z22,val_sl]at hr);cbv))
theorem eqE_ok:PcOk Tryz.prog 24 (detPC eqE_D):=det_okA fun A p r h hp0=>by
 unfold eqE_D at h
 split at h
 ·rename_i l m
  cases h
  obtain⟨g0,g1,hp⟩:=hp0
  exact⟨rfl,FnOk.pre (A':=[Leaf.av fun _=>(Leaf.val l:(List Emit)),Leaf.av fun _=>(Leaf.val m:(List Emit))]) (eqE_vc (Leaf.val l) (Leaf.val m) hp) (.mk (Leaf.hle _ g0) (.mk (Leaf.hle _ g1) (trivial)))⟩
 ·cases h
set_option maxRecDepth 100000
noncomputable def cLv:FuncId→Con:=fun f=>match f with
 |23=>frCon juF_D
 |13=>frCon parseF_D
 |15=>frCon newF_D
 |10=>frCon runF_D
 |24=>pureCon (detPC eqE_D)
 |_=>fun _ _ _=>Bad 1001
theorem cLv_ok:ConOk Tryz.prog cLv:=fun f A H K h=>by
 unfold cLv at h
 split at h
 ·exact⟨⟨Tryz.f23,Tryz.func23,by kernel_rfl,by kernel_rfl⟩,frCon_ok juF_okF h⟩
 ·exact⟨⟨Tryz.f13,Tryz.func13,by kernel_rfl,by kernel_rfl⟩,frCon_ok parseF_okF h⟩
 ·exact⟨⟨Tryz.f15,Tryz.func15,by kernel_rfl,by kernel_rfl⟩,frCon_ok newF_okF h⟩
 ·exact⟨⟨Tryz.f10,Tryz.func10,by kernel_rfl,by kernel_rfl⟩,frCon_ok runF_okF h⟩
 ·exact⟨⟨Tryz.f24,Tryz.func24,by kernel_rfl,by kernel_rfl⟩,pureCon_ok eqE_ok h⟩
 ·cases h
def dLv:FuncId→Option Dt:=fun f=>match f with
 |_=>none
theorem dLv_ok:DetOk Tryz.prog dLv:=fun f d h=>by
 unfold dLv at h
 split at h
 ·cases h
def livT_R (r:Th (Bool)):AV:= .bc true
def livT_D:Det:=fun A=>match A with
 |[]=>some (fun _=>True,livT_R fun _=>true)
 |_=>none
set_option maxRecDepth 100000 in
set_option maxHeartbeats 4000000 in
theorem livT_vc:FnOk Tryz.prog 7 [] [] (outA (livT_R fun _=>true) []):=by
 refine fn_ok envOk zl cLv_ok (draws_ok envOk zl dLv_ok mixed) (keep:=[0,1,2,3,4,6,8,11]) Tryz.func7 rfl ?_
 cbv
 repeat' first|(refine LoopVC.un 6 ?_;cbv)|(refine Imp.mk fun h=> ?_;first|exact absurd h (by decide+kernel)|exact absurd (beq_iff_eq.1 h).symm hn|exact absurd (beq_iff_eq.1 h) hn|(exfalso;simp only[nc,decide_eq_true_eq,decide_eq_false_iff_not,Bool.not_eq_true',Bool.not_eq_false']at h;omega)|skip)|(refine Gen.mk fun r hr=> ?_;subst hr;cbv)|(refine AllS.mk fun r hr=> ?_;first|obtain rfl:=List.perm_singleton.1 hr.1|obtain rfl:=List.perm_nil.1 hr.1|skip;cbv)|(refine Stp.mk ?_;cbv)|(refine Gen.mk fun r hr=> ?_;(try simp only[Dat.ok,Dat.dec,Leaf.ok,Leaf.val,Z0,Z1,Z2,Z3,Z4,Z5,Z6,Z7,Z8,Z9,Z10,Z11,Z12,Z13,Z14,Z15,Z16,Z17,Z18,Z19,Z20,Z21,Z22,val_sl,val_nil]at hr);cbv)|exact trivial|rfl|refine Both.mk ?_ ?_|(refine Imp.mk fun h=> ?_;(try dsimp only at h);(try simp only[nc,Int.toNat_natCast,ne_eq,zz]at h);(try simp only[nc]at h))|refine Ob.mk ?_ ?_|refine Chk.mk (by kernel_rfl) ?_|refine Eq'.mk ?_|(refine AllN.mk fun i hi=> ?_;cbv)|(refine AllC.mk fun c hc hcm=> ?_;(try dsimp only at hc);cbv)|(refine AllS.mk fun r hr=> ?_;(try simp only[Dat.ok,Dat.dec,Leaf.ok,Leaf.val,Z0,Z1,Z2,Z3,Z4,Z5,Z6,Z7,Z8,Z9,Z10,Z11,Z12,Z13,Z14,Z15,Z16,Z17,Z18,Z19,Z20,Z21,Z22,val_sl]at hr);cbv)
 all_goals first
  |exact Nat.le_refl _
  |decide+kernel
  |exact⟨⟨trivial,⟨rfl,fun _ _=>⟨trivial,trivial,trivial,trivial⟩⟩,rfl,fun _ _=>⟨trivial,trivial,trivial,trivial⟩⟩,rfl⟩
  |exact⟨⟨rfl,fun i _=>Dat.hok _⟩,⟨trivial,⟨rfl,fun i _=>Dat.hok _⟩,trivial,trivial⟩,⟨rfl,fun _ _=>trivial⟩,show _≤_ by decide+kernel,show _≤_ by decide+kernel,show _≤_ by decide+kernel⟩
  |exact⟨⟨rfl,fun i _=>Dat.hok _⟩,⟨rfl,fun _ _=>⟨trivial,trivial⟩⟩,show _≤_ by decide+kernel⟩
  |fail
theorem livT_ok:PcOk Tryz.prog 7 (detPC livT_D):=det_okA fun A p r h hp0=>by
 unfold livT_D at h
 split at h
 ·cases h
  exact⟨rfl,FnOk.pre (A':=[]) (livT_vc) (trivial)⟩
 ·cases h
end Go.Proofs.YtiaiifcgbjlfoaaGreatDoor
