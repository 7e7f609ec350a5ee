/- pair: an act: walked (4). -/
import Derived.Test.YtiaiifcgbjlfoaaGreatDoorPairW0
set_option linter.all false
namespace Go.Proofs.YtiaiifcgbjlfoaaGreatDoor
open Go Go.Abs
set_option maxRecDepth 100000 in
set_option maxHeartbeats 4000000 in
theorem act_vc4 (code:List Ins) (n:Int) (c:Nat) (p:Pair) (a:PairAct) (hc:checkP code=0) (hP:PrOk code n c p) (hn:n≤4) (hcc:c<100) (hk:a.kind=4) (R:Pair×Int) (hR:actA code p a=R):
  FnOk Tryz.prog 48 [.ptr 0 0,.agg [.i .i64 fun _=>a.kind,.i .i64 fun _=>a.who,.i .i64 fun _=>a.n]] (prO code fun _=>p) (outLe 4 (.i .i64 fun _=>R.2) (prO code fun _=>R.1) [1,2,3]):=by
 generalize hK:outLe 4 (.i .i64 fun _=>R.2) (prO code fun _=>R.1) [1,2,3]=K
 have hlog:=hP.ll
 have hsv:=hP.ls
 have hgl:=hP.gl
 have hcl:=check_len hc
 have NBn:∀w:Int,0≤w→w<p.nodes.length→NB p.log (p.nodes.getD w.toNat Dat.d0):=fun w h0 h1=>nok_nb hc hP.lg (by omega) (by omega) (hP.at h0 h1)
 have NBs:∀i:Int,0≤i→i<p.saved.length→NB p.log (p.saved.getD i.toNat Dat.d0):=fun i h0 h1=>nok_nb hc hP.lg (by omega) (by omega) (hP.sd _ (getD_memN (by omega)))
 refine fn_ok envOk zl cAct_ok (drawsN_ok envOk zl dAct_ok mixed) (keep:=[0,1,3,4,5,6,7,8,11,22,36,62,69]) Tryz.func48 rfl ?_
 cbv
 repeat' first|(show Stp _;exfalso;first|omega|(exact h ‹_›)|(exact absurd ‹_› h)|(exact Bool.false_ne_true (h.symm.trans (show _=true by assumption))))|(refine Stp.mk ?_;cbv)|(refine Gen.mk fun r hr=> ?_;(try simp only[Dat.ok,Dat.dec,Leaf.ok,Leaf.val,Z0,Z1,Z2,Z3,Z4,Z5,Z6,Z7,Z8,Z9,Z10,Z11,Z12,Z13,Z14,Z15,Z16,Z17,Z18,Z19,Z20,Z21,Z22,val_sl,val_nil]at hr);cbv)|exact trivial|rfl|refine Both.mk ?_ ?_|(refine Imp.mk fun h=> ?_;(try dsimp only at h);(try simp only[nc,Int.toNat_natCast,ne_eq,zz]at h);(try simp only[nc]at h))|refine Ob.mk ?_ ?_|refine Chk.mk (by kernel_rfl) ?_|refine Eq'.mk ?_|(refine AllN.mk fun i hi=> ?_;cbv)|(refine AllC.mk fun c hc hcm=> ?_;(try dsimp only at hc);cbv)|(refine AllS.mk fun r hr=> ?_;(try simp only[Dat.ok,Dat.dec,Leaf.ok,Leaf.val,Z0,Z1,Z2,Z3,Z4,Z5,Z6,Z7,Z8,Z9,Z10,Z11,Z12,Z13,Z14,Z15,Z16,Z17,Z18,Z19,Z20,Z21,Z22,val_sl]at hr);cbv)
 all_goals ((try dsimp only at*);(try simp only[nc,Int.toNat_natCast,ne_eq,zz]at*);(try simp only[nc]at*))
 all_goals try simp only[Dat.dec,Leaf.val,Z0,Z1,Z2,Z3,Z4,Z5,Z6,Z7,Z8,Z9,Z10,Z11,Z12,Z13,Z14,Z15,Z16,Z17,Z18,Z19,Z20,Z21,Z22,val_sl]at*
 all_goals try (exfalso;exact absurd trivial (by assumption))
 all_goals try first
  |omega
  |exact⟨by omega,by omega⟩
  |exact Dat.hok fun _=>p.fence
  |exact⟨Nat.le_refl _,Nat.le_refl _,by omega,by omega,Nat.le_refl _⟩
  |exact⟨Dat.hok fun _=>p.gate,by show(_:Nat)≤_;omega⟩
 all_goals try (
  show K _ _ _
  have q1:a.kind=1:=by assumption
  first
   |(have q2:¬a.n=IntKind.i64.wrap (IntKind.i32.wrap a.n):=by assumption
     have eR:=hR.symm.trans (act_i0 (code:=code) (p:=p) q1 q2)
     subst eR
     subst hK
     cbv
     repeat' first|(refine Stp.mk ?_;cbv)|(refine Gen.mk fun r hr=> ?_;(try simp only[Dat.ok,Dat.dec,Leaf.ok,Leaf.val,Z0,Z1,Z2,Z3,Z4,Z5,Z6,Z7,Z8,Z9,Z10,Z11,Z12,Z13,Z14,Z15,Z16,Z17,Z18,Z19,Z20,Z21,Z22,val_sl,val_nil]at hr);cbv)|exact trivial|rfl|refine Both.mk ?_ ?_|(refine Imp.mk fun h=> ?_;(try dsimp only at h);(try simp only[nc,Int.toNat_natCast,ne_eq,zz]at h);(try simp only[nc]at h))|refine Ob.mk ?_ ?_|refine Chk.mk (by kernel_rfl) ?_|refine Eq'.mk ?_|(refine AllN.mk fun i hi=> ?_;cbv)|(refine AllC.mk fun c hc hcm=> ?_;(try dsimp only at hc);cbv)|(refine AllS.mk fun r hr=> ?_;(try simp only[Dat.ok,Dat.dec,Leaf.ok,Leaf.val,Z0,Z1,Z2,Z3,Z4,Z5,Z6,Z7,Z8,Z9,Z10,Z11,Z12,Z13,Z14,Z15,Z16,Z17,Z18,Z19,Z20,Z21,Z22,val_sl]at hr);cbv)
     done)
   |(have q2:a.n=IntKind.i64.wrap (IntKind.i32.wrap a.n):=by assumption
     have eR:=hR.symm.trans (act_i1 (code:=code) (p:=p) q1 q2)
     subst eR
     subst hK
     cbv
     repeat' first|(refine Stp.mk ?_;cbv)|(refine Gen.mk fun r hr=> ?_;(try simp only[Dat.ok,Dat.dec,Leaf.ok,Leaf.val,Z0,Z1,Z2,Z3,Z4,Z5,Z6,Z7,Z8,Z9,Z10,Z11,Z12,Z13,Z14,Z15,Z16,Z17,Z18,Z19,Z20,Z21,Z22,val_sl,val_nil]at hr);cbv)|exact trivial|rfl|refine Both.mk ?_ ?_|(refine Imp.mk fun h=> ?_;(try dsimp only at h);(try simp only[nc,Int.toNat_natCast,ne_eq,zz]at h);(try simp only[nc]at h))|refine Ob.mk ?_ ?_|refine Chk.mk (by kernel_rfl) ?_|refine Eq'.mk ?_|(refine AllN.mk fun i hi=> ?_;cbv)|(refine AllC.mk fun c hc hcm=> ?_;(try dsimp only at hc);cbv)|(refine AllS.mk fun r hr=> ?_;(try simp only[Dat.ok,Dat.dec,Leaf.ok,Leaf.val,Z0,Z1,Z2,Z3,Z4,Z5,Z6,Z7,Z8,Z9,Z10,Z11,Z12,Z13,Z14,Z15,Z16,Z17,Z18,Z19,Z20,Z21,Z22,val_sl]at hr);cbv)
     all_goals first
      |rfl
      |(simp;done)
      |(dsimp only;rw[gd_snoc _ _ _ _ hi];done)
      |fail))
 all_goals try (
  show K _ _ _
  have q1:¬a.kind=1:=by assumption
  have q2:a.kind<1∨7<a.kind:=by omega
  have eR:=hR.symm.trans (act_b (code:=code) (p:=p) q1 q2)
  subst eR
  subst hK
  cbv
  repeat' first|(refine Stp.mk ?_;cbv)|(refine Gen.mk fun r hr=> ?_;(try simp only[Dat.ok,Dat.dec,Leaf.ok,Leaf.val,Z0,Z1,Z2,Z3,Z4,Z5,Z6,Z7,Z8,Z9,Z10,Z11,Z12,Z13,Z14,Z15,Z16,Z17,Z18,Z19,Z20,Z21,Z22,val_sl,val_nil]at hr);cbv)|exact trivial|rfl|refine Both.mk ?_ ?_|(refine Imp.mk fun h=> ?_;(try dsimp only at h);(try simp only[nc,Int.toNat_natCast,ne_eq,zz]at h);(try simp only[nc]at h))|refine Ob.mk ?_ ?_|refine Chk.mk (by kernel_rfl) ?_|refine Eq'.mk ?_|(refine AllN.mk fun i hi=> ?_;cbv)|(refine AllC.mk fun c hc hcm=> ?_;(try dsimp only at hc);cbv)|(refine AllS.mk fun r hr=> ?_;(try simp only[Dat.ok,Dat.dec,Leaf.ok,Leaf.val,Z0,Z1,Z2,Z3,Z4,Z5,Z6,Z7,Z8,Z9,Z10,Z11,Z12,Z13,Z14,Z15,Z16,Z17,Z18,Z19,Z20,Z21,Z22,val_sl]at hr);cbv)
  done)
 all_goals try (
  show K _ _ _
  have q1:¬a.kind=1:=by assumption
  have q3:1≤a.kind∧a.kind≤7:=by omega
  have q2:a.who<0∨(p.nodes.length:Int)≤a.who:=by omega
  have eR:=hR.symm.trans (act_w (code:=code) (p:=p) q1 q3 q2)
  subst eR
  subst hK
  cbv
  repeat' first|(refine Stp.mk ?_;cbv)|(refine Gen.mk fun r hr=> ?_;(try simp only[Dat.ok,Dat.dec,Leaf.ok,Leaf.val,Z0,Z1,Z2,Z3,Z4,Z5,Z6,Z7,Z8,Z9,Z10,Z11,Z12,Z13,Z14,Z15,Z16,Z17,Z18,Z19,Z20,Z21,Z22,val_sl,val_nil]at hr);cbv)|exact trivial|rfl|refine Both.mk ?_ ?_|(refine Imp.mk fun h=> ?_;(try dsimp only at h);(try simp only[nc,Int.toNat_natCast,ne_eq,zz]at h);(try simp only[nc]at h))|refine Ob.mk ?_ ?_|refine Chk.mk (by kernel_rfl) ?_|refine Eq'.mk ?_|(refine AllN.mk fun i hi=> ?_;cbv)|(refine AllC.mk fun c hc hcm=> ?_;(try dsimp only at hc);cbv)|(refine AllS.mk fun r hr=> ?_;(try simp only[Dat.ok,Dat.dec,Leaf.ok,Leaf.val,Z0,Z1,Z2,Z3,Z4,Z5,Z6,Z7,Z8,Z9,Z10,Z11,Z12,Z13,Z14,Z15,Z16,Z17,Z18,Z19,Z20,Z21,Z22,val_sl]at hr);cbv)
  done)
 all_goals try (
  exfalso
  have qz:okF (fun _=>a.kind) [2,3,4,6]=false:=by assumption
  simp only[okF,hk]at qz
  exact absurd qz (by decide))
 all_goals have h0:0≤a.who:=by omega
 all_goals have h1:a.who<p.nodes.length:=by omega
 all_goals have B:=NBn a.who h0 h1
 all_goals have b1:=B.r0
 all_goals have b2:=B.r1
 all_goals have b3:=B.s0
 all_goals have b4:=B.s1
 all_goals have b5:=B.ol
 all_goals have b6:=B.rg
 all_goals have inE:=in_eq b1 b2
 all_goals try simp only[inE]at*
 all_goals try (
  show K _ _ _
  have q:a.kind=4:=by assumption
  first
   |(have k1:(p.nodes.getD a.who.toNat Dat.d0).epoch=0:=by assumption
     have eR:=hR.symm.trans ((act_4 (code:=code) q h0 h1).trans (send_0 k1))
     subst eR
     have hw:a.who.toNat<p.nodes.length:=by omega
     clear hR NBn NBs B inE b1 b2 b3 b4 b5 b6 hlog hsv hgl hcl hP
     subst hK
     cbv
     repeat' first|(refine Stp.mk ?_;cbv)|(refine Gen.mk fun r hr=> ?_;(try simp only[Dat.ok,Dat.dec,Leaf.ok,Leaf.val,Z0,Z1,Z2,Z3,Z4,Z5,Z6,Z7,Z8,Z9,Z10,Z11,Z12,Z13,Z14,Z15,Z16,Z17,Z18,Z19,Z20,Z21,Z22,val_sl,val_nil]at hr);cbv)|exact trivial|rfl|refine Both.mk ?_ ?_|(refine Imp.mk fun h=> ?_;(try dsimp only at h);(try simp only[nc,Int.toNat_natCast,ne_eq,zz]at h);(try simp only[nc]at h))|refine Ob.mk ?_ ?_|refine Chk.mk (by kernel_rfl) ?_|refine Eq'.mk ?_|(refine AllN.mk fun i hi=> ?_;cbv)|(refine AllC.mk fun c hc hcm=> ?_;(try dsimp only at hc);cbv)|(refine AllS.mk fun r hr=> ?_;(try simp only[Dat.ok,Dat.dec,Leaf.ok,Leaf.val,Z0,Z1,Z2,Z3,Z4,Z5,Z6,Z7,Z8,Z9,Z10,Z11,Z12,Z13,Z14,Z15,Z16,Z17,Z18,Z19,Z20,Z21,Z22,val_sl]at hr);cbv)
     all_goals try dsimp only
     all_goals first
      |(refine bif_eq (fun q=> ?_) fun q=> ?_
        ·rw[of_decide_eq_true q]
        ·rfl)
      |(rw[h];done)
      |fail)
   |(have k1:¬(p.nodes.getD a.who.toNat Dat.d0).epoch=0:=by assumption
     have k2:(p.nodes.getD a.who.toNat Dat.d0).sent=(p.nodes.getD a.who.toNat Dat.d0).outs.length:=by assumption
     have eR:=hR.symm.trans ((act_4 (code:=code) q h0 h1).trans (send_1 k1 k2))
     subst eR
     have hw:a.who.toNat<p.nodes.length:=by omega
     clear hR NBn NBs B inE b1 b2 b3 b4 b5 b6 hlog hsv hgl hcl hP
     subst hK
     cbv
     repeat' first|(refine Stp.mk ?_;cbv)|(refine Gen.mk fun r hr=> ?_;(try simp only[Dat.ok,Dat.dec,Leaf.ok,Leaf.val,Z0,Z1,Z2,Z3,Z4,Z5,Z6,Z7,Z8,Z9,Z10,Z11,Z12,Z13,Z14,Z15,Z16,Z17,Z18,Z19,Z20,Z21,Z22,val_sl,val_nil]at hr);cbv)|exact trivial|rfl|refine Both.mk ?_ ?_|(refine Imp.mk fun h=> ?_;(try dsimp only at h);(try simp only[nc,Int.toNat_natCast,ne_eq,zz]at h);(try simp only[nc]at h))|refine Ob.mk ?_ ?_|refine Chk.mk (by kernel_rfl) ?_|refine Eq'.mk ?_|(refine AllN.mk fun i hi=> ?_;cbv)|(refine AllC.mk fun c hc hcm=> ?_;(try dsimp only at hc);cbv)|(refine AllS.mk fun r hr=> ?_;(try simp only[Dat.ok,Dat.dec,Leaf.ok,Leaf.val,Z0,Z1,Z2,Z3,Z4,Z5,Z6,Z7,Z8,Z9,Z10,Z11,Z12,Z13,Z14,Z15,Z16,Z17,Z18,Z19,Z20,Z21,Z22,val_sl]at hr);cbv)
     all_goals try dsimp only
     all_goals first
      |(refine bif_eq (fun q=> ?_) fun q=> ?_
        ·rw[of_decide_eq_true q]
        ·rfl)
      |(rw[h];done)
      |fail)
   |(have k1:¬(p.nodes.getD a.who.toNat Dat.d0).epoch=0:=by assumption
     have k2:¬(p.nodes.getD a.who.toNat Dat.d0).sent=(p.nodes.getD a.who.toNat Dat.d0).outs.length:=by assumption
     have k3:¬(handG p.gate ⟨a.who,(p.nodes.getD a.who.toNat Dat.d0).epoch,(p.nodes.getD a.who.toNat Dat.d0).sent,textV ((p.nodes.getD a.who.toNat Dat.d0).outs.getD (p.nodes.getD a.who.toNat Dat.d0).sent.toNat Dat.d0)⟩).2.2=0:=by assumption
     have k4:(handG p.gate ⟨a.who,(p.nodes.getD a.who.toNat Dat.d0).epoch,(p.nodes.getD a.who.toNat Dat.d0).sent,textV ((p.nodes.getD a.who.toNat Dat.d0).outs.getD (p.nodes.getD a.who.toNat Dat.d0).sent.toNat Dat.d0)⟩).2.2=9:=by assumption
     have eR:=hR.symm.trans ((act_4 (code:=code) q h0 h1).trans (send_2 k1 k2 k3 k4))
     subst eR
     have hw:a.who.toNat<p.nodes.length:=by omega
     clear hR NBn NBs B inE b1 b2 b3 b4 b5 b6 hlog hsv hgl hcl hP
     subst hK
     cbv
     repeat' first|(refine Stp.mk ?_;cbv)|(refine Gen.mk fun r hr=> ?_;(try simp only[Dat.ok,Dat.dec,Leaf.ok,Leaf.val,Z0,Z1,Z2,Z3,Z4,Z5,Z6,Z7,Z8,Z9,Z10,Z11,Z12,Z13,Z14,Z15,Z16,Z17,Z18,Z19,Z20,Z21,Z22,val_sl,val_nil]at hr);cbv)|exact trivial|rfl|refine Both.mk ?_ ?_|(refine Imp.mk fun h=> ?_;(try dsimp only at h);(try simp only[nc,Int.toNat_natCast,ne_eq,zz]at h);(try simp only[nc]at h))|refine Ob.mk ?_ ?_|refine Chk.mk (by kernel_rfl) ?_|refine Eq'.mk ?_|(refine AllN.mk fun i hi=> ?_;cbv)|(refine AllC.mk fun c hc hcm=> ?_;(try dsimp only at hc);cbv)|(refine AllS.mk fun r hr=> ?_;(try simp only[Dat.ok,Dat.dec,Leaf.ok,Leaf.val,Z0,Z1,Z2,Z3,Z4,Z5,Z6,Z7,Z8,Z9,Z10,Z11,Z12,Z13,Z14,Z15,Z16,Z17,Z18,Z19,Z20,Z21,Z22,val_sl]at hr);cbv)
     all_goals try dsimp only
     all_goals try simp only[putN]
     all_goals first
      |(refine bif_eq (fun q=> ?_) fun q=> ?_
        ·rw[of_decide_eq_true q,getD_setN,if_pos ⟨rfl,hw⟩]
        ·rw[getD_setN,if_neg (fun z=>of_decide_eq_false q z.1.symm)])
      |(refine bif_eq (fun q=> ?_) fun q=> ?_
        ·rw[of_decide_eq_true q,getD_setN,if_pos ⟨rfl,hw⟩]
         try dsimp only
         first
          |rfl
          |exact(List.length_append ..).symm
          |exact app_bif (fun z=>z.port)
          |exact app_bif (fun z=>z.n)
        ·rw[getD_setN,if_neg (fun z=>of_decide_eq_false q z.1.symm)])
      |(refine bif_eq (fun q=> ?_) fun q=> ?_
        ·rw[of_decide_eq_true q]
        ·rfl)
      |(refine bif_eq (fun q=> ?_) fun q=> ?_
        ·rw[snoc_get,if_pos (of_decide_eq_true q)]
        ·have q2:=of_decide_eq_false q
         rw[snoc_get,if_neg q2,if_pos (by omega)]
         rfl)
      |(rw[getD_setN]
        split
        ·first
          |rfl
          |(exfalso;omega)
        ·first
          |rfl
          |(exfalso;omega))
      |(rw[snoc_get,if_pos h];done)
      |(rw[snoc_get,if_neg (by omega),if_pos (by omega)];rfl)
      |(rw[snoc_get]
        split
        ·first
          |rfl
          |(exfalso;omega)
        ·split
         ·first
           |rfl
           |(exfalso;omega)
         ·exfalso;omega)
      |(rw[h];done)
      |exact(List.length_set ..).symm
      |(simp;done)
      |fail)
   |(have k1:¬(p.nodes.getD a.who.toNat Dat.d0).epoch=0:=by assumption
     have k2:¬(p.nodes.getD a.who.toNat Dat.d0).sent=(p.nodes.getD a.who.toNat Dat.d0).outs.length:=by assumption
     have k3:¬(handG p.gate ⟨a.who,(p.nodes.getD a.who.toNat Dat.d0).epoch,(p.nodes.getD a.who.toNat Dat.d0).sent,textV ((p.nodes.getD a.who.toNat Dat.d0).outs.getD (p.nodes.getD a.who.toNat Dat.d0).sent.toNat Dat.d0)⟩).2.2=0:=by assumption
     have k4:¬(handG p.gate ⟨a.who,(p.nodes.getD a.who.toNat Dat.d0).epoch,(p.nodes.getD a.who.toNat Dat.d0).sent,textV ((p.nodes.getD a.who.toNat Dat.d0).outs.getD (p.nodes.getD a.who.toNat Dat.d0).sent.toNat Dat.d0)⟩).2.2=9:=by assumption
     have eR:=hR.symm.trans ((act_4 (code:=code) q h0 h1).trans (send_3 k1 k2 k3 k4))
     subst eR
     have hw:a.who.toNat<p.nodes.length:=by omega
     clear hR NBn NBs B inE b1 b2 b3 b4 b5 b6 hlog hsv hgl hcl hP
     subst hK
     cbv
     repeat' first|(refine Stp.mk ?_;cbv)|(refine Gen.mk fun r hr=> ?_;(try simp only[Dat.ok,Dat.dec,Leaf.ok,Leaf.val,Z0,Z1,Z2,Z3,Z4,Z5,Z6,Z7,Z8,Z9,Z10,Z11,Z12,Z13,Z14,Z15,Z16,Z17,Z18,Z19,Z20,Z21,Z22,val_sl,val_nil]at hr);cbv)|exact trivial|rfl|refine Both.mk ?_ ?_|(refine Imp.mk fun h=> ?_;(try dsimp only at h);(try simp only[nc,Int.toNat_natCast,ne_eq,zz]at h);(try simp only[nc]at h))|refine Ob.mk ?_ ?_|refine Chk.mk (by kernel_rfl) ?_|refine Eq'.mk ?_|(refine AllN.mk fun i hi=> ?_;cbv)|(refine AllC.mk fun c hc hcm=> ?_;(try dsimp only at hc);cbv)|(refine AllS.mk fun r hr=> ?_;(try simp only[Dat.ok,Dat.dec,Leaf.ok,Leaf.val,Z0,Z1,Z2,Z3,Z4,Z5,Z6,Z7,Z8,Z9,Z10,Z11,Z12,Z13,Z14,Z15,Z16,Z17,Z18,Z19,Z20,Z21,Z22,val_sl]at hr);cbv)
     all_goals try dsimp only
     all_goals first
      |(refine bif_eq (fun q=> ?_) fun q=> ?_
        ·rw[of_decide_eq_true q]
        ·rfl)
      |(rw[h];done)
      |fail)
   |(have k1:¬(p.nodes.getD a.who.toNat Dat.d0).epoch=0:=by assumption
     have k2:¬(p.nodes.getD a.who.toNat Dat.d0).sent=(p.nodes.getD a.who.toNat Dat.d0).outs.length:=by assumption
     have k3:(handG p.gate ⟨a.who,(p.nodes.getD a.who.toNat Dat.d0).epoch,(p.nodes.getD a.who.toNat Dat.d0).sent,textV ((p.nodes.getD a.who.toNat Dat.d0).outs.getD (p.nodes.getD a.who.toNat Dat.d0).sent.toNat Dat.d0)⟩).2.2=0:=by assumption
     have eR:=hR.symm.trans ((act_4 (code:=code) q h0 h1).trans (send_4 k1 k2 k3))
     subst eR
     have hw:a.who.toNat<p.nodes.length:=by omega
     clear hR NBn NBs B inE b1 b2 b3 b4 b5 b6 hlog hsv hgl hcl hP
     subst hK
     cbv
     repeat' first|(refine Stp.mk ?_;cbv)|(refine Gen.mk fun r hr=> ?_;(try simp only[Dat.ok,Dat.dec,Leaf.ok,Leaf.val,Z0,Z1,Z2,Z3,Z4,Z5,Z6,Z7,Z8,Z9,Z10,Z11,Z12,Z13,Z14,Z15,Z16,Z17,Z18,Z19,Z20,Z21,Z22,val_sl,val_nil]at hr);cbv)|exact trivial|rfl|refine Both.mk ?_ ?_|(refine Imp.mk fun h=> ?_;(try dsimp only at h);(try simp only[nc,Int.toNat_natCast,ne_eq,zz]at h);(try simp only[nc]at h))|refine Ob.mk ?_ ?_|refine Chk.mk (by kernel_rfl) ?_|refine Eq'.mk ?_|(refine AllN.mk fun i hi=> ?_;cbv)|(refine AllC.mk fun c hc hcm=> ?_;(try dsimp only at hc);cbv)|(refine AllS.mk fun r hr=> ?_;(try simp only[Dat.ok,Dat.dec,Leaf.ok,Leaf.val,Z0,Z1,Z2,Z3,Z4,Z5,Z6,Z7,Z8,Z9,Z10,Z11,Z12,Z13,Z14,Z15,Z16,Z17,Z18,Z19,Z20,Z21,Z22,val_sl]at hr);cbv)
     all_goals try dsimp only
     all_goals try simp only[putN]
     all_goals first
      |(refine bif_eq (fun q=> ?_) fun q=> ?_
        ·rw[of_decide_eq_true q,getD_setN,if_pos ⟨rfl,hw⟩]
        ·rw[getD_setN,if_neg (fun z=>of_decide_eq_false q z.1.symm)])
      |(refine bif_eq (fun q=> ?_) fun q=> ?_
        ·rw[of_decide_eq_true q,getD_setN,if_pos ⟨rfl,hw⟩]
         try dsimp only
         first
          |rfl
          |exact(List.length_append ..).symm
          |exact app_bif (fun z=>z.port)
          |exact app_bif (fun z=>z.n)
        ·rw[getD_setN,if_neg (fun z=>of_decide_eq_false q z.1.symm)])
      |(refine bif_eq (fun q=> ?_) fun q=> ?_
        ·rw[of_decide_eq_true q]
        ·rfl)
      |(refine bif_eq (fun q=> ?_) fun q=> ?_
        ·rw[snoc_get,if_pos (of_decide_eq_true q)]
        ·have q2:=of_decide_eq_false q
         rw[snoc_get,if_neg q2,if_pos (by omega)]
         rfl)
      |(rw[getD_setN]
        split
        ·first
          |rfl
          |(exfalso;omega)
        ·first
          |rfl
          |(exfalso;omega))
      |(rw[snoc_get,if_pos h];done)
      |(rw[snoc_get,if_neg (by omega),if_pos (by omega)];rfl)
      |(rw[snoc_get]
        split
        ·first
          |rfl
          |(exfalso;omega)
        ·split
         ·first
           |rfl
           |(exfalso;omega)
         ·exfalso;omega)
      |(rw[h];done)
      |exact(List.length_set ..).symm
      |(simp;done)
      |fail))
 all_goals try (
  show K _ _ _
  have q:a.kind=5:=by assumption
  have eR:=hR.symm.trans (act_5 (code:=code) q h0 h1)
  subst eR
  have hw:a.who.toNat<p.nodes.length:=by omega
  clear hR NBn NBs B inE b1 b2 b3 b4 b5 b6 hlog hsv hgl hcl hP
  subst hK
  cbv
  repeat' first|(refine Stp.mk ?_;cbv)|(refine Gen.mk fun r hr=> ?_;(try simp only[Dat.ok,Dat.dec,Leaf.ok,Leaf.val,Z0,Z1,Z2,Z3,Z4,Z5,Z6,Z7,Z8,Z9,Z10,Z11,Z12,Z13,Z14,Z15,Z16,Z17,Z18,Z19,Z20,Z21,Z22,val_sl,val_nil]at hr);cbv)|exact trivial|rfl|refine Both.mk ?_ ?_|(refine Imp.mk fun h=> ?_;(try dsimp only at h);(try simp only[nc,Int.toNat_natCast,ne_eq,zz]at h);(try simp only[nc]at h))|refine Ob.mk ?_ ?_|refine Chk.mk (by kernel_rfl) ?_|refine Eq'.mk ?_|(refine AllN.mk fun i hi=> ?_;cbv)|(refine AllC.mk fun c hc hcm=> ?_;(try dsimp only at hc);cbv)|(refine AllS.mk fun r hr=> ?_;(try simp only[Dat.ok,Dat.dec,Leaf.ok,Leaf.val,Z0,Z1,Z2,Z3,Z4,Z5,Z6,Z7,Z8,Z9,Z10,Z11,Z12,Z13,Z14,Z15,Z16,Z17,Z18,Z19,Z20,Z21,Z22,val_sl]at hr);cbv)
  all_goals try dsimp only
  all_goals try simp only[putN]
  all_goals first
   |(refine bif_eq (fun q=> ?_) fun q=> ?_
     ·rw[of_decide_eq_true q,getD_setN,if_pos ⟨rfl,hw⟩]
     ·rw[getD_setN,if_neg (fun z=>of_decide_eq_false q z.1.symm)])
   |(refine bif_eq (fun q=> ?_) fun q=> ?_
     ·rw[of_decide_eq_true q,getD_setN,if_pos ⟨rfl,hw⟩]
      try dsimp only
      first
       |rfl
       |exact(List.length_append ..).symm
       |exact app_bif (fun z=>z.port)
       |exact app_bif (fun z=>z.n)
     ·rw[getD_setN,if_neg (fun z=>of_decide_eq_false q z.1.symm)])
   |(refine bif_eq (fun q=> ?_) fun q=> ?_
     ·rw[of_decide_eq_true q]
     ·rfl)
   |(refine bif_eq (fun q=> ?_) fun q=> ?_
     ·rw[snoc_get,if_pos (of_decide_eq_true q)]
     ·have q2:=of_decide_eq_false q
      rw[snoc_get,if_neg q2,if_pos (by omega)]
      rfl)
   |(rw[getD_setN]
     split
     ·first
       |rfl
       |(exfalso;omega)
     ·first
       |rfl
       |(exfalso;omega))
   |(rw[snoc_get,if_pos h];done)
   |(rw[snoc_get,if_neg (by omega),if_pos (by omega)];rfl)
   |(rw[snoc_get]
     split
     ·first
       |rfl
       |(exfalso;omega)
     ·split
      ·first
        |rfl
        |(exfalso;omega)
      ·exfalso;omega)
   |(rw[h];done)
   |exact(List.length_set ..).symm
   |(simp;done)
   |fail)
 all_goals try (
  show K _ _ _
  have q1:¬a.kind=1:=by assumption
  have q2:1≤a.kind∧a.kind≤7:=by omega
  have q3:okF (fun _=>a.kind) [2,3,4,6]=false:=by assumption
  have q4:¬a.kind=5:=by assumption
  have eR:=hR.symm.trans (act_7 (code:=code) q1 q2 q3 q4 h0 h1)
  subst eR
  have hw:a.who.toNat<p.nodes.length:=by omega
  clear hR NBn NBs B inE b1 b2 b3 b4 b5 b6 hlog hsv hgl hcl hP
  subst hK
  cbv
  repeat' first|(refine Stp.mk ?_;cbv)|(refine Gen.mk fun r hr=> ?_;(try simp only[Dat.ok,Dat.dec,Leaf.ok,Leaf.val,Z0,Z1,Z2,Z3,Z4,Z5,Z6,Z7,Z8,Z9,Z10,Z11,Z12,Z13,Z14,Z15,Z16,Z17,Z18,Z19,Z20,Z21,Z22,val_sl,val_nil]at hr);cbv)|exact trivial|rfl|refine Both.mk ?_ ?_|(refine Imp.mk fun h=> ?_;(try dsimp only at h);(try simp only[nc,Int.toNat_natCast,ne_eq,zz]at h);(try simp only[nc]at h))|refine Ob.mk ?_ ?_|refine Chk.mk (by kernel_rfl) ?_|refine Eq'.mk ?_|(refine AllN.mk fun i hi=> ?_;cbv)|(refine AllC.mk fun c hc hcm=> ?_;(try dsimp only at hc);cbv)|(refine AllS.mk fun r hr=> ?_;(try simp only[Dat.ok,Dat.dec,Leaf.ok,Leaf.val,Z0,Z1,Z2,Z3,Z4,Z5,Z6,Z7,Z8,Z9,Z10,Z11,Z12,Z13,Z14,Z15,Z16,Z17,Z18,Z19,Z20,Z21,Z22,val_sl]at hr);cbv)
  all_goals try dsimp only
  all_goals try simp only[putN]
  all_goals first
   |(refine bif_eq (fun q=> ?_) fun q=> ?_
     ·rw[of_decide_eq_true q,getD_setN,if_pos ⟨rfl,hw⟩]
     ·rw[getD_setN,if_neg (fun z=>of_decide_eq_false q z.1.symm)])
   |(refine bif_eq (fun q=> ?_) fun q=> ?_
     ·rw[of_decide_eq_true q,getD_setN,if_pos ⟨rfl,hw⟩]
      try dsimp only
      first
       |rfl
       |exact(List.length_append ..).symm
       |exact app_bif (fun z=>z.port)
       |exact app_bif (fun z=>z.n)
     ·rw[getD_setN,if_neg (fun z=>of_decide_eq_false q z.1.symm)])
   |(refine bif_eq (fun q=> ?_) fun q=> ?_
     ·rw[of_decide_eq_true q]
     ·rfl)
   |(refine bif_eq (fun q=> ?_) fun q=> ?_
     ·rw[snoc_get,if_pos (of_decide_eq_true q)]
     ·have q2:=of_decide_eq_false q
      rw[snoc_get,if_neg q2,if_pos (by omega)]
      rfl)
   |(rw[getD_setN]
     split
     ·first
       |rfl
       |(exfalso;omega)
     ·first
       |rfl
       |(exfalso;omega))
   |(rw[snoc_get,if_pos h];done)
   |(rw[snoc_get,if_neg (by omega),if_pos (by omega)];rfl)
   |(rw[snoc_get]
     split
     ·first
       |rfl
       |(exfalso;omega)
     ·split
      ·first
        |rfl
        |(exfalso;omega)
      ·exfalso;omega)
   |(rw[h];done)
   |exact(List.length_set ..).symm
   |(simp;done)
   |fail)
 all_goals have BR:= @runV_bd code (p.nodes.getD a.who.toNat Dat.d0).vm (inA p (p.nodes.getD a.who.toNat Dat.d0)) 50
 all_goals have il:(inA p (p.nodes.getD a.who.toNat Dat.d0)).length≤1:=List.length_take_le ..
 all_goals try first
  |exact⟨by omega,by split<;>omega,by split<;>omega⟩
  |exact⟨by split<;>omega,⟨rfl,fun i _=>Dat.hok _⟩,Dat.hok fun _=>(p.nodes.getD a.who.toNat Dat.d0).vm,⟨rfl,fun i _=>Dat.hok _⟩,by omega,by omega,by omega⟩
  |exact⟨Nat.le_refl _,trivial,by omega,by omega,Nat.le_refl _⟩
  |(unfold InR;omega)
  |exact⟨by omega,by omega⟩
  |omega
  |(refine⟨Dat.hok fun _=>(p.nodes.getD a.who.toNat Dat.d0).outs.getD (p.nodes.getD a.who.toNat Dat.d0).sent.toNat Dat.d0, ?_⟩
    have hz:(p.nodes.getD a.who.toNat Dat.d0).sent.toNat<(p.nodes.getD a.who.toNat Dat.d0).outs.length:=by omega
    have hm:(p.nodes.getD a.who.toNat Dat.d0).outs.getD (p.nodes.getD a.who.toNat Dat.d0).sent.toNat Dat.d0∈(p.nodes.getD a.who.toNat Dat.d0).outs:=by
     rw[List.getD_eq_getElem?_getD (l:=(p.nodes.getD a.who.toNat Dat.d0).outs),List.getElem?_eq_getElem hz]
     exact List.getElem_mem _
    exact B.em _ hm)
  |exact⟨Dat.hok fun _=>p.gate,⟨trivial,trivial,trivial,trivial⟩,by show(_:Nat)≤_;omega⟩
  |(have C:=NBs a.n (by omega) (by omega)
    have c1:=C.ol
    have c2:=C.rg
    exact⟨Dat.hok fun _=>p.saved.getD a.n.toNat Dat.d0,by omega,by omega⟩)
  |exact⟨Nat.le_refl _,Dat.hok fun _=>p.nodes.getD a.who.toNat Dat.d0,by omega,by omega⟩
  |(exfalso
    have q:okF (fun _=>a.kind) [2,3,4,6]=true:=by assumption
    simp[okF]at q
    omega)
 all_goals fail
end Go.Proofs.YtiaiifcgbjlfoaaGreatDoor
