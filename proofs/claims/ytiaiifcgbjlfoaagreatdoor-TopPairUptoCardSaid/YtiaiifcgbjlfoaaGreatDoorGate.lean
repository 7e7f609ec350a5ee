/- The program's functions, walked: Gate. -/
import Derived.Test.YtiaiifcgbjlfoaaGreatDoorFence
import Derived.Test.YtiaiifcgbjlfoaaGreatDoorTy
set_option linter.all false
namespace Go.Proofs.YtiaiifcgbjlfoaaGreatDoor
open Go Go.Abs
def longB (s:ByteArray):Bool:=decide (1000<s.size)
def checkG (g:Gate):Int:=if chB g.fence=true then(if 1000<g.out.length then 2 else if g.out.any longB=true then 2 else 0)else 4
def claimG (g:Gate) (w n:Int):Gate×Bool×Int:=
 if checkG g=0 then(if(claimS g.fence w n).2.2=0 then(⟨(claimS g.fence w n).1,g.out⟩,(claimS g.fence w n).2.1,0)else(⟨⟨0,0⟩,[]⟩,false,(claimS g.fence w n).2.2))else(⟨⟨0,0⟩,[]⟩,false,checkG g)
def wrongG (g:Gate) (x:Give):Int:=
 if(passS g.fence x.who x.epoch).2=0 then(if(passS g.fence x.who x.epoch).1=true then(if longB x.text=true then 2 else if x.num<0 then 1 else if(g.out.length:Int)<x.num then 7
 else if x.num<g.out.length∧¬g.out.getD x.num.toNat Dat.d0=x.text then 8 else if x.num=1000 then 6 else 0)else 9)else(passS g.fence x.who x.epoch).2
def handE (g:Gate) (x:Give):Int:=if checkG g=0 then wrongG g x else checkG g
def handG (g:Gate) (x:Give):Gate×Bool×Int:=
 if handE g x=0 then(if x.num<g.out.length then(g,false,0)else(⟨g.fence,g.out++[x.text]⟩,true,0))else(⟨⟨0,0⟩,[]⟩,false,handE g x)
def stepG (g:Gate) (o:GateOp):Gate×Bool×Int:=if o.claims=true then claimG g o.give.who o.give.epoch else handG g o.give
def nextG (g:Gate) (o:GateOp):Gate:=if(stepG g o).2.2=0 then(stepG g o).1 else g
def runG (g:Gate):List GateOp→Gate
 |[]=>g
 |o::r=>runG (nextG g o) r
def ansG (g:Gate):List GateOp→List GateAns
 |[]=>[]
 |o::r=>⟨(stepG g o).2.1,(stepG g o).2.2⟩::ansG (nextG g o) r
def g0:Gate:=⟨⟨0,0⟩,[]⟩
def playG (l:List GateOp):Gate×List GateAns×Int:=if 500<l.length then(g0,[],2)else(runG g0 l,ansG g0 l,0)
theorem ch0 {b:Bool}:((if b=true then(0:Int)else 4)=0)↔b=true:=by cases b<;>simp
structure eqStr_X (l m:List ByteArray) where
 k:Nat
 hk:k≤l.length
 hv:∀j,j<k→l.getD j Dat.d0=m.getD j Dat.d0
def eqStr_R (r:Th (Bool)):AV:= .b fun _=>(r ())
def eqStr_S (l:(List ByteArray)) (m:(List ByteArray)):Bool:=decide (l=m)
def eqStr_P (l:(List ByteArray)) (m:(List ByteArray)):Prop:=l.length≤9223372036854775807
def eqStr_D:Det:=fun A=>match A with
 |[l,m]=>some (fun _=>Leaf.ok (List ByteArray) l∧Leaf.ok (List ByteArray) m∧eqStr_P (Leaf.val l) (Leaf.val m),eqStr_R fun _=>eqStr_S (Leaf.val l) (Leaf.val m))
 |_=>none
set_option maxRecDepth 100000 in
set_option maxHeartbeats 4000000 in
theorem eqStr_vc (l:(List ByteArray)) (m:(List ByteArray)) (hp:eqStr_P l m):FnOk Tryz.prog 18 [Leaf.av fun _=>l,Leaf.av fun _=>m] [] (outA (eqStr_R fun _=>eqStr_S l m) []):=by
 refine fn_ok envOk zl noCon_ok (draws_ok envOk zl noDet_ok mixed) (keep:=[0,1,4,5,10,12,13,14,24]) Tryz.func18 rfl ?_
 have hp':l.length≤9223372036854775807:=hp
 have fin:∀(b:Bool) H kl,b=decide (l=m)→outA (eqStr_R fun _=>eqStr_S l m) [] (.bc b) H kl:=by
  rintro b H kl rfl
  cbv
  repeat' first|(refine Stp.mk ?_;cbv)|(refine Gen.mk fun r hr=> ?_;(try simp only[Dat.ok,Dat.dec,Leaf.ok,Leaf.val,Z0,Z1,Z2,Z3,Z4,Z5,Z6,Z7,Z8,Z9,Z10,Z11,Z12,Z13,Z14,Z15,Z16,Z17,Z18,Z19,Z20,Z21,Z22,val_sl,val_nil]at hr);cbv)|exact trivial|rfl|refine Both.mk ?_ ?_|(refine Imp.mk fun h=> ?_;(try dsimp only at h);(try simp only[nc,Int.toNat_natCast,ne_eq,zz]at h);(try simp only[nc]at h))|refine Ob.mk ?_ ?_|refine Chk.mk (by kernel_rfl) ?_|refine Eq'.mk ?_|(refine AllN.mk fun i hi=> ?_;cbv)|(refine AllC.mk fun c hc hcm=> ?_;(try dsimp only at hc);cbv)|(refine AllS.mk fun r hr=> ?_;(try simp only[Dat.ok,Dat.dec,Leaf.ok,Leaf.val,Z0,Z1,Z2,Z3,Z4,Z5,Z6,Z7,Z8,Z9,Z10,Z11,Z12,Z13,Z14,Z15,Z16,Z17,Z18,Z19,Z20,Z21,Z22,val_sl]at hr);cbv)
 generalize outA (eqStr_R fun _=>eqStr_S l m) []=K at fin
 cbv
 refine Both.mk (Imp.mk fun h1=> ?_) (Imp.mk fun h1=> ?_)
 all_goals (refine Stp.mk ?_;cbv;(try dsimp only at h1);(try simp only[nc,Int.toNat_natCast,ne_eq,zz]at h1);(try simp only[nc]at h1))
 ·refine fin _ _ _ ?_
  exact(decide_eq_false (fun h=>by subst h;omega)).symm
 ·have hlen:l.length=m.length:=by omega
  refine LoopVC.frame [4,5,13,14,24] (eqStr_X l m) (fun x=>[(13,.i .i64 fun _=>x.k)]) (fun _=>[]) [] (fun x=>l.length-x.k)
   ⟨0,Nat.zero_le _,fun j hj=>absurd hj (Nat.not_lt_zero _)⟩ rfl (fun _=>rfl) ?_ ?_ fun⟨k,hk,hv⟩=> ?_
  ·cbv
   repeat' first|(refine Stp.mk ?_;cbv)|(refine Gen.mk fun r hr=> ?_;(try simp only[Dat.ok,Dat.dec,Leaf.ok,Leaf.val,Z0,Z1,Z2,Z3,Z4,Z5,Z6,Z7,Z8,Z9,Z10,Z11,Z12,Z13,Z14,Z15,Z16,Z17,Z18,Z19,Z20,Z21,Z22,val_sl,val_nil]at hr);cbv)|exact trivial|rfl|refine Both.mk ?_ ?_|(refine Imp.mk fun h=> ?_;(try dsimp only at h);(try simp only[nc,Int.toNat_natCast,ne_eq,zz]at h);(try simp only[nc]at h))|refine Ob.mk ?_ ?_|refine Chk.mk (by kernel_rfl) ?_|refine Eq'.mk ?_|(refine AllN.mk fun i hi=> ?_;cbv)|(refine AllC.mk fun c hc hcm=> ?_;(try dsimp only at hc);cbv)|(refine AllS.mk fun r hr=> ?_;(try simp only[Dat.ok,Dat.dec,Leaf.ok,Leaf.val,Z0,Z1,Z2,Z3,Z4,Z5,Z6,Z7,Z8,Z9,Z10,Z11,Z12,Z13,Z14,Z15,Z16,Z17,Z18,Z19,Z20,Z21,Z22,val_sl]at hr);cbv)
  ·cbv
  ·cbv
   repeat' first|(refine Stp.mk ?_;cbv)|(refine Gen.mk fun r hr=> ?_;(try simp only[Dat.ok,Dat.dec,Leaf.ok,Leaf.val,Z0,Z1,Z2,Z3,Z4,Z5,Z6,Z7,Z8,Z9,Z10,Z11,Z12,Z13,Z14,Z15,Z16,Z17,Z18,Z19,Z20,Z21,Z22,val_sl,val_nil]at hr);cbv)|exact trivial|rfl|refine Both.mk ?_ ?_|(refine Imp.mk fun h=> ?_;(try dsimp only at h);(try simp only[nc,Int.toNat_natCast,ne_eq,zz]at h);(try simp only[nc]at h))|refine Ob.mk ?_ ?_|refine Chk.mk (by kernel_rfl) ?_|refine Eq'.mk ?_|(refine AllN.mk fun i hi=> ?_;cbv)|(refine AllC.mk fun c hc hcm=> ?_;(try dsimp only at hc);cbv)|(refine AllS.mk fun r hr=> ?_;(try simp only[Dat.ok,Dat.dec,Leaf.ok,Leaf.val,Z0,Z1,Z2,Z3,Z4,Z5,Z6,Z7,Z8,Z9,Z10,Z11,Z12,Z13,Z14,Z15,Z16,Z17,Z18,Z19,Z20,Z21,Z22,val_sl]at hr);cbv)
   all_goals ((try dsimp only at*);(try simp only[nc,Int.toNat_natCast,ne_eq,zz]at*);(try simp only[nc]at*))
   all_goals first
    |omega
    |(unfold InR;omega)
    |(refine fin _ _ _ (decide_eq_true ?_).symm
      apply List.ext_getElem hlen
      intro i h1 h2
      have:=hv i (by omega)
      simpa[h1,h2]using this)
    |(refine fin _ _ _ (decide_eq_false fun h=> ?_).symm
      subst h
      simp_all;done)
    |skip
   all_goals (
    refine⟨⟨k+1,by omega,fun j hj=> ?_⟩, ?_,trivial,rfl,by(try dsimp only);omega⟩
    ·rcases Nat.lt_succ_iff_lt_or_eq.1 hj with hj|rfl
     ·exact hv j hj
     ·first|assumption|(generalize l.getD j Dat.d0=a at*;generalize m.getD j Dat.d0=b at*;cases a;cases b;simp_all;done)
    ·cbv
     repeat' first|(refine Stp.mk ?_;cbv)|(refine Gen.mk fun r hr=> ?_;(try simp only[Dat.ok,Dat.dec,Leaf.ok,Leaf.val,Z0,Z1,Z2,Z3,Z4,Z5,Z6,Z7,Z8,Z9,Z10,Z11,Z12,Z13,Z14,Z15,Z16,Z17,Z18,Z19,Z20,Z21,Z22,val_sl,val_nil]at hr);cbv)|exact trivial|rfl|refine Both.mk ?_ ?_|(refine Imp.mk fun h=> ?_;(try dsimp only at h);(try simp only[nc,Int.toNat_natCast,ne_eq,zz]at h);(try simp only[nc]at h))|refine Ob.mk ?_ ?_|refine Chk.mk (by kernel_rfl) ?_|refine Eq'.mk ?_|(refine AllN.mk fun i hi=> ?_;cbv)|(refine AllC.mk fun c hc hcm=> ?_;(try dsimp only at hc);cbv)|(refine AllS.mk fun r hr=> ?_;(try simp only[Dat.ok,Dat.dec,Leaf.ok,Leaf.val,Z0,Z1,Z2,Z3,Z4,Z5,Z6,Z7,Z8,Z9,Z10,Z11,Z12,Z13,Z14,Z15,Z16,Z17,Z18,Z19,Z20,Z21,Z22,val_sl]at hr);cbv))
theorem eqStr_ok:PcOk Tryz.prog 18 (detPC eqStr_D):=det_okA fun A p r h hp0=>by
 unfold eqStr_D at h
 split at h
 ·rename_i l m
  cases h
  obtain⟨g0,g1,hp⟩:=hp0
  exact⟨rfl,FnOk.pre (A':=[Leaf.av fun _=>(Leaf.val l:(List ByteArray)),Leaf.av fun _=>(Leaf.val m:(List ByteArray))]) (eqStr_vc (Leaf.val l) (Leaf.val m) hp) (.mk (Leaf.hle _ g0) (.mk (Leaf.hle _ g1) (trivial)))⟩
 ·cases h
def clStr_R (r:Th ((List ByteArray))):AV:= .own 0 fun _=>(r ()).length
def clStr_H (r:Th ((List ByteArray))):Hp:=[vecO 9 fun _=>(r ())]
def clStr_P (l:(List ByteArray)):Prop:=l.length≤1099511627776
def clStr_C:PC:=fun A K=>match A with
 |[l]=>Ob (fun _=>Leaf.ok (List ByteArray) l∧clStr_P (Leaf.val l)) (Gen (α:=(List ByteArray)) (fun _=>(Leaf.val l)) fun r=>K (clStr_R fun _=>r) (clStr_H fun _=>r))
 |_=>Bad 1002
set_option maxRecDepth 100000 in
set_option maxHeartbeats 4000000 in
theorem clStr_vc (l:(List ByteArray)) (hp:clStr_P l):FnOk Tryz.prog 88 [Leaf.av fun _=>l] [] (outA (clStr_R fun _=>l) (clStr_H fun _=>l)):=by
 refine fn_ok envOk zl noCon_ok noDraws_ok (keep:=[0,2,4]) Tryz.func88 rfl ?_
 have hp':l.length≤1099511627776:=hp
 cbv
 repeat' first|(refine Stp.mk ?_;cbv)|(refine Gen.mk fun r hr=> ?_;(try simp only[Dat.ok,Dat.dec,Leaf.ok,Leaf.val,Z0,Z1,Z2,Z3,Z4,Z5,Z6,Z7,Z8,Z9,Z10,Z11,Z12,Z13,Z14,Z15,Z16,Z17,Z18,Z19,Z20,Z21,Z22,val_sl,val_nil]at hr);cbv)|exact trivial|rfl|refine Both.mk ?_ ?_|(refine Imp.mk fun h=> ?_;(try dsimp only at h);(try simp only[nc,Int.toNat_natCast,ne_eq,zz]at h);(try simp only[nc]at h))|refine Ob.mk ?_ ?_|refine Chk.mk (by kernel_rfl) ?_|refine Eq'.mk ?_|(refine AllN.mk fun i hi=> ?_;cbv)|(refine AllC.mk fun c hc hcm=> ?_;(try dsimp only at hc);cbv)|(refine AllS.mk fun r hr=> ?_;(try simp only[Dat.ok,Dat.dec,Leaf.ok,Leaf.val,Z0,Z1,Z2,Z3,Z4,Z5,Z6,Z7,Z8,Z9,Z10,Z11,Z12,Z13,Z14,Z15,Z16,Z17,Z18,Z19,Z20,Z21,Z22,val_sl]at hr);cbv)
 all_goals ((try dsimp only at*);(try simp only[nc,Int.toNat_natCast,ne_eq,zz]at*);(try simp only[nc]at*))
 all_goals first
  |omega
  |(exact⟨Nat.le_refl _,trivial,by omega,by omega⟩)
  |(simp only[Nat.zero_add,Nat.sub_zero,Nat.not_lt_zero,decide_false,cond_false];done)
  |(simp_all;done)
  |fail
theorem clStr_ok:PcOk Tryz.prog 88 (clStr_C):=fun A K h=>by
 unfold clStr_C at h
 split at h
 ·rename_i l
  cases h with
  |mk h1 h2=>
   obtain⟨g0,hp⟩:=h1
   refine FnOk.pre ?_ (A':=[Leaf.av fun _=>(Leaf.val l:(List ByteArray))]) (.mk (Leaf.hle _ g0) (trivial))
   exact FnOk.out (K:=fun r H _=>K r H) (clStr_vc (Leaf.val l) hp) rfl h2.out
 ·cases h
def clStrN_N:DetN:=fun A=>match A with
 |[l]=>some (fun _=>Leaf.ok (List ByteArray) l∧clStr_P (Leaf.val l),clStr_R fun _=>(Leaf.val l),vecO 9 fun _=>((Leaf.val l):(List ByteArray)))
 |_=>none
theorem clStrN_okN:PcOk Tryz.prog 88 (detNPC clStrN_N):=det_okN fun A p r o h hp0=>by
 unfold clStrN_N at h
 split at h
 ·rename_i l
  cases h
  obtain⟨g0,hp⟩:=hp0
  exact FnOk.pre (A':=[Leaf.av fun _=>(Leaf.val l:(List ByteArray))]) (FnOk.out (clStr_vc (Leaf.val l) hp) rfl ⟨rfl,rfl⟩) (.mk (Leaf.hle _ g0) (trivial))
 ·cases h
def gcheck_R (r:Th (Int)):AV:= .i .i64 fun _=>(r ())
def gcheck_P (g:Gate):Prop:=g.out.length≤9223372036854775807
def gcheck_D:Det:=fun A=>match A with
 |[.agg g]=>some (fun _=>Dat.ok Gate g∧gcheck_P (Dat.dec g),gcheck_R fun _=>checkG (Dat.dec g))
 |_=>none
noncomputable def cG0:FuncId→Con:=fun f=>match f with
 |121=>inlCon E noCon noDraws [0,2] Tryz.f121
 |_=>fun _ _ _=>Bad 1001
theorem cG0_ok:ConOk Tryz.prog cG0:=fun f A H K h=>by
 unfold cG0 at h
 split at h
 ·exact⟨⟨Tryz.f121,Tryz.func121,by kernel_rfl,by kernel_rfl⟩,inl_ok envOk zl noCon_ok noDraws_ok Tryz.func121 h⟩
 ·cases h
noncomputable def cG1:FuncId→Con:=fun f=>match f with
 |74=>inlCon E cG0 noDraws [0,1,4,5,7,8,9,16] Tryz.f74
 |_=>fun _ _ _=>Bad 1001
theorem cG1_ok:ConOk Tryz.prog cG1:=fun f A H K h=>by
 unfold cG1 at h
 split at h
 ·exact⟨⟨Tryz.f74,Tryz.func74,by kernel_rfl,by kernel_rfl⟩,inl_ok envOk zl cG0_ok noDraws_ok Tryz.func74 h⟩
 ·cases h
noncomputable def cG2:FuncId→Con:=fun f=>match f with
 |119=>pureCon (detPC ch_D)
 |120=>inlCon E cG1 noDraws [0,1,4] Tryz.f120
 |_=>fun _ _ _=>Bad 1001
theorem cG2_ok:ConOk Tryz.prog cG2:=fun f A H K h=>by
 unfold cG2 at h
 split at h
 ·exact⟨⟨Tryz.f119,Tryz.func119,by kernel_rfl,by kernel_rfl⟩,pureCon_ok ch_ok h⟩
 ·exact⟨⟨Tryz.f120,Tryz.func120,by kernel_rfl,by kernel_rfl⟩,inl_ok envOk zl cG1_ok noDraws_ok Tryz.func120 h⟩
 ·cases h
structure AnyX (g:Gate) where
 k:Nat
 hk:k≤g.out.length
 hr:g.out.any longB=(g.out.drop k).any longB
set_option maxRecDepth 100000 in
set_option maxHeartbeats 4000000 in
theorem gcheck_vc (g:Gate) (hp:gcheck_P g):FnOk Tryz.prog 86 [.agg (Dat.enc fun _=>g)] [] (outA (gcheck_R fun _=>checkG g) []):=by
 refine fn_ok envOk zl cG2_ok noDraws_ok (keep:=[0,1,2,3,8,18]) Tryz.func86 rfl ?_
 have hp':g.out.length≤9223372036854775807:=hp
 have fin:∀e H kl,e=checkG g→outA (gcheck_R fun _=>checkG g) [] (.i .i64 fun _=>e) H kl:=by
  rintro e H kl rfl
  cbv
  repeat' first|(refine Stp.mk ?_;cbv)|(refine Gen.mk fun r hr=> ?_;(try simp only[Dat.ok,Dat.dec,Leaf.ok,Leaf.val,Z0,Z1,Z2,Z3,Z4,Z5,Z6,Z7,Z8,Z9,Z10,Z11,Z12,Z13,Z14,Z15,Z16,Z17,Z18,Z19,Z20,Z21,Z22,val_sl,val_nil]at hr);cbv)|exact trivial|rfl|refine Both.mk ?_ ?_|(refine Imp.mk fun h=> ?_;(try dsimp only at h);(try simp only[nc,Int.toNat_natCast,ne_eq,zz]at h);(try simp only[nc]at h))|refine Ob.mk ?_ ?_|refine Chk.mk (by kernel_rfl) ?_|refine Eq'.mk ?_|(refine AllN.mk fun i hi=> ?_;cbv)|(refine AllC.mk fun c hc hcm=> ?_;(try dsimp only at hc);cbv)|(refine AllS.mk fun r hr=> ?_;(try simp only[Dat.ok,Dat.dec,Leaf.ok,Leaf.val,Z0,Z1,Z2,Z3,Z4,Z5,Z6,Z7,Z8,Z9,Z10,Z11,Z12,Z13,Z14,Z15,Z16,Z17,Z18,Z19,Z20,Z21,Z22,val_sl]at hr);cbv)
 generalize outA (gcheck_R fun _=>checkG g) []=K at fin
 cbv
 repeat' first|(show Stp _;exfalso;first|omega|(exact h ‹_›)|(exact absurd ‹_› h)|(exact Bool.false_ne_true (h.symm.trans (show _=true by assumption))))|(refine Stp.mk ?_;cbv)|(refine Gen.mk fun r hr=> ?_;(try simp only[Dat.ok,Dat.dec,Leaf.ok,Leaf.val,Z0,Z1,Z2,Z3,Z4,Z5,Z6,Z7,Z8,Z9,Z10,Z11,Z12,Z13,Z14,Z15,Z16,Z17,Z18,Z19,Z20,Z21,Z22,val_sl,val_nil]at hr);cbv)|exact trivial|rfl|refine Both.mk ?_ ?_|(refine Imp.mk fun h=> ?_;(try dsimp only at h);(try simp only[nc,Int.toNat_natCast,ne_eq,zz]at h);(try simp only[nc]at h))|refine Ob.mk ?_ ?_|refine Chk.mk (by kernel_rfl) ?_|refine Eq'.mk ?_|(refine AllN.mk fun i hi=> ?_;cbv)|(refine AllC.mk fun c hc hcm=> ?_;(try dsimp only at hc);cbv)|(refine AllS.mk fun r hr=> ?_;(try simp only[Dat.ok,Dat.dec,Leaf.ok,Leaf.val,Z0,Z1,Z2,Z3,Z4,Z5,Z6,Z7,Z8,Z9,Z10,Z11,Z12,Z13,Z14,Z15,Z16,Z17,Z18,Z19,Z20,Z21,Z22,val_sl]at hr);cbv)
 all_goals ((try dsimp only at*);(try simp only[nc,Int.toNat_natCast,ne_eq,zz]at*);(try simp only[nc]at*))
 all_goals simp only[Dat.ok,Dat.dec,Leaf.ok,Leaf.val,Z0,Z1,Z2,Z3,Z4,Z5,Z6,Z7,Z8,Z9,Z10,Z11,Z12,Z13,Z14,Z15,Z16,Z17,Z18,Z19,Z20,Z21,Z22,ch_S]at*
 all_goals try simp only[ch0]at*
 all_goals first
  |trivial
  |(refine fin _ _ _ ?_
    unfold checkG
    first
     |(rw[if_neg (by assumption),if_neg (by assumption)];done)
     |(rw[if_pos (by assumption),if_pos (by omega)];done))
  |skip
 refine LoopVC.frame [4,5,8,9,16] (AnyX g) (fun x=>[(8,.i .i64 fun _=>x.k)]) (fun _=>[]) [] (fun x=>g.out.length-x.k) ⟨0,Nat.zero_le _,by simp⟩ rfl (fun _=>rfl) ?_ ?_ fun⟨k,hk,hr⟩=> ?_
 iterate 2
  ·cbv
   repeat' first|(refine Stp.mk ?_;cbv)|(refine Gen.mk fun r hr=> ?_;(try simp only[Dat.ok,Dat.dec,Leaf.ok,Leaf.val,Z0,Z1,Z2,Z3,Z4,Z5,Z6,Z7,Z8,Z9,Z10,Z11,Z12,Z13,Z14,Z15,Z16,Z17,Z18,Z19,Z20,Z21,Z22,val_sl,val_nil]at hr);cbv)|exact trivial|rfl|refine Both.mk ?_ ?_|(refine Imp.mk fun h=> ?_;(try dsimp only at h);(try simp only[nc,Int.toNat_natCast,ne_eq,zz]at h);(try simp only[nc]at h))|refine Ob.mk ?_ ?_|refine Chk.mk (by kernel_rfl) ?_|refine Eq'.mk ?_|(refine AllN.mk fun i hi=> ?_;cbv)|(refine AllC.mk fun c hc hcm=> ?_;(try dsimp only at hc);cbv)|(refine AllS.mk fun r hr=> ?_;(try simp only[Dat.ok,Dat.dec,Leaf.ok,Leaf.val,Z0,Z1,Z2,Z3,Z4,Z5,Z6,Z7,Z8,Z9,Z10,Z11,Z12,Z13,Z14,Z15,Z16,Z17,Z18,Z19,Z20,Z21,Z22,val_sl]at hr);cbv)
 cbv
 repeat' first|(show Stp _;exfalso;first|omega|(exact h ‹_›)|(exact absurd ‹_› h)|(exact Bool.false_ne_true (h.symm.trans (show _=true by assumption))))|(refine Stp.mk ?_;cbv)|(refine Gen.mk fun r hr=> ?_;(try simp only[Dat.ok,Dat.dec,Leaf.ok,Leaf.val,Z0,Z1,Z2,Z3,Z4,Z5,Z6,Z7,Z8,Z9,Z10,Z11,Z12,Z13,Z14,Z15,Z16,Z17,Z18,Z19,Z20,Z21,Z22,val_sl,val_nil]at hr);cbv)|exact trivial|rfl|refine Both.mk ?_ ?_|(refine Imp.mk fun h=> ?_;(try dsimp only at h);(try simp only[nc,Int.toNat_natCast,ne_eq,zz]at h);(try simp only[nc]at h))|refine Ob.mk ?_ ?_|refine Chk.mk (by kernel_rfl) ?_|refine Eq'.mk ?_|(refine AllN.mk fun i hi=> ?_;cbv)|(refine AllC.mk fun c hc hcm=> ?_;(try dsimp only at hc);cbv)|(refine AllS.mk fun r hr=> ?_;(try simp only[Dat.ok,Dat.dec,Leaf.ok,Leaf.val,Z0,Z1,Z2,Z3,Z4,Z5,Z6,Z7,Z8,Z9,Z10,Z11,Z12,Z13,Z14,Z15,Z16,Z17,Z18,Z19,Z20,Z21,Z22,val_sl]at hr);cbv)
 all_goals ((try dsimp only at*);(try simp only[nc,Int.toNat_natCast,ne_eq,zz]at*);(try simp only[nc]at*))
 all_goals first
  |omega
  |(unfold InR;omega)
  |(refine fin _ _ _ ?_
    have e:g.out.any longB=true:=by
     rw[hr,drop_cons Dat.d0 (by omega),List.any_cons,show longB (g.out.getD k Dat.d0)=true from decide_eq_true (by omega)];rfl
    unfold checkG
    rw[if_pos (by assumption),if_neg (by omega),if_pos e])
  |(refine fin _ _ _ ?_
    have e:g.out.any longB=false:=by rw[hr,drop_nil (by omega)];rfl
    unfold checkG
    rw[if_pos (by assumption),if_neg (by omega),e];rfl)
  |(refine⟨⟨k+1,by omega,by rw[hr,drop_cons Dat.d0 (by omega),List.any_cons,show longB (g.out.getD k Dat.d0)=false from decide_eq_false (by omega)];rfl⟩, ?_, ?_,rfl,by(try dsimp only);omega⟩
    ·cbv
     repeat' first|(refine Stp.mk ?_;cbv)|(refine Gen.mk fun r hr=> ?_;(try simp only[Dat.ok,Dat.dec,Leaf.ok,Leaf.val,Z0,Z1,Z2,Z3,Z4,Z5,Z6,Z7,Z8,Z9,Z10,Z11,Z12,Z13,Z14,Z15,Z16,Z17,Z18,Z19,Z20,Z21,Z22,val_sl,val_nil]at hr);cbv)|exact trivial|rfl|refine Both.mk ?_ ?_|(refine Imp.mk fun h=> ?_;(try dsimp only at h);(try simp only[nc,Int.toNat_natCast,ne_eq,zz]at h);(try simp only[nc]at h))|refine Ob.mk ?_ ?_|refine Chk.mk (by kernel_rfl) ?_|refine Eq'.mk ?_|(refine AllN.mk fun i hi=> ?_;cbv)|(refine AllC.mk fun c hc hcm=> ?_;(try dsimp only at hc);cbv)|(refine AllS.mk fun r hr=> ?_;(try simp only[Dat.ok,Dat.dec,Leaf.ok,Leaf.val,Z0,Z1,Z2,Z3,Z4,Z5,Z6,Z7,Z8,Z9,Z10,Z11,Z12,Z13,Z14,Z15,Z16,Z17,Z18,Z19,Z20,Z21,Z22,val_sl]at hr);cbv)
    ·cbv
     repeat' first|(refine Stp.mk ?_;cbv)|(refine Gen.mk fun r hr=> ?_;(try simp only[Dat.ok,Dat.dec,Leaf.ok,Leaf.val,Z0,Z1,Z2,Z3,Z4,Z5,Z6,Z7,Z8,Z9,Z10,Z11,Z12,Z13,Z14,Z15,Z16,Z17,Z18,Z19,Z20,Z21,Z22,val_sl,val_nil]at hr);cbv)|exact trivial|rfl|refine Both.mk ?_ ?_|(refine Imp.mk fun h=> ?_;(try dsimp only at h);(try simp only[nc,Int.toNat_natCast,ne_eq,zz]at h);(try simp only[nc]at h))|refine Ob.mk ?_ ?_|refine Chk.mk (by kernel_rfl) ?_|refine Eq'.mk ?_|(refine AllN.mk fun i hi=> ?_;cbv)|(refine AllC.mk fun c hc hcm=> ?_;(try dsimp only at hc);cbv)|(refine AllS.mk fun r hr=> ?_;(try simp only[Dat.ok,Dat.dec,Leaf.ok,Leaf.val,Z0,Z1,Z2,Z3,Z4,Z5,Z6,Z7,Z8,Z9,Z10,Z11,Z12,Z13,Z14,Z15,Z16,Z17,Z18,Z19,Z20,Z21,Z22,val_sl]at hr);cbv))
  |fail
theorem gcheck_ok:PcOk Tryz.prog 86 (detPC gcheck_D):=det_okA fun A p r h hp0=>by
 unfold gcheck_D at h
 split at h
 ·rename_i g
  cases h
  obtain⟨g0,hp⟩:=hp0
  exact⟨rfl,FnOk.pre (A':=[.agg (Dat.enc fun _=>(Dat.dec g:Gate))]) (gcheck_vc (Dat.dec g) hp) (.mk (Dat.hle _ g0) (trivial))⟩
 ·cases h
theorem checkG_ok {g:Gate}(h:checkG g=0):chB g.fence=true∧g.out.length≤1000∧g.out.any longB=false:=by
 unfold checkG at h
 split at h
 ·split at h
  ·cases h
  ·split at h
   ·cases h
   ·rename_i h1 h2 h3;exact⟨h1,by omega,by simpa using h3⟩
 ·cases h
def gclaim_R (r:Th (Gate×Bool×Int)):AV:= .tup [.agg [.i .i64 fun _=>(r ()).1.fence.epoch,.i .i64 fun _=>(r ()).1.fence.owner,.own 0 fun _=>(r ()).1.out.length],.b fun _=>(r ()).2.1,.i .i64 fun _=>(r ()).2.2]
def gclaim_H (r:Th (Gate×Bool×Int)):Hp:=[vecO 9 fun _=>(r ()).1.out]
def gclaim_P (g:Gate) (who:Int) (epoch:Int):Prop:=g.out.length≤9223372036854775807
def gclaim_C:PC:=fun A K=>match A with
 |[.agg g,.i .i64 who,.i .i64 epoch]=>Ob (fun _=>Dat.ok Gate g∧gclaim_P (Dat.dec g) (who ()) (epoch ())) (Gen (α:=Gate×Bool×Int) (fun _=>claimG (Dat.dec g) (who ()) (epoch ())) fun r=>K (gclaim_R fun _=>r) (gclaim_H fun _=>r))
 |_=>Bad 1002
noncomputable def cG3:FuncId→Con:=fun f=>match f with
 |86=>pureCon (detPC gcheck_D)
 |87=>pureCon (detPC cl_D)
 |_=>fun _ _ _=>Bad 1001
theorem cG3_ok:ConOk Tryz.prog cG3:=fun f A H K h=>by
 unfold cG3 at h
 split at h
 ·exact⟨⟨Tryz.f86,Tryz.func86,by kernel_rfl,by kernel_rfl⟩,pureCon_ok gcheck_ok h⟩
 ·exact⟨⟨Tryz.f87,Tryz.func87,by kernel_rfl,by kernel_rfl⟩,pureCon_ok cl_ok h⟩
 ·cases h
def dG3:FuncId→Option Dt:=fun f=>match f with
 |88=>some (.n clStrN_N)
 |_=>none
theorem dG3_ok:DetOk Tryz.prog dG3:=fun f d h=>by
 unfold dG3 at h
 split at h
 ·cases h;exact⟨⟨Tryz.f88,Tryz.func88,by kernel_rfl,by kernel_rfl⟩,clStrN_okN⟩
 ·cases h
set_option maxRecDepth 100000 in
set_option maxHeartbeats 4000000 in
theorem gclaim_vc (g:Gate) (who:Int) (epoch:Int) (hp:gclaim_P g who epoch):FnOk Tryz.prog 50 [.agg (Dat.enc fun _=>g),.i .i64 fun _=>who,.i .i64 fun _=>epoch] [] (outA (gclaim_R fun _=>claimG g who epoch) (gclaim_H fun _=>claimG g who epoch)):=by
 refine fn_ok envOk zl cG3_ok (draws_ok envOk zl dG3_ok mixed) (keep:=[0,1,2,3,6,7,8,9,10,11,12,16,29]) Tryz.func50 rfl ?_
 have hp':g.out.length≤9223372036854775807:=hp
 cbv
 repeat' first|(show Stp _;exfalso;first|omega|(exact h ‹_›)|(exact absurd ‹_› h)|(exact Bool.false_ne_true (h.symm.trans (show _=true by assumption))))|(refine Stp.mk ?_;cbv)|(refine Gen.mk fun r hr=> ?_;(try simp only[Dat.ok,Dat.dec,Leaf.ok,Leaf.val,Z0,Z1,Z2,Z3,Z4,Z5,Z6,Z7,Z8,Z9,Z10,Z11,Z12,Z13,Z14,Z15,Z16,Z17,Z18,Z19,Z20,Z21,Z22,val_sl,val_nil]at hr);cbv)|exact trivial|rfl|refine Both.mk ?_ ?_|(refine Imp.mk fun h=> ?_;(try dsimp only at h);(try simp only[nc,Int.toNat_natCast,ne_eq,zz]at h);(try simp only[nc]at h))|refine Ob.mk ?_ ?_|refine Chk.mk (by kernel_rfl) ?_|refine Eq'.mk ?_|(refine AllN.mk fun i hi=> ?_;cbv)|(refine AllC.mk fun c hc hcm=> ?_;(try dsimp only at hc);cbv)|(refine AllS.mk fun r hr=> ?_;(try simp only[Dat.ok,Dat.dec,Leaf.ok,Leaf.val,Z0,Z1,Z2,Z3,Z4,Z5,Z6,Z7,Z8,Z9,Z10,Z11,Z12,Z13,Z14,Z15,Z16,Z17,Z18,Z19,Z20,Z21,Z22,val_sl]at hr);cbv)
 all_goals ((try dsimp only at*);(try simp only[nc,Int.toNat_natCast,ne_eq,zz]at*);(try simp only[nc]at*))
 all_goals try simp only[Dat.ok,Dat.dec,Leaf.ok,Leaf.val,Z0,Z1,Z2,Z3,Z4,Z5,Z6,Z7,Z8,Z9,Z10,Z11,Z12,Z13,Z14,Z15,Z16,Z17,Z18,Z19,Z20,Z21,Z22,val_sl]at*
 all_goals first
  |exact⟨trivial,trivial⟩
  |exact absurd hi (Nat.not_lt_zero _)
  |exact⟨⟨trivial,trivial,rfl,fun i _=>Dat.hok _⟩,hp'⟩
  |exact⟨⟨rfl,fun i _=>Dat.hok _⟩,show g.out.length≤1099511627776 by have:=(checkG_ok (show checkG g=0 by assumption)).2.1;omega⟩
  |(have e:claimG g who epoch=(⟨⟨0,0⟩,[]⟩,false,checkG g):=if_neg (by assumption)
    rw[e];done)
  |(have e:claimG g who epoch=(⟨⟨0,0⟩,[]⟩,false,checkG g):=if_neg (by assumption)
    rw[e];rfl)
  |(have e:claimG g who epoch=(⟨⟨0,0⟩,[]⟩,false,(claimS g.fence who epoch).2.2):=by rw[claimG,if_pos (by assumption),if_neg (by assumption)]
    rw[e];done)
  |(have e:claimG g who epoch=(⟨⟨0,0⟩,[]⟩,false,(claimS g.fence who epoch).2.2):=by rw[claimG,if_pos (by assumption),if_neg (by assumption)]
    rw[e];rfl)
  |(have e:claimG g who epoch=(⟨(claimS g.fence who epoch).1,g.out⟩,(claimS g.fence who epoch).2.1,0):=by rw[claimG,if_pos (by assumption),if_pos (by assumption)]
    rw[e];done)
  |(have e:claimG g who epoch=(⟨(claimS g.fence who epoch).1,g.out⟩,(claimS g.fence who epoch).2.1,0):=by rw[claimG,if_pos (by assumption),if_pos (by assumption)]
    rw[e];rfl)
  |fail
theorem gclaim_ok:PcOk Tryz.prog 50 (gclaim_C):=fun A K h=>by
 unfold gclaim_C at h
 split at h
 ·rename_i g who epoch
  cases h with
  |mk h1 h2=>
   obtain⟨g0,hp⟩:=h1
   refine FnOk.pre ?_ (A':=[.agg (Dat.enc fun _=>(Dat.dec g:Gate)),.i .i64 fun _=>who (),.i .i64 fun _=>epoch ()]) (.mk (Dat.hle _ g0) (.mk (.mk (.mk rfl) (.mk rfl)) (.mk (.mk (.mk rfl) (.mk rfl)) (trivial))))
   exact FnOk.out (K:=fun r H _=>K r H) (gclaim_vc (Dat.dec g) (who ()) (epoch ()) hp) rfl h2.out
 ·cases h
def gwrong_R (r:Th (Int)):AV:= .i .i64 fun _=>(r ())
def gwrong_P (g:Gate) (x:Give):Prop:=g.out.length≤9223372036854775807
def gwrong_D:Det:=fun A=>match A with
 |[.agg g,.agg x]=>some (fun _=>Dat.ok Gate g∧Dat.ok Give x∧gwrong_P (Dat.dec g) (Dat.dec x),gwrong_R fun _=>wrongG (Dat.dec g) (Dat.dec x))
 |_=>none
noncomputable def cG4:FuncId→Con:=fun f=>match f with
 |116=>pureCon (detPC pa_D)
 |121=>inlCon E noCon noDraws [0,2] Tryz.f121
 |_=>fun _ _ _=>Bad 1001
theorem cG4_ok:ConOk Tryz.prog cG4:=fun f A H K h=>by
 unfold cG4 at h
 split at h
 ·exact⟨⟨Tryz.f116,Tryz.func116,by kernel_rfl,by kernel_rfl⟩,pureCon_ok pa_ok h⟩
 ·exact⟨⟨Tryz.f121,Tryz.func121,by kernel_rfl,by kernel_rfl⟩,inl_ok envOk zl noCon_ok noDraws_ok Tryz.func121 h⟩
 ·cases h
set_option maxRecDepth 100000 in
set_option maxHeartbeats 4000000 in
theorem gwrong_vc (g:Gate) (x:Give) (hp:gwrong_P g x):FnOk Tryz.prog 89 [.agg (Dat.enc fun _=>g),.agg (Dat.enc fun _=>x)] [] (outA (gwrong_R fun _=>wrongG g x) []):=by
 refine fn_ok envOk zl cG4_ok (draws_ok envOk zl noDet_ok mixed) (keep:=[0,1,2,3,4,5,6,17,21,24,28,32,39,57]) Tryz.func89 rfl ?_
 have hp':g.out.length≤9223372036854775807:=hp
 cbv
 repeat' first|(show Stp _;exfalso;first|omega|(exact h ‹_›)|(exact absurd ‹_› h)|(exact Bool.false_ne_true (h.symm.trans (show _=true by assumption))))|(refine Stp.mk ?_;cbv)|(refine Gen.mk fun r hr=> ?_;(try simp only[Dat.ok,Dat.dec,Leaf.ok,Leaf.val,Z0,Z1,Z2,Z3,Z4,Z5,Z6,Z7,Z8,Z9,Z10,Z11,Z12,Z13,Z14,Z15,Z16,Z17,Z18,Z19,Z20,Z21,Z22,val_sl,val_nil]at hr);cbv)|exact trivial|rfl|refine Both.mk ?_ ?_|(refine Imp.mk fun h=> ?_;(try dsimp only at h);(try simp only[nc,Int.toNat_natCast,ne_eq,zz]at h);(try simp only[nc]at h))|refine Ob.mk ?_ ?_|refine Chk.mk (by kernel_rfl) ?_|refine Eq'.mk ?_|(refine AllN.mk fun i hi=> ?_;cbv)|(refine AllC.mk fun c hc hcm=> ?_;(try dsimp only at hc);cbv)|(refine AllS.mk fun r hr=> ?_;(try simp only[Dat.ok,Dat.dec,Leaf.ok,Leaf.val,Z0,Z1,Z2,Z3,Z4,Z5,Z6,Z7,Z8,Z9,Z10,Z11,Z12,Z13,Z14,Z15,Z16,Z17,Z18,Z19,Z20,Z21,Z22,val_sl]at hr);cbv)
 all_goals ((try dsimp only at*);(try simp only[nc,Int.toNat_natCast,ne_eq,zz]at*);(try simp only[nc]at*))
 all_goals try simp only[Dat.ok,Dat.dec,Leaf.ok,Leaf.val,Z0,Z1,Z2,Z3,Z4,Z5,Z6,Z7,Z8,Z9,Z10,Z11,Z12,Z13,Z14,Z15,Z16,Z17,Z18,Z19,Z20,Z21,Z22,val_sl]at*
 all_goals first
  |exact⟨trivial,trivial⟩
  |omega
  |(unfold wrongG
    first
     |(rw[if_neg (by assumption)];done)
     |(rw[if_pos (by assumption),if_neg (by simp[*])];done)
     |(rw[if_pos (by assumption),if_pos (by assumption),if_pos (show longB x.text=true from decide_eq_true (by omega))];done)
     |(rw[if_pos (by assumption),if_pos (by assumption),if_neg (show¬longB x.text=true from fun h=>absurd (of_decide_eq_true h) (by omega))]
       first
        |(rw[if_pos (by omega)];done)
        |(rw[if_neg (by omega),if_pos (by omega)];done)
        |(rw[if_neg (by omega),if_neg (by omega),if_pos ⟨by omega,by assumption⟩];done)
        |(rw[if_neg (by omega),if_neg (by omega),if_neg (by rintro⟨q1,q2⟩;first|omega|exact q2 (by assumption)),if_pos (by assumption)];done)
        |(rw[if_neg (by omega),if_neg (by omega),if_neg (by rintro⟨q1,q2⟩;first|omega|exact q2 (by assumption)),if_neg (by assumption)];done)))
  |fail
theorem gwrong_ok:PcOk Tryz.prog 89 (detPC gwrong_D):=det_okA fun A p r h hp0=>by
 unfold gwrong_D at h
 split at h
 ·rename_i g x
  cases h
  obtain⟨g0,g1,hp⟩:=hp0
  exact⟨rfl,FnOk.pre (A':=[.agg (Dat.enc fun _=>(Dat.dec g:Gate)),.agg (Dat.enc fun _=>(Dat.dec x:Give))]) (gwrong_vc (Dat.dec g) (Dat.dec x) hp) (.mk (Dat.hle _ g0) (.mk (Dat.hle _ g1) (trivial)))⟩
 ·cases h
def ghand_R (r:Th (Gate×Bool×Int)):AV:= .tup [.agg [.i .i64 fun _=>(r ()).1.fence.epoch,.i .i64 fun _=>(r ()).1.fence.owner,.own 0 fun _=>(r ()).1.out.length],.b fun _=>(r ()).2.1,.i .i64 fun _=>(r ()).2.2]
def ghand_H (r:Th (Gate×Bool×Int)):Hp:=[vecO 9 fun _=>(r ()).1.out]
def ghand_P (g:Gate) (x:Give):Prop:=g.out.length≤9223372036854775807
def ghand_C:PC:=fun A K=>match A with
 |[.agg g,.agg x]=>Ob (fun _=>Dat.ok Gate g∧Dat.ok Give x∧ghand_P (Dat.dec g) (Dat.dec x)) (Gen (α:=Gate×Bool×Int) (fun _=>handG (Dat.dec g) (Dat.dec x)) fun r=>K (ghand_R fun _=>r) (ghand_H fun _=>r))
 |_=>Bad 1002
noncomputable def cG5:FuncId→Con:=fun f=>match f with
 |86=>pureCon (detPC gcheck_D)
 |89=>pureCon (detPC gwrong_D)
 |88=>pureCon clStr_C
 |_=>fun _ _ _=>Bad 1001
theorem cG5_ok:ConOk Tryz.prog cG5:=fun f A H K h=>by
 unfold cG5 at h
 split at h
 ·exact⟨⟨Tryz.f86,Tryz.func86,by kernel_rfl,by kernel_rfl⟩,pureCon_ok gcheck_ok h⟩
 ·exact⟨⟨Tryz.f89,Tryz.func89,by kernel_rfl,by kernel_rfl⟩,pureCon_ok gwrong_ok h⟩
 ·exact⟨⟨Tryz.f88,Tryz.func88,by kernel_rfl,by kernel_rfl⟩,pureCon_ok clStr_ok h⟩
 ·cases h
set_option maxRecDepth 100000 in
set_option maxHeartbeats 4000000 in
theorem ghand_vc (g:Gate) (x:Give) (hp:ghand_P g x):FnOk Tryz.prog 51 [.agg (Dat.enc fun _=>g),.agg (Dat.enc fun _=>x)] [] (outA (ghand_R fun _=>handG g x) (ghand_H fun _=>handG g x)):=by
 refine fn_ok envOk zl cG5_ok noDraws_ok (keep:=[0,1,2,3,4,5,6,7,11,16,28]) Tryz.func51 rfl ?_
 have hp':g.out.length≤9223372036854775807:=hp
 cbv
 repeat' first|(show Stp _;exfalso;first|omega|(exact h ‹_›)|(exact absurd ‹_› h)|(exact Bool.false_ne_true (h.symm.trans (show _=true by assumption))))|(refine Stp.mk ?_;cbv)|(refine Gen.mk fun r hr=> ?_;(try simp only[Dat.ok,Dat.dec,Leaf.ok,Leaf.val,Z0,Z1,Z2,Z3,Z4,Z5,Z6,Z7,Z8,Z9,Z10,Z11,Z12,Z13,Z14,Z15,Z16,Z17,Z18,Z19,Z20,Z21,Z22,val_sl,val_nil]at hr);cbv)|exact trivial|rfl|refine Both.mk ?_ ?_|(refine Imp.mk fun h=> ?_;(try dsimp only at h);(try simp only[nc,Int.toNat_natCast,ne_eq,zz]at h);(try simp only[nc]at h))|refine Ob.mk ?_ ?_|refine Chk.mk (by kernel_rfl) ?_|refine Eq'.mk ?_|(refine AllN.mk fun i hi=> ?_;cbv)|(refine AllC.mk fun c hc hcm=> ?_;(try dsimp only at hc);cbv)|(refine AllS.mk fun r hr=> ?_;(try simp only[Dat.ok,Dat.dec,Leaf.ok,Leaf.val,Z0,Z1,Z2,Z3,Z4,Z5,Z6,Z7,Z8,Z9,Z10,Z11,Z12,Z13,Z14,Z15,Z16,Z17,Z18,Z19,Z20,Z21,Z22,val_sl]at hr);cbv)
 all_goals ((try dsimp only at*);(try simp only[nc,Int.toNat_natCast,ne_eq,zz]at*);(try simp only[nc]at*))
 all_goals try simp only[Dat.ok,Dat.dec,Leaf.ok,Leaf.val,Z0,Z1,Z2,Z3,Z4,Z5,Z6,Z7,Z8,Z9,Z10,Z11,Z12,Z13,Z14,Z15,Z16,Z17,Z18,Z19,Z20,Z21,Z22,val_sl]at*
 all_goals try subst hr
 all_goals first
  |exact⟨trivial,trivial⟩
  |exact absurd hi (Nat.not_lt_zero _)
  |exact⟨⟨trivial,trivial,rfl,fun i _=>Dat.hok _⟩,hp'⟩
  |exact⟨⟨trivial,trivial,rfl,fun i _=>Dat.hok _⟩,⟨trivial,trivial,trivial,trivial⟩,hp'⟩
  |exact⟨⟨rfl,fun i _=>Dat.hok _⟩,show g.out.length≤1099511627776 by have:=(checkG_ok (show checkG g=0 by assumption)).2.1;omega⟩
  |(have:=(checkG_ok (show checkG g=0 by assumption)).2.1
    exact⟨Nat.le_refl _,Nat.le_refl _,by omega,by omega⟩)
  |(have e:handG g x=(⟨⟨0,0⟩,[]⟩,false,checkG g):=by rw[handG,handE,if_neg (show¬checkG g=0 by assumption),if_neg (by assumption)]
    rw[e];done)
  |(have e:handG g x=(⟨⟨0,0⟩,[]⟩,false,checkG g):=by rw[handG,handE,if_neg (show¬checkG g=0 by assumption),if_neg (by assumption)]
    rw[e];rfl)
  |(have e:handG g x=(⟨⟨0,0⟩,[]⟩,false,wrongG g x):=by rw[handG,handE,if_pos (show checkG g=0 by assumption),if_neg (by assumption)]
    rw[e];done)
  |(have e:handG g x=(⟨⟨0,0⟩,[]⟩,false,wrongG g x):=by rw[handG,handE,if_pos (show checkG g=0 by assumption),if_neg (by assumption)]
    rw[e];rfl)
  |(have e:handG g x=(g,false,0):=by rw[handG,handE,if_pos (show checkG g=0 by assumption),if_pos (by assumption),if_pos (by omega)]
    rw[e];done)
  |(have e:handG g x=(g,false,0):=by rw[handG,handE,if_pos (show checkG g=0 by assumption),if_pos (by assumption),if_pos (by omega)]
    rw[e];rfl)
  |(have e:handG g x=(⟨g.fence,g.out++[x.text]⟩,true,0):=by rw[handG,handE,if_pos (show checkG g=0 by assumption),if_pos (by assumption),if_neg (by omega)]
    rw[e];done)
  |(have e:handG g x=(⟨g.fence,g.out++[x.text]⟩,true,0):=by rw[handG,handE,if_pos (show checkG g=0 by assumption),if_pos (by assumption),if_neg (by omega)]
    rw[e];rfl)
  |(have e:handG g x=(⟨g.fence,g.out++[x.text]⟩,true,0):=by rw[handG,handE,if_pos (show checkG g=0 by assumption),if_pos (by assumption),if_neg (by omega)]
    rw[e];simp;done)
  |(have e:handG g x=(⟨g.fence,g.out++[x.text]⟩,true,0):=by rw[handG,handE,if_pos (show checkG g=0 by assumption),if_pos (by assumption),if_neg (by omega)]
    rw[e];dsimp only;rw[gd_snoc _ _ _ _ hi])
  |fail
theorem ghand_ok:PcOk Tryz.prog 51 (ghand_C):=fun A K h=>by
 unfold ghand_C at h
 split at h
 ·rename_i g x
  cases h with
  |mk h1 h2=>
   obtain⟨g0,g1,hp⟩:=h1
   refine FnOk.pre ?_ (A':=[.agg (Dat.enc fun _=>(Dat.dec g:Gate)),.agg (Dat.enc fun _=>(Dat.dec x:Give))]) (.mk (Dat.hle _ g0) (.mk (Dat.hle _ g1) (trivial)))
   exact FnOk.out (K:=fun r H _=>K r H) (ghand_vc (Dat.dec g) (Dat.dec x) hp) rfl h2.out
 ·cases h
def gplay_R (r:Th (Gate×(List GateAns)×Int)):AV:= .tup [.agg [.i .i64 fun _=>(r ()).1.fence.epoch,.i .i64 fun _=>(r ()).1.fence.owner,.own 0 fun _=>(r ()).1.out.length],.own 1 fun _=>(r ()).2.1.length,.i .i64 fun _=>(r ()).2.2]
def gplay_H (r:Th (Gate×(List GateAns)×Int)):Hp:=[vecO 9 fun _=>(r ()).1.out,vecO 145 fun _=>(r ()).2.1]
def gplay_C:PC:=fun A K=>match A with
 |[l]=>Ob (fun _=>Leaf.ok (List GateOp) l) (Gen (α:=Gate×(List GateAns)×Int) (fun _=>playG (Leaf.val l)) fun r=>K (gplay_R fun _=>r) (gplay_H fun _=>r))
 |_=>Bad 1002
structure GpX (l:List GateOp) where
 k:Nat
 hk:k≤l.length
 g:Gate
 out:List GateAns
 hg:g.out.length≤k
 ho:out.length=k
 hrun:runG g0 l=runG g (l.drop k)
 hans:ansG g0 l=out++ansG g (l.drop k)
theorem next_len {g:Gate}{o:GateOp}:(nextG g o).out.length≤g.out.length+1:=by
 unfold nextG stepG claimG handG
 repeat' split
 all_goals simp
 all_goals omega
noncomputable def cG6:FuncId→Con:=fun f=>match f with
 |50=>pureCon gclaim_C
 |51=>pureCon ghand_C
 |_=>fun _ _ _=>Bad 1001
theorem cG6_ok:ConOk Tryz.prog cG6:=fun f A H K h=>by
 unfold cG6 at h
 split at h
 ·exact⟨⟨Tryz.f50,Tryz.func50,by kernel_rfl,by kernel_rfl⟩,pureCon_ok gclaim_ok h⟩
 ·exact⟨⟨Tryz.f51,Tryz.func51,by kernel_rfl,by kernel_rfl⟩,pureCon_ok ghand_ok h⟩
 ·cases h
set_option maxRecDepth 100000 in
set_option maxHeartbeats 4000000 in
theorem gplay_vc (l:(List GateOp)):FnOk Tryz.prog 17 [Leaf.av fun _=>l] [] (outA (gplay_R fun _=>playG l) (gplay_H fun _=>playG l)):=by
 refine fn_ok envOk zl cG6_ok noDraws_ok (keep:=[0,2,3,4,5,6,8,9,10,13,15,16,17,18,24,51]) Tryz.func17 rfl ?_
 cbv
 repeat' first|(show Stp _;exfalso;first|omega|(exact h ‹_›)|(exact absurd ‹_› h)|(exact Bool.false_ne_true (h.symm.trans (show _=true by assumption))))|(refine Stp.mk ?_;cbv)|(refine Gen.mk fun r hr=> ?_;(try simp only[Dat.ok,Dat.dec,Leaf.ok,Leaf.val,Z0,Z1,Z2,Z3,Z4,Z5,Z6,Z7,Z8,Z9,Z10,Z11,Z12,Z13,Z14,Z15,Z16,Z17,Z18,Z19,Z20,Z21,Z22,val_sl,val_nil]at hr);cbv)|exact trivial|rfl|refine Both.mk ?_ ?_|(refine Imp.mk fun h=> ?_;(try dsimp only at h);(try simp only[nc,Int.toNat_natCast,ne_eq,zz]at h);(try simp only[nc]at h))|refine Ob.mk ?_ ?_|refine Chk.mk (by kernel_rfl) ?_|refine Eq'.mk ?_|(refine AllN.mk fun i hi=> ?_;cbv)|(refine AllC.mk fun c hc hcm=> ?_;(try dsimp only at hc);cbv)|(refine AllS.mk fun r hr=> ?_;(try simp only[Dat.ok,Dat.dec,Leaf.ok,Leaf.val,Z0,Z1,Z2,Z3,Z4,Z5,Z6,Z7,Z8,Z9,Z10,Z11,Z12,Z13,Z14,Z15,Z16,Z17,Z18,Z19,Z20,Z21,Z22,val_sl]at hr);cbv)
 all_goals ((try dsimp only at*);(try simp only[nc,Int.toNat_natCast,ne_eq,zz]at*);(try simp only[nc]at*))
 all_goals first
  |exact absurd hi (Nat.not_lt_zero _)
  |(have e:playG l=(g0,[],2):=if_pos (by omega)
    rw[e];done)
  |(have e:playG l=(g0,[],2):=if_pos (by omega)
    rw[e];rfl)
  |skip
 have e0:playG l=(runG g0 l,ansG g0 l,0):=if_neg (by omega)
 generalize hK:outA (gplay_R fun _=>playG l) (gplay_H fun _=>playG l)=K
 refine LoopVC.frameR [6,8,9,10,17,18,24,51] (GpX l) (fun x=>[(17,.i .i64 fun _=>x.k),(6,.own 3 fun _=>x.out.length)]) (fun x=>[(1,.blk [.i .i64 fun _=>x.g.fence.epoch,.i .i64 fun _=>x.g.fence.owner,.own 2 fun _=>x.g.out.length]),(2,vecO 9 fun _=>x.g.out),(3,vecO 145 fun _=>x.out)]) (fun x=>l.length-x.k)
  ⟨0,Nat.zero_le _,g0,[],Nat.zero_le _,rfl,rfl,rfl⟩ ?_ ?_ fun⟨k,hk,g,out,hg,ho,hrun,hans⟩=> ?_
 iterate 2
  ·cbv
   repeat' first|(refine Stp.mk ?_;cbv)|(refine Gen.mk fun r hr=> ?_;(try simp only[Dat.ok,Dat.dec,Leaf.ok,Leaf.val,Z0,Z1,Z2,Z3,Z4,Z5,Z6,Z7,Z8,Z9,Z10,Z11,Z12,Z13,Z14,Z15,Z16,Z17,Z18,Z19,Z20,Z21,Z22,val_sl,val_nil]at hr);cbv)|exact trivial|rfl|refine Both.mk ?_ ?_|(refine Imp.mk fun h=> ?_;(try dsimp only at h);(try simp only[nc,Int.toNat_natCast,ne_eq,zz]at h);(try simp only[nc]at h))|refine Ob.mk ?_ ?_|refine Chk.mk (by kernel_rfl) ?_|refine Eq'.mk ?_|(refine AllN.mk fun i hi=> ?_;cbv)|(refine AllC.mk fun c hc hcm=> ?_;(try dsimp only at hc);cbv)|(refine AllS.mk fun r hr=> ?_;(try simp only[Dat.ok,Dat.dec,Leaf.ok,Leaf.val,Z0,Z1,Z2,Z3,Z4,Z5,Z6,Z7,Z8,Z9,Z10,Z11,Z12,Z13,Z14,Z15,Z16,Z17,Z18,Z19,Z20,Z21,Z22,val_sl]at hr);cbv)
 cbv
 repeat' first|(show Stp _;exfalso;first|omega|(exact h ‹_›)|(exact absurd ‹_› h)|(exact Bool.false_ne_true (h.symm.trans (show _=true by assumption))))|(refine Stp.mk ?_;cbv)|(refine Gen.mk fun r hr=> ?_;(try simp only[Dat.ok,Dat.dec,Leaf.ok,Leaf.val,Z0,Z1,Z2,Z3,Z4,Z5,Z6,Z7,Z8,Z9,Z10,Z11,Z12,Z13,Z14,Z15,Z16,Z17,Z18,Z19,Z20,Z21,Z22,val_sl,val_nil]at hr);cbv)|exact trivial|rfl|refine Both.mk ?_ ?_|(refine Imp.mk fun h=> ?_;(try dsimp only at h);(try simp only[nc,Int.toNat_natCast,ne_eq,zz]at h);(try simp only[nc]at h))|refine Ob.mk ?_ ?_|refine Chk.mk (by kernel_rfl) ?_|refine Eq'.mk ?_|(refine AllN.mk fun i hi=> ?_;cbv)|(refine AllC.mk fun c hc hcm=> ?_;(try dsimp only at hc);cbv)|(refine AllS.mk fun r hr=> ?_;(try simp only[Dat.ok,Dat.dec,Leaf.ok,Leaf.val,Z0,Z1,Z2,Z3,Z4,Z5,Z6,Z7,Z8,Z9,Z10,Z11,Z12,Z13,Z14,Z15,Z16,Z17,Z18,Z19,Z20,Z21,Z22,val_sl]at hr);cbv)
 all_goals ((try dsimp only at*);(try simp only[nc,Int.toNat_natCast,ne_eq,zz]at*);(try simp only[nc]at*))
 all_goals try simp only[Dat.ok,Dat.dec,Leaf.ok,Leaf.val,Z0,Z1,Z2,Z3,Z4,Z5,Z6,Z7,Z8,Z9,Z10,Z11,Z12,Z13,Z14,Z15,Z16,Z17,Z18,Z19,Z20,Z21,Z22,val_sl]at*
 all_goals first
  |omega
  |(unfold InR;omega)
  |exact Nat.le_refl _
  |exact⟨Nat.le_refl _,Nat.le_refl _,by omega,by omega⟩
  |exact⟨⟨trivial,trivial,rfl,fun i _=>Dat.hok _⟩,show g.out.length≤9223372036854775807 by omega⟩
  |exact⟨⟨trivial,trivial,rfl,fun i _=>Dat.hok _⟩,⟨trivial,trivial,trivial,trivial⟩,show g.out.length≤9223372036854775807 by omega⟩
  |(have es:stepG g (l.getD k Dat.d0)=r:=by rw[hr];first|exact if_pos (by assumption)|exact if_neg (by rw[show(l.getD k Dat.d0).claims=false by assumption];decide)
    have e1:nextG g (l.getD k Dat.d0)=r.1:=by rw[nextG,es,if_pos (by assumption)]
    refine⟨⟨k+1,by omega,nextG g (l.getD k Dat.d0),out++[⟨r.2.1,r.2.2⟩],by have:= @next_len g (l.getD k Dat.d0);omega,by rw[List.length_append,ho];rfl,by rw[hrun,drop_cons Dat.d0 (by omega),runG],by rw[hans,drop_cons Dat.d0 (by omega),ansG,es,List.append_assoc];rfl⟩,[(0,0),(1,1),(2,7),(3,3)],rfl,rfl, ?_, ?_,by(try dsimp only);omega⟩
    ·cbv
     repeat' first|(refine Stp.mk ?_;cbv)|(refine Gen.mk fun r hr=> ?_;(try simp only[Dat.ok,Dat.dec,Leaf.ok,Leaf.val,Z0,Z1,Z2,Z3,Z4,Z5,Z6,Z7,Z8,Z9,Z10,Z11,Z12,Z13,Z14,Z15,Z16,Z17,Z18,Z19,Z20,Z21,Z22,val_sl,val_nil]at hr);cbv)|exact trivial|rfl|refine Both.mk ?_ ?_|(refine Imp.mk fun h=> ?_;(try dsimp only at h);(try simp only[nc,Int.toNat_natCast,ne_eq,zz]at h);(try simp only[nc]at h))|refine Ob.mk ?_ ?_|refine Chk.mk (by kernel_rfl) ?_|refine Eq'.mk ?_|(refine AllN.mk fun i hi=> ?_;cbv)|(refine AllC.mk fun c hc hcm=> ?_;(try dsimp only at hc);cbv)|(refine AllS.mk fun r hr=> ?_;(try simp only[Dat.ok,Dat.dec,Leaf.ok,Leaf.val,Z0,Z1,Z2,Z3,Z4,Z5,Z6,Z7,Z8,Z9,Z10,Z11,Z12,Z13,Z14,Z15,Z16,Z17,Z18,Z19,Z20,Z21,Z22,val_sl]at hr);cbv)
     all_goals simp
    ·cbv
     repeat' first|(refine Stp.mk ?_;cbv)|(refine Gen.mk fun r hr=> ?_;(try simp only[Dat.ok,Dat.dec,Leaf.ok,Leaf.val,Z0,Z1,Z2,Z3,Z4,Z5,Z6,Z7,Z8,Z9,Z10,Z11,Z12,Z13,Z14,Z15,Z16,Z17,Z18,Z19,Z20,Z21,Z22,val_sl,val_nil]at hr);cbv)|exact trivial|rfl|refine Both.mk ?_ ?_|(refine Imp.mk fun h=> ?_;(try dsimp only at h);(try simp only[nc,Int.toNat_natCast,ne_eq,zz]at h);(try simp only[nc]at h))|refine Ob.mk ?_ ?_|refine Chk.mk (by kernel_rfl) ?_|refine Eq'.mk ?_|(refine AllN.mk fun i hi=> ?_;cbv)|(refine AllC.mk fun c hc hcm=> ?_;(try dsimp only at hc);cbv)|(refine AllS.mk fun r hr=> ?_;(try simp only[Dat.ok,Dat.dec,Leaf.ok,Leaf.val,Z0,Z1,Z2,Z3,Z4,Z5,Z6,Z7,Z8,Z9,Z10,Z11,Z12,Z13,Z14,Z15,Z16,Z17,Z18,Z19,Z20,Z21,Z22,val_sl]at hr);cbv)
     all_goals ((try dsimp only at*);(try simp only[nc,Int.toNat_natCast,ne_eq,zz]at*);(try simp only[nc]at*))
     all_goals first
      |(rw[e1];done)
      |(rw[gd_snoc _ _ _ _ hi];cases decide (i<out.length)<;>rfl)
      |(simp;done)
      |fail)
  |(have es:stepG g (l.getD k Dat.d0)=r:=by rw[hr];first|exact if_pos (by assumption)|exact if_neg (by rw[show(l.getD k Dat.d0).claims=false by assumption];decide)
    have e1:nextG g (l.getD k Dat.d0)=g:=by rw[nextG,es,if_neg (by assumption)]
    refine⟨⟨k+1,by omega,nextG g (l.getD k Dat.d0),out++[⟨r.2.1,r.2.2⟩],by have:= @next_len g (l.getD k Dat.d0);omega,by rw[List.length_append,ho];rfl,by rw[hrun,drop_cons Dat.d0 (by omega),runG],by rw[hans,drop_cons Dat.d0 (by omega),ansG,es,List.append_assoc];rfl⟩,[(0,0),(1,1),(2,2),(3,3)],rfl,rfl, ?_, ?_,by(try dsimp only);omega⟩
    ·cbv
     repeat' first|(refine Stp.mk ?_;cbv)|(refine Gen.mk fun r hr=> ?_;(try simp only[Dat.ok,Dat.dec,Leaf.ok,Leaf.val,Z0,Z1,Z2,Z3,Z4,Z5,Z6,Z7,Z8,Z9,Z10,Z11,Z12,Z13,Z14,Z15,Z16,Z17,Z18,Z19,Z20,Z21,Z22,val_sl,val_nil]at hr);cbv)|exact trivial|rfl|refine Both.mk ?_ ?_|(refine Imp.mk fun h=> ?_;(try dsimp only at h);(try simp only[nc,Int.toNat_natCast,ne_eq,zz]at h);(try simp only[nc]at h))|refine Ob.mk ?_ ?_|refine Chk.mk (by kernel_rfl) ?_|refine Eq'.mk ?_|(refine AllN.mk fun i hi=> ?_;cbv)|(refine AllC.mk fun c hc hcm=> ?_;(try dsimp only at hc);cbv)|(refine AllS.mk fun r hr=> ?_;(try simp only[Dat.ok,Dat.dec,Leaf.ok,Leaf.val,Z0,Z1,Z2,Z3,Z4,Z5,Z6,Z7,Z8,Z9,Z10,Z11,Z12,Z13,Z14,Z15,Z16,Z17,Z18,Z19,Z20,Z21,Z22,val_sl]at hr);cbv)
     all_goals simp
    ·cbv
     repeat' first|(refine Stp.mk ?_;cbv)|(refine Gen.mk fun r hr=> ?_;(try simp only[Dat.ok,Dat.dec,Leaf.ok,Leaf.val,Z0,Z1,Z2,Z3,Z4,Z5,Z6,Z7,Z8,Z9,Z10,Z11,Z12,Z13,Z14,Z15,Z16,Z17,Z18,Z19,Z20,Z21,Z22,val_sl,val_nil]at hr);cbv)|exact trivial|rfl|refine Both.mk ?_ ?_|(refine Imp.mk fun h=> ?_;(try dsimp only at h);(try simp only[nc,Int.toNat_natCast,ne_eq,zz]at h);(try simp only[nc]at h))|refine Ob.mk ?_ ?_|refine Chk.mk (by kernel_rfl) ?_|refine Eq'.mk ?_|(refine AllN.mk fun i hi=> ?_;cbv)|(refine AllC.mk fun c hc hcm=> ?_;(try dsimp only at hc);cbv)|(refine AllS.mk fun r hr=> ?_;(try simp only[Dat.ok,Dat.dec,Leaf.ok,Leaf.val,Z0,Z1,Z2,Z3,Z4,Z5,Z6,Z7,Z8,Z9,Z10,Z11,Z12,Z13,Z14,Z15,Z16,Z17,Z18,Z19,Z20,Z21,Z22,val_sl]at hr);cbv)
     all_goals ((try dsimp only at*);(try simp only[nc,Int.toNat_natCast,ne_eq,zz]at*);(try simp only[nc]at*))
     all_goals first
      |(rw[e1];done)
      |(rw[gd_snoc _ _ _ _ hi];cases decide (i<out.length)<;>rfl)
      |(simp;done)
      |fail)
  |(have q1:runG g0 l=g:=by rw[hrun,drop_nil (by omega)];rfl
    have q2:ansG g0 l=out:=by rw[hans,drop_nil (by omega),ansG,List.append_nil]
    rw[e0,q1,q2])
  |fail
theorem gplay_ok:PcOk Tryz.prog 17 (gplay_C):=fun A K h=>by
 unfold gplay_C at h
 split at h
 ·rename_i l
  cases h with
  |mk h1 h2=>
   have g0:=h1
   refine FnOk.pre ?_ (A':=[Leaf.av fun _=>(Leaf.val l:(List GateOp))]) (.mk (Leaf.hle _ g0) (trivial))
   exact FnOk.out (K:=fun r H _=>K r H) (gplay_vc (Leaf.val l)) rfl h2.out
 ·cases h
end Go.Proofs.YtiaiifcgbjlfoaaGreatDoor
