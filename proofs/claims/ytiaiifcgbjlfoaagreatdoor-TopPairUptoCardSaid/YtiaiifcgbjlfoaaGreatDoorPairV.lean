/- pair: a fresh node, a node's copy: walked. -/
import Derived.Test.YtiaiifcgbjlfoaaGreatDoorText
import Derived.Test.YtiaiifcgbjlfoaaGreatDoorAbsG4
set_option linter.all false
namespace Go.Proofs.YtiaiifcgbjlfoaaGreatDoor
open Go Go.Abs
def newC_R (r:Th (Vm)):AV:= .agg [.i .i64 fun _=>(r ()).at_,.own 0 fun _=>(r ()).regs.length,.b fun _=>(r ()).halts,.b fun _=>(r ()).fault]
def newC_H (r:Th (Vm)):Hp:=[vecO 3 fun _=>(r ()).regs]
def newC_S:Vm:=(⟨0,List.replicate 8 0,false,false⟩:Vm)
set_option maxRecDepth 100000 in
set_option maxHeartbeats 4000000 in
theorem newC_vc:FnOk Tryz.prog 15 [] [] (outA (newC_R fun _=>newC_S) (newC_H fun _=>newC_S)):=by
 refine fn_ok envOk zl noCon_ok noDraws_ok (keep:=[0]) Tryz.func15 rfl ?_
 cbv
 repeat' first|(refine Stp.mk ?_;cbv)|(refine Gen.mk fun r hr=> ?_;(try simp only[Dat.ok,Dat.dec,Leaf.ok,Leaf.val,Z0,Z1,Z2,Z3,Z4,Z5,Z6,Z7,Z8,Z9,Z10,Z11,Z12,Z13,Z14,Z15,Z16,Z17,Z18,Z19,Z20,Z21,Z22,val_sl,val_nil]at hr);cbv)|exact trivial|rfl|refine Both.mk ?_ ?_|(refine Imp.mk fun h=> ?_;(try dsimp only at h);(try simp only[nc,Int.toNat_natCast,ne_eq,zz]at h);(try simp only[nc]at h))|refine Ob.mk ?_ ?_|refine Chk.mk (by kernel_rfl) ?_|refine Eq'.mk ?_|(refine AllN.mk fun i hi=> ?_;cbv)|(refine AllC.mk fun c hc hcm=> ?_;(try dsimp only at hc);cbv)|(refine AllS.mk fun r hr=> ?_;(try simp only[Dat.ok,Dat.dec,Leaf.ok,Leaf.val,Z0,Z1,Z2,Z3,Z4,Z5,Z6,Z7,Z8,Z9,Z10,Z11,Z12,Z13,Z14,Z15,Z16,Z17,Z18,Z19,Z20,Z21,Z22,val_sl]at hr);cbv)
 all_goals ((try dsimp only at*);(try simp only[nc,Int.toNat_natCast,ne_eq,zz]at*);(try simp only[nc]at*))
 all_goals first
  |omega
  |(have:i<8:=hi
    show(0:Int)=(List.replicate 8 (0:Int)).getD i 0
    rw[List.getD_eq_getElem?_getD,List.getElem?_replicate]
    split<;>rfl)
  |fail
def newF_R (r:Th (Vm)):AV:= .agg [.i .i64 fun _=>(r ()).at_,Leaf.av fun _=>(r ()).regs,.b fun _=>(r ()).halts,.b fun _=>(r ()).fault]
def newF_D:Det:=fun A=>match A with
 |[]=>some (fun _=>True,newF_R fun _=>newC_S)
 |_=>none
theorem newF_okF:∀A p r,newF_D A=some (p,r)→p ()→FrOk Tryz.prog 15 A r:=fun A p r h hp0=>by
 unfold newF_D at h
 split at h
 ·cases h
  exact FnOk.fresh (A:=[]) (FnOk.pre (A':=[]) (newC_vc) (trivial)) rfl (q:=_) (d:=_) rfl (by intro p hp;repeat (first|(cases hp;done)|(rcases List.mem_cons.1 hp with rfl|hp;· exact Nat.le_refl _))) rfl rfl ⟨.mk fun _ _=>rfl,trivial⟩
 ·cases h
def clEm_R (r:Th ((List Emit))):AV:= .own 0 fun _=>(r ()).length
def clEm_H (r:Th ((List Emit))):Hp:=[vecO 78 fun _=>(r ())]
def clEm_P (l:(List Emit)):Prop:=l.length≤1099511627776
set_option maxRecDepth 100000 in
set_option maxHeartbeats 4000000 in
theorem clEm_vc (l:(List Emit)) (hp:clEm_P l):FnOk Tryz.prog 117 [Leaf.av fun _=>l] [] (outA (clEm_R fun _=>l) (clEm_H fun _=>l)):=by
 refine fn_ok envOk zl noCon_ok noDraws_ok (keep:=[0,2,4]) Tryz.func117 rfl ?_
 have hp':l.length≤1099511627776:=hp
 cbv
 repeat' first|(refine Stp.mk ?_;cbv)|(refine Gen.mk fun r hr=> ?_;(try simp only[Dat.ok,Dat.dec,Leaf.ok,Leaf.val,Z0,Z1,Z2,Z3,Z4,Z5,Z6,Z7,Z8,Z9,Z10,Z11,Z12,Z13,Z14,Z15,Z16,Z17,Z18,Z19,Z20,Z21,Z22,val_sl,val_nil]at hr);cbv)|exact trivial|rfl|refine Both.mk ?_ ?_|(refine Imp.mk fun h=> ?_;(try dsimp only at h);(try simp only[nc,Int.toNat_natCast,ne_eq,zz]at h);(try simp only[nc]at h))|refine Ob.mk ?_ ?_|refine Chk.mk (by kernel_rfl) ?_|refine Eq'.mk ?_|(refine AllN.mk fun i hi=> ?_;cbv)|(refine AllC.mk fun c hc hcm=> ?_;(try dsimp only at hc);cbv)|(refine AllS.mk fun r hr=> ?_;(try simp only[Dat.ok,Dat.dec,Leaf.ok,Leaf.val,Z0,Z1,Z2,Z3,Z4,Z5,Z6,Z7,Z8,Z9,Z10,Z11,Z12,Z13,Z14,Z15,Z16,Z17,Z18,Z19,Z20,Z21,Z22,val_sl]at hr);cbv)
 all_goals ((try dsimp only at*);(try simp only[nc,Int.toNat_natCast,ne_eq,zz]at*);(try simp only[nc]at*))
 all_goals first
  |omega
  |(exact⟨Nat.le_refl _,trivial,by omega,by omega⟩)
  |(simp only[Nat.zero_add,Nat.sub_zero,Nat.not_lt_zero,decide_false,cond_false];done)
  |(simp_all;done)
  |fail
def clEmN_N:DetN:=fun A=>match A with
 |[l]=>some (fun _=>Leaf.ok (List Emit) l∧clEm_P (Leaf.val l),clEm_R fun _=>(Leaf.val l),vecO 78 fun _=>((Leaf.val l):(List Emit)))
 |_=>none
theorem clEmN_okN:PcOk Tryz.prog 117 (detNPC clEmN_N):=det_okN fun A p r o h hp0=>by
 unfold clEmN_N at h
 split at h
 ·rename_i l
  cases h
  obtain⟨g0,hp⟩:=hp0
  exact FnOk.pre (A':=[Leaf.av fun _=>(Leaf.val l:(List Emit))]) (FnOk.out (clEm_vc (Leaf.val l) hp) rfl ⟨rfl,rfl⟩) (.mk (Leaf.hle _ g0) (trivial))
 ·cases h
def clIntN_N:DetN:=fun A=>match A with
 |[l]=>some (fun _=>Leaf.ok (List Int) l∧clInt_P (Leaf.val l),clInt_R fun _=>(Leaf.val l),vecO 3 fun _=>((Leaf.val l):(List Int)))
 |_=>none
theorem clIntN_okN:PcOk Tryz.prog 36 (detNPC clIntN_N):=det_okN fun A p r o h hp0=>by
 unfold clIntN_N at h
 split at h
 ·rename_i l
  cases h
  obtain⟨g0,hp⟩:=hp0
  exact FnOk.pre (A':=[Leaf.av fun _=>(Leaf.val l:(List Int))]) (FnOk.out (clInt_vc (Leaf.val l) hp) rfl ⟨rfl,rfl⟩) (.mk (Leaf.hle _ g0) (trivial))
 ·cases h
def clIntF_R (r:Th ((List Int))):AV:=Leaf.av fun _=>(r ())
def clIntF_D:Det:=fun A=>match A with
 |[l]=>some (fun _=>Leaf.ok (List Int) l∧clInt_P (Leaf.val l),clIntF_R fun _=>(Leaf.val l))
 |_=>none
theorem clIntF_okF:∀A p r,clIntF_D A=some (p,r)→p ()→FrOk Tryz.prog 36 A r:=fun A p r h hp0=>by
 unfold clIntF_D at h
 split at h
 ·rename_i l
  cases h
  obtain⟨g0,hp⟩:=hp0
  exact FnOk.fresh (A:=[l]) (FnOk.pre (A':=[Leaf.av fun _=>(Leaf.val l:(List Int))]) (clInt_vc (Leaf.val l) hp) (.mk (Leaf.hle _ g0) (trivial))) rfl (q:=_) (d:=_) rfl (by intro p hp;repeat (first|(cases hp;done)|(rcases List.mem_cons.1 hp with rfl|hp;· exact Nat.le_refl _))) rfl rfl ⟨.mk fun _ _=>rfl,trivial⟩
 ·cases h
def dSt:FuncId→Option Dt:=fun f=>match f with
 |36=>some (.n clIntN_N)
 |117=>some (.n clEmN_N)
 |_=>none
theorem dSt_ok:DetOk Tryz.prog dSt:=fun f d h=>by
 unfold dSt at h
 split at h
 ·cases h;exact⟨⟨Tryz.f36,Tryz.func36,by kernel_rfl,by kernel_rfl⟩,clIntN_okN⟩
 ·cases h;exact⟨⟨Tryz.f117,Tryz.func117,by kernel_rfl,by kernel_rfl⟩,clEmN_okN⟩
 ·cases h
def stillC_R (r:Th (Node)):AV:= .agg [.i .i64 fun _=>(r ()).epoch,.i .i64 fun _=>(r ()).vm.at_,.own 0 fun _=>(r ()).vm.regs.length,.b fun _=>(r ()).vm.halts,.b fun _=>(r ()).vm.fault,.i .i64 fun _=>(r ()).read,.own 1 fun _=>(r ()).outs.length,.i .i64 fun _=>(r ()).sent]
def stillC_H (r:Th (Node)):Hp:=[vecO 3 fun _=>(r ()).vm.regs,vecO 78 fun _=>(r ()).outs]
def stillC_P (x:Node):Prop:=x.vm.regs.length≤1048576∧x.outs.length≤1048576
set_option maxRecDepth 100000 in
set_option maxHeartbeats 4000000 in
theorem stillC_vc (x:Node) (hp:stillC_P x):FnOk Tryz.prog 84 [.agg (Dat.enc fun _=>x)] [] (outA (stillC_R fun _=>stillN x) (stillC_H fun _=>stillN x)):=by
 refine fn_ok envOk zl noCon_ok (draws_ok envOk zl dSt_ok mixed) (keep:=[0,1,2]) Tryz.func84 rfl ?_
 cbv
 repeat' first|(show Stp _;exfalso;first|omega|(exact h ‹_›)|(exact absurd ‹_› h)|(exact Bool.false_ne_true (h.symm.trans (show _=true by assumption))))|(refine Stp.mk ?_;cbv)|(refine Gen.mk fun r hr=> ?_;(try simp only[Dat.ok,Dat.dec,Leaf.ok,Leaf.val,Z0,Z1,Z2,Z3,Z4,Z5,Z6,Z7,Z8,Z9,Z10,Z11,Z12,Z13,Z14,Z15,Z16,Z17,Z18,Z19,Z20,Z21,Z22,val_sl,val_nil]at hr);cbv)|exact trivial|rfl|refine Both.mk ?_ ?_|(refine Imp.mk fun h=> ?_;(try dsimp only at h);(try simp only[nc,Int.toNat_natCast,ne_eq,zz]at h);(try simp only[nc]at h))|refine Ob.mk ?_ ?_|refine Chk.mk (by kernel_rfl) ?_|refine Eq'.mk ?_|(refine AllN.mk fun i hi=> ?_;cbv)|(refine AllC.mk fun c hc hcm=> ?_;(try dsimp only at hc);cbv)|(refine AllS.mk fun r hr=> ?_;(try simp only[Dat.ok,Dat.dec,Leaf.ok,Leaf.val,Z0,Z1,Z2,Z3,Z4,Z5,Z6,Z7,Z8,Z9,Z10,Z11,Z12,Z13,Z14,Z15,Z16,Z17,Z18,Z19,Z20,Z21,Z22,val_sl]at hr);cbv)
 all_goals ((try dsimp only at*);(try simp only[nc,Int.toNat_natCast,ne_eq,zz]at*);(try simp only[nc]at*))
 all_goals try simp only[Dat.dec,Leaf.val,Z0,Z1,Z2,Z3,Z4,Z5,Z6,Z7,Z8,Z9,Z10,Z11,Z12,Z13,Z14,Z15,Z16,Z17,Z18,Z19,Z20,Z21,Z22,val_sl]at*
 all_goals first
  |exact⟨⟨rfl,fun i _=>Dat.hok _⟩,by have:=hp.1;show(_:Nat)≤_;omega⟩
  |exact⟨⟨rfl,fun i _=>Dat.hok _⟩,by have:=hp.2;show(_:Nat)≤_;omega⟩
  |rfl
  |fail
def stillF_R (r:Th (Node)):AV:= .agg [.i .i64 fun _=>(r ()).epoch,.i .i64 fun _=>(r ()).vm.at_,Leaf.av fun _=>(r ()).vm.regs,.b fun _=>(r ()).vm.halts,.b fun _=>(r ()).vm.fault,.i .i64 fun _=>(r ()).read,Leaf.av fun _=>(r ()).outs,.i .i64 fun _=>(r ()).sent]
def stillF_D:Det:=fun A=>match A with
 |[.agg x]=>some (fun _=>Dat.ok Node x∧stillC_P (Dat.dec x),stillF_R fun _=>stillN (Dat.dec x))
 |_=>none
theorem stillF_okF:∀A p r,stillF_D A=some (p,r)→p ()→FrOk Tryz.prog 84 A r:=fun A p r h hp0=>by
 unfold stillF_D at h
 split at h
 ·rename_i x
  cases h
  obtain⟨g0,hp⟩:=hp0
  exact FnOk.fresh (A:=[.agg x]) (FnOk.pre (A':=[.agg (Dat.enc fun _=>(Dat.dec x:Node))]) (stillC_vc (Dat.dec x) hp) (.mk (Dat.hle _ g0) (trivial))) rfl (q:=_) (d:=_) rfl (by intro p hp;repeat (first|(cases hp;done)|(rcases List.mem_cons.1 hp with rfl|hp;· exact Nat.le_refl _))) rfl rfl ⟨.mk fun _ _=>rfl,.mk fun _ _=>rfl,trivial⟩
 ·cases h
def stillA (x:Th Node):AV:= .agg [.i .i64 fun _=>0,.i .i64 fun _=>(x ()).vm.at_,.sl 1 (fun _=>(x ()).vm.regs.length) fun j=>Dat.enc fun _=>(x ()).vm.regs.getD (j ()) Dat.d0,.b fun _=>(x ()).vm.halts,.b fun _=>(x ()).vm.fault,.i .i64 fun _=>(x ()).read,.own 0 fun _=>(x ()).outs.length,.i .i64 fun _=>0]
def dSu:FuncId→Option Dt:=fun f=>match f with
 |36=>some (.f clIntF_D)
 |117=>some (.n clEmN_N)
 |_=>none
theorem dSu_ok:DetOk Tryz.prog dSu:=fun f d h=>by
 unfold dSu at h
 split at h
 ·cases h;exact⟨⟨Tryz.f36,Tryz.func36,by kernel_rfl,by kernel_rfl⟩,clIntF_okF⟩
 ·cases h;exact⟨⟨Tryz.f117,Tryz.func117,by kernel_rfl,by kernel_rfl⟩,clEmN_okN⟩
 ·cases h
theorem stillO_vc (x:Node) (hp:x.vm.regs.length≤1048576∧x.outs.length≤1048576):FnOk Tryz.prog 84 [.agg (Dat.enc fun _=>x)] [] fun r H _=>r=stillA (fun _=>x)∧H=[vecO 78 fun _=>x.outs]:=by
 refine FnOk.out (A:=[.agg (Dat.enc fun _=>x)]) (r0:=stillA fun _=>x) (H0:=[vecO 78 fun _=>x.outs]) (K:=fun r H _=>r=stillA (fun _=>x)∧H=[vecO 78 fun _=>x.outs]) ?_ rfl ⟨rfl,rfl⟩
 refine fn_ok envOk zl noCon_ok (draws_ok envOk zl dSu_ok mixed) (keep:=[0,1,2]) Tryz.func84 rfl ?_
 cbv
 repeat' first|(show Stp _;exfalso;first|omega|(exact h ‹_›)|(exact absurd ‹_› h)|(exact Bool.false_ne_true (h.symm.trans (show _=true by assumption))))|(refine Stp.mk ?_;cbv)|(refine Gen.mk fun r hr=> ?_;(try simp only[Dat.ok,Dat.dec,Leaf.ok,Leaf.val,Z0,Z1,Z2,Z3,Z4,Z5,Z6,Z7,Z8,Z9,Z10,Z11,Z12,Z13,Z14,Z15,Z16,Z17,Z18,Z19,Z20,Z21,Z22,val_sl,val_nil]at hr);cbv)|exact trivial|rfl|refine Both.mk ?_ ?_|(refine Imp.mk fun h=> ?_;(try dsimp only at h);(try simp only[nc,Int.toNat_natCast,ne_eq,zz]at h);(try simp only[nc]at h))|refine Ob.mk ?_ ?_|refine Chk.mk (by kernel_rfl) ?_|refine Eq'.mk ?_|(refine AllN.mk fun i hi=> ?_;cbv)|(refine AllC.mk fun c hc hcm=> ?_;(try dsimp only at hc);cbv)|(refine AllS.mk fun r hr=> ?_;(try simp only[Dat.ok,Dat.dec,Leaf.ok,Leaf.val,Z0,Z1,Z2,Z3,Z4,Z5,Z6,Z7,Z8,Z9,Z10,Z11,Z12,Z13,Z14,Z15,Z16,Z17,Z18,Z19,Z20,Z21,Z22,val_sl]at hr);cbv)
 all_goals ((try dsimp only at*);(try simp only[nc,Int.toNat_natCast,ne_eq,zz]at*);(try simp only[nc]at*))
 all_goals try simp only[Dat.dec,Leaf.val,Z0,Z1,Z2,Z3,Z4,Z5,Z6,Z7,Z8,Z9,Z10,Z11,Z12,Z13,Z14,Z15,Z16,Z17,Z18,Z19,Z20,Z21,Z22,val_sl]at*
 all_goals first
  |exact⟨⟨rfl,fun i _=>Dat.hok _⟩,by have:=hp.1;show(_:Nat)≤_;omega⟩
  |exact⟨⟨rfl,fun i _=>Dat.hok _⟩,by have:=hp.2;show(_:Nat)≤_;omega⟩
  |rfl
  |fail
def stillO_N:DetN:=fun A=>match A with
 |[.agg x]=>some (fun _=>Dat.ok Node x∧(Dat.dec x:Node).vm.regs.length≤1048576∧(Dat.dec x:Node).outs.length≤1048576,stillA fun _=>(Dat.dec x:Node),vecO 78 fun _=>(Dat.dec x:Node).outs)
 |_=>none
theorem stillO_okN:PcOk Tryz.prog 84 (detNPC stillO_N):=det_okN fun A p r o h hp0=>by
 unfold stillO_N at h
 split at h
 ·rename_i x
  cases h
  obtain⟨g0,hp⟩:=hp0
  exact FnOk.pre (A':=[.agg (Dat.enc fun _=>(Dat.dec x:Node))]) (stillO_vc _ hp) (.mk (Dat.hle _ g0) trivial)
 ·cases h
def freshA:AV:= .agg [.i .i64 fun _=>0,.i .i64 fun _=>0,.sl 1 (fun _=>v0.regs.length) fun j=>Dat.enc fun _=>v0.regs.getD (j ()) Dat.d0,.bc false,.bc false,.i .i64 fun _=>0,.own 0 fun _=>0,.i .i64 fun _=>0]
noncomputable def cFn:FuncId→Con:=fun f=>match f with
 |15=>frCon newF_D
 |_=>fun _ _ _=>Bad 1001
theorem cFn_ok:ConOk Tryz.prog cFn:=fun f A H K h=>by
 unfold cFn at h
 split at h
 ·exact⟨⟨Tryz.f15,Tryz.func15,by kernel_rfl,by kernel_rfl⟩,frCon_ok newF_okF h⟩
 ·cases h
theorem freshO_vc:FnOk Tryz.prog 47 [] [] fun r H _=>r=freshA∧H=[vecO (α:=Emit) 78 fun _=>[]]:=by
 refine FnOk.out (A:=[]) (r0:=freshA) (H0:=[vecO (α:=Emit) 78 fun _=>[]]) (K:=fun r H _=>r=freshA∧H=[vecO (α:=Emit) 78 fun _=>[]]) ?_ rfl ⟨rfl,rfl⟩
 refine fn_ok envOk zl cFn_ok noDraws_ok (keep:=[0]) Tryz.func47 rfl ?_
 cbv
 repeat' first|(show Stp _;exfalso;first|omega|(exact h ‹_›)|(exact absurd ‹_› h)|(exact Bool.false_ne_true (h.symm.trans (show _=true by assumption))))|(refine Stp.mk ?_;cbv)|(refine Gen.mk fun r hr=> ?_;(try simp only[Dat.ok,Dat.dec,Leaf.ok,Leaf.val,Z0,Z1,Z2,Z3,Z4,Z5,Z6,Z7,Z8,Z9,Z10,Z11,Z12,Z13,Z14,Z15,Z16,Z17,Z18,Z19,Z20,Z21,Z22,val_sl,val_nil]at hr);cbv)|exact trivial|rfl|refine Both.mk ?_ ?_|(refine Imp.mk fun h=> ?_;(try dsimp only at h);(try simp only[nc,Int.toNat_natCast,ne_eq,zz]at h);(try simp only[nc]at h))|refine Ob.mk ?_ ?_|refine Chk.mk (by kernel_rfl) ?_|refine Eq'.mk ?_|(refine AllN.mk fun i hi=> ?_;cbv)|(refine AllC.mk fun c hc hcm=> ?_;(try dsimp only at hc);cbv)|(refine AllS.mk fun r hr=> ?_;(try simp only[Dat.ok,Dat.dec,Leaf.ok,Leaf.val,Z0,Z1,Z2,Z3,Z4,Z5,Z6,Z7,Z8,Z9,Z10,Z11,Z12,Z13,Z14,Z15,Z16,Z17,Z18,Z19,Z20,Z21,Z22,val_sl]at hr);cbv)
 all_goals ((try dsimp only at*);(try simp only[nc,Int.toNat_natCast,ne_eq,zz]at*);(try simp only[nc]at*))
 all_goals try simp only[Dat.dec,Leaf.val,Z0,Z1,Z2,Z3,Z4,Z5,Z6,Z7,Z8,Z9,Z10,Z11,Z12,Z13,Z14,Z15,Z16,Z17,Z18,Z19,Z20,Z21,Z22,val_sl]at*
 all_goals first|exact absurd hi (Nat.not_lt_zero _)|fail
def freshP_C:PC:=fun A PK=>match A with
 |[]=>PK freshA [vecO (α:=Emit) 78 fun _=>[]]
 |_=>Bad 300
theorem freshP_ok:PcOk Tryz.prog 47 freshP_C:=fun A PK h=>by
 unfold freshP_C at h
 split at h
 ·exact FnOk.mono freshO_vc fun r H kl hq=>by
   obtain⟨h1,h2⟩:=hq
   subst h1 h2
   exact h
 ·cases h
end Go.Proofs.YtiaiifcgbjlfoaaGreatDoor
