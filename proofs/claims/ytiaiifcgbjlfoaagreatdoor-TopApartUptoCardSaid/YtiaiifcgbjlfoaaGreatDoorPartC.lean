/- parts.Check: walked. -/
import Derived.Test.YtiaiifcgbjlfoaaGreatDoorPartQ
set_option linter.all false
namespace Go.Proofs.YtiaiifcgbjlfoaaGreatDoor
open Go Go.Abs
def qO8 (r:Th (Bool)):AV:= .b fun _=>(r ())
def qEY (n:Int):Bool:= !qC5 n
def qKV:Det:=fun A=>match A with
 |[.i .i64 n]=>some (fun _=>True,qO8 fun _=>qEY (n ()))
 |_=>none
set_option maxRecDepth 100000 in
set_option maxHeartbeats 4000000 in
theorem qQ0 (n:Int):qO Tryz.prog 123 [.i .i64 fun _=>n] [] (qAf (qO8 fun _=>qEY n) []):=by
 refine qAe qI zl qP qD (keep:=[0,2]) Tryz.func123 rfl ?_
 cbv
 repeat' first|(show Stp _;exfalso;first|omega|(exact h ‹_›)|(exact absurd ‹_› h)|(exact Bool.false_ne_true (h.symm.trans (show _=true by assumption))))|(refine Stp.mk ?_;cbv)|(refine Gen.mk fun r hr=> ?_;(try simp only[Dat.ok,Dat.dec,Leaf.ok,Leaf.val,Z0,Z1,Z2,Z3,Z4,Z5,Z6,Z7,Z8,Z9,Z10,Z11,Z12,Z13,Z14,qA,qB]at hr);cbv)|exact trivial|rfl|refine Both.mk ?_ ?_|(refine Imp.mk fun h=> ?_;(try dsimp only at h);(try simp only[nc,Int.toNat_natCast,ne_eq,zz]at h);(try simp only[nc]at h))|refine Ob.mk ?_ ?_|refine Chk.mk (by kernel_rfl) ?_|refine Eq'.mk ?_|(refine AllN.mk fun i hi=> ?_;cbv)|(refine AllC.mk fun c hc hcm=> ?_;(try dsimp only at hc);cbv)|(refine AllS.mk fun r hr=> ?_;(try simp only[Dat.ok,Dat.dec,Leaf.ok,Leaf.val,Z0,Z1,Z2,Z3,Z4,Z5,Z6,Z7,Z8,Z9,Z10,Z11,Z12,Z13,Z14,qA]at hr);cbv)
 all_goals ((try dsimp only at*);(try simp only[nc,Int.toNat_natCast,ne_eq,zz]at*);(try simp only[nc]at*))
 all_goals first|rfl|fail
theorem qQ1:qBf Tryz.prog 123 (qM qKV):=qS fun A p r h hp0=>by
 unfold qKV at h
 split at h
 ·rename_i n
  cases h
  exact⟨rfl,qO.pre (A':=[.i .i64 fun _=>n ()]) (qQ0 (n ())) (.mk (.mk (.mk rfl) (.mk rfl)) (trivial))⟩
 ·cases h
def pinC_R (r:Th (Bool)):AV:= .b fun _=>(r ())
def pinC_P (m:Module) (i:Int):Prop:=m.parts.length≤9223372036854775807
def pinC_D:Det:=fun A=>match A with
 |[.agg m,.i .i64 i]=>some (fun _=>Dat.ok Module m∧pinC_P (Dat.dec m) (i ()),pinC_R fun _=>qBd (Dat.dec m) (i ()))
 |_=>none
set_option maxRecDepth 100000 in
set_option maxHeartbeats 4000000 in
theorem pinC_vc (m:Module) (i:Int) (hp:pinC_P m i):qO Tryz.prog 20 [.agg (Dat.enc fun _=>m),.i .i64 fun _=>i] [] (qAf (pinC_R fun _=>qBd m i) []):=by
 refine qAe qI zl qP qD (keep:=[0,1,2,4]) Tryz.func20 rfl ?_
 cbv
 repeat' first|(show Stp _;exfalso;first|omega|(exact h ‹_›)|(exact absurd ‹_› h)|(exact Bool.false_ne_true (h.symm.trans (show _=true by assumption))))|(refine Stp.mk ?_;cbv)|(refine Gen.mk fun r hr=> ?_;(try simp only[Dat.ok,Dat.dec,Leaf.ok,Leaf.val,Z0,Z1,Z2,Z3,Z4,Z5,Z6,Z7,Z8,Z9,Z10,Z11,Z12,Z13,Z14,qA,qB]at hr);cbv)|exact trivial|rfl|refine Both.mk ?_ ?_|(refine Imp.mk fun h=> ?_;(try dsimp only at h);(try simp only[nc,Int.toNat_natCast,ne_eq,zz]at h);(try simp only[nc]at h))|refine Ob.mk ?_ ?_|refine Chk.mk (by kernel_rfl) ?_|refine Eq'.mk ?_|(refine AllN.mk fun i hi=> ?_;cbv)|(refine AllC.mk fun c hc hcm=> ?_;(try dsimp only at hc);cbv)|(refine AllS.mk fun r hr=> ?_;(try simp only[Dat.ok,Dat.dec,Leaf.ok,Leaf.val,Z0,Z1,Z2,Z3,Z4,Z5,Z6,Z7,Z8,Z9,Z10,Z11,Z12,Z13,Z14,qA]at hr);cbv)
 all_goals ((try dsimp only at*);(try simp only[nc,Int.toNat_natCast,ne_eq,zz]at*);(try simp only[nc]at*))
 all_goals first
  |(show decide (i<(m.parts.length:Int))=decide (0≤i∧i<m.parts.length);exact decide_eq_decide.2 ⟨fun h=>⟨by assumption,h⟩,fun h=>h.2⟩)
  |(show false=decide (0≤i∧i<m.parts.length);exact(decide_eq_false (by omega)).symm)
  |fail
theorem pinC_ok:qBf Tryz.prog 20 (qM pinC_D):=qS fun A p r h hp0=>by
 unfold pinC_D at h
 split at h
 ·rename_i m i
  cases h
  obtain⟨g0,hp⟩:=hp0
  exact⟨rfl,qO.pre (A':=[.agg (Dat.enc fun _=>(Dat.dec m:Module)),.i .i64 fun _=>i ()]) (pinC_vc (Dat.dec m) (i ()) hp) (.mk (Dat.hle _ g0) (.mk (.mk (.mk rfl) (.mk rfl)) (trivial)))⟩
 ·cases h
noncomputable def qYg:FuncId→Con:=fun f=>match f with
 |123=>qH (qM qKV)
 |_=>fun _ _ _=>Bad 1001
theorem qTK:qY Tryz.prog qYg:=fun f A H K h=>by
 unfold qYg at h
 split at h
 ·exact⟨⟨Tryz.f123,Tryz.func123,by kernel_rfl,by kernel_rfl⟩,qE qQ1 h⟩
 ·cases h
noncomputable def qYh:FuncId→Con:=fun f=>match f with
 |70=>qAg E qYg qAa [0,1,4,5,7,8,9,16] Tryz.f70
 |_=>fun _ _ _=>Bad 1001
theorem qTL:qY Tryz.prog qYh:=fun f A H K h=>by
 unfold qYh at h
 split at h
 ·exact⟨⟨Tryz.f70,Tryz.func70,by kernel_rfl,by kernel_rfl⟩,qAi qI zl qTK qD Tryz.func70 h⟩
 ·cases h
noncomputable def qYv:FuncId→Con:=fun f=>match f with
 |32=>qAg E qYh qAa [0,1,4] Tryz.f32
 |_=>fun _ _ _=>Bad 1001
theorem qTM:qY Tryz.prog qYv:=fun f A H K h=>by
 unfold qYv at h
 split at h
 ·exact⟨⟨Tryz.f32,Tryz.func32,by kernel_rfl,by kernel_rfl⟩,qAi qI zl qTL qD Tryz.func32 h⟩
 ·cases h
def qGp (r:Th (Bool)):AV:= .b fun _=>(r ())
def qO9 (l:(List Int)):Prop:=l.length≤9223372036854775807
def qKW:Det:=fun A=>match A with
 |[l]=>some (fun _=>Leaf.ok (List Int) l∧qO9 (Leaf.val l),qGp fun _=>qDM (Leaf.val l))
 |_=>none
set_option maxRecDepth 100000 in
set_option maxHeartbeats 4000000 in
theorem qQ2 (l:(List Int)) (hp:qO9 l):qO Tryz.prog 90 [Leaf.av fun _=>l] [] (qAf (qGp fun _=>qDM l) []):=by
 refine qAe qI zl qTM qD (keep:=[0,2]) Tryz.func90 rfl ?_
 have hp':l.length≤9223372036854775807:=hp
 have fin:∀(e:Bool) H kl,qDM l=e→qAf (qGp fun _=>qDM l) [] (.b fun _=>e) H kl:=fun e H kl h=>by
  rw[h]
  cbv
  repeat' first|(refine Stp.mk ?_;cbv)|(refine Gen.mk fun r hr=> ?_;(try simp only[Dat.ok,Dat.dec,Leaf.ok,Leaf.val,Z0,Z1,Z2,Z3,Z4,Z5,Z6,Z7,Z8,Z9,Z10,Z11,Z12,Z13,Z14,qA,qB]at hr);cbv)|exact trivial|rfl|refine Both.mk ?_ ?_|(refine Imp.mk fun h=> ?_;(try dsimp only at h);(try simp only[nc,Int.toNat_natCast,ne_eq,zz]at h);(try simp only[nc]at h))|refine Ob.mk ?_ ?_|refine Chk.mk (by kernel_rfl) ?_|refine Eq'.mk ?_|(refine AllN.mk fun i hi=> ?_;cbv)|(refine AllC.mk fun c hc hcm=> ?_;(try dsimp only at hc);cbv)|(refine AllS.mk fun r hr=> ?_;(try simp only[Dat.ok,Dat.dec,Leaf.ok,Leaf.val,Z0,Z1,Z2,Z3,Z4,Z5,Z6,Z7,Z8,Z9,Z10,Z11,Z12,Z13,Z14,qA]at hr);cbv)
 have fin0:∀(e:Bool) H kl,qDM l=e→qAf (qGp fun _=>qDM l) [] (.bc e) H kl:=fun e H kl h=>by
  rw[h]
  cbv
  repeat' first|(refine Stp.mk ?_;cbv)|(refine Gen.mk fun r hr=> ?_;(try simp only[Dat.ok,Dat.dec,Leaf.ok,Leaf.val,Z0,Z1,Z2,Z3,Z4,Z5,Z6,Z7,Z8,Z9,Z10,Z11,Z12,Z13,Z14,qA,qB]at hr);cbv)|exact trivial|rfl|refine Both.mk ?_ ?_|(refine Imp.mk fun h=> ?_;(try dsimp only at h);(try simp only[nc,Int.toNat_natCast,ne_eq,zz]at h);(try simp only[nc]at h))|refine Ob.mk ?_ ?_|refine Chk.mk (by kernel_rfl) ?_|refine Eq'.mk ?_|(refine AllN.mk fun i hi=> ?_;cbv)|(refine AllC.mk fun c hc hcm=> ?_;(try dsimp only at hc);cbv)|(refine AllS.mk fun r hr=> ?_;(try simp only[Dat.ok,Dat.dec,Leaf.ok,Leaf.val,Z0,Z1,Z2,Z3,Z4,Z5,Z6,Z7,Z8,Z9,Z10,Z11,Z12,Z13,Z14,qA]at hr);cbv)
 generalize qAf (qGp fun _=>qDM l) []=K at fin fin0
 cbv
 repeat' first|(show Stp _;exfalso;first|omega|(exact h ‹_›)|(exact absurd ‹_› h)|(exact Bool.false_ne_true (h.symm.trans (show _=true by assumption))))|(refine Stp.mk ?_;cbv)|(refine Gen.mk fun r hr=> ?_;(try simp only[Dat.ok,Dat.dec,Leaf.ok,Leaf.val,Z0,Z1,Z2,Z3,Z4,Z5,Z6,Z7,Z8,Z9,Z10,Z11,Z12,Z13,Z14,qA,qB]at hr);cbv)|exact trivial|rfl|refine Both.mk ?_ ?_|(refine Imp.mk fun h=> ?_;(try dsimp only at h);(try simp only[nc,Int.toNat_natCast,ne_eq,zz]at h);(try simp only[nc]at h))|refine Ob.mk ?_ ?_|refine Chk.mk (by kernel_rfl) ?_|refine Eq'.mk ?_|(refine AllN.mk fun i hi=> ?_;cbv)|(refine AllC.mk fun c hc hcm=> ?_;(try dsimp only at hc);cbv)|(refine AllS.mk fun r hr=> ?_;(try simp only[Dat.ok,Dat.dec,Leaf.ok,Leaf.val,Z0,Z1,Z2,Z3,Z4,Z5,Z6,Z7,Z8,Z9,Z10,Z11,Z12,Z13,Z14,qA]at hr);cbv)
 all_goals ((try dsimp only at*);(try simp only[nc,Int.toNat_natCast,ne_eq,zz]at*);(try simp only[nc]at*))
 refine LoopVC.frame [4,5,8,9,16] (AnyI l) (fun x=>[(8,.i .i64 fun _=>x.k)]) (fun _=>[]) [] (fun x=>l.length-x.k) ⟨0,Nat.zero_le _,by simp⟩ rfl (fun _=>rfl) ?_ ?_ fun⟨k,hk,hr⟩=> ?_
 iterate 2
  ·cbv
   repeat' first|(refine Stp.mk ?_;cbv)|(refine Gen.mk fun r hr=> ?_;(try simp only[Dat.ok,Dat.dec,Leaf.ok,Leaf.val,Z0,Z1,Z2,Z3,Z4,Z5,Z6,Z7,Z8,Z9,Z10,Z11,Z12,Z13,Z14,qA,qB]at hr);cbv)|exact trivial|rfl|refine Both.mk ?_ ?_|(refine Imp.mk fun h=> ?_;(try dsimp only at h);(try simp only[nc,Int.toNat_natCast,ne_eq,zz]at h);(try simp only[nc]at h))|refine Ob.mk ?_ ?_|refine Chk.mk (by kernel_rfl) ?_|refine Eq'.mk ?_|(refine AllN.mk fun i hi=> ?_;cbv)|(refine AllC.mk fun c hc hcm=> ?_;(try dsimp only at hc);cbv)|(refine AllS.mk fun r hr=> ?_;(try simp only[Dat.ok,Dat.dec,Leaf.ok,Leaf.val,Z0,Z1,Z2,Z3,Z4,Z5,Z6,Z7,Z8,Z9,Z10,Z11,Z12,Z13,Z14,qA]at hr);cbv)
 cbv
 repeat' first|(show Stp _;exfalso;first|omega|(exact h ‹_›)|(exact absurd ‹_› h)|(exact Bool.false_ne_true (h.symm.trans (show _=true by assumption))))|(refine Stp.mk ?_;cbv)|(refine Gen.mk fun r hr=> ?_;(try simp only[Dat.ok,Dat.dec,Leaf.ok,Leaf.val,Z0,Z1,Z2,Z3,Z4,Z5,Z6,Z7,Z8,Z9,Z10,Z11,Z12,Z13,Z14,qA,qB]at hr);cbv)|exact trivial|rfl|refine Both.mk ?_ ?_|(refine Imp.mk fun h=> ?_;(try dsimp only at h);(try simp only[nc,Int.toNat_natCast,ne_eq,zz]at h);(try simp only[nc]at h))|refine Ob.mk ?_ ?_|refine Chk.mk (by kernel_rfl) ?_|refine Eq'.mk ?_|(refine AllN.mk fun i hi=> ?_;cbv)|(refine AllC.mk fun c hc hcm=> ?_;(try dsimp only at hc);cbv)|(refine AllS.mk fun r hr=> ?_;(try simp only[Dat.ok,Dat.dec,Leaf.ok,Leaf.val,Z0,Z1,Z2,Z3,Z4,Z5,Z6,Z7,Z8,Z9,Z10,Z11,Z12,Z13,Z14,qA]at hr);cbv)
 all_goals ((try dsimp only at*);(try simp only[nc,Int.toNat_natCast,ne_eq,zz]at*);(try simp only[nc]at*))
 all_goals first
  |omega
  |(unfold InR;omega)
  |(have hb0:qEY (l.getD k Dat.d0)=true:=by assumption
    have hb:qC5 (l.getD k Dat.d0)=false:=by simpa[qEY]using hb0
    have e:qDM l=true:=by unfold qDM;rw[hr,qX Dat.d0 (by omega),List.any_cons,hb];rfl
    first
     |exact fin0 _ _ _ e
     |(refine fin _ _ _ ?_
       rw[e]
       first|rfl|(exact(decide_eq_true (by omega)).symm)))
  |(have e:qDM l=false:=by unfold qDM;rw[hr,drop_nil (by omega)];rfl
    first
     |exact fin0 _ _ _ e
     |(refine fin _ _ _ ?_
       rw[e]
       first|rfl|(exact(decide_eq_false (by omega)).symm)))
  |(have hb0:qEY (l.getD k Dat.d0)=false:=by assumption
    have hb:qC5 (l.getD k Dat.d0)=true:=by simpa[qEY]using hb0
    refine⟨⟨k+1,by omega,by rw[hr,qX Dat.d0 (by omega),List.any_cons,hb];rfl⟩, ?_, ?_,rfl,by(try dsimp only);omega⟩
    ·cbv
     repeat' first|(refine Stp.mk ?_;cbv)|(refine Gen.mk fun r hr=> ?_;(try simp only[Dat.ok,Dat.dec,Leaf.ok,Leaf.val,Z0,Z1,Z2,Z3,Z4,Z5,Z6,Z7,Z8,Z9,Z10,Z11,Z12,Z13,Z14,qA,qB]at hr);cbv)|exact trivial|rfl|refine Both.mk ?_ ?_|(refine Imp.mk fun h=> ?_;(try dsimp only at h);(try simp only[nc,Int.toNat_natCast,ne_eq,zz]at h);(try simp only[nc]at h))|refine Ob.mk ?_ ?_|refine Chk.mk (by kernel_rfl) ?_|refine Eq'.mk ?_|(refine AllN.mk fun i hi=> ?_;cbv)|(refine AllC.mk fun c hc hcm=> ?_;(try dsimp only at hc);cbv)|(refine AllS.mk fun r hr=> ?_;(try simp only[Dat.ok,Dat.dec,Leaf.ok,Leaf.val,Z0,Z1,Z2,Z3,Z4,Z5,Z6,Z7,Z8,Z9,Z10,Z11,Z12,Z13,Z14,qA]at hr);cbv)
    ·cbv
     repeat' first|(refine Stp.mk ?_;cbv)|(refine Gen.mk fun r hr=> ?_;(try simp only[Dat.ok,Dat.dec,Leaf.ok,Leaf.val,Z0,Z1,Z2,Z3,Z4,Z5,Z6,Z7,Z8,Z9,Z10,Z11,Z12,Z13,Z14,qA,qB]at hr);cbv)|exact trivial|rfl|refine Both.mk ?_ ?_|(refine Imp.mk fun h=> ?_;(try dsimp only at h);(try simp only[nc,Int.toNat_natCast,ne_eq,zz]at h);(try simp only[nc]at h))|refine Ob.mk ?_ ?_|refine Chk.mk (by kernel_rfl) ?_|refine Eq'.mk ?_|(refine AllN.mk fun i hi=> ?_;cbv)|(refine AllC.mk fun c hc hcm=> ?_;(try dsimp only at hc);cbv)|(refine AllS.mk fun r hr=> ?_;(try simp only[Dat.ok,Dat.dec,Leaf.ok,Leaf.val,Z0,Z1,Z2,Z3,Z4,Z5,Z6,Z7,Z8,Z9,Z10,Z11,Z12,Z13,Z14,qA]at hr);cbv))
  |fail
theorem qQ3:qBf Tryz.prog 90 (qM qKW):=qS fun A p r h hp0=>by
 unfold qKW at h
 split at h
 ·rename_i l
  cases h
  obtain⟨g0,hp⟩:=hp0
  exact⟨rfl,qO.pre (A':=[Leaf.av fun _=>(Leaf.val l:(List Int))]) (qQ2 (Leaf.val l) hp) (.mk (Leaf.hle _ g0) (trivial))⟩
 ·cases h
noncomputable def cPr:FuncId→Con:=fun f=>match f with
 |30=>qH (qM qDr)
 |31=>qH (qM qEh)
 |90=>qH (qM qKW)
 |_=>fun _ _ _=>Bad 1001
theorem qWQ:qY Tryz.prog cPr:=fun f A H K h=>by
 unfold cPr at h
 split at h
 ·exact⟨⟨Tryz.f30,Tryz.func30,by kernel_rfl,by kernel_rfl⟩,qE qEf h⟩
 ·exact⟨⟨Tryz.f31,Tryz.func31,by kernel_rfl,by kernel_rfl⟩,qE qHc h⟩
 ·exact⟨⟨Tryz.f90,Tryz.func90,by kernel_rfl,by kernel_rfl⟩,qE qQ3 h⟩
 ·cases h
def qL4 (r:Th (Int)):AV:= .i .i64 fun _=>(r ())
def qSp (p:Part):Prop:=p.code.length≤9223372036854775807∧p.vm.regs.length≤9223372036854775807∧p.box.length≤9223372036854775807
def qPa:Det:=fun A=>match A with
 |[.agg p]=>some (fun _=>Dat.ok Part p∧qSp (Dat.dec p),qL4 fun _=>qIC (Dat.dec p))
 |_=>none
set_option maxRecDepth 100000 in
set_option maxHeartbeats 4000000 in
theorem qTN (p:Part) (hp:qSp p):qO Tryz.prog 52 [.agg (Dat.enc fun _=>p)] [] (qAf (qL4 fun _=>qIC p) []):=by
 refine qAe qI zl qWQ qD (keep:=[0,1,2,3,4,9,15,17,25,30]) Tryz.func52 rfl ?_
 obtain⟨p1,p2,p3⟩:p.code.length≤9223372036854775807∧p.vm.regs.length≤9223372036854775807∧p.box.length≤9223372036854775807:=hp
 have fin:∀(e:Int) H kl,qIC p=e→qAf (qL4 fun _=>qIC p) [] (.i .i64 fun _=>e) H kl:=fun e H kl h=>by
  rw[h]
  cbv
  repeat' first|(refine Stp.mk ?_;cbv)|(refine Gen.mk fun r hr=> ?_;(try simp only[Dat.ok,Dat.dec,Leaf.ok,Leaf.val,Z0,Z1,Z2,Z3,Z4,Z5,Z6,Z7,Z8,Z9,Z10,Z11,Z12,Z13,Z14,qA,qB]at hr);cbv)|exact trivial|rfl|refine Both.mk ?_ ?_|(refine Imp.mk fun h=> ?_;(try dsimp only at h);(try simp only[nc,Int.toNat_natCast,ne_eq,zz]at h);(try simp only[nc]at h))|refine Ob.mk ?_ ?_|refine Chk.mk (by kernel_rfl) ?_|refine Eq'.mk ?_|(refine AllN.mk fun i hi=> ?_;cbv)|(refine AllC.mk fun c hc hcm=> ?_;(try dsimp only at hc);cbv)|(refine AllS.mk fun r hr=> ?_;(try simp only[Dat.ok,Dat.dec,Leaf.ok,Leaf.val,Z0,Z1,Z2,Z3,Z4,Z5,Z6,Z7,Z8,Z9,Z10,Z11,Z12,Z13,Z14,qA]at hr);cbv)
 generalize qAf (qL4 fun _=>qIC p) []=K at fin
 cbv
 repeat' first|(show Stp _;exfalso;first|omega|(exact h ‹_›)|(exact absurd ‹_› h)|(exact Bool.false_ne_true (h.symm.trans (show _=true by assumption))))|(refine Stp.mk ?_;cbv)|(refine Gen.mk fun r hr=> ?_;(try simp only[Dat.ok,Dat.dec,Leaf.ok,Leaf.val,Z0,Z1,Z2,Z3,Z4,Z5,Z6,Z7,Z8,Z9,Z10,Z11,Z12,Z13,Z14,qA,qB]at hr);cbv)|exact trivial|rfl|refine Both.mk ?_ ?_|(refine Imp.mk fun h=> ?_;(try dsimp only at h);(try simp only[nc,Int.toNat_natCast,ne_eq,zz]at h);(try simp only[nc]at h))|refine Ob.mk ?_ ?_|refine Chk.mk (by kernel_rfl) ?_|refine Eq'.mk ?_|(refine AllN.mk fun i hi=> ?_;cbv)|(refine AllC.mk fun c hc hcm=> ?_;(try dsimp only at hc);cbv)|(refine AllS.mk fun r hr=> ?_;(try simp only[Dat.ok,Dat.dec,Leaf.ok,Leaf.val,Z0,Z1,Z2,Z3,Z4,Z5,Z6,Z7,Z8,Z9,Z10,Z11,Z12,Z13,Z14,qA]at hr);cbv)
 all_goals ((try dsimp only at*);(try simp only[nc,Int.toNat_natCast,ne_eq,zz]at*);(try simp only[nc]at*))
 all_goals try simp only[Dat.dec,Leaf.val,Z0,Z1,Z2,Z3,Z4,Z5,Z6,Z7,Z8,Z9,Z10,Z11,Z12,Z13,Z14,qA]at*
 all_goals first
  |exact⟨⟨rfl,fun i _=>Dat.hok _⟩,by assumption⟩
  |exact⟨⟨trivial,⟨rfl,fun i _=>Dat.hok _⟩,trivial,trivial⟩,by assumption⟩
  |(refine fin _ _ _ ?_
    unfold qIC
    first
     |(rw[if_pos (by assumption)];done)
     |(rw[if_neg (fun q=>q (by assumption)),if_pos (by assumption)];done)
     |(rw[if_neg (fun q=>q (by assumption)),if_neg (fun q=>q (by assumption)),if_pos (by omega)];done)
     |(rw[if_neg (fun q=>q (by assumption)),if_neg (fun q=>q (by assumption)),if_neg (by omega),if_pos (by omega)];done)
     |(rw[if_neg (fun q=>q (by assumption)),if_neg (fun q=>q (by assumption)),if_neg (by omega),if_neg (by omega),if_pos (by assumption)];done)
     |(rw[if_neg (fun q=>q (by assumption)),if_neg (fun q=>q (by assumption)),if_neg (by omega),if_neg (by omega),if_neg (by simp only[Bool.not_eq_true];assumption)];done))
  |fail
theorem qTO:qBf Tryz.prog 52 (qM qPa):=qS fun A p r h hp0=>by
 unfold qPa at h
 split at h
 ·rename_i p
  cases h
  obtain⟨g0,hp⟩:=hp0
  exact⟨rfl,qO.pre (A':=[.agg (Dat.enc fun _=>(Dat.dec p:Part))]) (qTN (Dat.dec p) hp) (.mk (Dat.hle _ g0) (trivial))⟩
 ·cases h
structure McX (m:Module) where
 k:Nat
 hk:k≤m.parts.length
 hr:qEl m.parts=qEl (m.parts.drop k)
structure MwX (m:Module) where
 k:Nat
 hk:k≤m.wires.length
 hr:m.wires.all (qM2 m.parts.length)=(m.wires.drop k).all (qM2 m.parts.length)
theorem qPb {l:List Part}{k:Nat}(hk:k<l.length):qEl (l.drop k)=if qIC (l.getD k Dat.d0)=0 then qEl (l.drop (k+1))else qIC (l.getD k Dat.d0):=by
 rw[qX Dat.d0 hk,qEl]
noncomputable def cMc:FuncId→Con:=fun f=>match f with
 |25=>qH (qM qJK)
 |52=>qH (qM qPa)
 |20=>qH (qM pinC_D)
 |_=>fun _ _ _=>Bad 1001
theorem qWR:qY Tryz.prog cMc:=fun f A H K h=>by
 unfold cMc at h
 split at h
 ·exact⟨⟨Tryz.f25,Tryz.func25,by kernel_rfl,by kernel_rfl⟩,qE qKT h⟩
 ·exact⟨⟨Tryz.f52,Tryz.func52,by kernel_rfl,by kernel_rfl⟩,qE qTO h⟩
 ·exact⟨⟨Tryz.f20,Tryz.func20,by kernel_rfl,by kernel_rfl⟩,qE pinC_ok h⟩
 ·cases h
def qIg (r:Th (Int)):AV:= .i .i64 fun _=>(r ())
def qCH (m:Module):Prop:=m.table.windows.length≤9223372036854775807∧m.parts.length≤9223372036854775807∧m.wires.length≤9223372036854775807∧∀p∈m.parts,p.code.length≤9223372036854775807∧p.vm.regs.length≤9223372036854775807∧p.box.length≤9223372036854775807
def qIh:Det:=fun A=>match A with
 |[.agg m]=>some (fun _=>Dat.ok Module m∧qCH (Dat.dec m),qIg fun _=>qAU (Dat.dec m))
 |_=>none
set_option maxRecDepth 100000 in
set_option maxHeartbeats 4000000 in
theorem qQ4 (m:Module) (hp:qCH m):qO Tryz.prog 19 [.agg (Dat.enc fun _=>m)] [] (qAf (qIg fun _=>qAU m) []):=by
 refine qAe qI zl qWR qD (keep:=[0,1,2,3,5,6,8,13,24,26,27,28,29,35,39,40,41,42,66,85]) Tryz.func19 rfl ?_
 obtain⟨p1,p2,p3,p4⟩:m.table.windows.length≤9223372036854775807∧m.parts.length≤9223372036854775807∧m.wires.length≤9223372036854775807∧∀p∈m.parts,p.code.length≤9223372036854775807∧p.vm.regs.length≤9223372036854775807∧p.box.length≤9223372036854775807:=hp
 have fin:∀(e:Int) H kl,qAU m=e→qAf (qIg fun _=>qAU m) [] (.i .i64 fun _=>e) H kl:=fun e H kl h=>by
  rw[h]
  cbv
  repeat' first|(refine Stp.mk ?_;cbv)|(refine Gen.mk fun r hr=> ?_;(try simp only[Dat.ok,Dat.dec,Leaf.ok,Leaf.val,Z0,Z1,Z2,Z3,Z4,Z5,Z6,Z7,Z8,Z9,Z10,Z11,Z12,Z13,Z14,qA,qB]at hr);cbv)|exact trivial|rfl|refine Both.mk ?_ ?_|(refine Imp.mk fun h=> ?_;(try dsimp only at h);(try simp only[nc,Int.toNat_natCast,ne_eq,zz]at h);(try simp only[nc]at h))|refine Ob.mk ?_ ?_|refine Chk.mk (by kernel_rfl) ?_|refine Eq'.mk ?_|(refine AllN.mk fun i hi=> ?_;cbv)|(refine AllC.mk fun c hc hcm=> ?_;(try dsimp only at hc);cbv)|(refine AllS.mk fun r hr=> ?_;(try simp only[Dat.ok,Dat.dec,Leaf.ok,Leaf.val,Z0,Z1,Z2,Z3,Z4,Z5,Z6,Z7,Z8,Z9,Z10,Z11,Z12,Z13,Z14,qA]at hr);cbv)
 generalize qAf (qIg fun _=>qAU m) []=K at fin
 cbv
 repeat' first|(show Stp _;exfalso;first|omega|(exact h ‹_›)|(exact absurd ‹_› h)|(exact Bool.false_ne_true (h.symm.trans (show _=true by assumption))))|(refine Stp.mk ?_;cbv)|(refine Gen.mk fun r hr=> ?_;(try simp only[Dat.ok,Dat.dec,Leaf.ok,Leaf.val,Z0,Z1,Z2,Z3,Z4,Z5,Z6,Z7,Z8,Z9,Z10,Z11,Z12,Z13,Z14,qA,qB]at hr);cbv)|exact trivial|rfl|refine Both.mk ?_ ?_|(refine Imp.mk fun h=> ?_;(try dsimp only at h);(try simp only[nc,Int.toNat_natCast,ne_eq,zz]at h);(try simp only[nc]at h))|refine Ob.mk ?_ ?_|refine Chk.mk (by kernel_rfl) ?_|refine Eq'.mk ?_|(refine AllN.mk fun i hi=> ?_;cbv)|(refine AllC.mk fun c hc hcm=> ?_;(try dsimp only at hc);cbv)|(refine AllS.mk fun r hr=> ?_;(try simp only[Dat.ok,Dat.dec,Leaf.ok,Leaf.val,Z0,Z1,Z2,Z3,Z4,Z5,Z6,Z7,Z8,Z9,Z10,Z11,Z12,Z13,Z14,qA]at hr);cbv)
 all_goals ((try dsimp only at*);(try simp only[nc,Int.toNat_natCast,ne_eq,zz]at*);(try simp only[nc]at*))
 all_goals try simp only[Dat.dec,Leaf.val,Z0,Z1,Z2,Z3,Z4,Z5,Z6,Z7,Z8,Z9,Z10,Z11,Z12,Z13,Z14,qA]at*
 all_goals first
  |exact⟨⟨trivial,rfl,fun i _=>Dat.hok _⟩,p1⟩
  |(refine fin _ _ _ ?_
    rw[qAU,if_pos (by assumption)]
    done)
  |(refine fin _ _ _ ?_
    rw[qAU,if_neg (fun q=>q (by assumption)),if_pos (by omega)]
    done)
  |skip
 have h1:qBJ m.table=0:=by assumption
 refine LoopVC.frame [2,5,6,28,29,35] (McX m) (fun x=>[(28,.i .i64 fun _=>x.k)]) (fun _=>[]) [] (fun x=>m.parts.length-x.k) ⟨0,Nat.zero_le _,by rw[List.drop_zero]⟩ rfl (fun _=>rfl) ?_ ?_ fun⟨k,hk,hr⟩=> ?_
 iterate 2
  ·cbv
   repeat' first|(refine Stp.mk ?_;cbv)|(refine Gen.mk fun r hr=> ?_;(try simp only[Dat.ok,Dat.dec,Leaf.ok,Leaf.val,Z0,Z1,Z2,Z3,Z4,Z5,Z6,Z7,Z8,Z9,Z10,Z11,Z12,Z13,Z14,qA,qB]at hr);cbv)|exact trivial|rfl|refine Both.mk ?_ ?_|(refine Imp.mk fun h=> ?_;(try dsimp only at h);(try simp only[nc,Int.toNat_natCast,ne_eq,zz]at h);(try simp only[nc]at h))|refine Ob.mk ?_ ?_|refine Chk.mk (by kernel_rfl) ?_|refine Eq'.mk ?_|(refine AllN.mk fun i hi=> ?_;cbv)|(refine AllC.mk fun c hc hcm=> ?_;(try dsimp only at hc);cbv)|(refine AllS.mk fun r hr=> ?_;(try simp only[Dat.ok,Dat.dec,Leaf.ok,Leaf.val,Z0,Z1,Z2,Z3,Z4,Z5,Z6,Z7,Z8,Z9,Z10,Z11,Z12,Z13,Z14,qA]at hr);cbv)
 have st:=fun h=> @qPb m.parts k h
 have p4:=fun(h:k<m.parts.length)=>p4 _ (show m.parts.getD k Dat.d0∈m.parts by rw[List.getD_eq_getElem?_getD,List.getElem?_eq_getElem h];exact List.getElem_mem h)
 cbv
 repeat' first|(show Stp _;exfalso;first|omega|(exact h ‹_›)|(exact absurd ‹_› h)|(exact Bool.false_ne_true (h.symm.trans (show _=true by assumption))))|(refine Stp.mk ?_;cbv)|(refine Gen.mk fun r hr=> ?_;(try simp only[Dat.ok,Dat.dec,Leaf.ok,Leaf.val,Z0,Z1,Z2,Z3,Z4,Z5,Z6,Z7,Z8,Z9,Z10,Z11,Z12,Z13,Z14,qA,qB]at hr);cbv)|exact trivial|rfl|refine Both.mk ?_ ?_|(refine Imp.mk fun h=> ?_;(try dsimp only at h);(try simp only[nc,Int.toNat_natCast,ne_eq,zz]at h);(try simp only[nc]at h))|refine Ob.mk ?_ ?_|refine Chk.mk (by kernel_rfl) ?_|refine Eq'.mk ?_|(refine AllN.mk fun i hi=> ?_;cbv)|(refine AllC.mk fun c hc hcm=> ?_;(try dsimp only at hc);cbv)|(refine AllS.mk fun r hr=> ?_;(try simp only[Dat.ok,Dat.dec,Leaf.ok,Leaf.val,Z0,Z1,Z2,Z3,Z4,Z5,Z6,Z7,Z8,Z9,Z10,Z11,Z12,Z13,Z14,qA]at hr);cbv)
 all_goals ((try dsimp only at*);(try simp only[nc,Int.toNat_natCast,ne_eq,zz]at*);(try simp only[nc]at*))
 all_goals try rw[nc]at*
 all_goals try simp only[Dat.dec,Leaf.val,Z0,Z1,Z2,Z3,Z4,Z5,Z6,Z7,Z8,Z9,Z10,Z11,Z12,Z13,Z14,qA]at*
 all_goals try first
  |omega
  |(unfold InR;omega)
  |exact⟨by omega,by omega⟩
  |exact⟨Dat.hok fun _=>m.parts.getD k Dat.d0,p4 (by omega)⟩
  |(have c0:k<m.parts.length:=by omega
    have c1:¬qIC (m.parts.getD k Dat.d0)=0:=by assumption
    refine fin _ _ _ ?_
    have e:qEl m.parts=qIC (m.parts.getD k Dat.d0):=by rw[hr,st c0,if_neg c1]
    rw[qAU,if_neg (fun q=>q h1),if_neg (by omega),if_pos (by rw[e];exact c1),e])
  |(have c0:k<m.parts.length:=by omega
    have c1:qIC (m.parts.getD k Dat.d0)=0:=by assumption
    refine⟨⟨k+1,by omega,by rw[hr,st c0,if_pos c1]⟩, ?_, ?_,rfl,by(try dsimp only);omega⟩
    ·cbv
     repeat' first|(refine Stp.mk ?_;cbv)|(refine Gen.mk fun r hr=> ?_;(try simp only[Dat.ok,Dat.dec,Leaf.ok,Leaf.val,Z0,Z1,Z2,Z3,Z4,Z5,Z6,Z7,Z8,Z9,Z10,Z11,Z12,Z13,Z14,qA,qB]at hr);cbv)|exact trivial|rfl|refine Both.mk ?_ ?_|(refine Imp.mk fun h=> ?_;(try dsimp only at h);(try simp only[nc,Int.toNat_natCast,ne_eq,zz]at h);(try simp only[nc]at h))|refine Ob.mk ?_ ?_|refine Chk.mk (by kernel_rfl) ?_|refine Eq'.mk ?_|(refine AllN.mk fun i hi=> ?_;cbv)|(refine AllC.mk fun c hc hcm=> ?_;(try dsimp only at hc);cbv)|(refine AllS.mk fun r hr=> ?_;(try simp only[Dat.ok,Dat.dec,Leaf.ok,Leaf.val,Z0,Z1,Z2,Z3,Z4,Z5,Z6,Z7,Z8,Z9,Z10,Z11,Z12,Z13,Z14,qA]at hr);cbv)
    ·cbv
     repeat' first|(refine Stp.mk ?_;cbv)|(refine Gen.mk fun r hr=> ?_;(try simp only[Dat.ok,Dat.dec,Leaf.ok,Leaf.val,Z0,Z1,Z2,Z3,Z4,Z5,Z6,Z7,Z8,Z9,Z10,Z11,Z12,Z13,Z14,qA,qB]at hr);cbv)|exact trivial|rfl|refine Both.mk ?_ ?_|(refine Imp.mk fun h=> ?_;(try dsimp only at h);(try simp only[nc,Int.toNat_natCast,ne_eq,zz]at h);(try simp only[nc]at h))|refine Ob.mk ?_ ?_|refine Chk.mk (by kernel_rfl) ?_|refine Eq'.mk ?_|(refine AllN.mk fun i hi=> ?_;cbv)|(refine AllC.mk fun c hc hcm=> ?_;(try dsimp only at hc);cbv)|(refine AllS.mk fun r hr=> ?_;(try simp only[Dat.ok,Dat.dec,Leaf.ok,Leaf.val,Z0,Z1,Z2,Z3,Z4,Z5,Z6,Z7,Z8,Z9,Z10,Z11,Z12,Z13,Z14,qA]at hr);cbv))
 have h2:qEl m.parts=0:=by rw[hr,List.drop_eq_nil_of_le (by omega)];rfl
 refine LoopVC.frame [2,8,41,42,66] (MwX m) (fun x=>[(41,.i .i64 fun _=>x.k)]) (fun _=>[]) [] (fun x=>m.wires.length-x.k) ⟨0,Nat.zero_le _,by rw[List.drop_zero]⟩ rfl (fun _=>rfl) ?_ ?_ fun⟨k,hk,hr⟩=> ?_
 iterate 2
  ·cbv
   repeat' first|(refine Stp.mk ?_;cbv)|(refine Gen.mk fun r hr=> ?_;(try simp only[Dat.ok,Dat.dec,Leaf.ok,Leaf.val,Z0,Z1,Z2,Z3,Z4,Z5,Z6,Z7,Z8,Z9,Z10,Z11,Z12,Z13,Z14,qA,qB]at hr);cbv)|exact trivial|rfl|refine Both.mk ?_ ?_|(refine Imp.mk fun h=> ?_;(try dsimp only at h);(try simp only[nc,Int.toNat_natCast,ne_eq,zz]at h);(try simp only[nc]at h))|refine Ob.mk ?_ ?_|refine Chk.mk (by kernel_rfl) ?_|refine Eq'.mk ?_|(refine AllN.mk fun i hi=> ?_;cbv)|(refine AllC.mk fun c hc hcm=> ?_;(try dsimp only at hc);cbv)|(refine AllS.mk fun r hr=> ?_;(try simp only[Dat.ok,Dat.dec,Leaf.ok,Leaf.val,Z0,Z1,Z2,Z3,Z4,Z5,Z6,Z7,Z8,Z9,Z10,Z11,Z12,Z13,Z14,qA]at hr);cbv)
 have st:k<m.wires.length→(m.wires.drop k).all (qM2 m.parts.length)=(qM2 m.parts.length (m.wires.getD k Dat.d0)&&(m.wires.drop (k+1)).all (qM2 m.parts.length)):=fun h=>by rw[qX Dat.d0 h,List.all_cons]
 cbv
 repeat' first|(show Stp _;exfalso;first|omega|(exact h ‹_›)|(exact absurd ‹_› h)|(exact Bool.false_ne_true (h.symm.trans (show _=true by assumption))))|(refine Stp.mk ?_;cbv)|(refine Gen.mk fun r hr=> ?_;(try simp only[Dat.ok,Dat.dec,Leaf.ok,Leaf.val,Z0,Z1,Z2,Z3,Z4,Z5,Z6,Z7,Z8,Z9,Z10,Z11,Z12,Z13,Z14,qA,qB]at hr);cbv)|exact trivial|rfl|refine Both.mk ?_ ?_|(refine Imp.mk fun h=> ?_;(try dsimp only at h);(try simp only[nc,Int.toNat_natCast,ne_eq,zz]at h);(try simp only[nc]at h))|refine Ob.mk ?_ ?_|refine Chk.mk (by kernel_rfl) ?_|refine Eq'.mk ?_|(refine AllN.mk fun i hi=> ?_;cbv)|(refine AllC.mk fun c hc hcm=> ?_;(try dsimp only at hc);cbv)|(refine AllS.mk fun r hr=> ?_;(try simp only[Dat.ok,Dat.dec,Leaf.ok,Leaf.val,Z0,Z1,Z2,Z3,Z4,Z5,Z6,Z7,Z8,Z9,Z10,Z11,Z12,Z13,Z14,qA]at hr);cbv)
 all_goals ((try dsimp only at*);(try simp only[nc,Int.toNat_natCast,ne_eq,zz]at*);(try simp only[nc]at*))
 all_goals try rw[nc]at*
 all_goals try simp only[Dat.dec,Leaf.val,Z0,Z1,Z2,Z3,Z4,Z5,Z6,Z7,Z8,Z9,Z10,Z11,Z12,Z13,Z14,qA]at*
 all_goals try first
  |omega
  |(unfold InR;omega)
  |exact⟨by omega,by omega⟩
  |exact⟨Dat.hok fun _=>m,p2⟩
 all_goals try (
  have c0:k<m.wires.length:=by omega
  have bad:qM2 m.parts.length (m.wires.getD k Dat.d0)=false→qAU m=4:=fun h=>by
   rw[qAU,if_neg (fun q=>q h1),if_neg (by omega),if_neg (fun q=>q h2),if_pos (by rw[hr,st c0,h];rfl)]
  first
   |(have hb:qBd m (m.wires.getD k Dat.d0).frm=false:=by assumption
     exact fin _ _ _ (bad (decide_eq_false fun q=>of_decide_eq_false hb ⟨q.1,q.2.1⟩)))
   |(have hb:qBd m (m.wires.getD k Dat.d0).to=false:=by assumption
     exact fin _ _ _ (bad (decide_eq_false fun q=>of_decide_eq_false hb ⟨q.2.2.1,q.2.2.2.1⟩)))
   |(refine fin _ _ _ (bad (decide_eq_false fun q=> ?_))
     omega)
   |(have hb:qBd m (m.wires.getD k Dat.d0).frm=true:=by assumption
     have hb2:qBd m (m.wires.getD k Dat.d0).to=true:=by assumption
     have hb:=of_decide_eq_true hb
     have hb2:=of_decide_eq_true hb2
     have e:qM2 m.parts.length (m.wires.getD k Dat.d0)=true:=decide_eq_true ⟨hb.1,hb.2,hb2.1,hb2.2,by assumption,by assumption⟩
     refine⟨⟨k+1,by omega,by rw[hr,st c0,e,Bool.true_and]⟩, ?_, ?_,rfl,by(try dsimp only);omega⟩
     ·cbv
      repeat' first|(refine Stp.mk ?_;cbv)|(refine Gen.mk fun r hr=> ?_;(try simp only[Dat.ok,Dat.dec,Leaf.ok,Leaf.val,Z0,Z1,Z2,Z3,Z4,Z5,Z6,Z7,Z8,Z9,Z10,Z11,Z12,Z13,Z14,qA,qB]at hr);cbv)|exact trivial|rfl|refine Both.mk ?_ ?_|(refine Imp.mk fun h=> ?_;(try dsimp only at h);(try simp only[nc,Int.toNat_natCast,ne_eq,zz]at h);(try simp only[nc]at h))|refine Ob.mk ?_ ?_|refine Chk.mk (by kernel_rfl) ?_|refine Eq'.mk ?_|(refine AllN.mk fun i hi=> ?_;cbv)|(refine AllC.mk fun c hc hcm=> ?_;(try dsimp only at hc);cbv)|(refine AllS.mk fun r hr=> ?_;(try simp only[Dat.ok,Dat.dec,Leaf.ok,Leaf.val,Z0,Z1,Z2,Z3,Z4,Z5,Z6,Z7,Z8,Z9,Z10,Z11,Z12,Z13,Z14,qA]at hr);cbv)
     ·cbv
      repeat' first|(refine Stp.mk ?_;cbv)|(refine Gen.mk fun r hr=> ?_;(try simp only[Dat.ok,Dat.dec,Leaf.ok,Leaf.val,Z0,Z1,Z2,Z3,Z4,Z5,Z6,Z7,Z8,Z9,Z10,Z11,Z12,Z13,Z14,qA,qB]at hr);cbv)|exact trivial|rfl|refine Both.mk ?_ ?_|(refine Imp.mk fun h=> ?_;(try dsimp only at h);(try simp only[nc,Int.toNat_natCast,ne_eq,zz]at h);(try simp only[nc]at h))|refine Ob.mk ?_ ?_|refine Chk.mk (by kernel_rfl) ?_|refine Eq'.mk ?_|(refine AllN.mk fun i hi=> ?_;cbv)|(refine AllC.mk fun c hc hcm=> ?_;(try dsimp only at hc);cbv)|(refine AllS.mk fun r hr=> ?_;(try simp only[Dat.ok,Dat.dec,Leaf.ok,Leaf.val,Z0,Z1,Z2,Z3,Z4,Z5,Z6,Z7,Z8,Z9,Z10,Z11,Z12,Z13,Z14,qA]at hr);cbv)))
 all_goals (
  have h3:m.wires.all (qM2 m.parts.length)=true:=by rw[hr,List.drop_eq_nil_of_le (by omega)];rfl
  refine fin _ _ _ ?_
  rw[qAU,if_neg (fun q=>q h1),if_neg (by omega),if_neg (fun q=>q h2),if_neg (by rw[h3];decide)]
  first
   |(rw[if_pos (.inl (decide_eq_false (by omega)))];done)
   |(rw[if_pos (.inr (decide_eq_false (by omega)))];done)
   |(rw[if_neg]
     rintro(q|q)
     ·exact of_decide_eq_false q (by omega)
     ·exact of_decide_eq_false q (by omega)))
theorem qL5:qBf Tryz.prog 19 (qM qIh):=qS fun A p r h hp0=>by
 unfold qIh at h
 split at h
 ·rename_i m
  cases h
  obtain⟨g0,hp⟩:=hp0
  exact⟨rfl,qO.pre (A':=[.agg (Dat.enc fun _=>(Dat.dec m:Module))]) (qQ4 (Dat.dec m) hp) (.mk (Dat.hle _ g0) (trivial))⟩
 ·cases h
end Go.Proofs.YtiaiifcgbjlfoaaGreatDoor
