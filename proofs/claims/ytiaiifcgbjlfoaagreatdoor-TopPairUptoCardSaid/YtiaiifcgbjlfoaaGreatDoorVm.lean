/- The program's functions, walked: Vm. -/
import Derived.Test.YtiaiifcgbjlfoaaGreatDoorTy
set_option linter.all false
namespace Go.Proofs.YtiaiifcgbjlfoaaGreatDoor
open Go Go.Abs
def winB (n lo hi:Int):Bool:=decide (lo≤n)&&decide (n≤hi)
def regB (n:Int):Bool:=winB n 0 7
def numB (n:Int):Bool:=decide (n=IntKind.i64.wrap (IntKind.i32.wrap n))
def rightB (i:Ins) (long:Int):Bool:=
 if i.code=1 then regB i.a&&numB i.b else if i.code=2∨i.code=3∨i.code=4∨i.code=5 then regB i.a&&regB i.b else if i.code=6 then decide (i.a=0)&&winB i.b 0 long
 else if i.code=7∨i.code=8 then regB i.a&&winB i.b 0 long else if i.code=9 then regB i.a&&decide (i.b=0)else if i.code=10 then regB i.a&&winB i.b 0 3 else if i.code=11 then decide (i.a=0)&&decide (i.b=0)else false
def checkP (p:List Ins):Int:=if 100<p.length then 2 else if(p.all fun i=>rightB i p.length)=true then 0 else 4
def rightV (v:Vm):Int:=if winB v.at_ 0 100=true∧v.regs.length=8∧¬(v.halts=true∧v.fault=true)∧v.regs.any (fun n=> !numB n)=false then 0 else 4
def sumV (code a b:Int):Int:=if code=3 then IntKind.i32.wrap (a+b)else if code=4 then IntKind.i32.wrap (a-b)else if code=5 then IntKind.i32.wrap (a*b)else b
def win_R (r:Th (Bool)):AV:= .b fun _=>(r ())
def win_D:Det:=fun A=>match A with
 |[.i .i64 n,.i .i64 low,.i .i64 high]=>some (fun _=>True,win_R fun _=>winB (n ()) (low ()) (high ()))
 |_=>none
set_option maxRecDepth 100000 in
set_option maxHeartbeats 4000000 in
theorem win_vc (n:Int) (low:Int) (high:Int):FnOk Tryz.prog 35 [.i .i64 fun _=>n,.i .i64 fun _=>low,.i .i64 fun _=>high] [] (outA (win_R fun _=>winB n low high) []):=by
 refine fn_ok envOk zl noCon_ok noDraws_ok (keep:=[0,1,2,6]) Tryz.func35 rfl ?_
 cbv
 repeat' first|(show Stp _;exfalso;first|omega|(exact h ‹_›)|(exact absurd ‹_› h)|(exact Bool.false_ne_true (h.symm.trans (show _=true by assumption))))|(refine Stp.mk ?_;cbv)|(refine Gen.mk fun r hr=> ?_;(try simp only[Dat.ok,Dat.dec,Leaf.ok,Leaf.val,Z0,Z1,Z2,Z3,Z4,Z5,Z6,Z7,Z8,Z9,Z10,Z11,Z12,Z13,Z14,Z15,Z16,Z17,Z18,Z19,Z20,Z21,Z22,val_sl,val_nil]at hr);cbv)|exact trivial|rfl|refine Both.mk ?_ ?_|(refine Imp.mk fun h=> ?_;(try dsimp only at h);(try simp only[nc,Int.toNat_natCast,ne_eq,zz]at h);(try simp only[nc]at h))|refine Ob.mk ?_ ?_|refine Chk.mk (by kernel_rfl) ?_|refine Eq'.mk ?_|(refine AllN.mk fun i hi=> ?_;cbv)|(refine AllC.mk fun c hc hcm=> ?_;(try dsimp only at hc);cbv)|(refine AllS.mk fun r hr=> ?_;(try simp only[Dat.ok,Dat.dec,Leaf.ok,Leaf.val,Z0,Z1,Z2,Z3,Z4,Z5,Z6,Z7,Z8,Z9,Z10,Z11,Z12,Z13,Z14,Z15,Z16,Z17,Z18,Z19,Z20,Z21,Z22,val_sl]at hr);cbv)
 all_goals ((try dsimp only at*);(try simp only[nc,Int.toNat_natCast,ne_eq,zz]at*);(try simp only[nc]at*))
 all_goals simp_all [winB]
 all_goals omega
theorem win_ok:PcOk Tryz.prog 35 (detPC win_D):=det_okA fun A p r h hp0=>by
 unfold win_D at h
 split at h
 ·rename_i n low high
  cases h
  exact⟨rfl,FnOk.pre (A':=[.i .i64 fun _=>n (),.i .i64 fun _=>low (),.i .i64 fun _=>high ()]) (win_vc (n ()) (low ()) (high ())) (.mk (.mk (.mk rfl) (.mk rfl)) (.mk (.mk (.mk rfl) (.mk rfl)) (.mk (.mk (.mk rfl) (.mk rfl)) (trivial))))⟩
 ·cases h
noncomputable def cV1:FuncId→Con:=fun f=>match f with
 |35=>pureCon (detPC win_D)
 |_=>fun _ _ _=>Bad 1001
theorem cV1_ok:ConOk Tryz.prog cV1:=fun f A H K h=>by
 unfold cV1 at h
 split at h
 ·exact⟨⟨Tryz.f35,Tryz.func35,by kernel_rfl,by kernel_rfl⟩,pureCon_ok win_ok h⟩
 ·cases h
def reg_R (r:Th (Bool)):AV:= .b fun _=>(r ())
def reg_D:Det:=fun A=>match A with
 |[.i .i64 n]=>some (fun _=>True,reg_R fun _=>regB (n ()))
 |_=>none
set_option maxRecDepth 100000 in
set_option maxHeartbeats 4000000 in
theorem reg_vc (n:Int):FnOk Tryz.prog 106 [.i .i64 fun _=>n] [] (outA (reg_R fun _=>regB n) []):=by
 refine fn_ok envOk zl cV1_ok noDraws_ok (keep:=[0,2]) Tryz.func106 rfl ?_
 cbv
 repeat' first|(show Stp _;exfalso;first|omega|(exact h ‹_›)|(exact absurd ‹_› h)|(exact Bool.false_ne_true (h.symm.trans (show _=true by assumption))))|(refine Stp.mk ?_;cbv)|(refine Gen.mk fun r hr=> ?_;(try simp only[Dat.ok,Dat.dec,Leaf.ok,Leaf.val,Z0,Z1,Z2,Z3,Z4,Z5,Z6,Z7,Z8,Z9,Z10,Z11,Z12,Z13,Z14,Z15,Z16,Z17,Z18,Z19,Z20,Z21,Z22,val_sl,val_nil]at hr);cbv)|exact trivial|rfl|refine Both.mk ?_ ?_|(refine Imp.mk fun h=> ?_;(try dsimp only at h);(try simp only[nc,Int.toNat_natCast,ne_eq,zz]at h);(try simp only[nc]at h))|refine Ob.mk ?_ ?_|refine Chk.mk (by kernel_rfl) ?_|refine Eq'.mk ?_|(refine AllN.mk fun i hi=> ?_;cbv)|(refine AllC.mk fun c hc hcm=> ?_;(try dsimp only at hc);cbv)|(refine AllS.mk fun r hr=> ?_;(try simp only[Dat.ok,Dat.dec,Leaf.ok,Leaf.val,Z0,Z1,Z2,Z3,Z4,Z5,Z6,Z7,Z8,Z9,Z10,Z11,Z12,Z13,Z14,Z15,Z16,Z17,Z18,Z19,Z20,Z21,Z22,val_sl]at hr);cbv)
 all_goals ((try dsimp only at*);(try simp only[nc,Int.toNat_natCast,ne_eq,zz]at*);(try simp only[nc]at*))
 all_goals first|rfl|fail
theorem reg_ok:PcOk Tryz.prog 106 (detPC reg_D):=det_okA fun A p r h hp0=>by
 unfold reg_D at h
 split at h
 ·rename_i n
  cases h
  exact⟨rfl,FnOk.pre (A':=[.i .i64 fun _=>n ()]) (reg_vc (n ())) (.mk (.mk (.mk rfl) (.mk rfl)) (trivial))⟩
 ·cases h
def numb_R (r:Th (Bool)):AV:= .b fun _=>(r ())
def numb_D:Det:=fun A=>match A with
 |[.i .i64 n]=>some (fun _=>True,numb_R fun _=>numB (n ()))
 |_=>none
set_option maxRecDepth 100000 in
set_option maxHeartbeats 4000000 in
theorem numb_vc (n:Int):FnOk Tryz.prog 34 [.i .i64 fun _=>n] [] (outA (numb_R fun _=>numB n) []):=by
 refine fn_ok envOk zl noCon_ok noDraws_ok (keep:=[0,2]) Tryz.func34 rfl ?_
 cbv
 repeat' first|(show Stp _;exfalso;first|omega|(exact h ‹_›)|(exact absurd ‹_› h)|(exact Bool.false_ne_true (h.symm.trans (show _=true by assumption))))|(refine Stp.mk ?_;cbv)|(refine Gen.mk fun r hr=> ?_;(try simp only[Dat.ok,Dat.dec,Leaf.ok,Leaf.val,Z0,Z1,Z2,Z3,Z4,Z5,Z6,Z7,Z8,Z9,Z10,Z11,Z12,Z13,Z14,Z15,Z16,Z17,Z18,Z19,Z20,Z21,Z22,val_sl,val_nil]at hr);cbv)|exact trivial|rfl|refine Both.mk ?_ ?_|(refine Imp.mk fun h=> ?_;(try dsimp only at h);(try simp only[nc,Int.toNat_natCast,ne_eq,zz]at h);(try simp only[nc]at h))|refine Ob.mk ?_ ?_|refine Chk.mk (by kernel_rfl) ?_|refine Eq'.mk ?_|(refine AllN.mk fun i hi=> ?_;cbv)|(refine AllC.mk fun c hc hcm=> ?_;(try dsimp only at hc);cbv)|(refine AllS.mk fun r hr=> ?_;(try simp only[Dat.ok,Dat.dec,Leaf.ok,Leaf.val,Z0,Z1,Z2,Z3,Z4,Z5,Z6,Z7,Z8,Z9,Z10,Z11,Z12,Z13,Z14,Z15,Z16,Z17,Z18,Z19,Z20,Z21,Z22,val_sl]at hr);cbv)
 all_goals ((try dsimp only at*);(try simp only[nc,Int.toNat_natCast,ne_eq,zz]at*);(try simp only[nc]at*))
 all_goals first|rfl|fail
theorem numb_ok:PcOk Tryz.prog 34 (detPC numb_D):=det_okA fun A p r h hp0=>by
 unfold numb_D at h
 split at h
 ·rename_i n
  cases h
  exact⟨rfl,FnOk.pre (A':=[.i .i64 fun _=>n ()]) (numb_vc (n ())) (.mk (.mk (.mk rfl) (.mk rfl)) (trivial))⟩
 ·cases h
noncomputable def cV2:FuncId→Con:=fun f=>match f with
 |35=>pureCon (detPC win_D)
 |106=>pureCon (detPC reg_D)
 |34=>pureCon (detPC numb_D)
 |_=>fun _ _ _=>Bad 1001
theorem cV2_ok:ConOk Tryz.prog cV2:=fun f A H K h=>by
 unfold cV2 at h
 split at h
 ·exact⟨⟨Tryz.f35,Tryz.func35,by kernel_rfl,by kernel_rfl⟩,pureCon_ok win_ok h⟩
 ·exact⟨⟨Tryz.f106,Tryz.func106,by kernel_rfl,by kernel_rfl⟩,pureCon_ok reg_ok h⟩
 ·exact⟨⟨Tryz.f34,Tryz.func34,by kernel_rfl,by kernel_rfl⟩,pureCon_ok numb_ok h⟩
 ·cases h
def rightC_R (r:Th (Bool)):AV:= .b fun _=>(r ())
def rightC_D:Det:=fun A=>match A with
 |[.agg i,.i .i64 long]=>some (fun _=>Dat.ok Ins i,rightC_R fun _=>rightB (Dat.dec i) (long ()))
 |_=>none
set_option maxRecDepth 100000 in
set_option maxHeartbeats 4000000 in
theorem rightC_vc (i:Ins) (long:Int):FnOk Tryz.prog 68 [.agg (Dat.enc fun _=>i),.i .i64 fun _=>long] [] (outA (rightC_R fun _=>rightB i long) []):=by
 refine fn_ok envOk zl cV2_ok noDraws_ok (keep:=[0,1,2,4,6,7,17,30,41,53,63,73]) Tryz.func68 rfl ?_
 cbv
 repeat' first|(show Stp _;exfalso;first|omega|(exact h ‹_›)|(exact absurd ‹_› h)|(exact Bool.false_ne_true (h.symm.trans (show _=true by assumption))))|(refine Stp.mk ?_;cbv)|(refine Gen.mk fun r hr=> ?_;(try simp only[Dat.ok,Dat.dec,Leaf.ok,Leaf.val,Z0,Z1,Z2,Z3,Z4,Z5,Z6,Z7,Z8,Z9,Z10,Z11,Z12,Z13,Z14,Z15,Z16,Z17,Z18,Z19,Z20,Z21,Z22,val_sl,val_nil]at hr);cbv)|exact trivial|rfl|refine Both.mk ?_ ?_|(refine Imp.mk fun h=> ?_;(try dsimp only at h);(try simp only[nc,Int.toNat_natCast,ne_eq,zz]at h);(try simp only[nc]at h))|refine Ob.mk ?_ ?_|refine Chk.mk (by kernel_rfl) ?_|refine Eq'.mk ?_|(refine AllN.mk fun i hi=> ?_;cbv)|(refine AllC.mk fun c hc hcm=> ?_;(try dsimp only at hc);cbv)|(refine AllS.mk fun r hr=> ?_;(try simp only[Dat.ok,Dat.dec,Leaf.ok,Leaf.val,Z0,Z1,Z2,Z3,Z4,Z5,Z6,Z7,Z8,Z9,Z10,Z11,Z12,Z13,Z14,Z15,Z16,Z17,Z18,Z19,Z20,Z21,Z22,val_sl]at hr);cbv)
 all_goals ((try dsimp only at*);(try simp only[nc,Int.toNat_natCast,ne_eq,zz]at*);(try simp only[nc]at*))
 all_goals unfold rightB
 all_goals first
  |(simp[*];done)
  |(simp[*];rfl)
  |fail
theorem rightC_ok:PcOk Tryz.prog 68 (detPC rightC_D):=det_okA fun A p r h hp0=>by
 unfold rightC_D at h
 split at h
 ·rename_i i long
  cases h
  have g0:=hp0
  exact⟨rfl,FnOk.pre (A':=[.agg (Dat.enc fun _=>(Dat.dec i:Ins)),.i .i64 fun _=>long ()]) (rightC_vc (Dat.dec i) (long ())) (.mk (Dat.hle _ g0) (.mk (.mk (.mk rfl) (.mk rfl)) (trivial)))⟩
 ·cases h
noncomputable def cV3:FuncId→Con:=fun f=>match f with
 |68=>pureCon (detPC rightC_D)
 |_=>fun _ _ _=>Bad 1001
theorem cV3_ok:ConOk Tryz.prog cV3:=fun f A H K h=>by
 unfold cV3 at h
 split at h
 ·exact⟨⟨Tryz.f68,Tryz.func68,by kernel_rfl,by kernel_rfl⟩,pureCon_ok rightC_ok h⟩
 ·cases h
def checkC_R (r:Th (Int)):AV:= .i .i64 fun _=>(r ())
def checkC_P (p:(List Ins)):Prop:=p.length≤9223372036854775807
def checkC_D:Det:=fun A=>match A with
 |[p]=>some (fun _=>Leaf.ok (List Ins) p∧checkC_P (Leaf.val p),checkC_R fun _=>checkP (Leaf.val p))
 |_=>none
structure VcX (p:List Ins) where
 k:Nat
 hk:k≤p.length
 hr:(p.all fun i=>rightB i p.length)=((p.drop k).all fun i=>rightB i p.length)
set_option maxRecDepth 100000 in
set_option maxHeartbeats 4000000 in
theorem checkC_vc (p:(List Ins)) (hp:checkC_P p):FnOk Tryz.prog 30 [Leaf.av fun _=>p] [] (outA (checkC_R fun _=>checkP p) []):=by
 refine fn_ok envOk zl cV3_ok noDraws_ok (keep:=[0,2,4,7,8,9,10,11,18]) Tryz.func30 rfl ?_
 have hp':p.length≤9223372036854775807:=hp
 have fin:∀e H kl,e=checkP p→outA (checkC_R fun _=>checkP p) [] (.i .i64 fun _=>e) H kl:=by
  rintro e H kl rfl
  cbv
  repeat' first|(refine Stp.mk ?_;cbv)|(refine Gen.mk fun r hr=> ?_;(try simp only[Dat.ok,Dat.dec,Leaf.ok,Leaf.val,Z0,Z1,Z2,Z3,Z4,Z5,Z6,Z7,Z8,Z9,Z10,Z11,Z12,Z13,Z14,Z15,Z16,Z17,Z18,Z19,Z20,Z21,Z22,val_sl,val_nil]at hr);cbv)|exact trivial|rfl|refine Both.mk ?_ ?_|(refine Imp.mk fun h=> ?_;(try dsimp only at h);(try simp only[nc,Int.toNat_natCast,ne_eq,zz]at h);(try simp only[nc]at h))|refine Ob.mk ?_ ?_|refine Chk.mk (by kernel_rfl) ?_|refine Eq'.mk ?_|(refine AllN.mk fun i hi=> ?_;cbv)|(refine AllC.mk fun c hc hcm=> ?_;(try dsimp only at hc);cbv)|(refine AllS.mk fun r hr=> ?_;(try simp only[Dat.ok,Dat.dec,Leaf.ok,Leaf.val,Z0,Z1,Z2,Z3,Z4,Z5,Z6,Z7,Z8,Z9,Z10,Z11,Z12,Z13,Z14,Z15,Z16,Z17,Z18,Z19,Z20,Z21,Z22,val_sl]at hr);cbv)
 generalize outA (checkC_R fun _=>checkP p) []=K at fin
 cbv
 repeat' first|(show Stp _;exfalso;first|omega|(exact h ‹_›)|(exact absurd ‹_› h)|(exact Bool.false_ne_true (h.symm.trans (show _=true by assumption))))|(refine Stp.mk ?_;cbv)|(refine Gen.mk fun r hr=> ?_;(try simp only[Dat.ok,Dat.dec,Leaf.ok,Leaf.val,Z0,Z1,Z2,Z3,Z4,Z5,Z6,Z7,Z8,Z9,Z10,Z11,Z12,Z13,Z14,Z15,Z16,Z17,Z18,Z19,Z20,Z21,Z22,val_sl,val_nil]at hr);cbv)|exact trivial|rfl|refine Both.mk ?_ ?_|(refine Imp.mk fun h=> ?_;(try dsimp only at h);(try simp only[nc,Int.toNat_natCast,ne_eq,zz]at h);(try simp only[nc]at h))|refine Ob.mk ?_ ?_|refine Chk.mk (by kernel_rfl) ?_|refine Eq'.mk ?_|(refine AllN.mk fun i hi=> ?_;cbv)|(refine AllC.mk fun c hc hcm=> ?_;(try dsimp only at hc);cbv)|(refine AllS.mk fun r hr=> ?_;(try simp only[Dat.ok,Dat.dec,Leaf.ok,Leaf.val,Z0,Z1,Z2,Z3,Z4,Z5,Z6,Z7,Z8,Z9,Z10,Z11,Z12,Z13,Z14,Z15,Z16,Z17,Z18,Z19,Z20,Z21,Z22,val_sl]at hr);cbv)
 all_goals ((try dsimp only at*);(try simp only[nc,Int.toNat_natCast,ne_eq,zz]at*);(try simp only[nc]at*))
 all_goals first
  |(refine fin _ _ _ ?_;rw[checkP,if_pos (by omega)];done)
  |skip
 refine LoopVC.frame [2,4,10,11,18] (VcX p) (fun x=>[(10,.i .i64 fun _=>x.k)]) (fun _=>[]) [] (fun x=>p.length-x.k) ⟨0,Nat.zero_le _,by simp⟩ rfl (fun _=>rfl) ?_ ?_ fun⟨k,hk,hr⟩=> ?_
 iterate 2
  ·cbv
   repeat' first|(refine Stp.mk ?_;cbv)|(refine Gen.mk fun r hr=> ?_;(try simp only[Dat.ok,Dat.dec,Leaf.ok,Leaf.val,Z0,Z1,Z2,Z3,Z4,Z5,Z6,Z7,Z8,Z9,Z10,Z11,Z12,Z13,Z14,Z15,Z16,Z17,Z18,Z19,Z20,Z21,Z22,val_sl,val_nil]at hr);cbv)|exact trivial|rfl|refine Both.mk ?_ ?_|(refine Imp.mk fun h=> ?_;(try dsimp only at h);(try simp only[nc,Int.toNat_natCast,ne_eq,zz]at h);(try simp only[nc]at h))|refine Ob.mk ?_ ?_|refine Chk.mk (by kernel_rfl) ?_|refine Eq'.mk ?_|(refine AllN.mk fun i hi=> ?_;cbv)|(refine AllC.mk fun c hc hcm=> ?_;(try dsimp only at hc);cbv)|(refine AllS.mk fun r hr=> ?_;(try simp only[Dat.ok,Dat.dec,Leaf.ok,Leaf.val,Z0,Z1,Z2,Z3,Z4,Z5,Z6,Z7,Z8,Z9,Z10,Z11,Z12,Z13,Z14,Z15,Z16,Z17,Z18,Z19,Z20,Z21,Z22,val_sl]at hr);cbv)
 cbv
 repeat' first|(show Stp _;exfalso;first|omega|(exact h ‹_›)|(exact absurd ‹_› h)|(exact Bool.false_ne_true (h.symm.trans (show _=true by assumption))))|(refine Stp.mk ?_;cbv)|(refine Gen.mk fun r hr=> ?_;(try simp only[Dat.ok,Dat.dec,Leaf.ok,Leaf.val,Z0,Z1,Z2,Z3,Z4,Z5,Z6,Z7,Z8,Z9,Z10,Z11,Z12,Z13,Z14,Z15,Z16,Z17,Z18,Z19,Z20,Z21,Z22,val_sl,val_nil]at hr);cbv)|exact trivial|rfl|refine Both.mk ?_ ?_|(refine Imp.mk fun h=> ?_;(try dsimp only at h);(try simp only[nc,Int.toNat_natCast,ne_eq,zz]at h);(try simp only[nc]at h))|refine Ob.mk ?_ ?_|refine Chk.mk (by kernel_rfl) ?_|refine Eq'.mk ?_|(refine AllN.mk fun i hi=> ?_;cbv)|(refine AllC.mk fun c hc hcm=> ?_;(try dsimp only at hc);cbv)|(refine AllS.mk fun r hr=> ?_;(try simp only[Dat.ok,Dat.dec,Leaf.ok,Leaf.val,Z0,Z1,Z2,Z3,Z4,Z5,Z6,Z7,Z8,Z9,Z10,Z11,Z12,Z13,Z14,Z15,Z16,Z17,Z18,Z19,Z20,Z21,Z22,val_sl]at hr);cbv)
 all_goals ((try dsimp only at*);(try simp only[nc,Int.toNat_natCast,ne_eq,zz]at*);(try simp only[nc]at*))
 all_goals try simp only[Dat.ok,Dat.dec,Leaf.ok,Leaf.val,Z0,Z1,Z2,Z3,Z4,Z5,Z6,Z7,Z8,Z9,Z10,Z11,Z12,Z13,Z14,Z15,Z16,Z17,Z18,Z19,Z20,Z21,Z22,val_sl]at*
 all_goals first
  |omega
  |(unfold InR;omega)
  |exact⟨trivial,trivial,trivial⟩
  |(refine fin _ _ _ ?_
    have hb:rightB (p.getD k Dat.d0) p.length=false:=by assumption
    rw[checkP,if_neg (by omega),hr,drop_cons Dat.d0 (by omega),List.all_cons,hb];rfl)
  |(refine fin _ _ _ ?_
    rw[checkP,if_neg (by omega),hr,drop_nil (by omega)];rfl)
  |(have hb:rightB (p.getD k Dat.d0) p.length=true:=by assumption
    refine⟨⟨k+1,by omega,by rw[hr,drop_cons Dat.d0 (by omega),List.all_cons,hb];rfl⟩, ?_, ?_,rfl,by(try dsimp only);omega⟩
    ·cbv
     repeat' first|(refine Stp.mk ?_;cbv)|(refine Gen.mk fun r hr=> ?_;(try simp only[Dat.ok,Dat.dec,Leaf.ok,Leaf.val,Z0,Z1,Z2,Z3,Z4,Z5,Z6,Z7,Z8,Z9,Z10,Z11,Z12,Z13,Z14,Z15,Z16,Z17,Z18,Z19,Z20,Z21,Z22,val_sl,val_nil]at hr);cbv)|exact trivial|rfl|refine Both.mk ?_ ?_|(refine Imp.mk fun h=> ?_;(try dsimp only at h);(try simp only[nc,Int.toNat_natCast,ne_eq,zz]at h);(try simp only[nc]at h))|refine Ob.mk ?_ ?_|refine Chk.mk (by kernel_rfl) ?_|refine Eq'.mk ?_|(refine AllN.mk fun i hi=> ?_;cbv)|(refine AllC.mk fun c hc hcm=> ?_;(try dsimp only at hc);cbv)|(refine AllS.mk fun r hr=> ?_;(try simp only[Dat.ok,Dat.dec,Leaf.ok,Leaf.val,Z0,Z1,Z2,Z3,Z4,Z5,Z6,Z7,Z8,Z9,Z10,Z11,Z12,Z13,Z14,Z15,Z16,Z17,Z18,Z19,Z20,Z21,Z22,val_sl]at hr);cbv)
    ·cbv
     repeat' first|(refine Stp.mk ?_;cbv)|(refine Gen.mk fun r hr=> ?_;(try simp only[Dat.ok,Dat.dec,Leaf.ok,Leaf.val,Z0,Z1,Z2,Z3,Z4,Z5,Z6,Z7,Z8,Z9,Z10,Z11,Z12,Z13,Z14,Z15,Z16,Z17,Z18,Z19,Z20,Z21,Z22,val_sl,val_nil]at hr);cbv)|exact trivial|rfl|refine Both.mk ?_ ?_|(refine Imp.mk fun h=> ?_;(try dsimp only at h);(try simp only[nc,Int.toNat_natCast,ne_eq,zz]at h);(try simp only[nc]at h))|refine Ob.mk ?_ ?_|refine Chk.mk (by kernel_rfl) ?_|refine Eq'.mk ?_|(refine AllN.mk fun i hi=> ?_;cbv)|(refine AllC.mk fun c hc hcm=> ?_;(try dsimp only at hc);cbv)|(refine AllS.mk fun r hr=> ?_;(try simp only[Dat.ok,Dat.dec,Leaf.ok,Leaf.val,Z0,Z1,Z2,Z3,Z4,Z5,Z6,Z7,Z8,Z9,Z10,Z11,Z12,Z13,Z14,Z15,Z16,Z17,Z18,Z19,Z20,Z21,Z22,val_sl]at hr);cbv))
  |fail
theorem checkC_ok:PcOk Tryz.prog 30 (detPC checkC_D):=det_okA fun A p r h hp0=>by
 unfold checkC_D at h
 split at h
 ·rename_i p
  cases h
  obtain⟨g0,hp⟩:=hp0
  exact⟨rfl,FnOk.pre (A':=[Leaf.av fun _=>(Leaf.val p:(List Ins))]) (checkC_vc (Leaf.val p) hp) (.mk (Leaf.hle _ g0) (trivial))⟩
 ·cases h
def sumC_R (r:Th (Int)):AV:= .i .i32 fun _=>(r ())
def sumC_D:Det:=fun A=>match A with
 |[.i .i64 code,.i .i32 a,.i .i32 b]=>some (fun _=>True,sumC_R fun _=>sumV (code ()) (a ()) (b ()))
 |_=>none
set_option maxRecDepth 100000 in
set_option maxHeartbeats 4000000 in
theorem sumC_vc (code:Int) (a:Int) (b:Int):FnOk Tryz.prog 71 [.i .i64 fun _=>code,.i .i32 fun _=>a,.i .i32 fun _=>b] [] (outA (sumC_R fun _=>sumV code a b) []):=by
 refine fn_ok envOk zl noCon_ok noDraws_ok (keep:=[0,1,2,6,7,8,13,18]) Tryz.func71 rfl ?_
 cbv
 repeat' first|(show Stp _;exfalso;first|omega|(exact h ‹_›)|(exact absurd ‹_› h)|(exact Bool.false_ne_true (h.symm.trans (show _=true by assumption))))|(refine Stp.mk ?_;cbv)|(refine Gen.mk fun r hr=> ?_;(try simp only[Dat.ok,Dat.dec,Leaf.ok,Leaf.val,Z0,Z1,Z2,Z3,Z4,Z5,Z6,Z7,Z8,Z9,Z10,Z11,Z12,Z13,Z14,Z15,Z16,Z17,Z18,Z19,Z20,Z21,Z22,val_sl,val_nil]at hr);cbv)|exact trivial|rfl|refine Both.mk ?_ ?_|(refine Imp.mk fun h=> ?_;(try dsimp only at h);(try simp only[nc,Int.toNat_natCast,ne_eq,zz]at h);(try simp only[nc]at h))|refine Ob.mk ?_ ?_|refine Chk.mk (by kernel_rfl) ?_|refine Eq'.mk ?_|(refine AllN.mk fun i hi=> ?_;cbv)|(refine AllC.mk fun c hc hcm=> ?_;(try dsimp only at hc);cbv)|(refine AllS.mk fun r hr=> ?_;(try simp only[Dat.ok,Dat.dec,Leaf.ok,Leaf.val,Z0,Z1,Z2,Z3,Z4,Z5,Z6,Z7,Z8,Z9,Z10,Z11,Z12,Z13,Z14,Z15,Z16,Z17,Z18,Z19,Z20,Z21,Z22,val_sl]at hr);cbv)
 all_goals ((try dsimp only at*);(try simp only[nc,Int.toNat_natCast,ne_eq,zz]at*);(try simp only[nc]at*))
 all_goals unfold sumV
 all_goals first
  |(simp[*];done)
  |fail
theorem sumC_ok:PcOk Tryz.prog 71 (detPC sumC_D):=det_okA fun A p r h hp0=>by
 unfold sumC_D at h
 split at h
 ·rename_i code a b
  cases h
  exact⟨rfl,FnOk.pre (A':=[.i .i64 fun _=>code (),.i .i32 fun _=>a (),.i .i32 fun _=>b ()]) (sumC_vc (code ()) (a ()) (b ())) (.mk (.mk (.mk rfl) (.mk rfl)) (.mk (.mk (.mk rfl) (.mk rfl)) (.mk (.mk (.mk rfl) (.mk rfl)) (trivial))))⟩
 ·cases h
structure AnyI (l:List Int) where
 k:Nat
 hk:k≤l.length
 hr:(l.any fun n=> !numB n)=((l.drop k).any fun n=> !numB n)
noncomputable def cV4:FuncId→Con:=fun f=>match f with
 |34=>pureCon (detPC numb_D)
 |_=>fun _ _ _=>Bad 1001
theorem cV4_ok:ConOk Tryz.prog cV4:=fun f A H K h=>by
 unfold cV4 at h
 split at h
 ·exact⟨⟨Tryz.f34,Tryz.func34,by kernel_rfl,by kernel_rfl⟩,pureCon_ok numb_ok h⟩
 ·cases h
noncomputable def cV5:FuncId→Con:=fun f=>match f with
 |69=>inlCon E cV4 noDraws [0,2] Tryz.f69
 |33=>inlCon E cV4 noDraws [0,2] Tryz.f33
 |_=>fun _ _ _=>Bad 1001
theorem cV5_ok:ConOk Tryz.prog cV5:=fun f A H K h=>by
 unfold cV5 at h
 split at h
 ·exact⟨⟨Tryz.f69,Tryz.func69,by kernel_rfl,by kernel_rfl⟩,inl_ok envOk zl cV4_ok noDraws_ok Tryz.func69 h⟩
 ·exact⟨⟨Tryz.f33,Tryz.func33,by kernel_rfl,by kernel_rfl⟩,inl_ok envOk zl cV4_ok noDraws_ok Tryz.func33 h⟩
 ·cases h
noncomputable def cV6:FuncId→Con:=fun f=>match f with
 |70=>inlCon E cV5 noDraws [0,1,4,5,7,8,9,16] Tryz.f70
 |_=>fun _ _ _=>Bad 1001
theorem cV6_ok:ConOk Tryz.prog cV6:=fun f A H K h=>by
 unfold cV6 at h
 split at h
 ·exact⟨⟨Tryz.f70,Tryz.func70,by kernel_rfl,by kernel_rfl⟩,inl_ok envOk zl cV5_ok noDraws_ok Tryz.func70 h⟩
 ·cases h
noncomputable def cV7:FuncId→Con:=fun f=>match f with
 |35=>pureCon (detPC win_D)
 |32=>inlCon E cV6 noDraws [0,1,4] Tryz.f32
 |_=>fun _ _ _=>Bad 1001
theorem cV7_ok:ConOk Tryz.prog cV7:=fun f A H K h=>by
 unfold cV7 at h
 split at h
 ·exact⟨⟨Tryz.f35,Tryz.func35,by kernel_rfl,by kernel_rfl⟩,pureCon_ok win_ok h⟩
 ·exact⟨⟨Tryz.f32,Tryz.func32,by kernel_rfl,by kernel_rfl⟩,inl_ok envOk zl cV6_ok noDraws_ok Tryz.func32 h⟩
 ·cases h
def rightVC_R (r:Th (Int)):AV:= .i .i64 fun _=>(r ())
def rightVC_P (v:Vm):Prop:=v.regs.length≤9223372036854775807
def rightVC_D:Det:=fun A=>match A with
 |[.agg v]=>some (fun _=>Dat.ok Vm v∧rightVC_P (Dat.dec v),rightVC_R fun _=>rightV (Dat.dec v))
 |_=>none
set_option maxRecDepth 100000 in
set_option maxHeartbeats 4000000 in
theorem rightVC_vc (v:Vm) (hp:rightVC_P v):FnOk Tryz.prog 31 [.agg (Dat.enc fun _=>v)] [] (outA (rightVC_R fun _=>rightV v) []):=by
 refine fn_ok envOk zl cV7_ok noDraws_ok (keep:=[0,1,2,25]) Tryz.func31 rfl ?_
 have hp':v.regs.length≤9223372036854775807:=hp
 have fin:∀e H kl,e=rightV v→outA (rightVC_R fun _=>rightV v) [] (.i .i64 fun _=>e) H kl:=by
  rintro e H kl rfl
  cbv
  repeat' first|(refine Stp.mk ?_;cbv)|(refine Gen.mk fun r hr=> ?_;(try simp only[Dat.ok,Dat.dec,Leaf.ok,Leaf.val,Z0,Z1,Z2,Z3,Z4,Z5,Z6,Z7,Z8,Z9,Z10,Z11,Z12,Z13,Z14,Z15,Z16,Z17,Z18,Z19,Z20,Z21,Z22,val_sl,val_nil]at hr);cbv)|exact trivial|rfl|refine Both.mk ?_ ?_|(refine Imp.mk fun h=> ?_;(try dsimp only at h);(try simp only[nc,Int.toNat_natCast,ne_eq,zz]at h);(try simp only[nc]at h))|refine Ob.mk ?_ ?_|refine Chk.mk (by kernel_rfl) ?_|refine Eq'.mk ?_|(refine AllN.mk fun i hi=> ?_;cbv)|(refine AllC.mk fun c hc hcm=> ?_;(try dsimp only at hc);cbv)|(refine AllS.mk fun r hr=> ?_;(try simp only[Dat.ok,Dat.dec,Leaf.ok,Leaf.val,Z0,Z1,Z2,Z3,Z4,Z5,Z6,Z7,Z8,Z9,Z10,Z11,Z12,Z13,Z14,Z15,Z16,Z17,Z18,Z19,Z20,Z21,Z22,val_sl]at hr);cbv)
 generalize outA (rightVC_R fun _=>rightV v) []=K at fin
 cbv
 repeat' first|(show Stp _;exfalso;first|omega|(exact h ‹_›)|(exact absurd ‹_› h)|(exact Bool.false_ne_true (h.symm.trans (show _=true by assumption))))|(refine Stp.mk ?_;cbv)|(refine Gen.mk fun r hr=> ?_;(try simp only[Dat.ok,Dat.dec,Leaf.ok,Leaf.val,Z0,Z1,Z2,Z3,Z4,Z5,Z6,Z7,Z8,Z9,Z10,Z11,Z12,Z13,Z14,Z15,Z16,Z17,Z18,Z19,Z20,Z21,Z22,val_sl,val_nil]at hr);cbv)|exact trivial|rfl|refine Both.mk ?_ ?_|(refine Imp.mk fun h=> ?_;(try dsimp only at h);(try simp only[nc,Int.toNat_natCast,ne_eq,zz]at h);(try simp only[nc]at h))|refine Ob.mk ?_ ?_|refine Chk.mk (by kernel_rfl) ?_|refine Eq'.mk ?_|(refine AllN.mk fun i hi=> ?_;cbv)|(refine AllC.mk fun c hc hcm=> ?_;(try dsimp only at hc);cbv)|(refine AllS.mk fun r hr=> ?_;(try simp only[Dat.ok,Dat.dec,Leaf.ok,Leaf.val,Z0,Z1,Z2,Z3,Z4,Z5,Z6,Z7,Z8,Z9,Z10,Z11,Z12,Z13,Z14,Z15,Z16,Z17,Z18,Z19,Z20,Z21,Z22,val_sl]at hr);cbv)
 all_goals ((try dsimp only at*);(try simp only[nc,Int.toNat_natCast,ne_eq,zz]at*);(try simp only[nc]at*))
 all_goals first
  |(refine fin _ _ _ ?_;rw[rightV,if_neg (by rintro⟨q1,q2,q3,q4⟩;first|omega|(simp_all;done))];done)
  |skip
 all_goals (
  refine LoopVC.frame [4,5,8,9,16] (AnyI v.regs) (fun x=>[(8,.i .i64 fun _=>x.k)]) (fun _=>[]) [] (fun x=>v.regs.length-x.k) ⟨0,Nat.zero_le _,by simp⟩ rfl (fun _=>rfl) ?_ ?_ fun⟨k,hk,hr⟩=> ?_
  iterate 2
   ·cbv
    repeat' first|(refine Stp.mk ?_;cbv)|(refine Gen.mk fun r hr=> ?_;(try simp only[Dat.ok,Dat.dec,Leaf.ok,Leaf.val,Z0,Z1,Z2,Z3,Z4,Z5,Z6,Z7,Z8,Z9,Z10,Z11,Z12,Z13,Z14,Z15,Z16,Z17,Z18,Z19,Z20,Z21,Z22,val_sl,val_nil]at hr);cbv)|exact trivial|rfl|refine Both.mk ?_ ?_|(refine Imp.mk fun h=> ?_;(try dsimp only at h);(try simp only[nc,Int.toNat_natCast,ne_eq,zz]at h);(try simp only[nc]at h))|refine Ob.mk ?_ ?_|refine Chk.mk (by kernel_rfl) ?_|refine Eq'.mk ?_|(refine AllN.mk fun i hi=> ?_;cbv)|(refine AllC.mk fun c hc hcm=> ?_;(try dsimp only at hc);cbv)|(refine AllS.mk fun r hr=> ?_;(try simp only[Dat.ok,Dat.dec,Leaf.ok,Leaf.val,Z0,Z1,Z2,Z3,Z4,Z5,Z6,Z7,Z8,Z9,Z10,Z11,Z12,Z13,Z14,Z15,Z16,Z17,Z18,Z19,Z20,Z21,Z22,val_sl]at hr);cbv)
  cbv
  repeat' first|(show Stp _;exfalso;first|omega|(exact h ‹_›)|(exact absurd ‹_› h)|(exact Bool.false_ne_true (h.symm.trans (show _=true by assumption))))|(refine Stp.mk ?_;cbv)|(refine Gen.mk fun r hr=> ?_;(try simp only[Dat.ok,Dat.dec,Leaf.ok,Leaf.val,Z0,Z1,Z2,Z3,Z4,Z5,Z6,Z7,Z8,Z9,Z10,Z11,Z12,Z13,Z14,Z15,Z16,Z17,Z18,Z19,Z20,Z21,Z22,val_sl,val_nil]at hr);cbv)|exact trivial|rfl|refine Both.mk ?_ ?_|(refine Imp.mk fun h=> ?_;(try dsimp only at h);(try simp only[nc,Int.toNat_natCast,ne_eq,zz]at h);(try simp only[nc]at h))|refine Ob.mk ?_ ?_|refine Chk.mk (by kernel_rfl) ?_|refine Eq'.mk ?_|(refine AllN.mk fun i hi=> ?_;cbv)|(refine AllC.mk fun c hc hcm=> ?_;(try dsimp only at hc);cbv)|(refine AllS.mk fun r hr=> ?_;(try simp only[Dat.ok,Dat.dec,Leaf.ok,Leaf.val,Z0,Z1,Z2,Z3,Z4,Z5,Z6,Z7,Z8,Z9,Z10,Z11,Z12,Z13,Z14,Z15,Z16,Z17,Z18,Z19,Z20,Z21,Z22,val_sl]at hr);cbv)
  all_goals ((try dsimp only at*);(try simp only[nc,Int.toNat_natCast,ne_eq,zz]at*);(try simp only[nc]at*))
  all_goals first
   |omega
   |(unfold InR;omega)
   |(refine fin _ _ _ ?_
     have hb:numB (v.regs.getD k Dat.d0)=false:=by assumption
     have e:(v.regs.any fun n=> !numB n)=true:=by rw[hr,drop_cons Dat.d0 (by omega),List.any_cons,hb];rfl
     rw[rightV,if_neg (by rintro⟨q1,q2,q3,q4⟩;rw[e]at q4;cases q4)])
   |(refine fin _ _ _ ?_
     have e:(v.regs.any fun n=> !numB n)=false:=by rw[hr,drop_nil (by omega)];rfl
     rw[rightV,if_pos ⟨by assumption,by omega,by simp_all,e⟩])
   |(have hb:numB (v.regs.getD k Dat.d0)=true:=by assumption
     refine⟨⟨k+1,by omega,by rw[hr,drop_cons Dat.d0 (by omega),List.any_cons,hb];rfl⟩, ?_, ?_,rfl,by(try dsimp only);omega⟩
     ·cbv
      repeat' first|(refine Stp.mk ?_;cbv)|(refine Gen.mk fun r hr=> ?_;(try simp only[Dat.ok,Dat.dec,Leaf.ok,Leaf.val,Z0,Z1,Z2,Z3,Z4,Z5,Z6,Z7,Z8,Z9,Z10,Z11,Z12,Z13,Z14,Z15,Z16,Z17,Z18,Z19,Z20,Z21,Z22,val_sl,val_nil]at hr);cbv)|exact trivial|rfl|refine Both.mk ?_ ?_|(refine Imp.mk fun h=> ?_;(try dsimp only at h);(try simp only[nc,Int.toNat_natCast,ne_eq,zz]at h);(try simp only[nc]at h))|refine Ob.mk ?_ ?_|refine Chk.mk (by kernel_rfl) ?_|refine Eq'.mk ?_|(refine AllN.mk fun i hi=> ?_;cbv)|(refine AllC.mk fun c hc hcm=> ?_;(try dsimp only at hc);cbv)|(refine AllS.mk fun r hr=> ?_;(try simp only[Dat.ok,Dat.dec,Leaf.ok,Leaf.val,Z0,Z1,Z2,Z3,Z4,Z5,Z6,Z7,Z8,Z9,Z10,Z11,Z12,Z13,Z14,Z15,Z16,Z17,Z18,Z19,Z20,Z21,Z22,val_sl]at hr);cbv)
     ·cbv
      repeat' first|(refine Stp.mk ?_;cbv)|(refine Gen.mk fun r hr=> ?_;(try simp only[Dat.ok,Dat.dec,Leaf.ok,Leaf.val,Z0,Z1,Z2,Z3,Z4,Z5,Z6,Z7,Z8,Z9,Z10,Z11,Z12,Z13,Z14,Z15,Z16,Z17,Z18,Z19,Z20,Z21,Z22,val_sl,val_nil]at hr);cbv)|exact trivial|rfl|refine Both.mk ?_ ?_|(refine Imp.mk fun h=> ?_;(try dsimp only at h);(try simp only[nc,Int.toNat_natCast,ne_eq,zz]at h);(try simp only[nc]at h))|refine Ob.mk ?_ ?_|refine Chk.mk (by kernel_rfl) ?_|refine Eq'.mk ?_|(refine AllN.mk fun i hi=> ?_;cbv)|(refine AllC.mk fun c hc hcm=> ?_;(try dsimp only at hc);cbv)|(refine AllS.mk fun r hr=> ?_;(try simp only[Dat.ok,Dat.dec,Leaf.ok,Leaf.val,Z0,Z1,Z2,Z3,Z4,Z5,Z6,Z7,Z8,Z9,Z10,Z11,Z12,Z13,Z14,Z15,Z16,Z17,Z18,Z19,Z20,Z21,Z22,val_sl]at hr);cbv))
   |fail)
theorem rightVC_ok:PcOk Tryz.prog 31 (detPC rightVC_D):=det_okA fun A p r h hp0=>by
 unfold rightVC_D at h
 split at h
 ·rename_i v
  cases h
  obtain⟨g0,hp⟩:=hp0
  exact⟨rfl,FnOk.pre (A':=[.agg (Dat.enc fun _=>(Dat.dec v:Vm))]) (rightVC_vc (Dat.dec v) hp) (.mk (Dat.hle _ g0) (trivial))⟩
 ·cases h
end Go.Proofs.YtiaiifcgbjlfoaaGreatDoor
