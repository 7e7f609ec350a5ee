/- The program's functions, walked: Vm. -/
import Derived.Test.YtiaiifcgbjlfoaaGreatDoorTy
set_option linter.all false
namespace Go.Proofs.YtiaiifcgbjlfoaaGreatDoor
open Go Go.Abs
def qIB (n lo hi:Int):Bool:=decide (lo≤n)&&decide (n≤hi)
def qQD (n:Int):Bool:=qIB n 0 7
def qC5 (n:Int):Bool:=decide (n=IntKind.i64.wrap (IntKind.i32.wrap n))
def qC6 (i:Ins) (long:Int):Bool:=
 if i.code=1 then qQD i.a&&qC5 i.b else if i.code=2∨i.code=3∨i.code=4∨i.code=5 then qQD i.a&&qQD i.b else if i.code=6 then decide (i.a=0)&&qIB i.b 0 long
 else if i.code=7∨i.code=8 then qQD i.a&&qIB i.b 0 long else if i.code=9 then qQD i.a&&decide (i.b=0)else if i.code=10 then qQD i.a&&qIB i.b 0 3 else if i.code=11 then decide (i.a=0)&&decide (i.b=0)else false
def qAn (p:List Ins):Int:=if 100<p.length then 2 else if(p.all fun i=>qC6 i p.length)=true then 0 else 4
def qA1 (v:Vm):Int:=if qIB v.at_ 0 100=true∧v.regs.length=8∧¬(v.halts=true∧v.fault=true)∧v.regs.any (fun n=> !qC5 n)=false then 0 else 4
def qWg (code a b:Int):Int:=if code=3 then IntKind.i32.wrap (a+b)else if code=4 then IntKind.i32.wrap (a-b)else if code=5 then IntKind.i32.wrap (a*b)else b
def qWh (r:Th (Bool)):AV:= .b fun _=>(r ())
def qMU:Det:=fun A=>match A with
 |[.i .i64 n,.i .i64 low,.i .i64 high]=>some (fun _=>True,qWh fun _=>qIB (n ()) (low ()) (high ()))
 |_=>none
set_option maxRecDepth 100000 in
set_option maxHeartbeats 4000000 in
theorem qWi (n:Int) (low:Int) (high:Int):qO Tryz.prog 35 [.i .i64 fun _=>n,.i .i64 fun _=>low,.i .i64 fun _=>high] [] (qAf (qWh fun _=>qIB n low high) []):=by
 refine qAe qI zl qP qD (keep:=[0,1,2,6]) Tryz.func35 rfl ?_
 cbv
 repeat' first|(show Stp _;exfalso;first|omega|(exact h ‹_›)|(exact absurd ‹_› h)|(exact Bool.false_ne_true (h.symm.trans (show _=true by assumption))))|(refine Stp.mk ?_;cbv)|(refine Gen.mk fun r hr=> ?_;(try simp only[Dat.ok,Dat.dec,Leaf.ok,Leaf.val,Z0,Z1,Z2,Z3,Z4,Z5,Z6,Z7,Z8,Z9,Z10,Z11,Z12,Z13,Z14,qA,qB]at hr);cbv)|exact trivial|rfl|refine Both.mk ?_ ?_|(refine Imp.mk fun h=> ?_;(try dsimp only at h);(try simp only[nc,Int.toNat_natCast,ne_eq,zz]at h);(try simp only[nc]at h))|refine Ob.mk ?_ ?_|refine Chk.mk (by kernel_rfl) ?_|refine Eq'.mk ?_|(refine AllN.mk fun i hi=> ?_;cbv)|(refine AllC.mk fun c hc hcm=> ?_;(try dsimp only at hc);cbv)|(refine AllS.mk fun r hr=> ?_;(try simp only[Dat.ok,Dat.dec,Leaf.ok,Leaf.val,Z0,Z1,Z2,Z3,Z4,Z5,Z6,Z7,Z8,Z9,Z10,Z11,Z12,Z13,Z14,qA]at hr);cbv)
 all_goals ((try dsimp only at*);(try simp only[nc,Int.toNat_natCast,ne_eq,zz]at*);(try simp only[nc]at*))
 all_goals simp_all [qIB]
 all_goals omega
theorem qLO:qBf Tryz.prog 35 (qM qMU):=qS fun A p r h hp0=>by
 unfold qMU at h
 split at h
 ·rename_i n low high
  cases h
  exact⟨rfl,qO.pre (A':=[.i .i64 fun _=>n (),.i .i64 fun _=>low (),.i .i64 fun _=>high ()]) (qWi (n ()) (low ()) (high ())) (.mk (.mk (.mk rfl) (.mk rfl)) (.mk (.mk (.mk rfl) (.mk rfl)) (.mk (.mk (.mk rfl) (.mk rfl)) (trivial))))⟩
 ·cases h
noncomputable def cV1:FuncId→Con:=fun f=>match f with
 |35=>qH (qM qMU)
 |_=>fun _ _ _=>Bad 1001
theorem qWj:qY Tryz.prog cV1:=fun f A H K h=>by
 unfold cV1 at h
 split at h
 ·exact⟨⟨Tryz.f35,Tryz.func35,by kernel_rfl,by kernel_rfl⟩,qE qLO h⟩
 ·cases h
def qWk (r:Th (Bool)):AV:= .b fun _=>(r ())
def qTq:Det:=fun A=>match A with
 |[.i .i64 n]=>some (fun _=>True,qWk fun _=>qQD (n ()))
 |_=>none
set_option maxRecDepth 100000 in
set_option maxHeartbeats 4000000 in
theorem qWl (n:Int):qO Tryz.prog 106 [.i .i64 fun _=>n] [] (qAf (qWk fun _=>qQD n) []):=by
 refine qAe qI zl qWj qD (keep:=[0,2]) Tryz.func106 rfl ?_
 cbv
 repeat' first|(show Stp _;exfalso;first|omega|(exact h ‹_›)|(exact absurd ‹_› h)|(exact Bool.false_ne_true (h.symm.trans (show _=true by assumption))))|(refine Stp.mk ?_;cbv)|(refine Gen.mk fun r hr=> ?_;(try simp only[Dat.ok,Dat.dec,Leaf.ok,Leaf.val,Z0,Z1,Z2,Z3,Z4,Z5,Z6,Z7,Z8,Z9,Z10,Z11,Z12,Z13,Z14,qA,qB]at hr);cbv)|exact trivial|rfl|refine Both.mk ?_ ?_|(refine Imp.mk fun h=> ?_;(try dsimp only at h);(try simp only[nc,Int.toNat_natCast,ne_eq,zz]at h);(try simp only[nc]at h))|refine Ob.mk ?_ ?_|refine Chk.mk (by kernel_rfl) ?_|refine Eq'.mk ?_|(refine AllN.mk fun i hi=> ?_;cbv)|(refine AllC.mk fun c hc hcm=> ?_;(try dsimp only at hc);cbv)|(refine AllS.mk fun r hr=> ?_;(try simp only[Dat.ok,Dat.dec,Leaf.ok,Leaf.val,Z0,Z1,Z2,Z3,Z4,Z5,Z6,Z7,Z8,Z9,Z10,Z11,Z12,Z13,Z14,qA]at hr);cbv)
 all_goals ((try dsimp only at*);(try simp only[nc,Int.toNat_natCast,ne_eq,zz]at*);(try simp only[nc]at*))
 all_goals first|rfl|fail
theorem qWm:qBf Tryz.prog 106 (qM qTq):=qS fun A p r h hp0=>by
 unfold qTq at h
 split at h
 ·rename_i n
  cases h
  exact⟨rfl,qO.pre (A':=[.i .i64 fun _=>n ()]) (qWl (n ())) (.mk (.mk (.mk rfl) (.mk rfl)) (trivial))⟩
 ·cases h
def qSd (r:Th (Bool)):AV:= .b fun _=>(r ())
def qLP:Det:=fun A=>match A with
 |[.i .i64 n]=>some (fun _=>True,qSd fun _=>qC5 (n ()))
 |_=>none
set_option maxRecDepth 100000 in
set_option maxHeartbeats 4000000 in
theorem qTr (n:Int):qO Tryz.prog 34 [.i .i64 fun _=>n] [] (qAf (qSd fun _=>qC5 n) []):=by
 refine qAe qI zl qP qD (keep:=[0,2]) Tryz.func34 rfl ?_
 cbv
 repeat' first|(show Stp _;exfalso;first|omega|(exact h ‹_›)|(exact absurd ‹_› h)|(exact Bool.false_ne_true (h.symm.trans (show _=true by assumption))))|(refine Stp.mk ?_;cbv)|(refine Gen.mk fun r hr=> ?_;(try simp only[Dat.ok,Dat.dec,Leaf.ok,Leaf.val,Z0,Z1,Z2,Z3,Z4,Z5,Z6,Z7,Z8,Z9,Z10,Z11,Z12,Z13,Z14,qA,qB]at hr);cbv)|exact trivial|rfl|refine Both.mk ?_ ?_|(refine Imp.mk fun h=> ?_;(try dsimp only at h);(try simp only[nc,Int.toNat_natCast,ne_eq,zz]at h);(try simp only[nc]at h))|refine Ob.mk ?_ ?_|refine Chk.mk (by kernel_rfl) ?_|refine Eq'.mk ?_|(refine AllN.mk fun i hi=> ?_;cbv)|(refine AllC.mk fun c hc hcm=> ?_;(try dsimp only at hc);cbv)|(refine AllS.mk fun r hr=> ?_;(try simp only[Dat.ok,Dat.dec,Leaf.ok,Leaf.val,Z0,Z1,Z2,Z3,Z4,Z5,Z6,Z7,Z8,Z9,Z10,Z11,Z12,Z13,Z14,qA]at hr);cbv)
 all_goals ((try dsimp only at*);(try simp only[nc,Int.toNat_natCast,ne_eq,zz]at*);(try simp only[nc]at*))
 all_goals first|rfl|fail
theorem qOH:qBf Tryz.prog 34 (qM qLP):=qS fun A p r h hp0=>by
 unfold qLP at h
 split at h
 ·rename_i n
  cases h
  exact⟨rfl,qO.pre (A':=[.i .i64 fun _=>n ()]) (qTr (n ())) (.mk (.mk (.mk rfl) (.mk rfl)) (trivial))⟩
 ·cases h
noncomputable def cV2:FuncId→Con:=fun f=>match f with
 |35=>qH (qM qMU)
 |106=>qH (qM qTq)
 |34=>qH (qM qLP)
 |_=>fun _ _ _=>Bad 1001
theorem qWn:qY Tryz.prog cV2:=fun f A H K h=>by
 unfold cV2 at h
 split at h
 ·exact⟨⟨Tryz.f35,Tryz.func35,by kernel_rfl,by kernel_rfl⟩,qE qLO h⟩
 ·exact⟨⟨Tryz.f106,Tryz.func106,by kernel_rfl,by kernel_rfl⟩,qE qWm h⟩
 ·exact⟨⟨Tryz.f34,Tryz.func34,by kernel_rfl,by kernel_rfl⟩,qE qOH h⟩
 ·cases h
def qLQ (r:Th (Bool)):AV:= .b fun _=>(r ())
def qH2:Det:=fun A=>match A with
 |[.agg i,.i .i64 long]=>some (fun _=>Dat.ok Ins i,qLQ fun _=>qC6 (Dat.dec i) (long ()))
 |_=>none
set_option maxRecDepth 100000 in
set_option maxHeartbeats 4000000 in
theorem qOI (i:Ins) (long:Int):qO Tryz.prog 68 [.agg (Dat.enc fun _=>i),.i .i64 fun _=>long] [] (qAf (qLQ fun _=>qC6 i long) []):=by
 refine qAe qI zl qWn qD (keep:=[0,1,2,4,6,7,17,30,41,53,63,73]) Tryz.func68 rfl ?_
 cbv
 repeat' first|(show Stp _;exfalso;first|omega|(exact h ‹_›)|(exact absurd ‹_› h)|(exact Bool.false_ne_true (h.symm.trans (show _=true by assumption))))|(refine Stp.mk ?_;cbv)|(refine Gen.mk fun r hr=> ?_;(try simp only[Dat.ok,Dat.dec,Leaf.ok,Leaf.val,Z0,Z1,Z2,Z3,Z4,Z5,Z6,Z7,Z8,Z9,Z10,Z11,Z12,Z13,Z14,qA,qB]at hr);cbv)|exact trivial|rfl|refine Both.mk ?_ ?_|(refine Imp.mk fun h=> ?_;(try dsimp only at h);(try simp only[nc,Int.toNat_natCast,ne_eq,zz]at h);(try simp only[nc]at h))|refine Ob.mk ?_ ?_|refine Chk.mk (by kernel_rfl) ?_|refine Eq'.mk ?_|(refine AllN.mk fun i hi=> ?_;cbv)|(refine AllC.mk fun c hc hcm=> ?_;(try dsimp only at hc);cbv)|(refine AllS.mk fun r hr=> ?_;(try simp only[Dat.ok,Dat.dec,Leaf.ok,Leaf.val,Z0,Z1,Z2,Z3,Z4,Z5,Z6,Z7,Z8,Z9,Z10,Z11,Z12,Z13,Z14,qA]at hr);cbv)
 all_goals ((try dsimp only at*);(try simp only[nc,Int.toNat_natCast,ne_eq,zz]at*);(try simp only[nc]at*))
 all_goals unfold qC6
 all_goals first
  |(simp[*];done)
  |(simp[*];rfl)
  |fail
theorem qOJ:qBf Tryz.prog 68 (qM qH2):=qS fun A p r h hp0=>by
 unfold qH2 at h
 split at h
 ·rename_i i long
  cases h
  have g0:=hp0
  exact⟨rfl,qO.pre (A':=[.agg (Dat.enc fun _=>(Dat.dec i:Ins)),.i .i64 fun _=>long ()]) (qOI (Dat.dec i) (long ())) (.mk (Dat.hle _ g0) (.mk (.mk (.mk rfl) (.mk rfl)) (trivial)))⟩
 ·cases h
noncomputable def cV3:FuncId→Con:=fun f=>match f with
 |68=>qH (qM qH2)
 |_=>fun _ _ _=>Bad 1001
theorem qWo:qY Tryz.prog cV3:=fun f A H K h=>by
 unfold cV3 at h
 split at h
 ·exact⟨⟨Tryz.f68,Tryz.func68,by kernel_rfl,by kernel_rfl⟩,qE qOJ h⟩
 ·cases h
def qFt (r:Th (Int)):AV:= .i .i64 fun _=>(r ())
def qLR (p:(List Ins)):Prop:=p.length≤9223372036854775807
def qDr:Det:=fun A=>match A with
 |[p]=>some (fun _=>Leaf.ok (List Ins) p∧qLR (Leaf.val p),qFt fun _=>qAn (Leaf.val p))
 |_=>none
structure VcX (p:List Ins) where
 k:Nat
 hk:k≤p.length
 hr:(p.all fun i=>qC6 i p.length)=((p.drop k).all fun i=>qC6 i p.length)
set_option maxRecDepth 100000 in
set_option maxHeartbeats 4000000 in
theorem qOK (p:(List Ins)) (hp:qLR p):qO Tryz.prog 30 [Leaf.av fun _=>p] [] (qAf (qFt fun _=>qAn p) []):=by
 refine qAe qI zl qWo qD (keep:=[0,2,4,7,8,9,10,11,18]) Tryz.func30 rfl ?_
 have hp':p.length≤9223372036854775807:=hp
 have fin:∀e H kl,e=qAn p→qAf (qFt fun _=>qAn p) [] (.i .i64 fun _=>e) H kl:=by
  rintro e H kl rfl
  cbv
  repeat' first|(refine Stp.mk ?_;cbv)|(refine Gen.mk fun r hr=> ?_;(try simp only[Dat.ok,Dat.dec,Leaf.ok,Leaf.val,Z0,Z1,Z2,Z3,Z4,Z5,Z6,Z7,Z8,Z9,Z10,Z11,Z12,Z13,Z14,qA,qB]at hr);cbv)|exact trivial|rfl|refine Both.mk ?_ ?_|(refine Imp.mk fun h=> ?_;(try dsimp only at h);(try simp only[nc,Int.toNat_natCast,ne_eq,zz]at h);(try simp only[nc]at h))|refine Ob.mk ?_ ?_|refine Chk.mk (by kernel_rfl) ?_|refine Eq'.mk ?_|(refine AllN.mk fun i hi=> ?_;cbv)|(refine AllC.mk fun c hc hcm=> ?_;(try dsimp only at hc);cbv)|(refine AllS.mk fun r hr=> ?_;(try simp only[Dat.ok,Dat.dec,Leaf.ok,Leaf.val,Z0,Z1,Z2,Z3,Z4,Z5,Z6,Z7,Z8,Z9,Z10,Z11,Z12,Z13,Z14,qA]at hr);cbv)
 generalize qAf (qFt fun _=>qAn p) []=K at fin
 cbv
 repeat' first|(show Stp _;exfalso;first|omega|(exact h ‹_›)|(exact absurd ‹_› h)|(exact Bool.false_ne_true (h.symm.trans (show _=true by assumption))))|(refine Stp.mk ?_;cbv)|(refine Gen.mk fun r hr=> ?_;(try simp only[Dat.ok,Dat.dec,Leaf.ok,Leaf.val,Z0,Z1,Z2,Z3,Z4,Z5,Z6,Z7,Z8,Z9,Z10,Z11,Z12,Z13,Z14,qA,qB]at hr);cbv)|exact trivial|rfl|refine Both.mk ?_ ?_|(refine Imp.mk fun h=> ?_;(try dsimp only at h);(try simp only[nc,Int.toNat_natCast,ne_eq,zz]at h);(try simp only[nc]at h))|refine Ob.mk ?_ ?_|refine Chk.mk (by kernel_rfl) ?_|refine Eq'.mk ?_|(refine AllN.mk fun i hi=> ?_;cbv)|(refine AllC.mk fun c hc hcm=> ?_;(try dsimp only at hc);cbv)|(refine AllS.mk fun r hr=> ?_;(try simp only[Dat.ok,Dat.dec,Leaf.ok,Leaf.val,Z0,Z1,Z2,Z3,Z4,Z5,Z6,Z7,Z8,Z9,Z10,Z11,Z12,Z13,Z14,qA]at hr);cbv)
 all_goals ((try dsimp only at*);(try simp only[nc,Int.toNat_natCast,ne_eq,zz]at*);(try simp only[nc]at*))
 all_goals first
  |(refine fin _ _ _ ?_;rw[qAn,if_pos (by omega)];done)
  |skip
 refine LoopVC.frame [2,4,10,11,18] (VcX p) (fun x=>[(10,.i .i64 fun _=>x.k)]) (fun _=>[]) [] (fun x=>p.length-x.k) ⟨0,Nat.zero_le _,by simp⟩ rfl (fun _=>rfl) ?_ ?_ fun⟨k,hk,hr⟩=> ?_
 iterate 2
  ·cbv
   repeat' first|(refine Stp.mk ?_;cbv)|(refine Gen.mk fun r hr=> ?_;(try simp only[Dat.ok,Dat.dec,Leaf.ok,Leaf.val,Z0,Z1,Z2,Z3,Z4,Z5,Z6,Z7,Z8,Z9,Z10,Z11,Z12,Z13,Z14,qA,qB]at hr);cbv)|exact trivial|rfl|refine Both.mk ?_ ?_|(refine Imp.mk fun h=> ?_;(try dsimp only at h);(try simp only[nc,Int.toNat_natCast,ne_eq,zz]at h);(try simp only[nc]at h))|refine Ob.mk ?_ ?_|refine Chk.mk (by kernel_rfl) ?_|refine Eq'.mk ?_|(refine AllN.mk fun i hi=> ?_;cbv)|(refine AllC.mk fun c hc hcm=> ?_;(try dsimp only at hc);cbv)|(refine AllS.mk fun r hr=> ?_;(try simp only[Dat.ok,Dat.dec,Leaf.ok,Leaf.val,Z0,Z1,Z2,Z3,Z4,Z5,Z6,Z7,Z8,Z9,Z10,Z11,Z12,Z13,Z14,qA]at hr);cbv)
 cbv
 repeat' first|(show Stp _;exfalso;first|omega|(exact h ‹_›)|(exact absurd ‹_› h)|(exact Bool.false_ne_true (h.symm.trans (show _=true by assumption))))|(refine Stp.mk ?_;cbv)|(refine Gen.mk fun r hr=> ?_;(try simp only[Dat.ok,Dat.dec,Leaf.ok,Leaf.val,Z0,Z1,Z2,Z3,Z4,Z5,Z6,Z7,Z8,Z9,Z10,Z11,Z12,Z13,Z14,qA,qB]at hr);cbv)|exact trivial|rfl|refine Both.mk ?_ ?_|(refine Imp.mk fun h=> ?_;(try dsimp only at h);(try simp only[nc,Int.toNat_natCast,ne_eq,zz]at h);(try simp only[nc]at h))|refine Ob.mk ?_ ?_|refine Chk.mk (by kernel_rfl) ?_|refine Eq'.mk ?_|(refine AllN.mk fun i hi=> ?_;cbv)|(refine AllC.mk fun c hc hcm=> ?_;(try dsimp only at hc);cbv)|(refine AllS.mk fun r hr=> ?_;(try simp only[Dat.ok,Dat.dec,Leaf.ok,Leaf.val,Z0,Z1,Z2,Z3,Z4,Z5,Z6,Z7,Z8,Z9,Z10,Z11,Z12,Z13,Z14,qA]at hr);cbv)
 all_goals ((try dsimp only at*);(try simp only[nc,Int.toNat_natCast,ne_eq,zz]at*);(try simp only[nc]at*))
 all_goals try simp only[Dat.ok,Dat.dec,Leaf.ok,Leaf.val,Z0,Z1,Z2,Z3,Z4,Z5,Z6,Z7,Z8,Z9,Z10,Z11,Z12,Z13,Z14,qA]at*
 all_goals first
  |omega
  |(unfold InR;omega)
  |exact⟨trivial,trivial,trivial⟩
  |(refine fin _ _ _ ?_
    have hb:qC6 (p.getD k Dat.d0) p.length=false:=by assumption
    rw[qAn,if_neg (by omega),hr,qX Dat.d0 (by omega),List.all_cons,hb];rfl)
  |(refine fin _ _ _ ?_
    rw[qAn,if_neg (by omega),hr,drop_nil (by omega)];rfl)
  |(have hb:qC6 (p.getD k Dat.d0) p.length=true:=by assumption
    refine⟨⟨k+1,by omega,by rw[hr,qX Dat.d0 (by omega),List.all_cons,hb];rfl⟩, ?_, ?_,rfl,by(try dsimp only);omega⟩
    ·cbv
     repeat' first|(refine Stp.mk ?_;cbv)|(refine Gen.mk fun r hr=> ?_;(try simp only[Dat.ok,Dat.dec,Leaf.ok,Leaf.val,Z0,Z1,Z2,Z3,Z4,Z5,Z6,Z7,Z8,Z9,Z10,Z11,Z12,Z13,Z14,qA,qB]at hr);cbv)|exact trivial|rfl|refine Both.mk ?_ ?_|(refine Imp.mk fun h=> ?_;(try dsimp only at h);(try simp only[nc,Int.toNat_natCast,ne_eq,zz]at h);(try simp only[nc]at h))|refine Ob.mk ?_ ?_|refine Chk.mk (by kernel_rfl) ?_|refine Eq'.mk ?_|(refine AllN.mk fun i hi=> ?_;cbv)|(refine AllC.mk fun c hc hcm=> ?_;(try dsimp only at hc);cbv)|(refine AllS.mk fun r hr=> ?_;(try simp only[Dat.ok,Dat.dec,Leaf.ok,Leaf.val,Z0,Z1,Z2,Z3,Z4,Z5,Z6,Z7,Z8,Z9,Z10,Z11,Z12,Z13,Z14,qA]at hr);cbv)
    ·cbv
     repeat' first|(refine Stp.mk ?_;cbv)|(refine Gen.mk fun r hr=> ?_;(try simp only[Dat.ok,Dat.dec,Leaf.ok,Leaf.val,Z0,Z1,Z2,Z3,Z4,Z5,Z6,Z7,Z8,Z9,Z10,Z11,Z12,Z13,Z14,qA,qB]at hr);cbv)|exact trivial|rfl|refine Both.mk ?_ ?_|(refine Imp.mk fun h=> ?_;(try dsimp only at h);(try simp only[nc,Int.toNat_natCast,ne_eq,zz]at h);(try simp only[nc]at h))|refine Ob.mk ?_ ?_|refine Chk.mk (by kernel_rfl) ?_|refine Eq'.mk ?_|(refine AllN.mk fun i hi=> ?_;cbv)|(refine AllC.mk fun c hc hcm=> ?_;(try dsimp only at hc);cbv)|(refine AllS.mk fun r hr=> ?_;(try simp only[Dat.ok,Dat.dec,Leaf.ok,Leaf.val,Z0,Z1,Z2,Z3,Z4,Z5,Z6,Z7,Z8,Z9,Z10,Z11,Z12,Z13,Z14,qA]at hr);cbv))
  |fail
theorem qEf:qBf Tryz.prog 30 (qM qDr):=qS fun A p r h hp0=>by
 unfold qDr at h
 split at h
 ·rename_i p
  cases h
  obtain⟨g0,hp⟩:=hp0
  exact⟨rfl,qO.pre (A':=[Leaf.av fun _=>(Leaf.val p:(List Ins))]) (qOK (Leaf.val p) hp) (.mk (Leaf.hle _ g0) (trivial))⟩
 ·cases h
def qSe (r:Th (Int)):AV:= .i .i32 fun _=>(r ())
def qLS:Det:=fun A=>match A with
 |[.i .i64 code,.i .i32 a,.i .i32 b]=>some (fun _=>True,qSe fun _=>qWg (code ()) (a ()) (b ()))
 |_=>none
set_option maxRecDepth 100000 in
set_option maxHeartbeats 4000000 in
theorem qTs (code:Int) (a:Int) (b:Int):qO Tryz.prog 71 [.i .i64 fun _=>code,.i .i32 fun _=>a,.i .i32 fun _=>b] [] (qAf (qSe fun _=>qWg code a b) []):=by
 refine qAe qI zl qP qD (keep:=[0,1,2,6,7,8,13,18]) Tryz.func71 rfl ?_
 cbv
 repeat' first|(show Stp _;exfalso;first|omega|(exact h ‹_›)|(exact absurd ‹_› h)|(exact Bool.false_ne_true (h.symm.trans (show _=true by assumption))))|(refine Stp.mk ?_;cbv)|(refine Gen.mk fun r hr=> ?_;(try simp only[Dat.ok,Dat.dec,Leaf.ok,Leaf.val,Z0,Z1,Z2,Z3,Z4,Z5,Z6,Z7,Z8,Z9,Z10,Z11,Z12,Z13,Z14,qA,qB]at hr);cbv)|exact trivial|rfl|refine Both.mk ?_ ?_|(refine Imp.mk fun h=> ?_;(try dsimp only at h);(try simp only[nc,Int.toNat_natCast,ne_eq,zz]at h);(try simp only[nc]at h))|refine Ob.mk ?_ ?_|refine Chk.mk (by kernel_rfl) ?_|refine Eq'.mk ?_|(refine AllN.mk fun i hi=> ?_;cbv)|(refine AllC.mk fun c hc hcm=> ?_;(try dsimp only at hc);cbv)|(refine AllS.mk fun r hr=> ?_;(try simp only[Dat.ok,Dat.dec,Leaf.ok,Leaf.val,Z0,Z1,Z2,Z3,Z4,Z5,Z6,Z7,Z8,Z9,Z10,Z11,Z12,Z13,Z14,qA]at hr);cbv)
 all_goals ((try dsimp only at*);(try simp only[nc,Int.toNat_natCast,ne_eq,zz]at*);(try simp only[nc]at*))
 all_goals unfold qWg
 all_goals first
  |(simp[*];done)
  |fail
theorem qOL:qBf Tryz.prog 71 (qM qLS):=qS fun A p r h hp0=>by
 unfold qLS at h
 split at h
 ·rename_i code a b
  cases h
  exact⟨rfl,qO.pre (A':=[.i .i64 fun _=>code (),.i .i32 fun _=>a (),.i .i32 fun _=>b ()]) (qTs (code ()) (a ()) (b ())) (.mk (.mk (.mk rfl) (.mk rfl)) (.mk (.mk (.mk rfl) (.mk rfl)) (.mk (.mk (.mk rfl) (.mk rfl)) (trivial))))⟩
 ·cases h
structure AnyI (l:List Int) where
 k:Nat
 hk:k≤l.length
 hr:(l.any fun n=> !qC5 n)=((l.drop k).any fun n=> !qC5 n)
noncomputable def cV4:FuncId→Con:=fun f=>match f with
 |34=>qH (qM qLP)
 |_=>fun _ _ _=>Bad 1001
theorem qSf:qY Tryz.prog cV4:=fun f A H K h=>by
 unfold cV4 at h
 split at h
 ·exact⟨⟨Tryz.f34,Tryz.func34,by kernel_rfl,by kernel_rfl⟩,qE qOH h⟩
 ·cases h
noncomputable def cV5:FuncId→Con:=fun f=>match f with
 |69=>qAg E cV4 qAa [0,2] Tryz.f69
 |33=>qAg E cV4 qAa [0,2] Tryz.f33
 |_=>fun _ _ _=>Bad 1001
theorem qWp:qY Tryz.prog cV5:=fun f A H K h=>by
 unfold cV5 at h
 split at h
 ·exact⟨⟨Tryz.f69,Tryz.func69,by kernel_rfl,by kernel_rfl⟩,qAi qI zl qSf qD Tryz.func69 h⟩
 ·exact⟨⟨Tryz.f33,Tryz.func33,by kernel_rfl,by kernel_rfl⟩,qAi qI zl qSf qD Tryz.func33 h⟩
 ·cases h
noncomputable def cV6:FuncId→Con:=fun f=>match f with
 |70=>qAg E cV5 qAa [0,1,4,5,7,8,9,16] Tryz.f70
 |_=>fun _ _ _=>Bad 1001
theorem qSg:qY Tryz.prog cV6:=fun f A H K h=>by
 unfold cV6 at h
 split at h
 ·exact⟨⟨Tryz.f70,Tryz.func70,by kernel_rfl,by kernel_rfl⟩,qAi qI zl qWp qD Tryz.func70 h⟩
 ·cases h
noncomputable def cV7:FuncId→Con:=fun f=>match f with
 |35=>qH (qM qMU)
 |32=>qAg E cV6 qAa [0,1,4] Tryz.f32
 |_=>fun _ _ _=>Bad 1001
theorem qWq:qY Tryz.prog cV7:=fun f A H K h=>by
 unfold cV7 at h
 split at h
 ·exact⟨⟨Tryz.f35,Tryz.func35,by kernel_rfl,by kernel_rfl⟩,qE qLO h⟩
 ·exact⟨⟨Tryz.f32,Tryz.func32,by kernel_rfl,by kernel_rfl⟩,qAi qI zl qSg qD Tryz.func32 h⟩
 ·cases h
def qEg (r:Th (Int)):AV:= .i .i64 fun _=>(r ())
def qJE (v:Vm):Prop:=v.regs.length≤9223372036854775807
def qEh:Det:=fun A=>match A with
 |[.agg v]=>some (fun _=>Dat.ok Vm v∧qJE (Dat.dec v),qEg fun _=>qA1 (Dat.dec v))
 |_=>none
set_option maxRecDepth 100000 in
set_option maxHeartbeats 4000000 in
theorem qMV (v:Vm) (hp:qJE v):qO Tryz.prog 31 [.agg (Dat.enc fun _=>v)] [] (qAf (qEg fun _=>qA1 v) []):=by
 refine qAe qI zl qWq qD (keep:=[0,1,2,25]) Tryz.func31 rfl ?_
 have hp':v.regs.length≤9223372036854775807:=hp
 have fin:∀e H kl,e=qA1 v→qAf (qEg fun _=>qA1 v) [] (.i .i64 fun _=>e) H kl:=by
  rintro e H kl rfl
  cbv
  repeat' first|(refine Stp.mk ?_;cbv)|(refine Gen.mk fun r hr=> ?_;(try simp only[Dat.ok,Dat.dec,Leaf.ok,Leaf.val,Z0,Z1,Z2,Z3,Z4,Z5,Z6,Z7,Z8,Z9,Z10,Z11,Z12,Z13,Z14,qA,qB]at hr);cbv)|exact trivial|rfl|refine Both.mk ?_ ?_|(refine Imp.mk fun h=> ?_;(try dsimp only at h);(try simp only[nc,Int.toNat_natCast,ne_eq,zz]at h);(try simp only[nc]at h))|refine Ob.mk ?_ ?_|refine Chk.mk (by kernel_rfl) ?_|refine Eq'.mk ?_|(refine AllN.mk fun i hi=> ?_;cbv)|(refine AllC.mk fun c hc hcm=> ?_;(try dsimp only at hc);cbv)|(refine AllS.mk fun r hr=> ?_;(try simp only[Dat.ok,Dat.dec,Leaf.ok,Leaf.val,Z0,Z1,Z2,Z3,Z4,Z5,Z6,Z7,Z8,Z9,Z10,Z11,Z12,Z13,Z14,qA]at hr);cbv)
 generalize qAf (qEg fun _=>qA1 v) []=K at fin
 cbv
 repeat' first|(show Stp _;exfalso;first|omega|(exact h ‹_›)|(exact absurd ‹_› h)|(exact Bool.false_ne_true (h.symm.trans (show _=true by assumption))))|(refine Stp.mk ?_;cbv)|(refine Gen.mk fun r hr=> ?_;(try simp only[Dat.ok,Dat.dec,Leaf.ok,Leaf.val,Z0,Z1,Z2,Z3,Z4,Z5,Z6,Z7,Z8,Z9,Z10,Z11,Z12,Z13,Z14,qA,qB]at hr);cbv)|exact trivial|rfl|refine Both.mk ?_ ?_|(refine Imp.mk fun h=> ?_;(try dsimp only at h);(try simp only[nc,Int.toNat_natCast,ne_eq,zz]at h);(try simp only[nc]at h))|refine Ob.mk ?_ ?_|refine Chk.mk (by kernel_rfl) ?_|refine Eq'.mk ?_|(refine AllN.mk fun i hi=> ?_;cbv)|(refine AllC.mk fun c hc hcm=> ?_;(try dsimp only at hc);cbv)|(refine AllS.mk fun r hr=> ?_;(try simp only[Dat.ok,Dat.dec,Leaf.ok,Leaf.val,Z0,Z1,Z2,Z3,Z4,Z5,Z6,Z7,Z8,Z9,Z10,Z11,Z12,Z13,Z14,qA]at hr);cbv)
 all_goals ((try dsimp only at*);(try simp only[nc,Int.toNat_natCast,ne_eq,zz]at*);(try simp only[nc]at*))
 all_goals first
  |(refine fin _ _ _ ?_;rw[qA1,if_neg (by rintro⟨q1,q2,q3,q4⟩;first|omega|(simp_all;done))];done)
  |skip
 all_goals (
  refine LoopVC.frame [4,5,8,9,16] (AnyI v.regs) (fun x=>[(8,.i .i64 fun _=>x.k)]) (fun _=>[]) [] (fun x=>v.regs.length-x.k) ⟨0,Nat.zero_le _,by simp⟩ rfl (fun _=>rfl) ?_ ?_ fun⟨k,hk,hr⟩=> ?_
  iterate 2
   ·cbv
    repeat' first|(refine Stp.mk ?_;cbv)|(refine Gen.mk fun r hr=> ?_;(try simp only[Dat.ok,Dat.dec,Leaf.ok,Leaf.val,Z0,Z1,Z2,Z3,Z4,Z5,Z6,Z7,Z8,Z9,Z10,Z11,Z12,Z13,Z14,qA,qB]at hr);cbv)|exact trivial|rfl|refine Both.mk ?_ ?_|(refine Imp.mk fun h=> ?_;(try dsimp only at h);(try simp only[nc,Int.toNat_natCast,ne_eq,zz]at h);(try simp only[nc]at h))|refine Ob.mk ?_ ?_|refine Chk.mk (by kernel_rfl) ?_|refine Eq'.mk ?_|(refine AllN.mk fun i hi=> ?_;cbv)|(refine AllC.mk fun c hc hcm=> ?_;(try dsimp only at hc);cbv)|(refine AllS.mk fun r hr=> ?_;(try simp only[Dat.ok,Dat.dec,Leaf.ok,Leaf.val,Z0,Z1,Z2,Z3,Z4,Z5,Z6,Z7,Z8,Z9,Z10,Z11,Z12,Z13,Z14,qA]at hr);cbv)
  cbv
  repeat' first|(show Stp _;exfalso;first|omega|(exact h ‹_›)|(exact absurd ‹_› h)|(exact Bool.false_ne_true (h.symm.trans (show _=true by assumption))))|(refine Stp.mk ?_;cbv)|(refine Gen.mk fun r hr=> ?_;(try simp only[Dat.ok,Dat.dec,Leaf.ok,Leaf.val,Z0,Z1,Z2,Z3,Z4,Z5,Z6,Z7,Z8,Z9,Z10,Z11,Z12,Z13,Z14,qA,qB]at hr);cbv)|exact trivial|rfl|refine Both.mk ?_ ?_|(refine Imp.mk fun h=> ?_;(try dsimp only at h);(try simp only[nc,Int.toNat_natCast,ne_eq,zz]at h);(try simp only[nc]at h))|refine Ob.mk ?_ ?_|refine Chk.mk (by kernel_rfl) ?_|refine Eq'.mk ?_|(refine AllN.mk fun i hi=> ?_;cbv)|(refine AllC.mk fun c hc hcm=> ?_;(try dsimp only at hc);cbv)|(refine AllS.mk fun r hr=> ?_;(try simp only[Dat.ok,Dat.dec,Leaf.ok,Leaf.val,Z0,Z1,Z2,Z3,Z4,Z5,Z6,Z7,Z8,Z9,Z10,Z11,Z12,Z13,Z14,qA]at hr);cbv)
  all_goals ((try dsimp only at*);(try simp only[nc,Int.toNat_natCast,ne_eq,zz]at*);(try simp only[nc]at*))
  all_goals first
   |omega
   |(unfold InR;omega)
   |(refine fin _ _ _ ?_
     have hb:qC5 (v.regs.getD k Dat.d0)=false:=by assumption
     have e:(v.regs.any fun n=> !qC5 n)=true:=by rw[hr,qX Dat.d0 (by omega),List.any_cons,hb];rfl
     rw[qA1,if_neg (by rintro⟨q1,q2,q3,q4⟩;rw[e]at q4;cases q4)])
   |(refine fin _ _ _ ?_
     have e:(v.regs.any fun n=> !qC5 n)=false:=by rw[hr,drop_nil (by omega)];rfl
     rw[qA1,if_pos ⟨by assumption,by omega,by simp_all,e⟩])
   |(have hb:qC5 (v.regs.getD k Dat.d0)=true:=by assumption
     refine⟨⟨k+1,by omega,by rw[hr,qX Dat.d0 (by omega),List.any_cons,hb];rfl⟩, ?_, ?_,rfl,by(try dsimp only);omega⟩
     ·cbv
      repeat' first|(refine Stp.mk ?_;cbv)|(refine Gen.mk fun r hr=> ?_;(try simp only[Dat.ok,Dat.dec,Leaf.ok,Leaf.val,Z0,Z1,Z2,Z3,Z4,Z5,Z6,Z7,Z8,Z9,Z10,Z11,Z12,Z13,Z14,qA,qB]at hr);cbv)|exact trivial|rfl|refine Both.mk ?_ ?_|(refine Imp.mk fun h=> ?_;(try dsimp only at h);(try simp only[nc,Int.toNat_natCast,ne_eq,zz]at h);(try simp only[nc]at h))|refine Ob.mk ?_ ?_|refine Chk.mk (by kernel_rfl) ?_|refine Eq'.mk ?_|(refine AllN.mk fun i hi=> ?_;cbv)|(refine AllC.mk fun c hc hcm=> ?_;(try dsimp only at hc);cbv)|(refine AllS.mk fun r hr=> ?_;(try simp only[Dat.ok,Dat.dec,Leaf.ok,Leaf.val,Z0,Z1,Z2,Z3,Z4,Z5,Z6,Z7,Z8,Z9,Z10,Z11,Z12,Z13,Z14,qA]at hr);cbv)
     ·cbv
      repeat' first|(refine Stp.mk ?_;cbv)|(refine Gen.mk fun r hr=> ?_;(try simp only[Dat.ok,Dat.dec,Leaf.ok,Leaf.val,Z0,Z1,Z2,Z3,Z4,Z5,Z6,Z7,Z8,Z9,Z10,Z11,Z12,Z13,Z14,qA,qB]at hr);cbv)|exact trivial|rfl|refine Both.mk ?_ ?_|(refine Imp.mk fun h=> ?_;(try dsimp only at h);(try simp only[nc,Int.toNat_natCast,ne_eq,zz]at h);(try simp only[nc]at h))|refine Ob.mk ?_ ?_|refine Chk.mk (by kernel_rfl) ?_|refine Eq'.mk ?_|(refine AllN.mk fun i hi=> ?_;cbv)|(refine AllC.mk fun c hc hcm=> ?_;(try dsimp only at hc);cbv)|(refine AllS.mk fun r hr=> ?_;(try simp only[Dat.ok,Dat.dec,Leaf.ok,Leaf.val,Z0,Z1,Z2,Z3,Z4,Z5,Z6,Z7,Z8,Z9,Z10,Z11,Z12,Z13,Z14,qA]at hr);cbv))
   |fail)
theorem qHc:qBf Tryz.prog 31 (qM qEh):=qS fun A p r h hp0=>by
 unfold qEh at h
 split at h
 ·rename_i v
  cases h
  obtain⟨g0,hp⟩:=hp0
  exact⟨rfl,qO.pre (A':=[.agg (Dat.enc fun _=>(Dat.dec v:Vm))]) (qMV (Dat.dec v) hp) (.mk (Dat.hle _ g0) (trivial))⟩
 ·cases h
end Go.Proofs.YtiaiifcgbjlfoaaGreatDoor
