/- slices.Delete of numbers of a box, that may be empty: walked. -/
import Derived.Test.YtiaiifcgbjlfoaaGreatDoorPartS
import Derived.Test.YtiaiifcgbjlfoaaGreatDoorPreL
import Derived.Test.YtiaiifcgbjlfoaaGreatDoorAbsG4
set_option linter.all false
namespace Go.Proofs.YtiaiifcgbjlfoaaGreatDoor
open Go Go.Abs
def qSq:FuncId→Option Dt:=fun f=>match f with
 |_=>none
theorem qPn:qBk Tryz.prog qSq:=fun f d h=>by
 unfold qSq at h
 split at h
 ·cases h
def qGr (l:List Int) (lo:Int) (up:Int):Prop:=0≤lo∧lo≤up∧up≤l.length∧0<l.length∧l.length≤4611686018427387903
def qGs (l:List Int) (lo:Int) (up:Int):List Int:=qLC l lo.toNat up.toNat
def qKX (l:List Int) (lo:Int) (up:Int):Nat:=(qLC l lo.toNat up.toNat).length
def qIk:OwnS Int:={pre:=fun r l=>match r with|[.i .i64 lo,.i .i64 up]=>qGr l (lo ()) (up ())|_=>False,fin:=fun r l=>match r with|[.i .i64 lo,.i .i64 up]=>qGs l (lo ()) (up ())|_=>l,res:=some (fun r l=>match r with|[.i .i64 lo,.i .i64 up]=>qKX l (lo ()) (up ())|_=>0),kl:=true,ne:=true}
set_option maxRecDepth 100000 in
set_option maxHeartbeats 4000000 in
theorem qRe (l:List Int) (lo:Int) (up:Int) (hp:qGr l lo up):qO Tryz.prog 57 [.nn 0 fun _=>l.length,.i .i64 fun _=>lo,.i .i64 fun _=>up] [qA2 3 fun _=>l] (qCL 1 (.own 0 fun _=>qKX l lo up) [qA2 3 fun _=>qGs l lo up] [0]):=by
 refine qAe qI zl qP (qAb qI zl qPn mixed) (keep:=[0,1,2,6,7,16]) Tryz.func57 rfl ?_
 obtain⟨p1,p2,p3,p4,p5⟩:0≤lo∧lo≤up∧up≤l.length∧0<l.length∧l.length≤4611686018427387903:=hp
 have hdl:(qLC l lo.toNat up.toNat).length=lo.toNat+(l.length-up.toNat):=qQi (by omega) (by omega)
 cbv
 repeat' first|(show Stp _;exfalso;first|omega|(exact h ‹_›)|(exact absurd ‹_› h)|(exact Bool.false_ne_true (h.symm.trans (show _=true by assumption))))|(refine Stp.mk ?_;cbv)|(refine Gen.mk fun r hr=> ?_;(try simp only[Dat.ok,Dat.dec,Leaf.ok,Leaf.val,Z0,Z1,Z2,Z3,Z4,Z5,Z6,Z7,Z8,Z9,Z10,Z11,Z12,Z13,Z14,qA,qB]at hr);cbv)|exact trivial|rfl|refine Both.mk ?_ ?_|(refine Imp.mk fun h=> ?_;(try dsimp only at h);(try simp only[nc,Int.toNat_natCast,ne_eq,zz]at h);(try simp only[nc]at h))|refine Ob.mk ?_ ?_|refine Chk.mk (by kernel_rfl) ?_|refine Eq'.mk ?_|(refine AllN.mk fun i hi=> ?_;cbv)|(refine AllC.mk fun c hc hcm=> ?_;(try dsimp only at hc);cbv)|(refine AllS.mk fun r hr=> ?_;(try simp only[Dat.ok,Dat.dec,Leaf.ok,Leaf.val,Z0,Z1,Z2,Z3,Z4,Z5,Z6,Z7,Z8,Z9,Z10,Z11,Z12,Z13,Z14,qA]at hr);cbv)
 all_goals ((try dsimp only at*);(try simp only[nc,Int.toNat_natCast,ne_eq,zz]at*);(try simp only[nc]at*))
 all_goals try rw[nc]at*
 all_goals first
  |omega
  |(unfold InR;omega)
  |(have e:qLC l lo.toNat up.toNat=l:=by
     have:lo=up:=by omega
     subst this;exact qN6 l _
    first
     |(show l.length=(qLC l lo.toNat up.toNat).length;rw[e])
     |(have e2:qGs l lo up=l:=e
       rw[e2]))
  |(show _=(qLC l lo.toNat up.toNat).length;rw[hdl];omega)
  |(have e3:qGs l lo up=qLC l lo.toNat up.toNat:=rfl
    have e4:((l.length:Int)-up).toNat=l.length-up.toNat:=by omega
    have e5:lo.toNat+((l.length:Int)-up).toNat=lo.toNat+(l.length-up.toNat):=by omega
    rw[e3,qQj (by omega) (by omega) (by omega)]
    try rw[e4]
    all_goals (cases decide (lo.toNat≤i∧i<lo.toNat+(l.length-up.toNat))<;>rfl))
  |fail
theorem qRf (rest:List AV) (d:List Int) (_:qIk.ne=true) (hp:qIk.pre rest d):0<d.length:=by
 have hp:(match (generalizing:=false) rest with|[.i .i64 lo,.i .i64 up]=>qGr d (lo ()) (up ())|_=>False):=hp
 split at hp
 ·unfold qGr at hp;omega
 ·cases hp
theorem qPo:qXI Tryz.prog 57 (.o (qG3 Int 3 qIk)):=qJq qRf (fun rest d _ hp=>by
 have hp:(match (generalizing:=false) rest with|[.i .i64 lo,.i .i64 up]=>qGr d (lo ()) (up ())|_=>False):=hp
 split at hp
 ·rename_i lo up _ _;exact qRe d (lo ()) (up ()) hp
 ·cases hp)
def qYz:FuncId→Option Dt:=fun f=>match f with
 |_=>none
theorem qT0:qBk Tryz.prog qYz:=fun f d h=>by
 unfold qYz at h
 split at h
 ·cases h
def qT1 (l:List Int) (lo:Int) (up:Int):Prop:=l.length=0∧lo=0∧up=0
def qT2 (l:List Int) (lo:Int) (up:Int):List Int:=l
def qT3 (l:List Int) (lo:Int) (up:Int):Nat:=l.length
def qWX:OwnS Int:={pre:=fun r l=>match r with|[.i .i64 lo,.i .i64 up]=>qT1 l (lo ()) (up ())|_=>False,fin:=fun r l=>match r with|[.i .i64 lo,.i .i64 up]=>qT2 l (lo ()) (up ())|_=>l,res:=some (fun r l=>match r with|[.i .i64 lo,.i .i64 up]=>qT3 l (lo ()) (up ())|_=>0),kl:=false}
set_option maxRecDepth 100000 in
set_option maxHeartbeats 4000000 in
theorem qWY (l:List Int) (lo:Int) (up:Int) (hp:qT1 l lo up):qO Tryz.prog 57 [.own 0 fun _=>l.length,.i .i64 fun _=>lo,.i .i64 fun _=>up] [qA2 3 fun _=>l] (qCL 1 (.own 0 fun _=>qT3 l lo up) [qA2 3 fun _=>qT2 l lo up] []):=by
 refine qAe qI zl qP (qAb qI zl qT0 mixed) (keep:=[0,1,2,6,7,16]) Tryz.func57 rfl ?_
 obtain⟨p1,p2,p3⟩:l.length=0∧lo=0∧up=0:=hp
 subst p2 p3
 cbv
 repeat' first|(show Stp _;exfalso;first|omega|(exact h ‹_›)|(exact absurd ‹_› h)|(exact Bool.false_ne_true (h.symm.trans (show _=true by assumption))))|(refine Stp.mk ?_;cbv)|(refine Gen.mk fun r hr=> ?_;(try simp only[Dat.ok,Dat.dec,Leaf.ok,Leaf.val,Z0,Z1,Z2,Z3,Z4,Z5,Z6,Z7,Z8,Z9,Z10,Z11,Z12,Z13,Z14,qA,qB]at hr);cbv)|exact trivial|rfl|refine Both.mk ?_ ?_|(refine Imp.mk fun h=> ?_;(try dsimp only at h);(try simp only[nc,Int.toNat_natCast,ne_eq,zz]at h);(try simp only[nc]at h))|refine Ob.mk ?_ ?_|refine Chk.mk (by kernel_rfl) ?_|refine Eq'.mk ?_|(refine AllN.mk fun i hi=> ?_;cbv)|(refine AllC.mk fun c hc hcm=> ?_;(try dsimp only at hc);cbv)|(refine AllS.mk fun r hr=> ?_;(try simp only[Dat.ok,Dat.dec,Leaf.ok,Leaf.val,Z0,Z1,Z2,Z3,Z4,Z5,Z6,Z7,Z8,Z9,Z10,Z11,Z12,Z13,Z14,qA]at hr);cbv)
 all_goals ((try dsimp only at*);(try simp only[nc,Int.toNat_natCast,ne_eq,zz]at*);(try simp only[nc]at*))
 all_goals try rw[nc]at*
 all_goals first
  |omega
  |exact absurd trivial (by assumption)
  |exact⟨by omega,by omega⟩
  |exact⟨by omega,by omega,by omega⟩
  |(exfalso;omega)
  |(exfalso;exact absurd rfl (by assumption))
  |rfl
  |(show l.length=0;exact p1)
  |fail
theorem qT4:qXI Tryz.prog 57 (.o (qG3 Int 3 qWX)):=qJq (fun _ _ h=>by cases h) (fun rest d _ hp=>by
 have hp:(match (generalizing:=false) rest with|[.i .i64 lo,.i .i64 up]=>qT1 d (lo ()) (up ())|_=>False):=hp
 split at hp
 ·rename_i lo up _ _;exact qWY d (lo ()) (up ()) hp
 ·cases hp)
end Go.Proofs.YtiaiifcgbjlfoaaGreatDoor
