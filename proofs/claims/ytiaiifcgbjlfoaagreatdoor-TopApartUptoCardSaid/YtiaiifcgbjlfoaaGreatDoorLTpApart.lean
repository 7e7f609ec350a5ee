/- A part that nobody feeds does in a module what its program does alone; for all inputs. -/
import Derived.Test.YtiaiifcgbjlfoaaGreatDoorLivA
import Derived.Test.YtiaiifcgbjlfoaaGreatDoorFeedO
import Derived.Test.YtiaiifcgbjlfoaaGreatDoorTopQ
import Derived.Test.YtiaiifcgbjlfoaaGreatDoorTimes
import Derived.Test.YtiaiifcgbjlfoaaGreatDoorSamV
import Derived.Test.YtiaiifcgbjlfoaaGreatDoorCards
import Derived.Test.YtiaiifcgbjlfoaaGreatDoorTie
import Derived.Deep.DeepHandedRow
import Derived.Stop.LaidErr
import Derived.Shelf.Vars
set_option linter.all false
namespace Go.Proofs.YtiaiifcgbjlfoaaGreatDoor
open Go Go.Abs
attribute [local irreducible] qEm qBM qAw
def qRB (r:Th (Set×Int)):AV:= .tup [.agg [.i .i64 fun _=>(r ()).1.size,Leaf.av fun _=>(r ()).1.spans],.i .i64 fun _=>(r ()).2]
def qIw:Det:=fun A=>match A with
 |[.agg t,.i .i64 n]=>some (fun _=>Dat.ok Table t∧qPF (Dat.dec t) (n ()),qRB fun _=>qAw (Dat.dec t) (n ()))
 |_=>none
theorem qNb:∀A p r,qIw A=some (p,r)→p ()→qJV Tryz.prog 8 A r:=fun A p r h hp0=>by
 unfold qIw at h
 split at h
 ·rename_i t n
  cases h
  obtain⟨g0,hp⟩:=hp0
  exact qO.fresh (A:=[.agg t,.i .i64 n]) (qO.pre (A':=[.agg (Dat.enc fun _=>(Dat.dec t:Table)),.i .i64 fun _=>n ()]) (qRy (Dat.dec t) (n ()) hp) (.mk (Dat.hle _ g0) (.mk (.mk (.mk rfl) (.mk rfl)) (trivial)))) rfl (q:=_) (d:=_) rfl (by intro p hp;repeat (first|(cases hp;done)|(rcases List.mem_cons.1 hp with rfl|hp;· exact Nat.le_refl _))) rfl rfl ⟨.mk fun _ _=>rfl,trivial⟩
 ·cases h
noncomputable def cTA:FuncId→Con:=fun f=>match f with
 |5=>qH (qM qK2)
 |6=>qH (qM qPv)
 |7=>qH (qM qPs)
 |8=>qDE qIw
 |9=>qH (qM qKP)
 |10=>qDE qHg
 |11=>qH (qM qIv)
 |12=>qH (qM qGv)
 |_=>fun _ _ _=>Bad 1001
theorem qXt:qY Tryz.prog cTA:=fun f A H K h=>by
 unfold cTA at h
 split at h
 ·exact⟨⟨Tryz.f5,Tryz.func5,by kernel_rfl,by kernel_rfl⟩,qE qRp h⟩
 ·exact⟨⟨Tryz.f6,Tryz.func6,by kernel_rfl,by kernel_rfl⟩,qE qUg h⟩
 ·exact⟨⟨Tryz.f7,Tryz.func7,by kernel_rfl,by kernel_rfl⟩,qE qUa h⟩
 ·exact⟨⟨Tryz.f8,Tryz.func8,by kernel_rfl,by kernel_rfl⟩,qAY qNb h⟩
 ·exact⟨⟨Tryz.f9,Tryz.func9,by kernel_rfl,by kernel_rfl⟩,qE qQR h⟩
 ·exact⟨⟨Tryz.f10,Tryz.func10,by kernel_rfl,by kernel_rfl⟩,qAY qFy h⟩
 ·exact⟨⟨Tryz.f11,Tryz.func11,by kernel_rfl,by kernel_rfl⟩,qE qMm h⟩
 ·exact⟨⟨Tryz.f12,Tryz.func12,by kernel_rfl,by kernel_rfl⟩,qE qIt h⟩
 ·cases h
def dTA:FuncId→Option Dt:=fun f=>match f with
 |11=>some (.c qIv)
 |12=>some (.c qGv)
 |_=>none
theorem qXu:qBk Tryz.prog dTA:=fun f d h=>by
 unfold dTA at h
 split at h
 ·cases h;exact⟨⟨Tryz.f11,Tryz.func11,by kernel_rfl,by kernel_rfl⟩,qMm⟩
 ·cases h;exact⟨⟨Tryz.f12,Tryz.func12,by kernel_rfl,by kernel_rfl⟩,qIt⟩
 ·cases h
structure TaX (n:Nat) where
 k:Nat
 hk:k≤n
structure TbX (l:List Wire) (i:Int) where
 k:Nat
 hk:k≤l.length
 hw:∀j,j<k→¬(l.getD j Dat.d0).to=i
set_option maxRecDepth 100000 in
set_option maxHeartbeats 4000000 in
theorem qNc (m:Module) (part:Int) (n:Int) (fit_m:Siz.fit m) (fit_part:Siz.fit part) (fit_n:Siz.fit n) (hB:Siz.bulk m+Siz.bulk part+Siz.bulk n≤1048576):qO Tryz.prog 3 [.agg (Dat.enc fun _=>m),.i .i64 fun _=>part,.i .i64 fun _=>n] [] (qAf (.bc true) []):=by
 refine qAe qI zl qXt (qAb qI zl qXu mixed) (keep:=[0,1,2,3,6,7,8,9,10,11,12,14,15,16,17,18,19,20,22,24,46,48,49,50,51,60,63,64,65,66,72,87,102]) Tryz.func3 rfl ?_
 have fin:= @qX6
 have finc:= @qX7
 have hpm:=qUh fit_m
 generalize qAf (.bc true) []=K at fin finc
 cbv
 repeat' first|(show Stp _;exfalso;first|omega|(exact h ‹_›)|(exact absurd ‹_› h)|(exact Bool.false_ne_true (h.symm.trans (show _=true by assumption))))|(refine Stp.mk ?_;cbv)|(refine Gen.mk fun r hr=> ?_;(try simp only[Dat.ok,Dat.dec,Leaf.ok,Leaf.val,Z0,Z1,Z2,Z3,Z4,Z5,Z6,Z7,Z8,Z9,Z10,Z11,Z12,Z13,Z14,qA,qB]at hr);cbv)|exact trivial|rfl|refine Both.mk ?_ ?_|(refine Imp.mk fun h=> ?_;(try dsimp only at h);(try simp only[nc,Int.toNat_natCast,ne_eq,zz]at h);(try simp only[nc]at h))|refine Ob.mk ?_ ?_|refine Chk.mk (by kernel_rfl) ?_|refine Eq'.mk ?_|(refine AllN.mk fun i hi=> ?_;cbv)|(refine AllC.mk fun c hc hcm=> ?_;(try dsimp only at hc);cbv)|(refine AllS.mk fun r hr=> ?_;(try simp only[Dat.ok,Dat.dec,Leaf.ok,Leaf.val,Z0,Z1,Z2,Z3,Z4,Z5,Z6,Z7,Z8,Z9,Z10,Z11,Z12,Z13,Z14,qA]at hr);cbv)
 all_goals ((try dsimp only at*);(try simp only[nc,Int.toNat_natCast,ne_eq,zz]at*);(try simp only[nc]at*))
 all_goals try simp only[Dat.dec,Leaf.val,Z0,Z1,Z2,Z3,Z4,Z5,Z6,Z7,Z8,Z9,Z10,Z11,Z12,Z13,Z14,qA]at*
 all_goals try first
  |exact finc
  |exact⟨Dat.hok fun _=>m,hpm⟩
 have F0:(qBM m part).2=0:=by assumption
 have R0:(qEm m n).2=0:=by assumption
 obtain⟨h1,h2,h3,-⟩:=qPw R0
 have M:=qAZ.1 h1
 have lw:=M.lw
 have lp:=M.lp
 have hB:=qNa F0
 have fl:=qPE F0
 have now:=M.now
 have hb:=of_decide_eq_true hB
 refine LoopVC.frame [6,11,12,50,51,60] (TaX (qBM m part).1.length) (fun x=>[(50,.i .i64 fun _=>x.k)]) (fun _=>[]) [] (fun x=>(qBM m part).1.length-x.k) ⟨0,Nat.zero_le _⟩ rfl (fun _=>rfl) ?_ ?_ fun⟨k,hk⟩=> ?_
 ·cbv
  repeat' first|(refine Stp.mk ?_;cbv)|(refine Gen.mk fun r hr=> ?_;(try simp only[Dat.ok,Dat.dec,Leaf.ok,Leaf.val,Z0,Z1,Z2,Z3,Z4,Z5,Z6,Z7,Z8,Z9,Z10,Z11,Z12,Z13,Z14,qA,qB]at hr);cbv)|exact trivial|rfl|refine Both.mk ?_ ?_|(refine Imp.mk fun h=> ?_;(try dsimp only at h);(try simp only[nc,Int.toNat_natCast,ne_eq,zz]at h);(try simp only[nc]at h))|refine Ob.mk ?_ ?_|refine Chk.mk (by kernel_rfl) ?_|refine Eq'.mk ?_|(refine AllN.mk fun i hi=> ?_;cbv)|(refine AllC.mk fun c hc hcm=> ?_;(try dsimp only at hc);cbv)|(refine AllS.mk fun r hr=> ?_;(try simp only[Dat.ok,Dat.dec,Leaf.ok,Leaf.val,Z0,Z1,Z2,Z3,Z4,Z5,Z6,Z7,Z8,Z9,Z10,Z11,Z12,Z13,Z14,qA]at hr);cbv)
  all_goals fail
 ·cbv
  repeat' first|(refine Stp.mk ?_;cbv)|(refine Gen.mk fun r hr=> ?_;(try simp only[Dat.ok,Dat.dec,Leaf.ok,Leaf.val,Z0,Z1,Z2,Z3,Z4,Z5,Z6,Z7,Z8,Z9,Z10,Z11,Z12,Z13,Z14,qA,qB]at hr);cbv)|exact trivial|rfl|refine Both.mk ?_ ?_|(refine Imp.mk fun h=> ?_;(try dsimp only at h);(try simp only[nc,Int.toNat_natCast,ne_eq,zz]at h);(try simp only[nc]at h))|refine Ob.mk ?_ ?_|refine Chk.mk (by kernel_rfl) ?_|refine Eq'.mk ?_|(refine AllN.mk fun i hi=> ?_;cbv)|(refine AllC.mk fun c hc hcm=> ?_;(try dsimp only at hc);cbv)|(refine AllS.mk fun r hr=> ?_;(try simp only[Dat.ok,Dat.dec,Leaf.ok,Leaf.val,Z0,Z1,Z2,Z3,Z4,Z5,Z6,Z7,Z8,Z9,Z10,Z11,Z12,Z13,Z14,qA]at hr);cbv)
  all_goals fail
 have hk9:k≤(qBM m part).1.length:=hk
 cbv
 repeat' first|(show Stp _;exfalso;first|omega|(exact h ‹_›)|(exact absurd ‹_› h)|(exact Bool.false_ne_true (h.symm.trans (show _=true by assumption))))|(refine Stp.mk ?_;cbv)|(refine Gen.mk fun r hr=> ?_;(try simp only[Dat.ok,Dat.dec,Leaf.ok,Leaf.val,Z0,Z1,Z2,Z3,Z4,Z5,Z6,Z7,Z8,Z9,Z10,Z11,Z12,Z13,Z14,qA,qB]at hr);cbv)|exact trivial|rfl|refine Both.mk ?_ ?_|(refine Imp.mk fun h=> ?_;(try dsimp only at h);(try simp only[nc,Int.toNat_natCast,ne_eq,zz]at h);(try simp only[nc]at h))|refine Ob.mk ?_ ?_|refine Chk.mk (by kernel_rfl) ?_|refine Eq'.mk ?_|(refine AllN.mk fun i hi=> ?_;cbv)|(refine AllC.mk fun c hc hcm=> ?_;(try dsimp only at hc);cbv)|(refine AllS.mk fun r hr=> ?_;(try simp only[Dat.ok,Dat.dec,Leaf.ok,Leaf.val,Z0,Z1,Z2,Z3,Z4,Z5,Z6,Z7,Z8,Z9,Z10,Z11,Z12,Z13,Z14,qA]at hr);cbv)
 all_goals ((try dsimp only at*);(try simp only[nc,Int.toNat_natCast,ne_eq,zz]at*);(try simp only[nc]at*))
 all_goals try rw[nc]at*
 all_goals try simp only[Dat.dec,Leaf.val,Z0,Z1,Z2,Z3,Z4,Z5,Z6,Z7,Z8,Z9,Z10,Z11,Z12,Z13,Z14,qA]at*
 all_goals try first
  |exact⟨by omega,by omega⟩
  |(unfold InR;omega)
  |exact finc
  |(refine⟨⟨k+1,by omega⟩, ?_, ?_,rfl,by(try dsimp only);omega⟩
    ·cbv
     repeat' first|(refine Stp.mk ?_;cbv)|(refine Gen.mk fun r hr=> ?_;(try simp only[Dat.ok,Dat.dec,Leaf.ok,Leaf.val,Z0,Z1,Z2,Z3,Z4,Z5,Z6,Z7,Z8,Z9,Z10,Z11,Z12,Z13,Z14,qA,qB]at hr);cbv)|exact trivial|rfl|refine Both.mk ?_ ?_|(refine Imp.mk fun h=> ?_;(try dsimp only at h);(try simp only[nc,Int.toNat_natCast,ne_eq,zz]at h);(try simp only[nc]at h))|refine Ob.mk ?_ ?_|refine Chk.mk (by kernel_rfl) ?_|refine Eq'.mk ?_|(refine AllN.mk fun i hi=> ?_;cbv)|(refine AllC.mk fun c hc hcm=> ?_;(try dsimp only at hc);cbv)|(refine AllS.mk fun r hr=> ?_;(try simp only[Dat.ok,Dat.dec,Leaf.ok,Leaf.val,Z0,Z1,Z2,Z3,Z4,Z5,Z6,Z7,Z8,Z9,Z10,Z11,Z12,Z13,Z14,qA]at hr);cbv)
    ·cbv
     repeat' first|(refine Stp.mk ?_;cbv)|(refine Gen.mk fun r hr=> ?_;(try simp only[Dat.ok,Dat.dec,Leaf.ok,Leaf.val,Z0,Z1,Z2,Z3,Z4,Z5,Z6,Z7,Z8,Z9,Z10,Z11,Z12,Z13,Z14,qA,qB]at hr);cbv)|exact trivial|rfl|refine Both.mk ?_ ?_|(refine Imp.mk fun h=> ?_;(try dsimp only at h);(try simp only[nc,Int.toNat_natCast,ne_eq,zz]at h);(try simp only[nc]at h))|refine Ob.mk ?_ ?_|refine Chk.mk (by kernel_rfl) ?_|refine Eq'.mk ?_|(refine AllN.mk fun i hi=> ?_;cbv)|(refine AllC.mk fun c hc hcm=> ?_;(try dsimp only at hc);cbv)|(refine AllS.mk fun r hr=> ?_;(try simp only[Dat.ok,Dat.dec,Leaf.ok,Leaf.val,Z0,Z1,Z2,Z3,Z4,Z5,Z6,Z7,Z8,Z9,Z10,Z11,Z12,Z13,Z14,qA]at hr);cbv))
 refine LoopVC.frame [6,14,65,66,72] (TbX m.wires part) (fun x=>[(65,.i .i64 fun _=>x.k)]) (fun _=>[]) [] (fun x=>m.wires.length-x.k) ⟨0,Nat.zero_le _,fun j hj=>absurd hj (Nat.not_lt_zero _)⟩ rfl (fun _=>rfl) ?_ ?_ fun⟨k2,hk2,hw⟩=> ?_
 ·cbv
  repeat' first|(refine Stp.mk ?_;cbv)|(refine Gen.mk fun r hr=> ?_;(try simp only[Dat.ok,Dat.dec,Leaf.ok,Leaf.val,Z0,Z1,Z2,Z3,Z4,Z5,Z6,Z7,Z8,Z9,Z10,Z11,Z12,Z13,Z14,qA,qB]at hr);cbv)|exact trivial|rfl|refine Both.mk ?_ ?_|(refine Imp.mk fun h=> ?_;(try dsimp only at h);(try simp only[nc,Int.toNat_natCast,ne_eq,zz]at h);(try simp only[nc]at h))|refine Ob.mk ?_ ?_|refine Chk.mk (by kernel_rfl) ?_|refine Eq'.mk ?_|(refine AllN.mk fun i hi=> ?_;cbv)|(refine AllC.mk fun c hc hcm=> ?_;(try dsimp only at hc);cbv)|(refine AllS.mk fun r hr=> ?_;(try simp only[Dat.ok,Dat.dec,Leaf.ok,Leaf.val,Z0,Z1,Z2,Z3,Z4,Z5,Z6,Z7,Z8,Z9,Z10,Z11,Z12,Z13,Z14,qA]at hr);cbv)
  all_goals fail
 ·cbv
  repeat' first|(refine Stp.mk ?_;cbv)|(refine Gen.mk fun r hr=> ?_;(try simp only[Dat.ok,Dat.dec,Leaf.ok,Leaf.val,Z0,Z1,Z2,Z3,Z4,Z5,Z6,Z7,Z8,Z9,Z10,Z11,Z12,Z13,Z14,qA,qB]at hr);cbv)|exact trivial|rfl|refine Both.mk ?_ ?_|(refine Imp.mk fun h=> ?_;(try dsimp only at h);(try simp only[nc,Int.toNat_natCast,ne_eq,zz]at h);(try simp only[nc]at h))|refine Ob.mk ?_ ?_|refine Chk.mk (by kernel_rfl) ?_|refine Eq'.mk ?_|(refine AllN.mk fun i hi=> ?_;cbv)|(refine AllC.mk fun c hc hcm=> ?_;(try dsimp only at hc);cbv)|(refine AllS.mk fun r hr=> ?_;(try simp only[Dat.ok,Dat.dec,Leaf.ok,Leaf.val,Z0,Z1,Z2,Z3,Z4,Z5,Z6,Z7,Z8,Z9,Z10,Z11,Z12,Z13,Z14,qA]at hr);cbv)
  all_goals fail
 have hk8:k2≤m.wires.length:=hk2
 cbv
 repeat' first|(show Stp _;exfalso;first|omega|(exact h ‹_›)|(exact absurd ‹_› h)|(exact Bool.false_ne_true (h.symm.trans (show _=true by assumption))))|(refine Stp.mk ?_;cbv)|(refine Gen.mk fun r hr=> ?_;(try simp only[Dat.ok,Dat.dec,Leaf.ok,Leaf.val,Z0,Z1,Z2,Z3,Z4,Z5,Z6,Z7,Z8,Z9,Z10,Z11,Z12,Z13,Z14,qA,qB]at hr);cbv)|exact trivial|rfl|refine Both.mk ?_ ?_|(refine Imp.mk fun h=> ?_;(try dsimp only at h);(try simp only[nc,Int.toNat_natCast,ne_eq,zz]at h);(try simp only[nc]at h))|refine Ob.mk ?_ ?_|refine Chk.mk (by kernel_rfl) ?_|refine Eq'.mk ?_|(refine AllN.mk fun i hi=> ?_;cbv)|(refine AllC.mk fun c hc hcm=> ?_;(try dsimp only at hc);cbv)|(refine AllS.mk fun r hr=> ?_;(try simp only[Dat.ok,Dat.dec,Leaf.ok,Leaf.val,Z0,Z1,Z2,Z3,Z4,Z5,Z6,Z7,Z8,Z9,Z10,Z11,Z12,Z13,Z14,qA]at hr);cbv)
 all_goals ((try dsimp only at*);(try simp only[nc,Int.toNat_natCast,ne_eq,zz]at*);(try simp only[nc]at*))
 all_goals try rw[nc]at*
 all_goals try simp only[Dat.dec,Leaf.val,Z0,Z1,Z2,Z3,Z4,Z5,Z6,Z7,Z8,Z9,Z10,Z11,Z12,Z13,Z14,qA]at*
 all_goals try first
  |exact⟨by omega,by omega⟩
  |(unfold InR;omega)
  |exact finc
  |(refine⟨⟨k2+1,by omega,fun j hj=> ?_⟩, ?_, ?_,rfl,by(try dsimp only);omega⟩
    ·rcases Nat.lt_succ_iff_lt_or_eq.1 hj with q|q
     ·exact hw j q
     ·rw[q];assumption
    ·cbv
     repeat' first|(refine Stp.mk ?_;cbv)|(refine Gen.mk fun r hr=> ?_;(try simp only[Dat.ok,Dat.dec,Leaf.ok,Leaf.val,Z0,Z1,Z2,Z3,Z4,Z5,Z6,Z7,Z8,Z9,Z10,Z11,Z12,Z13,Z14,qA,qB]at hr);cbv)|exact trivial|rfl|refine Both.mk ?_ ?_|(refine Imp.mk fun h=> ?_;(try dsimp only at h);(try simp only[nc,Int.toNat_natCast,ne_eq,zz]at h);(try simp only[nc]at h))|refine Ob.mk ?_ ?_|refine Chk.mk (by kernel_rfl) ?_|refine Eq'.mk ?_|(refine AllN.mk fun i hi=> ?_;cbv)|(refine AllC.mk fun c hc hcm=> ?_;(try dsimp only at hc);cbv)|(refine AllS.mk fun r hr=> ?_;(try simp only[Dat.ok,Dat.dec,Leaf.ok,Leaf.val,Z0,Z1,Z2,Z3,Z4,Z5,Z6,Z7,Z8,Z9,Z10,Z11,Z12,Z13,Z14,qA]at hr);cbv)
    ·cbv
     repeat' first|(refine Stp.mk ?_;cbv)|(refine Gen.mk fun r hr=> ?_;(try simp only[Dat.ok,Dat.dec,Leaf.ok,Leaf.val,Z0,Z1,Z2,Z3,Z4,Z5,Z6,Z7,Z8,Z9,Z10,Z11,Z12,Z13,Z14,qA,qB]at hr);cbv)|exact trivial|rfl|refine Both.mk ?_ ?_|(refine Imp.mk fun h=> ?_;(try dsimp only at h);(try simp only[nc,Int.toNat_natCast,ne_eq,zz]at h);(try simp only[nc]at h))|refine Ob.mk ?_ ?_|refine Chk.mk (by kernel_rfl) ?_|refine Eq'.mk ?_|(refine AllN.mk fun i hi=> ?_;cbv)|(refine AllC.mk fun c hc hcm=> ?_;(try dsimp only at hc);cbv)|(refine AllS.mk fun r hr=> ?_;(try simp only[Dat.ok,Dat.dec,Leaf.ok,Leaf.val,Z0,Z1,Z2,Z3,Z4,Z5,Z6,Z7,Z8,Z9,Z10,Z11,Z12,Z13,Z14,qA]at hr);cbv))
 all_goals (
  have hW:∀w∈m.wires,¬w.to=part:=fun w hw'=>by
   obtain⟨j,hj,e⟩:=List.getElem_of_mem hw'
   have:=hw j (by omega)
   rw[List.getD_eq_getElem?_getD,List.getElem?_eq_getElem hj]at this
   rw[←e];exact this)
 all_goals obtain⟨t0,P,hq,pl,n0,n1,now0,cl⟩:=qPD hB R0 hW
 all_goals have ho:ownB part=true:=decide_eq_true (by omega)
 all_goals have tl:=(qFC (qBA.1 M.t) ho).rt.len
 all_goals have P3:=qXh P
 all_goals have P4:=P.l
 all_goals try first
  |exact⟨⟨trivial,rfl,fun i _=>Dat.hok _⟩,hpm.1⟩
  |(refine fin ?_;show((qAw m.table part).2==0)=true;rw[t0];rfl)
  |exact⟨⟨trivial,rfl,fun i _=>Dat.hok _⟩,show _≤_ by omega⟩
 all_goals obtain⟨c,c5,cc,ce,cp⟩:=cl (by assumption)
 all_goals clear cl
 all_goals generalize qDz (qAw m.table part).1 m.now (m.now+n)=X at*
 all_goals subst cc
 all_goals try dsimp only at*
 all_goals have rb:= @qEX (m.parts.getD part.toNat Dat.d0).code (m.parts.getD part.toNat Dat.d0).vm (m.parts.getD part.toNat Dat.d0).box (c:Int)
 all_goals have vd:=qN5 (m.parts.getD part.toNat Dat.d0).box 1 (qAH (m.parts.getD part.toNat Dat.d0).code (m.parts.getD part.toNat Dat.d0).vm (m.parts.getD part.toNat Dat.d0).box (c:Int)).2.2.1 rb.1 rb.2.1
 all_goals have cv:=congrArg Part.vm cp
 all_goals have cb:=congrArg Part.box cp
 all_goals dsimp only at cv cb
 all_goals first
  |(exfalso;exact absurd rfl (by assumption))
  |exact⟨⟨rfl,fun i _=>Dat.hok _⟩,⟨trivial,⟨rfl,fun i _=>Dat.hok _⟩,trivial,trivial⟩,⟨rfl,fun i _=>Dat.hok _⟩,P3.1,P3.2.1,P3.2.2⟩
  |(rw[pl];exact hb)
  |exact⟨⟨trivial,⟨rfl,fun i _=>Dat.hok _⟩,trivial,trivial⟩,⟨trivial,⟨rfl,fun i _=>Dat.hok _⟩,trivial,trivial⟩,show _≤_ by rw[cv];omega⟩
  |exact⟨rb.1,rb.2.1,Int.le_refl _⟩
  |exact⟨⟨rfl,fun i _=>Dat.hok _⟩,⟨rfl,fun i _=>Dat.hok _⟩,show _≤_ by rw[cb,List.length_drop];omega⟩
  |(exfalso;exact absurd ce (by assumption))
  |(exfalso
    rename (qIu _ _=false)=>q
    rw[cv]at q
    unfold qIu at q
    exact absurd rfl (of_decide_eq_false q))
  |(refine fin ?_
    show qDO _ _=true
    rw[cb,vd]
    unfold qDO
    simp
    done)
  |fail
section
open Go.ChangeShapes Go.WideShapes Go.ChangeAt Go.RowKit Go.Joins Go.Deep
set_option linter.unusedVariables false
theorem qK7:ownKnob Tryz.prog.godebug=none:=by kernel_rfl
theorem qJS {W:World}(h:laidMetH Tryz.prog Rows.topApartUptoRow.laid W):Lib.TabIs Tryz.prog W "internal/strconv.uint64pow10" .u64 Lib.pow10Tab:=by
 have h2:laidMet Tryz.prog (Rows.topApartUptoRow.laid.drop 2) W:=laidMet.tail (laidMet.tail (h))
 have hT:(Tryz.prog.globals[1]?).map (·.type)=some 268:=by kernel_rfl
 have hz:Lib.pow10Tab=[1,10,100,1000,10000,100000,1000000,10000000,100000000,1000000000,10000000000,100000000000,1000000000000,10000000000000,100000000000000,1000000000000000,10000000000000000,100000000000000000,1000000000000000000,10000000000000000000]:=by decide+kernel
 rw[hz]
 exact Lib.tabIs_of_head (n:=20) (e:=214) (by kernel_rfl) hT (by kernel_rfl) (by kernel_rfl) (by kernel_rfl) (by kernel_rfl) h2
theorem qK8 {W:World}(h:laidMetH Tryz.prog Rows.topApartUptoRow.laid W) (hsh:W.ShapedOpen Tryz.prog):Dom W fun _=>False:=by
 have ht:=qJS h
 have vlt:∀{n:String}{g:Nat}{cs:Array Value},Tryz.prog.globalNamed n=some g→W.var? Tryz.prog n=some cs→g<W.heap.size:=fun{n g cs} hg hv=>by
  unfold World.var? at hv
  rw[hg]at hv
  rcases Nat.lt_or_ge g W.heap.size with q|q
  ·exact q
  ·simp[Array.getElem?_eq_none q]at hv
 have clt:∀{a:Addr}{v:Value},W.cell? a=some v→a.block<W.heap.size:=fun{a v} hv=>by
  rcases Nat.lt_or_ge a.block W.heap.size with q|q
  ·exact q
  ·simp[World.cell?,Array.getElem?_eq_none q]at hv
 have h0:=cell_of_shapedOpen_int (P:=Tryz.prog) (g:=0) (t:=3) (zero:= #[.int .i64 0]) (k:= .i64) hsh (of_decide_eq_true (by kernel_rfl)) (by kernel_rfl) rfl (by kernel_rfl) (by kernel_rfl) (by kernel_rfl)
 have g1:laidMet Tryz.prog (Rows.topApartUptoRow.laid.drop 5) W:=laidMet.tail (laidMet.tail (laidMet.tail (laidMet.tail (laidMet.tail (h)))))
 have h1:∃t p,W.var? Tryz.prog "strconv.ErrSyntax" =some #[.iface t p]:=by
  have st: "*" ++ "errors.errorString" = "*errors.errorString" :=by decide
  have hr:∀u,Tryz.prog.typeName? 3 u=some "*errors.errorString" →u=293:=fun u hu=>typeName_ptr_named (nm:= "errors.errorString") (by rw[st];kernel_rfl) (by kernel_rfl) (by decide) u (by rw[st];exact hu)
  obtain⟨a,_,h1,_⟩:=laid_sentinel (g:=4) (ti:=208) (tp:=293) (te:=295) (ts:=9) (ms:= #[("Error",299)]) g1 (by kernel_rfl) (by kernel_rfl) Tryz.underlying208 hr Tryz.underlying293 Tryz.underlying295 rfl rfl (by kernel_rfl) (by kernel_rfl) (by kernel_rfl)
  exact⟨_,_,h1⟩
 have g2:laidMet Tryz.prog (Rows.topApartUptoRow.laid.drop 4) W:=laidMet.tail (laidMet.tail (laidMet.tail (laidMet.tail (h))))
 have h2:∃t p,W.var? Tryz.prog "strconv.ErrRange" =some #[.iface t p]:=by
  have st: "*" ++ "errors.errorString" = "*errors.errorString" :=by decide
  have hr:∀u,Tryz.prog.typeName? 3 u=some "*errors.errorString" →u=293:=fun u hu=>typeName_ptr_named (nm:= "errors.errorString") (by rw[st];kernel_rfl) (by kernel_rfl) (by decide) u (by rw[st];exact hu)
  obtain⟨a,_,h1,_⟩:=laid_sentinel (g:=5) (ti:=208) (tp:=293) (te:=295) (ts:=9) (ms:= #[("Error",299)]) g2 (by kernel_rfl) (by kernel_rfl) Tryz.underlying208 hr Tryz.underlying293 Tryz.underlying295 rfl rfl (by kernel_rfl) (by kernel_rfl) (by kernel_rfl)
  exact⟨_,_,h1⟩
 have l3:1<W.heap.size:=by
  have hv:=ht
  unfold Lib.TabIs World.var? at hv
  rw[show Tryz.prog.globalNamed "internal/strconv.uint64pow10" =some 1 by kernel_rfl]at hv
  rcases Nat.lt_or_ge 1 W.heap.size with q|q
  ·exact q
  ·simp[Array.getElem?_eq_none q]at hv
 have m0:0<W.heap.size:=clt h0.choose_spec
 have m1:4<W.heap.size:=(by obtain⟨t,p,e⟩:=h1;exact vlt (g:=4) (by kernel_rfl) e)
 have m2:5<W.heap.size:=(by obtain⟨t,p,e⟩:=h2;exact vlt (g:=5) (by kernel_rfl) e)
 refine⟨fun _ h=>h.elim,fun g hg=>⟨?_,fun h=>h⟩,ht,h0,h1,h2⟩
 simp[Kd.tl,kdI]at hg
 rcases hg with rfl|rfl|rfl|rfl<;>assumption
def qAV (cs:Array Value):Obj→Obj
 | .cells _ t frozen=> .cells cs t frozen
 |o=>o
noncomputable def qGw:Nat:=(World.holding Tryz.prog default ⟨#[], #[],[]⟩).heap.size
noncomputable def tpapart_laidWorld (os:Os):World:=
 {World.holding Tryz.prog os ⟨#[.cells #[.string ⟨#[118,97,108,117,101,32,111,117,116,32,111,102,32,114,97,110,103,101]⟩] 295,.cells #[.string ⟨#[105,110,118,97,108,105,100,32,115,121,110,116,97,120]⟩] 295], #[],[]⟩with heap:=((((((((World.holding Tryz.prog os ⟨#[.cells #[.string ⟨#[118,97,108,117,101,32,111,117,116,32,111,102,32,114,97,110,103,101]⟩] 295,.cells #[.string ⟨#[105,110,118,97,108,105,100,32,115,121,110,116,97,120]⟩] 295], #[],[]⟩).heap).modify 6 (qAV #[.int .u8 0,.int .u8 1,.int .u8 28,.int .u8 2,.int .u8 29,.int .u8 14,.int .u8 24,.int .u8 3,.int .u8 30,.int .u8 22,.int .u8 20,.int .u8 15,.int .u8 25,.int .u8 17,.int .u8 4,.int .u8 8,.int .u8 31,.int .u8 27,.int .u8 13,.int .u8 23,.int .u8 21,.int .u8 19,.int .u8 16,.int .u8 7,.int .u8 26,.int .u8 12,.int .u8 18,.int .u8 6,.int .u8 11,.int .u8 5,.int .u8 10,.int .u8 9])).modify 7 (qAV #[.int .u8 0,.int .u8 1,.int .u8 56,.int .u8 2,.int .u8 57,.int .u8 49,.int .u8 28,.int .u8 3,.int .u8 61,.int .u8 58,.int .u8 42,.int .u8 50,.int .u8 38,.int .u8 29,.int .u8 17,.int .u8 4,.int .u8 62,.int .u8 47,.int .u8 59,.int .u8 36,.int .u8 45,.int .u8 43,.int .u8 51,.int .u8 22,.int .u8 53,.int .u8 39,.int .u8 33,.int .u8 30,.int .u8 24,.int .u8 18,.int .u8 12,.int .u8 5,.int .u8 63,.int .u8 55,.int .u8 48,.int .u8 27,.int .u8 60,.int .u8 41,.int .u8 37,.int .u8 16,.int .u8 46,.int .u8 35,.int .u8 44,.int .u8 21,.int .u8 52,.int .u8 32,.int .u8 23,.int .u8 11,.int .u8 54,.int .u8 26,.int .u8 40,.int .u8 15,.int .u8 34,.int .u8 20,.int .u8 31,.int .u8 10,.int .u8 25,.int .u8 14,.int .u8 19,.int .u8 9,.int .u8 13,.int .u8 8,.int .u8 7,.int .u8 6])).modify 1 (qAV #[.int .u64 1,.int .u64 10,.int .u64 100,.int .u64 1000,.int .u64 10000,.int .u64 100000,.int .u64 1000000,.int .u64 10000000,.int .u64 100000000,.int .u64 1000000000,.int .u64 10000000000,.int .u64 100000000000,.int .u64 1000000000000,.int .u64 10000000000000,.int .u64 100000000000000,.int .u64 1000000000000000,.int .u64 10000000000000000,.int .u64 100000000000000000,.int .u64 1000000000000000000,.int .u64 10000000000000000000])).modify 3 (qAV #[.int .u8 128,.int .u8 191,.int .u8 160,.int .u8 191,.int .u8 128,.int .u8 159,.int .u8 144,.int .u8 191,.int .u8 128,.int .u8 143,.int .u8 0,.int .u8 0,.int .u8 0,.int .u8 0,.int .u8 0,.int .u8 0,.int .u8 0,.int .u8 0,.int .u8 0,.int .u8 0,.int .u8 0,.int .u8 0,.int .u8 0,.int .u8 0,.int .u8 0,.int .u8 0,.int .u8 0,.int .u8 0,.int .u8 0,.int .u8 0,.int .u8 0,.int .u8 0])).modify 5 (qAV #[.iface 293 (.pointer (some ⟨qGw+0,0,none⟩))])).modify 4 (qAV #[.iface 293 (.pointer (some ⟨qGw+1,0,none⟩))])).modify 2 (qAV ((Go.Pinned.utf8FirstZ.map fun n:Nat=>Value.int .u8 (n:Int)).toArray))}
theorem tpapart_laid_met (os:Os):laidMet Tryz.prog Rows.topApartUptoRow.laid ((tpapart_laidWorld os).forCall (fun _ _=>0) ⟨#[], #[.agg #[.int .i64 0,.slice none 0 0,.slice none 0 0,.slice none 0 0,.int .i64 0,.int .i64 0],.int .i64 0,.int .i64 0],[]⟩).memory:=
 laidMet_of_run' 8 (by kernel_rfl) (by kernel_rfl)
theorem qIx (os:Os) {H:Type}(enc:TypeId×Value→H):∃places,DataW.whole enc Tryz.prog ((tpapart_laidWorld os).forCall (fun _ _=>0) ⟨#[], #[.agg #[.int .i64 0,.slice none 0 0,.slice none 0 0,.slice none 0 0,.int .i64 0,.int .i64 0],.int .i64 0,.int .i64 0],[]⟩).memory Tryz.f3.params.toList Rows.topApartSpec.vars false (#[.agg #[.int .i64 0,.slice none 0 0,.slice none 0 0,.slice none 0 0,.int .i64 0,.int .i64 0],.int .i64 0,.int .i64 0]:Array Value).toList 8=some ([.agg [.agg [.lit (.int .i64 0),.nil],.nil,.nil,.lit (.int .i64 0),.lit (.int .i64 0)],.lit (.int .i64 0),.lit (.int .i64 0)],[],places):=
 ⟨[],by kernel_rfl⟩
theorem tpapart_laidOut:laidOutB Tryz.prog=true:=by kernel_rfl
theorem qGD {ts:Array TypeId}(h:ts.toList.all (fun t=>Tryz.prog.readableRec t&&decide (t<Tryz.prog.types.size))=true):∀t∈ts.toList,Tryz.prog.readableRec t=true∧t<Tryz.prog.types.size:=fun t ht=>by
 have:=List.all_eq_true.1 h t ht
 simpa using this
mutual
theorem qDv {H:Type}:∀d:DataW H,Rows.uptoBulk d=qBn d
 | .lit l=>by cases l<;>simp[Rows.uptoBulk,qBn]
 | .nil=>by simp[Rows.uptoBulk,qBn]
 | .ptr d=>by simp[Rows.uptoBulk,qBn,qDv d]
 | .slice a b=>by simp[Rows.uptoBulk,qBn,qCx a,qCx b]
 | .agg a=>by simp[Rows.uptoBulk,qBn,qCx a]
 | .iface _ d=>by simp[Rows.uptoBulk,qBn,qDv d]
 | .map e=>by simp[Rows.uptoBulk,qBn,qHn e]
 | .held _=>by simp[Rows.uptoBulk,qBn]
theorem qCx {H:Type}:∀d:List (DataW H),Rows.uptoBulkAll d=qBO d
 |[]=>by simp[Rows.uptoBulkAll,qBO]
 |d::r=>by simp[Rows.uptoBulkAll,qBO,qDv d,qCx r]
theorem qHn {H:Type}:∀d:List (Lit×DataW H),Rows.uptoBulkEntries d=qN1 d
 |[]=>by simp[Rows.uptoBulkEntries,qN1]
 |d::r=>by simp[Rows.uptoBulkEntries,qN1,qNd d,qHn r]
theorem qNd {H:Type}:∀d:Lit×DataW H,Rows.uptoBulkEntry d=qST d
 |(l,d)=>by cases l<;>simp[Rows.uptoBulkEntry,qST,qDv d]
end
set_option maxRecDepth 100000 in
theorem qGE (os:Os) (started:os.Started) (H:Type) (enc:TypeId×Value→H) (F:Stop.Interp):
  ReturnsInHanded {} Tryz.checked os 3 .any ((Rows.OpenSpec.upto Rows.topApartSpec).preRow enc Tryz.prog Tryz.f3 Rows.topApartUptoRow.domain false Rows.topApartUptoRow.laid) (((Rows.OpenSpec.upto Rows.topApartSpec).at F).post enc Tryz.prog Tryz.f3 false true false false):=by
 obtain⟨places,hx⟩:=qIx os enc
 refine returnsInHanded_of_row (C:=Tryz.checked) (s:=Rows.OpenSpec.upto Rows.topApartSpec) qK7 started (by kernel_rfl) Tryz.func3
  (witness_row_at (enc:=enc) (C:=Tryz.checked) false (tpapart_laidWorld os) #[.agg #[.int .i64 0,.slice none 0 0,.slice none 0 0,.slice none 0 0,.int .i64 0,.int .i64 0],.int .i64 0,.int .i64 0] rfl (by kernel_rfl) (by kernel_rfl) (by kernel_rfl)
    (OpenSpec.preRow_of_cond 8 hx (by kernel_rfl) (fun k hk=>by cases hk;kernel_rfl) (by kernel_rfl) (tpapart_laid_met os))) ?_
 intro W base args ds gs before hval0 hW _ hk0 _ hL hsh9 _
 have hk:=hk0 _ rfl
 show Calls Tryz.prog 3 args W fun e W'=>∃v,e= .returned v∧Rows.topApartSpec.post enc Tryz.prog Tryz.f3 false true false false W args v W'
 have hval:∀(j:Nat) t v,Tryz.f3.params[j]? =some t→args[j]? =some v→Value.okWide Tryz.prog W .any base t v:=hval0
 have hW':=hW
 have hlt:=hW.lt
 obtain⟨p,q,hA0,hV,rfl,hfz,hnd⟩:=hW
 have hA:DataW.TrodAll enc Tryz.prog W 0 (fun _=>true) true Tryz.f3.params.toList args.toList ds p:=hA0
 have hA1:=hA
 rw[Tryz.params3]at hA hval
 obtain⟨v0,vs0,d0,ds0,p0,q0,hargs,rfl,rfl,h0,r0⟩:=trodAll_cons hA
 obtain⟨v1,vs1,d1,ds1,p1,q1,rfl,rfl,rfl,h1,r1⟩:=trodAll_cons r0
 obtain⟨v2,vs2,d2,ds2,p2,q2,rfl,rfl,rfl,h2,r2⟩:=trodAll_cons r1
 obtain⟨rfl,rfl,rfl⟩:=trodAll_nil r2
 obtain rfl:args= #[v0,v1,v2]:=by cases args;simp_all
 obtain⟨rfl,rfl⟩:=trodVars_none hV
 obtain⟨cs0,rfl,_⟩:=okWide_struct Tryz.underlying28 (hval 0 28 v0 rfl rfl)
 obtain⟨y0,u0,b0,e0⟩:=qSU (α:=Module) qMN h0
 obtain⟨z1,rfl⟩:=okWide_int Tryz.underlying3 (hval 1 3 v1 rfl rfl)
 obtain⟨y1,u1,b1,e1⟩:=qLA (α:=Int) (qAS Tryz.underlying3) rfl h1
 obtain⟨z2,rfl⟩:=okWide_int Tryz.underlying3 (hval 2 3 v2 rfl rfl)
 obtain⟨y2,u2,b2,e2⟩:=qLA (α:=Int) (qAS Tryz.underlying3) rfl h2
 have hB:Siz.bulk y0+Siz.bulk y1+Siz.bulk y2≤1048576:=by
  have h:=of_decide_eq_true hk
  rw[qCx]at h
  simp only[List.append_nil,qBO]at h
  omega
 have hR:=qGe (M:=fun _=>False) (β:=fun _=>none) (cp:=fun _=>0) (.c e0) (qGe (M:=fun _=>False) (β:=fun _=>none) (cp:=fun _=>0) (.c e1) (qGe (M:=fun _=>False) (β:=fun _=>none) (cp:=fun _=>0) (.c e2) (qQd)))
 refine(qMH (qNc y0 y1 y2 u0 u1 u2 hB) hR (qK8 hL hsh9)).mono fun e W' ⟨he,bel⟩=> ?_
 subst he
 exact⟨_,rfl,_,_,_,[],_,[],hW',trodAll_mk1 (shut_bool Tryz.underlying4 _),qD9 tpapart_laidOut bel (qGD (by kernel_rfl)) (fun x hx=>hlt x (List.mem_append_left _ hx)) hA1,rfl,bel.frame _,fun h=>by cases h⟩
theorem qJT:Rows.TopApartUptoSaid:=
 OpenClaim.holds_of_cond 3 Tryz.f3 rfl rfl rfl rfl rfl rfl rfl ⟨rfl,rfl,rfl,rfl,rfl⟩ rfl rfl rfl rfl rfl (by kernel_rfl) Tryz.func3 (by kernel_rfl)
  (of_decide_eq_true (by kernel_rfl)) (by unfold Func.isWrapper;first|(rw[if_pos (by decide+kernel)];kernel_rfl)|(rw[if_neg (by decide+kernel)];exact⟨rfl,rfl⟩))
  (fun os started H enc _ F=>by rw[OpenClaim.pre_eq_preRow];exact qGE os started H enc F)
theorem qIy (f:FuncId) (fn:Func) (hf:Tryz.pinned.checked.prog.funcNamed "dutyroster/dutytop.TopApart" =some f) (hfn:Tryz.pinned.checked.prog.funcs[f]? =some fn):
  true=Tryz.pinned.checked.prog.looks []∧∀(j:Nat) t,fn.params[j]? =some t→Tryz.pinned.checked.prog.wantsStandIn t=false:=by
 obtain rfl:f=3:=Option.some.inj ((show Tryz.prog.funcNamed "dutyroster/dutytop.TopApart" =some 3 by kernel_rfl).symm.trans hf) |>.symm
 obtain rfl:fn=Tryz.f3:=(Option.some.inj (Tryz.func3.symm.trans hfn)).symm
 refine⟨by kernel_rfl,fun j t ht=> ?_⟩
 rw[Tryz.params3]at ht
 have hm:=Array.mem_of_getElem? ht
 simp at hm
 rcases hm with rfl|rfl|rfl
 all_goals (show Tryz.prog.wantsStandIn _=false;kernel_rfl)
set_option maxRecDepth 100000 in
theorem TopApart_proved:Rows.TopApartUptoCardSaid:=
 Claim7.holds_tied_plain_at .later [] _ _ _ _ qJT (fun _ h=>by cases h) (by kernel_rfl) (fun _ h=>by cases h) topApartUpto_row_tie rfl ⟨rfl,rfl⟩ (by kernel_rfl) rfl qIy (by kernel_rfl)
end
end Go.Proofs.YtiaiifcgbjlfoaaGreatDoor
