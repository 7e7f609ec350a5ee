/- An instruction read from its words: walked. -/
import Derived.Test.YtiaiifcgbjlfoaaGreatDoorPgr2
set_option linter.all false
namespace Go.Proofs.YtiaiifcgbjlfoaaGreatDoor
open Go Go.Abs
def qTp (w:List ByteArray) (i:Nat):Int:=qKJ (qMR (w.getD i Dat.d0) rV)
def qR4 (s:shape) (w:List ByteArray):Nat:=if s.a=true∧1<w.length then 2 else 1
def qMT (s:shape) (k:Int) (w:List ByteArray):Ins:=
 ⟨k,if s.a=true∧1<w.length then qTp w 1 else 0,if¬s.b.n=0∧qR4 s w<w.length then qTp w (qR4 s w)else 0⟩
def qC4 (s:shape) (k:Int) (w:List ByteArray):Ins×Bool:=(qMT s k w,decide (qEe s (qMT s k w)=w))
theorem qLM (s:ByteArray): -9223372036854775808≤qKJ s∧qKJ s≤9223372036854775807:=by
 unfold qKJ
 split
 ·rename_i v h
  unfold Lib.parseIntB at h
  split at h
  ·cases h
  ·dsimp only at h
   split at h
   ·cases h
   ·cases h
   ·split at h
    ·cases h
    ·split at h
     ·cases h
     ·cases h
      split<;>omega
 ·unfold Lib.intSat
  split<;>omega
 ·omega
theorem qOC (s p:ByteArray):(qMR s p).size≤s.size:=by
 show(Lib.trimPrefix s.data.toList p.data.toList).toArray.size≤s.data.size
 unfold Lib.trimPrefix
 split
 ·simp
 ·simp
theorem qOD (s:shape) (i:Ins):(qEe s i).length≤3:=by
 unfold qEe
 rw[List.length_append,List.length_append]
 split<;>split<;>(try split)<;>simp
theorem qWd {s:shape}{k A B:Int}{w:List ByteArray}(hA:(qMT s k w).a=A) (hB:(qMT s k w).b=B):qMT s k w=⟨k,A,B⟩:=by
 subst hA hB;rfl
theorem qR5 {s:shape}{k:Int}{w:List ByteArray}(h1:s.a=true) (h2:1<w.length):(qMT s k w).a=qTp w 1:=if_pos ⟨h1,h2⟩
theorem qR6 {s:shape}{k:Int}{w:List ByteArray}(h1:s.a=false):(qMT s k w).a=0:=if_neg fun q=>by rw[h1]at q;cases q.1
theorem qR7 {s:shape}{k:Int}{w:List ByteArray}(h1:¬1<w.length):(qMT s k w).a=0:=if_neg fun q=>h1 q.2
theorem qR8 {s:shape}{k:Int}{w:List ByteArray}(h1:s.b.n=0):(qMT s k w).b=0:=if_neg fun q=>q.1 h1
theorem qR9 {s:shape}{k:Int}{w:List ByteArray}(h1:w.length≤1):(qMT s k w).b=0:=if_neg fun q=>by
 have:=q.2
 unfold qR4 at this
 split at this<;>omega
theorem qSa {s:shape}{k:Int}{w:List ByteArray}(h0:¬s.b.n=0) (h1:s.a=true) (h2:2<w.length):(qMT s k w).b=qTp w 2:=by
 have e:qR4 s w=2:=if_pos ⟨h1,by omega⟩
 show(if _ then qTp w (qR4 s w)else 0)=_
 rw[e,if_pos ⟨h0,h2⟩]
theorem qSb {s:shape}{k:Int}{w:List ByteArray}(h1:s.a=true) (h3:1<w.length) (h2:w.length≤2):(qMT s k w).b=0:=by
 have e:qR4 s w=2:=if_pos ⟨h1,h3⟩
 refine if_neg fun q=> ?_
 rw[e]at q
 omega
theorem qSc {s:shape}{k:Int}{w:List ByteArray}(h0:¬s.b.n=0) (h1:s.a=false) (h2:1<w.length):(qMT s k w).b=qTp w 1:=by
 have e:qR4 s w=1:=if_neg fun q=>by rw[h1]at q;cases q.1
 show(if _ then qTp w (qR4 s w)else 0)=_
 rw[e,if_pos ⟨h0,h2⟩]
theorem qHY:(-9223372036854775808:Int)≤0∧(0:Int)≤9223372036854775807:=by decide
structure eqStr_X (l m:List ByteArray) where
 k:Nat
 hk:k≤l.length
 hv:∀j,j<k→l.getD j Dat.d0=m.getD j Dat.d0
def qHZ (r:Th (Bool)):AV:= .b fun _=>(r ())
def qH0 (l:(List ByteArray)) (m:(List ByteArray)):Bool:=decide (l=m)
def qOE (l:(List ByteArray)) (m:(List ByteArray)):Prop:=l.length≤9223372036854775807
def qH1:Det:=fun A=>match A with
 |[l,m]=>some (fun _=>Leaf.ok (List ByteArray) l∧Leaf.ok (List ByteArray) m∧qOE (Leaf.val l) (Leaf.val m),qHZ fun _=>qH0 (Leaf.val l) (Leaf.val m))
 |_=>none
set_option maxRecDepth 100000 in
set_option maxHeartbeats 4000000 in
theorem qQA (l:(List ByteArray)) (m:(List ByteArray)) (hp:qOE l m):qO Tryz.prog 18 [Leaf.av fun _=>l,Leaf.av fun _=>m] [] (qAf (qHZ fun _=>qH0 l m) []):=by
 refine qAe qI zl qP (qAb qI zl qEd mixed) (keep:=[0,1,4,5,10,12,13,14,24]) Tryz.func18 rfl ?_
 have hp':l.length≤9223372036854775807:=hp
 have fin:∀(b:Bool) H kl,b=decide (l=m)→qAf (qHZ fun _=>qH0 l m) [] (.bc b) H kl:=by
  rintro b H kl rfl
  cbv
  repeat' first|(refine Stp.mk ?_;cbv)|(refine Gen.mk fun r hr=> ?_;(try simp only[Dat.ok,Dat.dec,Leaf.ok,Leaf.val,Z0,Z1,Z2,Z3,Z4,Z5,Z6,Z7,Z8,Z9,Z10,Z11,Z12,Z13,Z14,qA,qB]at hr);cbv)|exact trivial|rfl|refine Both.mk ?_ ?_|(refine Imp.mk fun h=> ?_;(try dsimp only at h);(try simp only[nc,Int.toNat_natCast,ne_eq,zz]at h);(try simp only[nc]at h))|refine Ob.mk ?_ ?_|refine Chk.mk (by kernel_rfl) ?_|refine Eq'.mk ?_|(refine AllN.mk fun i hi=> ?_;cbv)|(refine AllC.mk fun c hc hcm=> ?_;(try dsimp only at hc);cbv)|(refine AllS.mk fun r hr=> ?_;(try simp only[Dat.ok,Dat.dec,Leaf.ok,Leaf.val,Z0,Z1,Z2,Z3,Z4,Z5,Z6,Z7,Z8,Z9,Z10,Z11,Z12,Z13,Z14,qA]at hr);cbv)
 generalize qAf (qHZ fun _=>qH0 l m) []=K at fin
 cbv
 refine Both.mk (Imp.mk fun h1=> ?_) (Imp.mk fun h1=> ?_)
 all_goals (refine Stp.mk ?_;cbv;(try dsimp only at h1);(try simp only[nc,Int.toNat_natCast,ne_eq,zz]at h1);(try simp only[nc]at h1))
 ·refine fin _ _ _ ?_
  exact(decide_eq_false (fun h=>by subst h;omega)).symm
 ·have hlen:l.length=m.length:=by omega
  refine LoopVC.frame [4,5,13,14,24] (eqStr_X l m) (fun x=>[(13,.i .i64 fun _=>x.k)]) (fun _=>[]) [] (fun x=>l.length-x.k)
   ⟨0,Nat.zero_le _,fun j hj=>absurd hj (Nat.not_lt_zero _)⟩ rfl (fun _=>rfl) ?_ ?_ fun⟨k,hk,hv⟩=> ?_
  ·cbv
   repeat' first|(refine Stp.mk ?_;cbv)|(refine Gen.mk fun r hr=> ?_;(try simp only[Dat.ok,Dat.dec,Leaf.ok,Leaf.val,Z0,Z1,Z2,Z3,Z4,Z5,Z6,Z7,Z8,Z9,Z10,Z11,Z12,Z13,Z14,qA,qB]at hr);cbv)|exact trivial|rfl|refine Both.mk ?_ ?_|(refine Imp.mk fun h=> ?_;(try dsimp only at h);(try simp only[nc,Int.toNat_natCast,ne_eq,zz]at h);(try simp only[nc]at h))|refine Ob.mk ?_ ?_|refine Chk.mk (by kernel_rfl) ?_|refine Eq'.mk ?_|(refine AllN.mk fun i hi=> ?_;cbv)|(refine AllC.mk fun c hc hcm=> ?_;(try dsimp only at hc);cbv)|(refine AllS.mk fun r hr=> ?_;(try simp only[Dat.ok,Dat.dec,Leaf.ok,Leaf.val,Z0,Z1,Z2,Z3,Z4,Z5,Z6,Z7,Z8,Z9,Z10,Z11,Z12,Z13,Z14,qA]at hr);cbv)
  ·cbv
  ·cbv
   repeat' first|(refine Stp.mk ?_;cbv)|(refine Gen.mk fun r hr=> ?_;(try simp only[Dat.ok,Dat.dec,Leaf.ok,Leaf.val,Z0,Z1,Z2,Z3,Z4,Z5,Z6,Z7,Z8,Z9,Z10,Z11,Z12,Z13,Z14,qA,qB]at hr);cbv)|exact trivial|rfl|refine Both.mk ?_ ?_|(refine Imp.mk fun h=> ?_;(try dsimp only at h);(try simp only[nc,Int.toNat_natCast,ne_eq,zz]at h);(try simp only[nc]at h))|refine Ob.mk ?_ ?_|refine Chk.mk (by kernel_rfl) ?_|refine Eq'.mk ?_|(refine AllN.mk fun i hi=> ?_;cbv)|(refine AllC.mk fun c hc hcm=> ?_;(try dsimp only at hc);cbv)|(refine AllS.mk fun r hr=> ?_;(try simp only[Dat.ok,Dat.dec,Leaf.ok,Leaf.val,Z0,Z1,Z2,Z3,Z4,Z5,Z6,Z7,Z8,Z9,Z10,Z11,Z12,Z13,Z14,qA]at hr);cbv)
   all_goals ((try dsimp only at*);(try simp only[nc,Int.toNat_natCast,ne_eq,zz]at*);(try simp only[nc]at*))
   all_goals first
    |omega
    |(unfold InR;omega)
    |(refine fin _ _ _ (decide_eq_true ?_).symm
      apply List.ext_getElem hlen
      intro i h1 h2
      have:=hv i (by omega)
      simpa[h1,h2]using this)
    |(refine fin _ _ _ (decide_eq_false fun h=> ?_).symm
      subst h
      simp_all;done)
    |skip
   all_goals (
    refine⟨⟨k+1,by omega,fun j hj=> ?_⟩, ?_,trivial,rfl,by(try dsimp only);omega⟩
    ·rcases Nat.lt_succ_iff_lt_or_eq.1 hj with hj|rfl
     ·exact hv j hj
     ·first|assumption|(generalize l.getD j Dat.d0=a at*;generalize m.getD j Dat.d0=b at*;cases a;cases b;simp_all;done)
    ·cbv
     repeat' first|(refine Stp.mk ?_;cbv)|(refine Gen.mk fun r hr=> ?_;(try simp only[Dat.ok,Dat.dec,Leaf.ok,Leaf.val,Z0,Z1,Z2,Z3,Z4,Z5,Z6,Z7,Z8,Z9,Z10,Z11,Z12,Z13,Z14,qA,qB]at hr);cbv)|exact trivial|rfl|refine Both.mk ?_ ?_|(refine Imp.mk fun h=> ?_;(try dsimp only at h);(try simp only[nc,Int.toNat_natCast,ne_eq,zz]at h);(try simp only[nc]at h))|refine Ob.mk ?_ ?_|refine Chk.mk (by kernel_rfl) ?_|refine Eq'.mk ?_|(refine AllN.mk fun i hi=> ?_;cbv)|(refine AllC.mk fun c hc hcm=> ?_;(try dsimp only at hc);cbv)|(refine AllS.mk fun r hr=> ?_;(try simp only[Dat.ok,Dat.dec,Leaf.ok,Leaf.val,Z0,Z1,Z2,Z3,Z4,Z5,Z6,Z7,Z8,Z9,Z10,Z11,Z12,Z13,Z14,qA]at hr);cbv))
theorem qLN:qBf Tryz.prog 18 (qM qH1):=qS fun A p r h hp0=>by
 unfold qH1 at h
 split at h
 ·rename_i l m
  cases h
  obtain⟨g0,g1,hp⟩:=hp0
  exact⟨rfl,qO.pre (A':=[Leaf.av fun _=>(Leaf.val l:(List ByteArray)),Leaf.av fun _=>(Leaf.val m:(List ByteArray))]) (qQA (Leaf.val l) (Leaf.val m) hp) (.mk (Leaf.hle _ g0) (.mk (Leaf.hle _ g1) (trivial)))⟩
 ·cases h
def dRd:FuncId→Option Dt:=fun f=>match f with
 |76=>some (.c qHS)
 |75=>some (.c qLJ)
 |77=>some (.f qFs)
 |18=>some (.c qH1)
 |_=>none
theorem qWe:qBk Tryz.prog dRd:=fun f d h=>by
 unfold dRd at h
 split at h
 ·cases h;exact⟨⟨Tryz.f76,Tryz.func76,by kernel_rfl,by kernel_rfl⟩,qLI⟩
 ·cases h;exact⟨⟨Tryz.f75,Tryz.func75,by kernel_rfl,by kernel_rfl⟩,qOu⟩
 ·cases h;exact⟨⟨Tryz.f77,Tryz.func77,by kernel_rfl,by kernel_rfl⟩,qHb⟩
 ·cases h;exact⟨⟨Tryz.f18,Tryz.func18,by kernel_rfl,by kernel_rfl⟩,qLN⟩
 ·cases h
noncomputable def cRd:FuncId→Con:=fun f=>match f with
 |76=>qH (qM qHS)
 |75=>qH (qM qLJ)
 |77=>qDE qFs
 |18=>qH (qM qH1)
 |_=>fun _ _ _=>Bad 1001
theorem qWf:qY Tryz.prog cRd:=fun f A H K h=>by
 unfold cRd at h
 split at h
 ·exact⟨⟨Tryz.f76,Tryz.func76,by kernel_rfl,by kernel_rfl⟩,qE qLI h⟩
 ·exact⟨⟨Tryz.f75,Tryz.func75,by kernel_rfl,by kernel_rfl⟩,qE qOu h⟩
 ·exact⟨⟨Tryz.f77,Tryz.func77,by kernel_rfl,by kernel_rfl⟩,qAY qHb h⟩
 ·exact⟨⟨Tryz.f18,Tryz.func18,by kernel_rfl,by kernel_rfl⟩,qE qLN h⟩
 ·cases h
def qOF (r:Th (Ins×Bool)):AV:= .tup [.agg [.i .i64 fun _=>(r ()).1.code,.i .i64 fun _=>(r ()).1.a,.i .i64 fun _=>(r ()).1.b],.b fun _=>(r ()).2]
def qOG (s:shape) (k:Int) (w:(List ByteArray)):Prop:=0<w.length∧w.length≤1048576∧∀x∈w,x.size≤281474976710656
def qKL:Det:=fun A=>match A with
 |[.agg s,.i .i64 k,w]=>some (fun _=>Dat.ok shape s∧Leaf.ok (List ByteArray) w∧qOG (Dat.dec s) (k ()) (Leaf.val w),qOF fun _=>qC4 (Dat.dec s) (k ()) (Leaf.val w))
 |_=>none
set_option maxRecDepth 100000 in
set_option maxHeartbeats 4000000 in
theorem qQB (s:shape) (k:Int) (w:(List ByteArray)) (hp:qOG s k w):qO Tryz.prog 45 [.agg (Dat.enc fun _=>s),.i .i64 fun _=>k,Leaf.av fun _=>w] [] (qAf (qOF fun _=>qC4 s k w) []):=by
 refine qAe qI zl qWf (qAb qI zl qWe mixed) (keep:=[0,1,2,3,6,7,8,9,20,36]) Tryz.func45 rfl ?_
 cbv
 repeat' first|(show Stp _;exfalso;first|omega|(exact h ‹_›)|(exact absurd ‹_› h)|(exact Bool.false_ne_true (h.symm.trans (show _=true by assumption))))|(refine Stp.mk ?_;cbv)|(refine Gen.mk fun r hr=> ?_;(try simp only[Dat.ok,Dat.dec,Leaf.ok,Leaf.val,Z0,Z1,Z2,Z3,Z4,Z5,Z6,Z7,Z8,Z9,Z10,Z11,Z12,Z13,Z14,qA,qB]at hr);cbv)|exact trivial|rfl|refine Both.mk ?_ ?_|(refine Imp.mk fun h=> ?_;(try dsimp only at h);(try simp only[nc,Int.toNat_natCast,ne_eq,zz]at h);(try simp only[nc]at h))|refine Ob.mk ?_ ?_|refine Chk.mk (by kernel_rfl) ?_|refine Eq'.mk ?_|(refine AllN.mk fun i hi=> ?_;cbv)|(refine AllC.mk fun c hc hcm=> ?_;(try dsimp only at hc);cbv)|(refine AllS.mk fun r hr=> ?_;(try simp only[Dat.ok,Dat.dec,Leaf.ok,Leaf.val,Z0,Z1,Z2,Z3,Z4,Z5,Z6,Z7,Z8,Z9,Z10,Z11,Z12,Z13,Z14,qA]at hr);cbv)
 all_goals ((try dsimp only at*);(try simp only[nc,Int.toNat_natCast,ne_eq,zz]at*);(try simp only[nc]at*))
 all_goals try simp only[Dat.dec,Leaf.val,Z0,Z1,Z2,Z3,Z4,Z5,Z6,Z7,Z8,Z9,Z10,Z11,Z12,Z13,Z14,qA]at*
 all_goals obtain⟨hp1,hp2,hp3⟩:=hp
 all_goals have wz:∀i,(w.getD i Dat.d0).size≤281474976710656:=fun i=>by(
  rw[List.getD_eq_getElem?_getD]
  cases h:w[i]? with
  |none=>exact Nat.zero_le _
  |some x=>exact hp3 x (List.mem_of_getElem? h))
 all_goals first
  |(exfalso;omega)
  |exact⟨by omega,by omega⟩
  |exact⟨by omega,by omega,by omega⟩
  |exact Nat.le_trans (qOC _ _) (wz _)
  |exact⟨Dat.hok fun _=>s,Dat.hok fun _=>(Ins.mk k _ _),qLM _,qLM _⟩
  |exact⟨Dat.hok fun _=>s,Dat.hok fun _=>(Ins.mk k _ _),qLM _,qHY⟩
  |exact⟨Dat.hok fun _=>s,Dat.hok fun _=>(Ins.mk k _ _),qHY,qLM _⟩
  |exact⟨Dat.hok fun _=>s,Dat.hok fun _=>(Ins.mk k _ _),qHY,qHY⟩
  |exact⟨⟨rfl,fun i _=>Dat.hok _⟩,⟨rfl,fun i _=>Dat.hok _⟩,Nat.le_trans (qOD _ _) (by decide)⟩
  |exact(qR5 (by assumption) (by omega)).symm
  |exact(qR6 (by assumption)).symm
  |exact(qR7 (by omega)).symm
  |exact(qR8 (by assumption)).symm
  |exact(qR9 (by omega)).symm
  |exact(qSa (by assumption) (by assumption) (by omega)).symm
  |exact(qSb (by assumption) (by omega) (by omega)).symm
  |exact(qSc (by assumption) (by assumption) (by omega)).symm
  |(refine congrArg (fun i=>decide (qEe s i=w)) (qWd ?_ ?_).symm
    ·first
      |exact qR5 (by assumption) (by omega)
      |exact qR6 (by assumption)
      |exact qR7 (by omega)
    ·first
      |exact qR8 (by assumption)
      |exact qR9 (by omega)
      |exact qSa (by assumption) (by assumption) (by omega)
      |exact qSb (by assumption) (by omega) (by omega)
      |exact qSc (by assumption) (by assumption) (by omega))
  |fail
theorem qQC:qBf Tryz.prog 45 (qM qKL):=qS fun A p r h hp0=>by
 unfold qKL at h
 split at h
 ·rename_i s k w
  cases h
  obtain⟨g0,g1,hp⟩:=hp0
  exact⟨rfl,qO.pre (A':=[.agg (Dat.enc fun _=>(Dat.dec s:shape)),.i .i64 fun _=>k (),Leaf.av fun _=>(Leaf.val w:(List ByteArray))]) (qQB (Dat.dec s) (k ()) (Leaf.val w) hp) (.mk (Dat.hle _ g0) (.mk (.mk (.mk rfl) (.mk rfl)) (.mk (Leaf.hle _ g1) (trivial))))⟩
 ·cases h
end Go.Proofs.YtiaiifcgbjlfoaaGreatDoor
