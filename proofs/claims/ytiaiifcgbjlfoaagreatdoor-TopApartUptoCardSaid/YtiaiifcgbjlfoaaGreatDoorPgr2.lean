/- slices.DeleteFunc of empty words: walked. -/
import Derived.Test.YtiaiifcgbjlfoaaGreatDoorStrs2
import Derived.Test.YtiaiifcgbjlfoaaGreatDoorAbsG4
set_option linter.all false
namespace Go.Proofs.YtiaiifcgbjlfoaaGreatDoor
open Go Go.Abs
def bz (l:List UInt8):ByteArray:=⟨l.toArray⟩
def qEe (s:shape) (i:Ins):List ByteArray:=
 ([s.word]++if s.a=true then [qXN i.a]else [])++if s.b.n=114 then [qXN i.b]else if s.b.n=110 then [qKG i.b]else []
def qYd (i:Ins):Prop:=(-9223372036854775808≤i.a∧i.a≤9223372036854775807)∧-9223372036854775808≤i.b∧i.b≤9223372036854775807
noncomputable def qYo:FuncId→Con:=fun f=>match f with
 |113=>qH (qM qOv)
 |49=>qH (qM qHR)
 |_=>fun _ _ _=>Bad 1001
theorem qTl:qY Tryz.prog qYo:=fun f A H K h=>by
 unfold qYo at h
 split at h
 ·exact⟨⟨Tryz.f113,Tryz.func113,by kernel_rfl,by kernel_rfl⟩,qE qTk h⟩
 ·exact⟨⟨Tryz.f49,Tryz.func49,by kernel_rfl,by kernel_rfl⟩,qE qLH h⟩
 ·cases h
def qQx (r:Th ((List ByteArray))):AV:= .own 0 fun _=>(r ()).length
def qQy (r:Th ((List ByteArray))):Hp:=[qA2 9 fun _=>(r ())]
def qLK (s:shape) (i:Ins):Prop:=qYd i
set_option maxRecDepth 100000 in
set_option maxHeartbeats 4000000 in
theorem qOw (s:shape) (i:Ins) (hp:qLK s i):qO Tryz.prog 77 [.agg (Dat.enc fun _=>s),.agg (Dat.enc fun _=>i)] [] (qAf (qQx fun _=>qEe s i) (qQy fun _=>qEe s i)):=by
 refine qAe qI zl qTl qD (keep:=[0,1,2,3,4,5,10,18,19,27]) Tryz.func77 rfl ?_
 cbv
 repeat' first|(show Stp _;exfalso;first|omega|(exact h ‹_›)|(exact absurd ‹_› h)|(exact Bool.false_ne_true (h.symm.trans (show _=true by assumption))))|(refine Stp.mk ?_;cbv)|(refine Gen.mk fun r hr=> ?_;(try simp only[Dat.ok,Dat.dec,Leaf.ok,Leaf.val,Z0,Z1,Z2,Z3,Z4,Z5,Z6,Z7,Z8,Z9,Z10,Z11,Z12,Z13,Z14,qA,qB]at hr);cbv)|exact trivial|rfl|refine Both.mk ?_ ?_|(refine Imp.mk fun h=> ?_;(try dsimp only at h);(try simp only[nc,Int.toNat_natCast,ne_eq,zz]at h);(try simp only[nc]at h))|refine Ob.mk ?_ ?_|refine Chk.mk (by kernel_rfl) ?_|refine Eq'.mk ?_|(refine AllN.mk fun i hi=> ?_;cbv)|(refine AllC.mk fun c hc hcm=> ?_;(try dsimp only at hc);cbv)|(refine AllS.mk fun r hr=> ?_;(try simp only[Dat.ok,Dat.dec,Leaf.ok,Leaf.val,Z0,Z1,Z2,Z3,Z4,Z5,Z6,Z7,Z8,Z9,Z10,Z11,Z12,Z13,Z14,qA]at hr);cbv)
 all_goals ((try dsimp only at*);(try simp only[nc,Int.toNat_natCast,ne_eq,zz]at*);(try simp only[nc]at*))
 all_goals try simp only[Dat.dec,Leaf.val,Z0,Z1,Z2,Z3,Z4,Z5,Z6,Z7,Z8,Z9,Z10,Z11,Z12,Z13,Z14,qA]at*
 all_goals first
  |exact hp.1
  |exact hp.2
  |omega
  |decide
  |(simp[qEe, *];done)
  |(rcases i with _|_|_|i
    all_goals first
     |omega
     |(simp[qEe, *];done))
  |fail
def qQz (r:Th ((List ByteArray))):AV:=Leaf.av fun _=>(r ())
def qFs:Det:=fun A=>match A with
 |[.agg s,.agg i]=>some (fun _=>Dat.ok shape s∧Dat.ok Ins i∧qLK (Dat.dec s) (Dat.dec i),qQz fun _=>qEe (Dat.dec s) (Dat.dec i))
 |_=>none
theorem qHb:∀A p r,qFs A=some (p,r)→p ()→qJV Tryz.prog 77 A r:=fun A p r h hp0=>by
 unfold qFs at h
 split at h
 ·rename_i s i
  cases h
  obtain⟨g0,g1,hp⟩:=hp0
  exact qO.fresh (A:=[.agg s,.agg i]) (qO.pre (A':=[.agg (Dat.enc fun _=>(Dat.dec s:shape)),.agg (Dat.enc fun _=>(Dat.dec i:Ins))]) (qOw (Dat.dec s) (Dat.dec i) hp) (.mk (Dat.hle _ g0) (.mk (Dat.hle _ g1) (trivial)))) rfl (q:=_) (d:=_) rfl (by intro p hp;repeat (first|(cases hp;done)|(rcases List.mem_cons.1 hp with rfl|hp;· exact Nat.le_refl _))) rfl rfl ⟨.mk fun _ _=>rfl,trivial⟩
 ·cases h
def qN:List shape:=[⟨.empty,false,⟨0⟩⟩,⟨bz [115,101,116],true,⟨110⟩⟩,⟨bz [99,111,112,121],true,⟨114⟩⟩,⟨bz [97,100,100],true,⟨114⟩⟩,⟨bz [115,117,98],true,⟨114⟩⟩,⟨bz [109,117,108],true,⟨114⟩⟩,
 ⟨bz [106,117,109,112],false,⟨110⟩⟩,⟨bz [122,101,114,111],true,⟨110⟩⟩,⟨bz [108,101,115,115],true,⟨110⟩⟩,⟨bz [105,110],true,⟨0⟩⟩,⟨bz [111,117,116],true,⟨110⟩⟩,⟨bz [104,97,108,116],false,⟨0⟩⟩]
def qOx (r:Th ((List shape))):AV:= .own 0 fun _=>(r ()).length
def qOy (r:Th ((List shape))):Hp:=[qA2 128 fun _=>(r ())]
set_option maxRecDepth 100000 in
set_option maxHeartbeats 4000000 in
theorem qMS:qO Tryz.prog 38 [] [] (qAf (qOx fun _=>qN) (qOy fun _=>qN)):=by
 refine qAe qI zl qP qD (keep:=[0]) Tryz.func38 rfl ?_
 cbv
 repeat' first|(refine Stp.mk ?_;cbv)|(refine Gen.mk fun r hr=> ?_;(try simp only[Dat.ok,Dat.dec,Leaf.ok,Leaf.val,Z0,Z1,Z2,Z3,Z4,Z5,Z6,Z7,Z8,Z9,Z10,Z11,Z12,Z13,Z14,qA,qB]at hr);cbv)|exact trivial|rfl|refine Both.mk ?_ ?_|(refine Imp.mk fun h=> ?_;(try dsimp only at h);(try simp only[nc,Int.toNat_natCast,ne_eq,zz]at h);(try simp only[nc]at h))|refine Ob.mk ?_ ?_|refine Chk.mk (by kernel_rfl) ?_|refine Eq'.mk ?_|(refine AllN.mk fun i hi=> ?_;cbv)|(refine AllC.mk fun c hc hcm=> ?_;(try dsimp only at hc);cbv)|(refine AllS.mk fun r hr=> ?_;(try simp only[Dat.ok,Dat.dec,Leaf.ok,Leaf.val,Z0,Z1,Z2,Z3,Z4,Z5,Z6,Z7,Z8,Z9,Z10,Z11,Z12,Z13,Z14,qA]at hr);cbv)
 all_goals ((try dsimp only at*);(try simp only[nc,Int.toNat_natCast,ne_eq,zz]at*);(try simp only[nc]at*))
 all_goals first
  |rfl
  |(have hi3:i<12:=hi
    rcases i with _|_|_|_|_|_|_|_|_|_|_|_|i
    all_goals first
     |omega
     |(cbv
       repeat' first|(refine Stp.mk ?_;cbv)|(refine Gen.mk fun r hr=> ?_;(try simp only[Dat.ok,Dat.dec,Leaf.ok,Leaf.val,Z0,Z1,Z2,Z3,Z4,Z5,Z6,Z7,Z8,Z9,Z10,Z11,Z12,Z13,Z14,qA,qB]at hr);cbv)|exact trivial|rfl|refine Both.mk ?_ ?_|(refine Imp.mk fun h=> ?_;(try dsimp only at h);(try simp only[nc,Int.toNat_natCast,ne_eq,zz]at h);(try simp only[nc]at h))|refine Ob.mk ?_ ?_|refine Chk.mk (by kernel_rfl) ?_|refine Eq'.mk ?_|(refine AllN.mk fun i hi=> ?_;cbv)|(refine AllC.mk fun c hc hcm=> ?_;(try dsimp only at hc);cbv)|(refine AllS.mk fun r hr=> ?_;(try simp only[Dat.ok,Dat.dec,Leaf.ok,Leaf.val,Z0,Z1,Z2,Z3,Z4,Z5,Z6,Z7,Z8,Z9,Z10,Z11,Z12,Z13,Z14,qA]at hr);cbv)
       all_goals rfl))
  |fail
def qOz (r:Th ((List shape))):AV:=Leaf.av fun _=>(r ())
def qGk:Det:=fun A=>match A with
 |[]=>some (fun _=>True,qOz fun _=>qN)
 |_=>none
theorem qKK:∀A p r,qGk A=some (p,r)→p ()→qJV Tryz.prog 38 A r:=fun A p r h hp0=>by
 unfold qGk at h
 split at h
 ·cases h
  exact qO.fresh (A:=[]) (qO.pre (A':=[]) (qMS) (trivial)) rfl (q:=_) (d:=_) rfl (by intro p hp;repeat (first|(cases hp;done)|(rcases List.mem_cons.1 hp with rfl|hp;· exact Nat.le_refl _))) rfl rfl ⟨.mk fun _ _=>rfl,trivial⟩
 ·cases h
end Go.Proofs.YtiaiifcgbjlfoaaGreatDoor

namespace Go.Proofs.YtiaiifcgbjlfoaaGreatDoor
open Go Go.Abs
def neB (s:ByteArray):Bool:=decide (s≠ .empty)
noncomputable def cE0:FuncId→Con:=fun f=>match f with
 |42=>qAg E qDx qAa [0,2] Tryz.f42
 |_=>fun _ _ _=>Bad 1001
theorem qV8:qY Tryz.prog cE0:=fun f A H K h=>by
 unfold cE0 at h
 split at h
 ·exact⟨⟨Tryz.f42,Tryz.func42,by kernel_rfl,by kernel_rfl⟩,qAi qI zl qP qD Tryz.func42 h⟩
 ·cases h
noncomputable def cE1:FuncId→Con:=fun f=>match f with
 |74=>qAg E cE0 qAa [0,1,4,5,7,8,9,16] Tryz.f74
 |42=>qAg E qDx qAa [0,2] Tryz.f42
 |_=>fun _ _ _=>Bad 1001
theorem qV9:qY Tryz.prog cE1:=fun f A H K h=>by
 unfold cE1 at h
 split at h
 ·exact⟨⟨Tryz.f74,Tryz.func74,by kernel_rfl,by kernel_rfl⟩,qAi qI zl qV8 qD Tryz.func74 h⟩
 ·exact⟨⟨Tryz.f42,Tryz.func42,by kernel_rfl,by kernel_rfl⟩,qAi qI zl qP qD Tryz.func42 h⟩
 ·cases h
structure IfX (l:List ByteArray) where
 k:Nat
 hk:k≤l.length
 h1:∀i,i<k→neB (l.getD i Dat.d0)=true
structure DfX (l:List ByteArray) where
 j:Nat
 hj:j≤l.length
 c:List ByteArray
 hc:c.length=l.length
 w:Nat
 hw:w<j
 h0:w=((l.take j).filter neB).length
 h1:c.take w=(l.take j).filter neB
 h2:∀i,j≤i→c.getD i Dat.d0=l.getD i Dat.d0
theorem qYp {s:ByteArray}(h:s=⟨#[]⟩):neB s=false:=decide_eq_false fun q=>q h
theorem qYq {s:ByteArray}(h:¬s=⟨#[]⟩):neB s=true:=decide_eq_true h
theorem qHX {l:List ByteArray}{j:Nat}(h:j<l.length):l.take (j+1)=l.take j++[l.getD j Dat.d0]:=by
 rw[List.take_add_one,List.getElem?_eq_getElem h,List.getD_eq_getElem?_getD,List.getElem?_eq_getElem h];rfl
theorem qLL {l:List ByteArray}{k:Nat}(hk:k≤l.length) (h:∀i,i<k→neB (l.getD i Dat.d0)=true):(l.take k).filter neB=l.take k:=by
 rw[List.filter_eq_self]
 intro x hx
 obtain⟨i,hi,rfl⟩:=List.mem_iff_getElem.1 hx
 have hi2:i<k:=by rw[List.length_take]at hi;omega
 have:=h i hi2
 rw[List.getD_eq_getElem?_getD,List.getElem?_eq_getElem (by omega)]at this
 simpa using this
theorem qOA {l:List ByteArray}(x:DfX l) (h:x.j<l.length) (hb:neB (l.getD x.j Dat.d0)=false):((l.take (x.j+1)).filter neB)=(l.take x.j).filter neB:=by
 rw[qHX h,List.filter_append,List.filter_cons_of_neg (by rw[hb];exact Bool.false_ne_true),List.filter_nil,List.append_nil]
theorem qOB {l:List ByteArray}(x:DfX l) (h:x.j<l.length) (hb:neB (l.getD x.j Dat.d0)=true):((l.take (x.j+1)).filter neB)=(l.take x.j).filter neB++[l.getD x.j Dat.d0]:=by
 rw[qHX h,List.filter_append,List.filter_cons_of_pos hb,List.filter_nil]
def DfX.drop {l:List ByteArray}(x:DfX l) (h:x.j<l.length) (hb:neB (l.getD x.j Dat.d0)=false):DfX l:=
 ⟨x.j+1,h,x.c,x.hc,x.w,Nat.lt_succ_of_lt x.hw,by rw[qOA x h hb];exact x.h0,by rw[qOA x h hb];exact x.h1,fun i hi=>x.h2 i (by omega)⟩
def DfX.keep {l:List ByteArray}(x:DfX l) (h:x.j<l.length) (hb:neB (l.getD x.j Dat.d0)=true):DfX l:=
 ⟨x.j+1,h,x.c.set x.w (l.getD x.j Dat.d0),by rw[List.length_set];exact x.hc,x.w+1,Nat.succ_lt_succ x.hw,by
   rw[qOB x h hb,List.length_append,←x.h0];rfl,by
   have hl:x.w<(x.c.set x.w (l.getD x.j Dat.d0)).length:=by rw[List.length_set,x.hc];have:=x.hw;omega
   rw[qOB x h hb,qHX hl,List.take_set_of_le (Nat.le_refl _),x.h1,List.getD_eq_getElem?_getD (l:=x.c.set _ _),List.getElem?_set_self (by rw[List.length_set]at hl;exact hl)];rfl,fun i hi=>by
   rw[List.getD_eq_getElem?_getD,List.getElem?_set_ne (by have:=x.hw;omega),←List.getD_eq_getElem?_getD]
   exact x.h2 i (by omega)⟩
theorem qWa {l:List ByteArray}(x:DfX l) (h:l.length≤x.j):x.w=(l.filter neB).length∧∀i,i<x.w→x.c.getD i Dat.d0=(l.filter neB).getD i Dat.d0:=by
 have e:l.take x.j=l:=List.take_of_length_le h
 have h0:=x.h0
 have h1:=x.h1
 rw[e]at h0 h1
 refine⟨h0,fun i hi=> ?_⟩
 rw[←h1,List.getD_eq_getElem?_getD,List.getD_eq_getElem?_getD,List.getElem?_take,if_pos hi]
theorem qTm {c:List ByteArray}{w i:Nat}{v:ByteArray}(hw:w<c.length):(bif decide (i=w)then v else c.getD i Dat.d0)=(c.set w v).getD i Dat.d0:=by
 by_cases h:i=w
 ·subst h
  rw[decide_eq_true rfl,cond_true,List.getD_eq_getElem?_getD,List.getElem?_set_self hw];rfl
 ·rw[decide_eq_false h,cond_false,List.getD_eq_getElem?_getD,List.getD_eq_getElem?_getD,List.getElem?_set_ne (fun q=>h q.symm)]
def dEd:FuncId→Option Dt:=fun f=>match f with
 |_=>none
theorem qWb:qBk Tryz.prog dEd:=fun f d h=>by
 unfold dEd at h
 split at h
 ·cases h
set_option maxRecDepth 100000 in
set_option maxHeartbeats 4000000 in
theorem qTn (l:List ByteArray) (hp:l.length≤4611686018427387903):qO Tryz.prog 41 [.own 0 fun _=>l.length,.fn 42 []] [qA2 9 fun _=>l] (qCL 1 (.own 0 fun _=>(l.filter neB).length) [qA2 9 fun _=>l.filter neB] []):=by
 generalize hK:qCL 1 (.own 0 fun _=>(l.filter neB).length) [qA2 9 fun _=>l.filter neB] []=K
 refine qAe qI zl qV9 (qAb qI zl qWb mixed) (keep:=[0,1,4,5,6,7,12,19,29]) Tryz.func41 rfl ?_
 cbv
 repeat' first|(show Stp _;exfalso;first|omega|(exact h ‹_›)|(exact absurd ‹_› h)|(exact Bool.false_ne_true (h.symm.trans (show _=true by assumption))))|(refine Stp.mk ?_;cbv)|(refine Gen.mk fun r hr=> ?_;(try simp only[Dat.ok,Dat.dec,Leaf.ok,Leaf.val,Z0,Z1,Z2,Z3,Z4,Z5,Z6,Z7,Z8,Z9,Z10,Z11,Z12,Z13,Z14,qA,qB]at hr);cbv)|exact trivial|rfl|refine Both.mk ?_ ?_|(refine Imp.mk fun h=> ?_;(try dsimp only at h);(try simp only[nc,Int.toNat_natCast,ne_eq,zz]at h);(try simp only[nc]at h))|refine Ob.mk ?_ ?_|refine Chk.mk (by kernel_rfl) ?_|refine Eq'.mk ?_|(refine AllN.mk fun i hi=> ?_;cbv)|(refine AllC.mk fun c hc hcm=> ?_;(try dsimp only at hc);cbv)|(refine AllS.mk fun r hr=> ?_;(try simp only[Dat.ok,Dat.dec,Leaf.ok,Leaf.val,Z0,Z1,Z2,Z3,Z4,Z5,Z6,Z7,Z8,Z9,Z10,Z11,Z12,Z13,Z14,qA]at hr);cbv)
 all_goals ((try dsimp only at*);(try simp only[nc,Int.toNat_natCast,ne_eq,zz]at*);(try simp only[nc]at*))
 refine LoopVC.frame [4,5,8,9,16] (IfX l) (fun x=>[(8,.i .i64 fun _=>x.k)]) (fun _=>[(0,qA2 9 fun _=>l)]) [] (fun x=>l.length-x.k) ⟨0,Nat.zero_le _,fun _ h=>absurd h (Nat.not_lt_zero _)⟩ rfl (fun _=>rfl) ?_ ?_ fun⟨k,hk,h1⟩=> ?_
 ·cbv
  repeat' first|(refine Stp.mk ?_;cbv)|(refine Gen.mk fun r hr=> ?_;(try simp only[Dat.ok,Dat.dec,Leaf.ok,Leaf.val,Z0,Z1,Z2,Z3,Z4,Z5,Z6,Z7,Z8,Z9,Z10,Z11,Z12,Z13,Z14,qA,qB]at hr);cbv)|exact trivial|rfl|refine Both.mk ?_ ?_|(refine Imp.mk fun h=> ?_;(try dsimp only at h);(try simp only[nc,Int.toNat_natCast,ne_eq,zz]at h);(try simp only[nc]at h))|refine Ob.mk ?_ ?_|refine Chk.mk (by kernel_rfl) ?_|refine Eq'.mk ?_|(refine AllN.mk fun i hi=> ?_;cbv)|(refine AllC.mk fun c hc hcm=> ?_;(try dsimp only at hc);cbv)|(refine AllS.mk fun r hr=> ?_;(try simp only[Dat.ok,Dat.dec,Leaf.ok,Leaf.val,Z0,Z1,Z2,Z3,Z4,Z5,Z6,Z7,Z8,Z9,Z10,Z11,Z12,Z13,Z14,qA]at hr);cbv)
  all_goals fail
 ·cbv
  repeat' first|(refine Stp.mk ?_;cbv)|(refine Gen.mk fun r hr=> ?_;(try simp only[Dat.ok,Dat.dec,Leaf.ok,Leaf.val,Z0,Z1,Z2,Z3,Z4,Z5,Z6,Z7,Z8,Z9,Z10,Z11,Z12,Z13,Z14,qA,qB]at hr);cbv)|exact trivial|rfl|refine Both.mk ?_ ?_|(refine Imp.mk fun h=> ?_;(try dsimp only at h);(try simp only[nc,Int.toNat_natCast,ne_eq,zz]at h);(try simp only[nc]at h))|refine Ob.mk ?_ ?_|refine Chk.mk (by kernel_rfl) ?_|refine Eq'.mk ?_|(refine AllN.mk fun i hi=> ?_;cbv)|(refine AllC.mk fun c hc hcm=> ?_;(try dsimp only at hc);cbv)|(refine AllS.mk fun r hr=> ?_;(try simp only[Dat.ok,Dat.dec,Leaf.ok,Leaf.val,Z0,Z1,Z2,Z3,Z4,Z5,Z6,Z7,Z8,Z9,Z10,Z11,Z12,Z13,Z14,qA]at hr);cbv)
  all_goals fail
 have hk9:k≤l.length:=hk
 have h19:=h1
 cbv
 repeat' first|(show Stp _;exfalso;first|omega|(exact h ‹_›)|(exact absurd ‹_› h)|(exact Bool.false_ne_true (h.symm.trans (show _=true by assumption))))|(refine Stp.mk ?_;cbv)|(refine Gen.mk fun r hr=> ?_;(try simp only[Dat.ok,Dat.dec,Leaf.ok,Leaf.val,Z0,Z1,Z2,Z3,Z4,Z5,Z6,Z7,Z8,Z9,Z10,Z11,Z12,Z13,Z14,qA,qB]at hr);cbv)|exact trivial|rfl|refine Both.mk ?_ ?_|(refine Imp.mk fun h=> ?_;(try dsimp only at h);(try simp only[nc,Int.toNat_natCast,ne_eq,zz]at h);(try simp only[nc]at h))|refine Ob.mk ?_ ?_|refine Chk.mk (by kernel_rfl) ?_|refine Eq'.mk ?_|(refine AllN.mk fun i hi=> ?_;cbv)|(refine AllC.mk fun c hc hcm=> ?_;(try dsimp only at hc);cbv)|(refine AllS.mk fun r hr=> ?_;(try simp only[Dat.ok,Dat.dec,Leaf.ok,Leaf.val,Z0,Z1,Z2,Z3,Z4,Z5,Z6,Z7,Z8,Z9,Z10,Z11,Z12,Z13,Z14,qA]at hr);cbv)
 all_goals ((try dsimp only at*);(try simp only[nc,Int.toNat_natCast,ne_eq,zz]at*);(try simp only[nc]at*))
 all_goals try rw[nc]at*
 all_goals try simp only[Dat.dec,Leaf.val,Z0,Z1,Z2,Z3,Z4,Z5,Z6,Z7,Z8,Z9,Z10,Z11,Z12,Z13,Z14,qA]at*
 all_goals try first
  |exact⟨by omega,by omega⟩
  |(unfold InR;omega)
  |(exfalso;exact absurd trivial (by assumption))
  |(refine⟨⟨k+1,by omega,fun i hi=>by
     rcases Nat.lt_or_ge i k with q|q
     ·exact h19 i q
     ·have e:i=k:=by omega
      rw[e];exact qYq (by assumption)⟩, ?_, ?_,rfl,by(try dsimp only);omega⟩
    ·cbv
     repeat' first|(refine Stp.mk ?_;cbv)|(refine Gen.mk fun r hr=> ?_;(try simp only[Dat.ok,Dat.dec,Leaf.ok,Leaf.val,Z0,Z1,Z2,Z3,Z4,Z5,Z6,Z7,Z8,Z9,Z10,Z11,Z12,Z13,Z14,qA,qB]at hr);cbv)|exact trivial|rfl|refine Both.mk ?_ ?_|(refine Imp.mk fun h=> ?_;(try dsimp only at h);(try simp only[nc,Int.toNat_natCast,ne_eq,zz]at h);(try simp only[nc]at h))|refine Ob.mk ?_ ?_|refine Chk.mk (by kernel_rfl) ?_|refine Eq'.mk ?_|(refine AllN.mk fun i hi=> ?_;cbv)|(refine AllC.mk fun c hc hcm=> ?_;(try dsimp only at hc);cbv)|(refine AllS.mk fun r hr=> ?_;(try simp only[Dat.ok,Dat.dec,Leaf.ok,Leaf.val,Z0,Z1,Z2,Z3,Z4,Z5,Z6,Z7,Z8,Z9,Z10,Z11,Z12,Z13,Z14,qA]at hr);cbv)
    ·cbv
     repeat' first|(refine Stp.mk ?_;cbv)|(refine Gen.mk fun r hr=> ?_;(try simp only[Dat.ok,Dat.dec,Leaf.ok,Leaf.val,Z0,Z1,Z2,Z3,Z4,Z5,Z6,Z7,Z8,Z9,Z10,Z11,Z12,Z13,Z14,qA,qB]at hr);cbv)|exact trivial|rfl|refine Both.mk ?_ ?_|(refine Imp.mk fun h=> ?_;(try dsimp only at h);(try simp only[nc,Int.toNat_natCast,ne_eq,zz]at h);(try simp only[nc]at h))|refine Ob.mk ?_ ?_|refine Chk.mk (by kernel_rfl) ?_|refine Eq'.mk ?_|(refine AllN.mk fun i hi=> ?_;cbv)|(refine AllC.mk fun c hc hcm=> ?_;(try dsimp only at hc);cbv)|(refine AllS.mk fun r hr=> ?_;(try simp only[Dat.ok,Dat.dec,Leaf.ok,Leaf.val,Z0,Z1,Z2,Z3,Z4,Z5,Z6,Z7,Z8,Z9,Z10,Z11,Z12,Z13,Z14,qA]at hr);cbv))
  |(have e:l.filter neB=l:=by
     have:=qLL (l:=l) (Nat.le_refl _) fun i hi=>h19 i (by omega)
     rwa [List.take_length]at this
    subst hK
    rw[e]
    cbv
    repeat' first|(refine Stp.mk ?_;cbv)|(refine Gen.mk fun r hr=> ?_;(try simp only[Dat.ok,Dat.dec,Leaf.ok,Leaf.val,Z0,Z1,Z2,Z3,Z4,Z5,Z6,Z7,Z8,Z9,Z10,Z11,Z12,Z13,Z14,qA,qB]at hr);cbv)|exact trivial|rfl|refine Both.mk ?_ ?_|(refine Imp.mk fun h=> ?_;(try dsimp only at h);(try simp only[nc,Int.toNat_natCast,ne_eq,zz]at h);(try simp only[nc]at h))|refine Ob.mk ?_ ?_|refine Chk.mk (by kernel_rfl) ?_|refine Eq'.mk ?_|(refine AllN.mk fun i hi=> ?_;cbv)|(refine AllC.mk fun c hc hcm=> ?_;(try dsimp only at hc);cbv)|(refine AllS.mk fun r hr=> ?_;(try simp only[Dat.ok,Dat.dec,Leaf.ok,Leaf.val,Z0,Z1,Z2,Z3,Z4,Z5,Z6,Z7,Z8,Z9,Z10,Z11,Z12,Z13,Z14,qA]at hr);cbv))
  |omega
 have kl:k<l.length:=by omega
 have hb:neB (l.getD k Dat.d0)=false:=qYp (by assumption)
 have ht:(l.take (k+1)).filter neB=l.take k:=by
  rw[qHX kl,List.filter_append,List.filter_cons_of_neg (by rw[hb];exact Bool.false_ne_true),List.filter_nil,List.append_nil,qLL hk h1]
 have htl:(l.take k).length=k:=by rw[List.length_take];omega
 refine LoopVC.frame [5,6,7,19,29] (DfX l) (fun x=>[(5,.i .i64 fun _=>x.w),(6,.i .i64 fun _=>x.j)]) (fun x=>[(0,qA2 9 fun _=>x.c)]) [] (fun x=>l.length-x.j) ⟨k+1,kl,l,rfl,k,Nat.lt_succ_self _,by rw[ht,htl],by rw[ht],fun _ _=>rfl⟩ rfl (fun _=>rfl) ?_ ?_ fun x=> ?_
 ·cbv
  repeat' first|(refine Stp.mk ?_;cbv)|(refine Gen.mk fun r hr=> ?_;(try simp only[Dat.ok,Dat.dec,Leaf.ok,Leaf.val,Z0,Z1,Z2,Z3,Z4,Z5,Z6,Z7,Z8,Z9,Z10,Z11,Z12,Z13,Z14,qA,qB]at hr);cbv)|exact trivial|rfl|refine Both.mk ?_ ?_|(refine Imp.mk fun h=> ?_;(try dsimp only at h);(try simp only[nc,Int.toNat_natCast,ne_eq,zz]at h);(try simp only[nc]at h))|refine Ob.mk ?_ ?_|refine Chk.mk (by kernel_rfl) ?_|refine Eq'.mk ?_|(refine AllN.mk fun i hi=> ?_;cbv)|(refine AllC.mk fun c hc hcm=> ?_;(try dsimp only at hc);cbv)|(refine AllS.mk fun r hr=> ?_;(try simp only[Dat.ok,Dat.dec,Leaf.ok,Leaf.val,Z0,Z1,Z2,Z3,Z4,Z5,Z6,Z7,Z8,Z9,Z10,Z11,Z12,Z13,Z14,qA]at hr);cbv)
  all_goals fail
 ·cbv
  repeat' first|(refine Stp.mk ?_;cbv)|(refine Gen.mk fun r hr=> ?_;(try simp only[Dat.ok,Dat.dec,Leaf.ok,Leaf.val,Z0,Z1,Z2,Z3,Z4,Z5,Z6,Z7,Z8,Z9,Z10,Z11,Z12,Z13,Z14,qA,qB]at hr);cbv)|exact trivial|rfl|refine Both.mk ?_ ?_|(refine Imp.mk fun h=> ?_;(try dsimp only at h);(try simp only[nc,Int.toNat_natCast,ne_eq,zz]at h);(try simp only[nc]at h))|refine Ob.mk ?_ ?_|refine Chk.mk (by kernel_rfl) ?_|refine Eq'.mk ?_|(refine AllN.mk fun i hi=> ?_;cbv)|(refine AllC.mk fun c hc hcm=> ?_;(try dsimp only at hc);cbv)|(refine AllS.mk fun r hr=> ?_;(try simp only[Dat.ok,Dat.dec,Leaf.ok,Leaf.val,Z0,Z1,Z2,Z3,Z4,Z5,Z6,Z7,Z8,Z9,Z10,Z11,Z12,Z13,Z14,qA]at hr);cbv)
  all_goals fail
 have hj:=x.hj
 have hc:=x.hc
 have hw:=x.hw
 cbv
 repeat' first|(show Stp _;exfalso;first|omega|(exact h ‹_›)|(exact absurd ‹_› h)|(exact Bool.false_ne_true (h.symm.trans (show _=true by assumption))))|(refine Stp.mk ?_;cbv)|(refine Gen.mk fun r hr=> ?_;(try simp only[Dat.ok,Dat.dec,Leaf.ok,Leaf.val,Z0,Z1,Z2,Z3,Z4,Z5,Z6,Z7,Z8,Z9,Z10,Z11,Z12,Z13,Z14,qA,qB]at hr);cbv)|exact trivial|rfl|refine Both.mk ?_ ?_|(refine Imp.mk fun h=> ?_;(try dsimp only at h);(try simp only[nc,Int.toNat_natCast,ne_eq,zz]at h);(try simp only[nc]at h))|refine Ob.mk ?_ ?_|refine Chk.mk (by kernel_rfl) ?_|refine Eq'.mk ?_|(refine AllN.mk fun i hi=> ?_;cbv)|(refine AllC.mk fun c hc hcm=> ?_;(try dsimp only at hc);cbv)|(refine AllS.mk fun r hr=> ?_;(try simp only[Dat.ok,Dat.dec,Leaf.ok,Leaf.val,Z0,Z1,Z2,Z3,Z4,Z5,Z6,Z7,Z8,Z9,Z10,Z11,Z12,Z13,Z14,qA]at hr);cbv)
 all_goals ((try dsimp only at*);(try simp only[nc,Int.toNat_natCast,ne_eq,zz]at*);(try simp only[nc]at*))
 all_goals try rw[nc]at*
 all_goals try simp only[Dat.dec,Leaf.val,Z0,Z1,Z2,Z3,Z4,Z5,Z6,Z7,Z8,Z9,Z10,Z11,Z12,Z13,Z14,qA]at*
 all_goals first
  |omega
  |exact⟨by omega,by omega⟩
  |exact⟨by omega,by omega,by omega⟩
  |exact⟨trivial,by omega,by omega⟩
  |(unfold InR;omega)
  |(have hjl:x.j<l.length:=by omega
    have hn:¬x.c.getD x.j Dat.d0=(⟨#[]⟩:ByteArray):=by assumption
    have e:x.c.getD x.j Dat.d0=l.getD x.j Dat.d0:=x.h2 _ (Nat.le_refl _)
    rw[e]at hn
    refine⟨x.keep hjl (qYq hn), ?_, ?_,rfl,by show l.length-(x.j+1)<l.length-x.j;omega⟩
    ·cbv
     repeat' first|(refine Stp.mk ?_;cbv)|(refine Gen.mk fun r hr=> ?_;(try simp only[Dat.ok,Dat.dec,Leaf.ok,Leaf.val,Z0,Z1,Z2,Z3,Z4,Z5,Z6,Z7,Z8,Z9,Z10,Z11,Z12,Z13,Z14,qA,qB]at hr);cbv)|exact trivial|rfl|refine Both.mk ?_ ?_|(refine Imp.mk fun h=> ?_;(try dsimp only at h);(try simp only[nc,Int.toNat_natCast,ne_eq,zz]at h);(try simp only[nc]at h))|refine Ob.mk ?_ ?_|refine Chk.mk (by kernel_rfl) ?_|refine Eq'.mk ?_|(refine AllN.mk fun i hi=> ?_;cbv)|(refine AllC.mk fun c hc hcm=> ?_;(try dsimp only at hc);cbv)|(refine AllS.mk fun r hr=> ?_;(try simp only[Dat.ok,Dat.dec,Leaf.ok,Leaf.val,Z0,Z1,Z2,Z3,Z4,Z5,Z6,Z7,Z8,Z9,Z10,Z11,Z12,Z13,Z14,qA]at hr);cbv)
    ·cbv
     repeat' first|(refine Stp.mk ?_;cbv)|(refine Gen.mk fun r hr=> ?_;(try simp only[Dat.ok,Dat.dec,Leaf.ok,Leaf.val,Z0,Z1,Z2,Z3,Z4,Z5,Z6,Z7,Z8,Z9,Z10,Z11,Z12,Z13,Z14,qA,qB]at hr);cbv)|exact trivial|rfl|refine Both.mk ?_ ?_|(refine Imp.mk fun h=> ?_;(try dsimp only at h);(try simp only[nc,Int.toNat_natCast,ne_eq,zz]at h);(try simp only[nc]at h))|refine Ob.mk ?_ ?_|refine Chk.mk (by kernel_rfl) ?_|refine Eq'.mk ?_|(refine AllN.mk fun i hi=> ?_;cbv)|(refine AllC.mk fun c hc hcm=> ?_;(try dsimp only at hc);cbv)|(refine AllS.mk fun r hr=> ?_;(try simp only[Dat.ok,Dat.dec,Leaf.ok,Leaf.val,Z0,Z1,Z2,Z3,Z4,Z5,Z6,Z7,Z8,Z9,Z10,Z11,Z12,Z13,Z14,qA]at hr);cbv)
     all_goals first
      |(show x.c.length=(x.c.set x.w (l.getD x.j Dat.d0)).length;rw[List.length_set];done)
      |(show _=(x.c.set x.w (l.getD x.j Dat.d0)).getD _ Dat.d0
        rw[←e];exact qTm (by omega))
      |fail)
  |(have hjl:x.j<l.length:=by omega
    have hn:x.c.getD x.j Dat.d0=(⟨#[]⟩:ByteArray):=by assumption
    have e:x.c.getD x.j Dat.d0=l.getD x.j Dat.d0:=x.h2 _ (Nat.le_refl _)
    rw[e]at hn
    refine⟨x.drop hjl (qYp hn), ?_, ?_,rfl,by show l.length-(x.j+1)<l.length-x.j;omega⟩
    ·cbv
     repeat' first|(refine Stp.mk ?_;cbv)|(refine Gen.mk fun r hr=> ?_;(try simp only[Dat.ok,Dat.dec,Leaf.ok,Leaf.val,Z0,Z1,Z2,Z3,Z4,Z5,Z6,Z7,Z8,Z9,Z10,Z11,Z12,Z13,Z14,qA,qB]at hr);cbv)|exact trivial|rfl|refine Both.mk ?_ ?_|(refine Imp.mk fun h=> ?_;(try dsimp only at h);(try simp only[nc,Int.toNat_natCast,ne_eq,zz]at h);(try simp only[nc]at h))|refine Ob.mk ?_ ?_|refine Chk.mk (by kernel_rfl) ?_|refine Eq'.mk ?_|(refine AllN.mk fun i hi=> ?_;cbv)|(refine AllC.mk fun c hc hcm=> ?_;(try dsimp only at hc);cbv)|(refine AllS.mk fun r hr=> ?_;(try simp only[Dat.ok,Dat.dec,Leaf.ok,Leaf.val,Z0,Z1,Z2,Z3,Z4,Z5,Z6,Z7,Z8,Z9,Z10,Z11,Z12,Z13,Z14,qA]at hr);cbv)
    ·cbv
     repeat' first|(refine Stp.mk ?_;cbv)|(refine Gen.mk fun r hr=> ?_;(try simp only[Dat.ok,Dat.dec,Leaf.ok,Leaf.val,Z0,Z1,Z2,Z3,Z4,Z5,Z6,Z7,Z8,Z9,Z10,Z11,Z12,Z13,Z14,qA,qB]at hr);cbv)|exact trivial|rfl|refine Both.mk ?_ ?_|(refine Imp.mk fun h=> ?_;(try dsimp only at h);(try simp only[nc,Int.toNat_natCast,ne_eq,zz]at h);(try simp only[nc]at h))|refine Ob.mk ?_ ?_|refine Chk.mk (by kernel_rfl) ?_|refine Eq'.mk ?_|(refine AllN.mk fun i hi=> ?_;cbv)|(refine AllC.mk fun c hc hcm=> ?_;(try dsimp only at hc);cbv)|(refine AllS.mk fun r hr=> ?_;(try simp only[Dat.ok,Dat.dec,Leaf.ok,Leaf.val,Z0,Z1,Z2,Z3,Z4,Z5,Z6,Z7,Z8,Z9,Z10,Z11,Z12,Z13,Z14,qA]at hr);cbv))
  |(obtain⟨q1,q2⟩:=qWa x (by omega)
    subst hK
    cbv
    repeat' first|(refine Stp.mk ?_;cbv)|(refine Gen.mk fun r hr=> ?_;(try simp only[Dat.ok,Dat.dec,Leaf.ok,Leaf.val,Z0,Z1,Z2,Z3,Z4,Z5,Z6,Z7,Z8,Z9,Z10,Z11,Z12,Z13,Z14,qA,qB]at hr);cbv)|exact trivial|rfl|refine Both.mk ?_ ?_|(refine Imp.mk fun h=> ?_;(try dsimp only at h);(try simp only[nc,Int.toNat_natCast,ne_eq,zz]at h);(try simp only[nc]at h))|refine Ob.mk ?_ ?_|refine Chk.mk (by kernel_rfl) ?_|refine Eq'.mk ?_|(refine AllN.mk fun i hi=> ?_;cbv)|(refine AllC.mk fun c hc hcm=> ?_;(try dsimp only at hc);cbv)|(refine AllS.mk fun r hr=> ?_;(try simp only[Dat.ok,Dat.dec,Leaf.ok,Leaf.val,Z0,Z1,Z2,Z3,Z4,Z5,Z6,Z7,Z8,Z9,Z10,Z11,Z12,Z13,Z14,qA]at hr);cbv)
    all_goals first
     |exact q1
     |exact q1.symm
     |exact q2 _ (by assumption)
     |exact(q2 _ (by assumption)).symm
     |fail)
  |fail
def qWc:OwnS ByteArray:={pre:=fun r l=>match r with|[.fn g []]=>g=42∧l.length≤4611686018427387903|_=>False,fin:=fun _ l=>l.filter neB,res:=some (fun _ l=>(l.filter neB).length),kl:=false}
noncomputable def qR3:Con:=qLB ByteArray 9 qWc
theorem qTo {A:List AV}{H:Hp}{K:qBm}(h:qR3 A H K):qO Tryz.prog 41 A H K:=qJp (fun _ _ h=>by cases h) (fun rest d _ hp=>by
 have hp:(match (generalizing:=false) rest with|[.fn g []]=>g=42∧d.length≤4611686018427387903|_=>False):=hp
 split at hp
 ·obtain⟨q1,q2⟩:=hp
  subst q1
  exact qTn d q2
 ·cases hp) h
end Go.Proofs.YtiaiifcgbjlfoaaGreatDoor
