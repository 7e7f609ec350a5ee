/- prog.Parse: walked. -/
import Derived.Test.YtiaiifcgbjlfoaaGreatDoorPgr2
import Derived.Test.YtiaiifcgbjlfoaaGreatDoorPgr3
import Derived.Test.YtiaiifcgbjlfoaaGreatDoorVm
import Derived.Test.YtiaiifcgbjlfoaaGreatDoorMul
import Derived.Test.YtiaiifcgbjlfoaaGreatDoorAbsG3
set_option linter.all false
namespace Go.Proofs.YtiaiifcgbjlfoaaGreatDoor
open Go Go.Abs
noncomputable def qKN:FuncId→Con:=fun f=>match f with
 |115=>qH (qM qKM)
 |_=>fun _ _ _=>Bad 1001
theorem qMW:qY Tryz.prog qKN:=fun f A H K h=>by
 unfold qKN at h
 split at h
 ·exact⟨⟨Tryz.f115,Tryz.func115,by kernel_rfl,by kernel_rfl⟩,qE qQF h⟩
 ·cases h
noncomputable def qOP:FuncId→Con:=fun f=>match f with
 |78=>qAg E qKN qAa [0,1,4,5,6,7,8,9] Tryz.f78
 |_=>fun _ _ _=>Bad 1001
theorem qMX:qY Tryz.prog qOP:=fun f A H K h=>by
 unfold qOP at h
 split at h
 ·exact⟨⟨Tryz.f78,Tryz.func78,by kernel_rfl,by kernel_rfl⟩,qAi qI zl qMW qD Tryz.func78 h⟩
 ·cases h
def qSh:FuncId→Option Dt:=fun f=>match f with
 |_=>none
theorem qOQ:qBk Tryz.prog qSh:=fun f d h=>by
 unfold qSh at h
 split at h
 ·cases h
structure rpIns_X (n:Int) where
 k:Nat
 hk:(k:Int)≤n
 h1:1≤k∨n=0
def qET (r:Th ((List Ins))):AV:= .own 0 fun _=>(r ()).length
def qGl (r:Th ((List Ins))):Hp:=[qA2 131 fun _=>(r ())]
def qDK (x:(List Ins)) (n:Int):(List Ins):=List.replicate n.toNat (x.getD 0 Dat.d0)
def qOR (x:(List Ins)) (n:Int):Prop:=x.length=1∧0≤n∧n≤1000000
set_option maxRecDepth 100000 in
set_option maxHeartbeats 4000000 in
theorem qQG (x:(List Ins)) (n:Int) (hp:qOR x n):qO Tryz.prog 46 [Leaf.av fun _=>x,.i .i64 fun _=>n] [] (qAf (qET fun _=>qDK x n) (qGl fun _=>qDK x n)):=by
 refine qAe qI zl qMX (qAb qI zl qOQ mixed) (keep:=[0,1,4,5,6,7,8,10,26,37]) Tryz.func46 rfl ?_
 obtain⟨p1,p2,p3⟩:x.length=1∧0≤n∧n≤1000000:=hp
 have fin:∀kl,qAf (qET fun _=>List.replicate n.toNat (x.getD 0 Dat.d0)) (qGl fun _=>List.replicate n.toNat (x.getD 0 Dat.d0)) (.own 0 fun _=>n.toNat) [qA2 131 fun _=>List.replicate n.toNat (x.getD 0 Dat.d0)] kl:=fun kl=>by
  cbv
  repeat' first|(refine Stp.mk ?_;cbv)|(refine Gen.mk fun r hr=> ?_;(try simp only[Dat.ok,Dat.dec,Leaf.ok,Leaf.val,Z0,Z1,Z2,Z3,Z4,Z5,Z6,Z7,Z8,Z9,Z10,Z11,Z12,Z13,Z14,qA,qB]at hr);cbv)|exact trivial|rfl|refine Both.mk ?_ ?_|(refine Imp.mk fun h=> ?_;(try dsimp only at h);(try simp only[nc,Int.toNat_natCast,ne_eq,zz]at h);(try simp only[nc]at h))|refine Ob.mk ?_ ?_|refine Chk.mk (by kernel_rfl) ?_|refine Eq'.mk ?_|(refine AllN.mk fun i hi=> ?_;cbv)|(refine AllC.mk fun c hc hcm=> ?_;(try dsimp only at hc);cbv)|(refine AllS.mk fun r hr=> ?_;(try simp only[Dat.ok,Dat.dec,Leaf.ok,Leaf.val,Z0,Z1,Z2,Z3,Z4,Z5,Z6,Z7,Z8,Z9,Z10,Z11,Z12,Z13,Z14,qA]at hr);cbv)
  all_goals first|(simp;done)|rfl
 have fin2:qAf (qET fun _=>qDK x n) (qGl fun _=>qDK x n)=qAf (qET fun _=>List.replicate n.toNat (x.getD 0 Dat.d0)) (qGl fun _=>List.replicate n.toNat (x.getD 0 Dat.d0)):=rfl
 rw[fin2]
 clear fin2
 generalize qAf (qET fun _=>List.replicate n.toNat (x.getD 0 Dat.d0)) (qGl fun _=>List.replicate n.toNat (x.getD 0 Dat.d0))=K at fin ⊢
 have w1:IntKind.u64.wrap (x.length:Int)=1:=by rw[wrap_u64 (by omega) (by omega)];omega
 have w2:IntKind.u64.wrap n=n:=wrap_u64 (by omega) (by omega)
 have hm1:(qXO 1 n).1=0:=by show 1*n/18446744073709551616=0;omega
 have hm2:(qXO 1 n).2=n:=by show 1*n%18446744073709551616=n;omega
 have w3:IntKind.i64.wrap n=n:=wrap64_in (by unfold InR;omega)
 cbv
 repeat' first|(show Stp _;exfalso;first|omega|(exact h ‹_›)|(exact absurd ‹_› h)|(exact Bool.false_ne_true (h.symm.trans (show _=true by assumption))))|(refine Stp.mk ?_;cbv)|(refine Gen.mk fun r hr=> ?_;(try simp only[Dat.ok,Dat.dec,Leaf.ok,Leaf.val,Z0,Z1,Z2,Z3,Z4,Z5,Z6,Z7,Z8,Z9,Z10,Z11,Z12,Z13,Z14,qA,qB]at hr);cbv)|exact trivial|rfl|refine Both.mk ?_ ?_|(refine Imp.mk fun h=> ?_;(try dsimp only at h);(try simp only[nc,Int.toNat_natCast,ne_eq,zz]at h);(try simp only[nc]at h))|refine Ob.mk ?_ ?_|refine Chk.mk (by kernel_rfl) ?_|refine Eq'.mk ?_|(refine AllN.mk fun i hi=> ?_;cbv)|(refine AllC.mk fun c hc hcm=> ?_;(try dsimp only at hc);cbv)|(refine AllS.mk fun r hr=> ?_;(try simp only[Dat.ok,Dat.dec,Leaf.ok,Leaf.val,Z0,Z1,Z2,Z3,Z4,Z5,Z6,Z7,Z8,Z9,Z10,Z11,Z12,Z13,Z14,qA]at hr);cbv)
 all_goals ((try dsimp only at*);(try simp only[nc,Int.toNat_natCast,ne_eq,zz]at*);(try simp only[nc]at*))
 all_goals try simp only[w1,w2,hm1,hm2,w3]
 all_goals try simp only[w1,w2,hm1,hm2,w3]at h
 all_goals first
  |omega
  |(unfold InR;omega)
  |(exfalso;omega)
  |exact⟨by omega,by omega,by omega,by omega⟩
  |exact⟨trivial,by omega⟩
  |skip
 all_goals have hmin:((min x.length n.toNat:Nat))=(if n=0 then 0 else 1):=by split<;>omega
 refine LoopVC.frame [8,37] (rpIns_X n) (fun x=>[(8,.i .i64 fun _=>x.k)]) (fun y=>[(0,qA2 131 fun _=>qHO (x.getD 0 Dat.d0) y.k n.toNat)]) [] (fun x=>n.toNat-x.k)
  ⟨if n=0 then 0 else 1,by split<;>omega,by split<;>omega⟩ rfl (fun _=>rfl) ?_ ?_ fun⟨k,hk,h1⟩=> ?_
 ·cbv
  repeat' first|(refine Stp.mk ?_;cbv)|(refine Gen.mk fun r hr=> ?_;(try simp only[Dat.ok,Dat.dec,Leaf.ok,Leaf.val,Z0,Z1,Z2,Z3,Z4,Z5,Z6,Z7,Z8,Z9,Z10,Z11,Z12,Z13,Z14,qA,qB]at hr);cbv)|exact trivial|rfl|refine Both.mk ?_ ?_|(refine Imp.mk fun h=> ?_;(try dsimp only at h);(try simp only[nc,Int.toNat_natCast,ne_eq,zz]at h);(try simp only[nc]at h))|refine Ob.mk ?_ ?_|refine Chk.mk (by kernel_rfl) ?_|refine Eq'.mk ?_|(refine AllN.mk fun i hi=> ?_;cbv)|(refine AllC.mk fun c hc hcm=> ?_;(try dsimp only at hc);cbv)|(refine AllS.mk fun r hr=> ?_;(try simp only[Dat.ok,Dat.dec,Leaf.ok,Leaf.val,Z0,Z1,Z2,Z3,Z4,Z5,Z6,Z7,Z8,Z9,Z10,Z11,Z12,Z13,Z14,qA]at hr);cbv)
  all_goals ((try dsimp only at*);(try simp only[nc,Int.toNat_natCast,ne_eq,zz]at*);(try simp only[nc]at*))
  all_goals try simp only[hmin]
  all_goals first|rfl|(split<;>rfl)|fail
 ·cbv
  repeat' first|(refine Stp.mk ?_;cbv)|(refine Gen.mk fun r hr=> ?_;(try simp only[Dat.ok,Dat.dec,Leaf.ok,Leaf.val,Z0,Z1,Z2,Z3,Z4,Z5,Z6,Z7,Z8,Z9,Z10,Z11,Z12,Z13,Z14,qA,qB]at hr);cbv)|exact trivial|rfl|refine Both.mk ?_ ?_|(refine Imp.mk fun h=> ?_;(try dsimp only at h);(try simp only[nc,Int.toNat_natCast,ne_eq,zz]at h);(try simp only[nc]at h))|refine Ob.mk ?_ ?_|refine Chk.mk (by kernel_rfl) ?_|refine Eq'.mk ?_|(refine AllN.mk fun i hi=> ?_;cbv)|(refine AllC.mk fun c hc hcm=> ?_;(try dsimp only at hc);cbv)|(refine AllS.mk fun r hr=> ?_;(try simp only[Dat.ok,Dat.dec,Leaf.ok,Leaf.val,Z0,Z1,Z2,Z3,Z4,Z5,Z6,Z7,Z8,Z9,Z10,Z11,Z12,Z13,Z14,qA]at hr);cbv)
  all_goals ((try dsimp only at*);(try simp only[nc,Int.toNat_natCast,ne_eq,zz]at*);(try simp only[nc]at*))
  all_goals first
   |exact(qEa _ _ _).symm
   |(have hi2:i<n.toNat:=by assumption
     rw[qEb hi2,hmin]
     by_cases hn:n=0
     ·omega
     ·rw[if_neg hn]
      by_cases hi0:i=0
      ·subst hi0;rfl
      ·have hd:decide (0≤i∧i<0+1)=false:=decide_eq_false (by omega)
       rw[if_neg (by omega),hd];rfl)
   |fail
 ·have hlen:(qHO (x.getD 0 Dat.d0) k n.toNat).length=n.toNat:=qEa _ _ _
  cbv
  repeat' first|(show Stp _;exfalso;first|omega|(exact h ‹_›)|(exact absurd ‹_› h)|(exact Bool.false_ne_true (h.symm.trans (show _=true by assumption))))|(refine Stp.mk ?_;cbv)|(refine Gen.mk fun r hr=> ?_;(try simp only[Dat.ok,Dat.dec,Leaf.ok,Leaf.val,Z0,Z1,Z2,Z3,Z4,Z5,Z6,Z7,Z8,Z9,Z10,Z11,Z12,Z13,Z14,qA,qB]at hr);cbv)|exact trivial|rfl|refine Both.mk ?_ ?_|(refine Imp.mk fun h=> ?_;(try dsimp only at h);(try simp only[nc,Int.toNat_natCast,ne_eq,zz]at h);(try simp only[nc]at h))|refine Ob.mk ?_ ?_|refine Chk.mk (by kernel_rfl) ?_|refine Eq'.mk ?_|(refine AllN.mk fun i hi=> ?_;cbv)|(refine AllC.mk fun c hc hcm=> ?_;(try dsimp only at hc);cbv)|(refine AllS.mk fun r hr=> ?_;(try simp only[Dat.ok,Dat.dec,Leaf.ok,Leaf.val,Z0,Z1,Z2,Z3,Z4,Z5,Z6,Z7,Z8,Z9,Z10,Z11,Z12,Z13,Z14,qA]at hr);cbv)
  all_goals ((try dsimp only at*);(try simp only[nc,Int.toNat_natCast,ne_eq,zz]at*);(try simp only[nc]at*))
  all_goals try rw[nc]at*
  all_goals first
   |omega
   |(unfold InR;omega)
   |(have hm3:min ((k:Int)-0).toNat ((n.toNat:Int)-k).toNat≤k:=by omega
     refine⟨⟨k+min ((k:Int)-0).toNat ((n.toNat:Int)-k).toNat,by omega,by omega⟩, ?_, ?_,rfl,by(try dsimp only);omega⟩
     ·cbv
      repeat' first|(refine Stp.mk ?_;cbv)|(refine Gen.mk fun r hr=> ?_;(try simp only[Dat.ok,Dat.dec,Leaf.ok,Leaf.val,Z0,Z1,Z2,Z3,Z4,Z5,Z6,Z7,Z8,Z9,Z10,Z11,Z12,Z13,Z14,qA,qB]at hr);cbv)|exact trivial|rfl|refine Both.mk ?_ ?_|(refine Imp.mk fun h=> ?_;(try dsimp only at h);(try simp only[nc,Int.toNat_natCast,ne_eq,zz]at h);(try simp only[nc]at h))|refine Ob.mk ?_ ?_|refine Chk.mk (by kernel_rfl) ?_|refine Eq'.mk ?_|(refine AllN.mk fun i hi=> ?_;cbv)|(refine AllC.mk fun c hc hcm=> ?_;(try dsimp only at hc);cbv)|(refine AllS.mk fun r hr=> ?_;(try simp only[Dat.ok,Dat.dec,Leaf.ok,Leaf.val,Z0,Z1,Z2,Z3,Z4,Z5,Z6,Z7,Z8,Z9,Z10,Z11,Z12,Z13,Z14,qA]at hr);cbv)
      all_goals ((try dsimp only at*);(try simp only[nc,Int.toNat_natCast,ne_eq,zz]at*);(try simp only[nc]at*))
      all_goals first|rfl|(simp;omega)|fail
     ·cbv
      repeat' first|(refine Stp.mk ?_;cbv)|(refine Gen.mk fun r hr=> ?_;(try simp only[Dat.ok,Dat.dec,Leaf.ok,Leaf.val,Z0,Z1,Z2,Z3,Z4,Z5,Z6,Z7,Z8,Z9,Z10,Z11,Z12,Z13,Z14,qA,qB]at hr);cbv)|exact trivial|rfl|refine Both.mk ?_ ?_|(refine Imp.mk fun h=> ?_;(try dsimp only at h);(try simp only[nc,Int.toNat_natCast,ne_eq,zz]at h);(try simp only[nc]at h))|refine Ob.mk ?_ ?_|refine Chk.mk (by kernel_rfl) ?_|refine Eq'.mk ?_|(refine AllN.mk fun i hi=> ?_;cbv)|(refine AllC.mk fun c hc hcm=> ?_;(try dsimp only at hc);cbv)|(refine AllS.mk fun r hr=> ?_;(try simp only[Dat.ok,Dat.dec,Leaf.ok,Leaf.val,Z0,Z1,Z2,Z3,Z4,Z5,Z6,Z7,Z8,Z9,Z10,Z11,Z12,Z13,Z14,qA]at hr);cbv)
      all_goals ((try dsimp only at*);(try simp only[nc,Int.toNat_natCast,ne_eq,zz]at*);(try simp only[nc]at*))
      all_goals have e0:((k:Int)-0).toNat=k:=by omega
      all_goals try simp only[e0]at*
      all_goals first
       |(rw[qEa,qEa];done)
       |(have hi3:i<n.toNat:=by omega
         have hs:=qMK (a:=x.getD 0 Dat.d0) (k:=k) (m:=min k ((n.toNat:Int)-k).toNat) (by omega) hi3 (by omega)
         first
          |exact hs.symm
          |(refine Eq.trans ?_ (congrArg _ hs.symm);cases decide (k≤i∧i<k+min k ((n.toNat:Int)-k).toNat)<;>rfl))
       |fail)
   |exact⟨trivial,by omega,by omega⟩
   |exact⟨⟨trivial,by omega⟩,by omega⟩
   |(have e:qHO (x.getD 0 Dat.d0) k n.toNat=List.replicate n.toNat (x.getD 0 Dat.d0):=qMJ _ (by omega)
     rw[e]
     exact fin _)
   |fail
def qH3:qUK:=fun A=>match A with
 |[x,.i .i64 n]=>some (fun _=>Leaf.ok (List Ins) x∧qOR (Leaf.val x) (n ()),qET fun _=>qDK (Leaf.val x) (n ()),qA2 131 fun _=>(qDK (Leaf.val x) (n ()):(List Ins)))
 |_=>none
theorem qMY:qBf Tryz.prog 46 (qGU qH3):=qSV fun A p r o h hp0=>by
 unfold qH3 at h
 split at h
 ·rename_i x n
  cases h
  obtain⟨g0,hp⟩:=hp0
  exact qO.pre (A':=[Leaf.av fun _=>(Leaf.val x:(List Ins)),.i .i64 fun _=>n ()]) (qO.out (qQG (Leaf.val x) (n ()) hp) rfl ⟨rfl,rfl⟩) (.mk (Leaf.hle _ g0) (.mk (.mk (.mk rfl) (.mk rfl)) (trivial)))
 ·cases h
def qYf:ByteArray:=⟨#[59]⟩
def sp1:ByteArray:=⟨#[32]⟩
def nl1:ByteArray:=⟨#[10]⟩
def qBl (l:ByteArray):List ByteArray:=(splitV (cutV l qYf).1 sp1).filter neB
def idxFrom (w:ByteArray):List shape→Int→Int
 |[],_=> -1
 |s::r,n=>if s.word=w then n else idxFrom w r (n+1)
def qOS:Ins:=⟨11,0,0⟩
inductive LineR where
 |no
 |bad
 |ins (i:Ins)
def qEi (l:ByteArray):LineR:=
 if(qBl l).length=0 then .no else
 if idxFrom ((qBl l).getD 0 Dat.d0) qN 0<1 then .bad else
 if(qC4 (qN.getD (idxFrom ((qBl l).getD 0 Dat.d0) qN 0).toNat Dat.d0) (idxFrom ((qBl l).getD 0 Dat.d0) qN 0) (qBl l)).2=false then .bad else
 if qAn (List.replicate 99 qOS++[(qC4 (qN.getD (idxFrom ((qBl l).getD 0 Dat.d0) qN 0).toNat Dat.d0) (idxFrom ((qBl l).getD 0 Dat.d0) qN 0) (qBl l)).1])=0 then
  .ins (qC4 (qN.getD (idxFrom ((qBl l).getD 0 Dat.d0) qN 0).toNat Dat.d0) (idxFrom ((qBl l).getD 0 Dat.d0) qN 0) (qBl l)).1 else .bad
def parseL:List ByteArray→Int→List Ins→List Ins×Int×Int
 |[],_,out=>if qAn out=0 then(out,0,0)else([],0,qAn out)
 |l::r,n,out=>match qEi l with
  | .no=>parseL r (n+1) out
  | .bad=>([],n,10)
  | .ins i=>parseL r (n+1) (out++[i])
def qC7 (s:ByteArray):List Ins×Int×Int:=if 10000<s.size then([],0,2)else parseL (splitV s nl1) 0 []
theorem qEj {c:UInt8}:∀(l:List UInt8),∀x∈qBb c l,x.length≤l.length
 |[],x,h=>by simp[qBb]at h;simp[h]
 |b::r,x,h=>by
  unfold qBb at h
  split at h
  ·rcases List.mem_cons.1 h with h|h
   ·rw[h];exact Nat.zero_le _
   ·have:=qEj r x h
    rw[List.length_cons];omega
  ·cases e:qBb c r with
   |nil=>exact absurd e (qJD r)
   |cons y t=>
    rw[e]at h
    rcases List.mem_cons.1 h with h|h
    ·have:=qEj r y (by rw[e];exact List.mem_cons_self ..)
     rw[h,List.length_cons,List.length_cons];omega
    ·have:=qEj r x (by rw[e];exact List.mem_cons_of_mem _ h)
     rw[List.length_cons];omega
theorem qHd (c:UInt8) (s:ByteArray):splitV s ⟨#[c]⟩=(qBb c s.data.toList).map fun l=>(⟨l.toArray⟩:ByteArray):=qOn s
theorem qJF {c:UInt8}{s x:ByteArray}(h:x∈splitV s ⟨#[c]⟩):x.size≤s.size:=by
 rw[qHd]at h
 obtain⟨l,hl,rfl⟩:=List.mem_map.1 h
 have:=qEj _ _ hl
 have e:=Lib.size_eq s
 show l.toArray.size≤s.size
 rw[List.size_toArray];omega
theorem qEU {c:UInt8}{s:ByteArray}:(splitV s ⟨#[c]⟩).length≤s.size+1:=by
 rw[qHd,List.length_map,qES]
 have:=List.count_le_length (a:=c) (l:=s.data.toList)
 have e:=Lib.size_eq s
 omega
theorem qEk (s:ByteArray):(cutV s qYf).1.size≤s.size:=by
 show(Lib.cut s.data.toList [59]).1.toArray.size≤_
 rw[qTe,List.size_toArray,Lib.size_eq s]
 exact(List.takeWhile_prefix _).length_le
theorem qOT {l x:ByteArray}(h:x∈qBl l):x.size≤l.size:=
 Nat.le_trans (qJF (List.mem_filter.1 h).1) (qEk l)
theorem qMZ (l:ByteArray):(qBl l).length≤l.size+1:=
 Nat.le_trans (List.length_filter_le ..) (Nat.le_trans qEU (Nat.succ_le_succ (qEk l)))
def dP2:FuncId→Option Dt:=fun f=>match f with
 |_=>none
theorem qWs:qBk Tryz.prog dP2:=fun f d h=>by
 unfold dP2 at h
 split at h
 ·cases h
noncomputable def cP2:FuncId→Con:=fun f=>match f with
 |44=>qAg E qDx (qHK E dP2) [0,1,2,3] Tryz.f44
 |_=>fun _ _ _=>Bad 1001
theorem qWt:qY Tryz.prog cP2:=fun f A H K h=>by
 unfold cP2 at h
 split at h
 ·exact⟨⟨Tryz.f44,Tryz.func44,by kernel_rfl,by kernel_rfl⟩,qAi qI zl qP (qAb qI zl qWs mixed) Tryz.func44 h⟩
 ·cases h
noncomputable def cPa:FuncId→Con:=fun f=>match f with
 |38=>qDE qGk
 |39=>qH qHV
 |40=>qH (qM qOq)
 |41=>qR3
 |43=>qAg E cP2 qAa [0,1,4,5,7,8,9,16] Tryz.f43
 |30=>qH (qM qDr)
 |_=>fun _ _ _=>Bad 1001
theorem qWu:qY Tryz.prog cPa:=fun f A H K h=>by
 unfold cPa at h
 split at h
 ·exact⟨⟨Tryz.f38,Tryz.func38,by kernel_rfl,by kernel_rfl⟩,qAY qKK h⟩
 ·exact⟨⟨Tryz.f39,Tryz.func39,by kernel_rfl,by kernel_rfl⟩,qE qOs h⟩
 ·exact⟨⟨Tryz.f40,Tryz.func40,by kernel_rfl,by kernel_rfl⟩,qE qTh h⟩
 ·exact⟨⟨Tryz.f41,Tryz.func41,by kernel_rfl,by kernel_rfl⟩,qTo h⟩
 ·exact⟨⟨Tryz.f43,Tryz.func43,by kernel_rfl,by kernel_rfl⟩,qAi qI zl qWt qD Tryz.func43 h⟩
 ·exact⟨⟨Tryz.f30,Tryz.func30,by kernel_rfl,by kernel_rfl⟩,qE qEf h⟩
 ·cases h
def dPa:FuncId→Option Dt:=fun f=>match f with
 |45=>some (.c qKL)
 |46=>some (.n qH3)
 |30=>some (.c qDr)
 |_=>none
theorem qWv:qBk Tryz.prog dPa:=fun f d h=>by
 unfold dPa at h
 split at h
 ·cases h;exact⟨⟨Tryz.f45,Tryz.func45,by kernel_rfl,by kernel_rfl⟩,qQC⟩
 ·cases h;exact⟨⟨Tryz.f46,Tryz.func46,by kernel_rfl,by kernel_rfl⟩,qMY⟩
 ·cases h;exact⟨⟨Tryz.f30,Tryz.func30,by kernel_rfl,by kernel_rfl⟩,qEf⟩
 ·cases h
theorem qEV {l:List ByteArray}{k:Nat}(h:k<l.length):l.drop k=l.getD k Dat.d0::l.drop (k+1):=by
 rw[List.drop_eq_getElem_cons h,List.getD_eq_getElem?_getD,List.getElem?_eq_getElem h];rfl
theorem qHe {l:List shape}{k:Nat}(h:k<l.length):l.drop k=l.getD k Dat.d0::l.drop (k+1):=by
 rw[List.drop_eq_getElem_cons h,List.getD_eq_getElem?_getD,List.getElem?_eq_getElem h];rfl
theorem qQH {L:List ByteArray}{k:Nat}{out:List Ins}(h:k<L.length) (e:qEi (L.getD k Dat.d0)= .no):parseL (L.drop k) k out=parseL (L.drop (k+1)) ((k+1:Nat):Int) out:=by
 rw[qEV h,parseL,e];rfl
theorem qGm {L:List ByteArray}{k:Nat}{out:List Ins}(h:k<L.length) (e:qEi (L.getD k Dat.d0)= .bad):parseL (L.drop k) k out=([],(k:Int),10):=by
 rw[qEV h,parseL,e]
theorem qOU {L:List ByteArray}{k:Nat}{out:List Ins}{i:Ins}(h:k<L.length) (e:qEi (L.getD k Dat.d0)= .ins i):parseL (L.drop k) k out=parseL (L.drop (k+1)) ((k+1:Nat):Int) (out++[i]):=by
 rw[qEV h,parseL,e];rfl
theorem qJG {L:List ByteArray}{k:Nat}{out:List Ins}(h:L.length≤k):parseL (L.drop k) k out=if qAn out=0 then(out,0,0)else([],0,qAn out):=by
 rw[List.drop_eq_nil_of_le h,parseL]
theorem qTv {l:ByteArray}{r r2:List ByteArray}(h1:r=r2) (h:r2=splitV (cutV l qYf).1 sp1) (h0:((List.filter neB r).length:Int)=0):qEi l= .no:=by
 unfold qEi
 rw[if_pos]
 unfold qBl
 rw[←h,←h1];omega
theorem qWw:(List.replicate 99 qOS).length=99:=rfl
theorem qWx (x:shape):(⟨x.word,x.a,⟨x.b.n⟩⟩:shape)=x:=rfl
theorem shl:qN.length=12:=rfl
theorem qQI {l:ByteArray}{w:List ByteArray}(hw:w=qBl l) (h0:0<w.length) (h:idxFrom (w.getD 0 Dat.d0) qN 0<1):qEi l= .bad:=by
 unfold qEi
 rw[←hw,if_neg (by omega),if_pos h]
theorem qQJ {l:ByteArray}{w:List ByteArray}{j:Nat}(hw:w=qBl l) (h0:0<w.length) (hi:idxFrom (w.getD 0 Dat.d0) qN 0=(j:Int)) (h1:1≤(j:Int)) (h:(qC4 (qN.getD j Dat.d0) j w).2=false):qEi l= .bad:=by
 unfold qEi
 rw[←hw,hi,if_neg (by omega),if_neg (by omega),Int.toNat_natCast,if_pos h]
theorem qQK {l:ByteArray}{w:List ByteArray}{j:Nat}(hw:w=qBl l) (h0:0<w.length) (hi:idxFrom (w.getD 0 Dat.d0) qN 0=(j:Int)) (h1:1≤(j:Int)) (h:(qC4 (qN.getD j Dat.d0) j w).2=true) (hc:¬qAn (List.replicate 99 qOS++[(qC4 (qN.getD j Dat.d0) j w).1])=0):qEi l= .bad:=by
 unfold qEi
 rw[←hw,hi,if_neg (by omega),if_neg (by omega),Int.toNat_natCast,if_neg (by rw[h];exact Bool.noConfusion),if_neg hc]
theorem qTw {l:ByteArray}{w:List ByteArray}{j:Nat}(hw:w=qBl l) (h0:0<w.length) (hi:idxFrom (w.getD 0 Dat.d0) qN 0=(j:Int)) (h1:1≤(j:Int)) (h:(qC4 (qN.getD j Dat.d0) j w).2=true) (hc:qAn (List.replicate 99 qOS++[(qC4 (qN.getD j Dat.d0) j w).1])=0):qEi l= .ins (qC4 (qN.getD j Dat.d0) j w).1:=by
 unfold qEi
 rw[←hw,hi,if_neg (by omega),if_neg (by omega),Int.toNat_natCast,if_neg (by rw[h];exact Bool.noConfusion),if_pos hc]
structure IdX (w:ByteArray) where
 k:Nat
 hk:k≤qN.length
 hr:idxFrom w qN 0=idxFrom w (qN.drop k) k
theorem qH4 {w:ByteArray}{k:Nat}(h:k<qN.length) (hr:idxFrom w qN 0=idxFrom w (qN.drop k) k) (e:(qN.getD k Dat.d0).word=w):idxFrom w qN 0=k:=by
 rw[hr,qHe h,idxFrom,if_pos e]
theorem qQL {w:ByteArray}{k:Nat}(h:k<qN.length) (hr:idxFrom w qN 0=idxFrom w (qN.drop k) k) (e:¬(qN.getD k Dat.d0).word=w):idxFrom w qN 0=idxFrom w (qN.drop (k+1)) ((k+1:Nat):Int):=by
 rw[hr,qHe h,idxFrom,if_neg e];rfl
theorem qQM {w:ByteArray}{k:Nat}(h:qN.length≤k) (hr:idxFrom w qN 0=idxFrom w (qN.drop k) k):idxFrom w qN 0= -1:=by
 rw[hr,List.drop_eq_nil_of_le h,idxFrom]
structure PbX (L:List ByteArray) where
 k:Nat
 hk:k≤L.length
 out:List Ins
 ho:out.length≤k
 hr:parseL L 0 []=parseL (L.drop k) k out
def qGn (r:Th ((List Ins)×Int×Int)):AV:= .tup [.own 0 fun _=>(r ()).1.length,.i .i64 fun _=>(r ()).2.1,.i .i64 fun _=>(r ()).2.2]
def qGo (r:Th ((List Ins)×Int×Int)):Hp:=[qA2 131 fun _=>(r ()).1]
set_option maxRecDepth 100000 in
set_option maxHeartbeats 4000000 in
theorem qM0 (s:ByteArray):qO Tryz.prog 13 [.s fun _=>s] [] (qAf (qGn fun _=>qC7 s) (qGo fun _=>qC7 s)):=by
 refine qAe qI zl qWu (qAb qI zl qWv mixed) (keep:=[0,2,3,4,5,6,7,8,9,10,11,12,13,16,19,20,21,22,37,42,65,75]) Tryz.func13 rfl ?_
 have fin0:∀n e H kl,qC7 s=([],n,e)→qAf (qGn fun _=>qC7 s) (qGo fun _=>qC7 s) (.tup [.nil,.i .i64 fun _=>n,.i .i64 fun _=>e]) H kl:=fun n e H kl h=>by
  rw[h]
  cbv
  repeat' first|(refine Stp.mk ?_;cbv)|(refine Gen.mk fun r hr=> ?_;(try simp only[Dat.ok,Dat.dec,Leaf.ok,Leaf.val,Z0,Z1,Z2,Z3,Z4,Z5,Z6,Z7,Z8,Z9,Z10,Z11,Z12,Z13,Z14,qA,qB]at hr);cbv)|exact trivial|rfl|refine Both.mk ?_ ?_|(refine Imp.mk fun h=> ?_;(try dsimp only at h);(try simp only[nc,Int.toNat_natCast,ne_eq,zz]at h);(try simp only[nc]at h))|refine Ob.mk ?_ ?_|refine Chk.mk (by kernel_rfl) ?_|refine Eq'.mk ?_|(refine AllN.mk fun i hi=> ?_;cbv)|(refine AllC.mk fun c hc hcm=> ?_;(try dsimp only at hc);cbv)|(refine AllS.mk fun r hr=> ?_;(try simp only[Dat.ok,Dat.dec,Leaf.ok,Leaf.val,Z0,Z1,Z2,Z3,Z4,Z5,Z6,Z7,Z8,Z9,Z10,Z11,Z12,Z13,Z14,qA]at hr);cbv)
  all_goals exact absurd hi (Nat.not_lt_zero _)
 generalize hK:qAf (qGn fun _=>qC7 s) (qGo fun _=>qC7 s)=K at fin0 ⊢
 cbv
 repeat' first|(show Stp _;exfalso;first|omega|(exact h ‹_›)|(exact absurd ‹_› h)|(exact Bool.false_ne_true (h.symm.trans (show _=true by assumption))))|(refine Stp.mk ?_;cbv)|(refine Gen.mk fun r hr=> ?_;(try simp only[Dat.ok,Dat.dec,Leaf.ok,Leaf.val,Z0,Z1,Z2,Z3,Z4,Z5,Z6,Z7,Z8,Z9,Z10,Z11,Z12,Z13,Z14,qA,qB]at hr);cbv)|exact trivial|rfl|refine Both.mk ?_ ?_|(refine Imp.mk fun h=> ?_;(try dsimp only at h);(try simp only[nc,Int.toNat_natCast,ne_eq,zz]at h);(try simp only[nc]at h))|refine Ob.mk ?_ ?_|refine Chk.mk (by kernel_rfl) ?_|refine Eq'.mk ?_|(refine AllN.mk fun i hi=> ?_;cbv)|(refine AllC.mk fun c hc hcm=> ?_;(try dsimp only at hc);cbv)|(refine AllS.mk fun r hr=> ?_;(try simp only[Dat.ok,Dat.dec,Leaf.ok,Leaf.val,Z0,Z1,Z2,Z3,Z4,Z5,Z6,Z7,Z8,Z9,Z10,Z11,Z12,Z13,Z14,qA]at hr);cbv)
 all_goals ((try dsimp only at*);(try simp only[nc,Int.toNat_natCast,ne_eq,zz]at*);(try simp only[nc]at*))
 all_goals try simp only[Dat.dec,Leaf.val,Z0,Z1,Z2,Z3,Z4,Z5,Z6,Z7,Z8,Z9,Z10,Z11,Z12,Z13,Z14,qA]at*
 all_goals try first
  |(refine fin0 _ _ _ _ ?_
    unfold qC7;rw[if_pos (by omega)]
    done)
  |exact⟨by omega,by decide⟩
  |exact⟨by omega,Nat.le_refl _⟩
 have eP:qC7 s=parseL (splitV s nl1) 0 []:=if_neg (by omega)
 have hsz:s.size≤10000:=by omega
 have hr9:=hr.symm
 clear hr
 have hLn:(splitV s nl1).length≤10001:=Nat.le_trans qEU (by omega)
 have hLs:∀k,((splitV s nl1).getD k Dat.d0).size≤10000:=fun k=>by
  rw[List.getD_eq_getElem?_getD]
  cases h:(splitV s nl1)[k]? with
  |none=>exact Nat.zero_le _
  |some x=>exact Nat.le_trans (qJF (List.mem_of_getElem? h)) hsz
 have hr9:splitV s nl1=r:=hr9
 rw[hr9]at eP hLn hLs
 clear hr9
 rename List ByteArray=>L
 refine LoopVC.frame [2,3,4,6,7,8,9,10,11,12,21,22,37,42,65] (PbX L) (fun x=>[(21,.i .i64 fun _=>x.k),(6,.own 1 fun _=>x.out.length)]) (fun x=>[(0,qA2 9 fun _=>L),(1,qA2 131 fun _=>x.out)]) [1,7] (fun x=>L.length-x.k) ⟨0,Nat.zero_le _,[],Nat.le_refl _,rfl⟩ rfl (fun _=>rfl) ?_ ?_ fun⟨k,hk,out,ho,hR⟩=> ?_
 ·cbv
  repeat' first|(refine Stp.mk ?_;cbv)|(refine Gen.mk fun r hr=> ?_;(try simp only[Dat.ok,Dat.dec,Leaf.ok,Leaf.val,Z0,Z1,Z2,Z3,Z4,Z5,Z6,Z7,Z8,Z9,Z10,Z11,Z12,Z13,Z14,qA,qB]at hr);cbv)|exact trivial|rfl|refine Both.mk ?_ ?_|(refine Imp.mk fun h=> ?_;(try dsimp only at h);(try simp only[nc,Int.toNat_natCast,ne_eq,zz]at h);(try simp only[nc]at h))|refine Ob.mk ?_ ?_|refine Chk.mk (by kernel_rfl) ?_|refine Eq'.mk ?_|(refine AllN.mk fun i hi=> ?_;cbv)|(refine AllC.mk fun c hc hcm=> ?_;(try dsimp only at hc);cbv)|(refine AllS.mk fun r hr=> ?_;(try simp only[Dat.ok,Dat.dec,Leaf.ok,Leaf.val,Z0,Z1,Z2,Z3,Z4,Z5,Z6,Z7,Z8,Z9,Z10,Z11,Z12,Z13,Z14,qA]at hr);cbv)
  all_goals exact absurd hi (Nat.not_lt_zero _)
 ·cbv
  repeat' first|(refine Stp.mk ?_;cbv)|(refine Gen.mk fun r hr=> ?_;(try simp only[Dat.ok,Dat.dec,Leaf.ok,Leaf.val,Z0,Z1,Z2,Z3,Z4,Z5,Z6,Z7,Z8,Z9,Z10,Z11,Z12,Z13,Z14,qA,qB]at hr);cbv)|exact trivial|rfl|refine Both.mk ?_ ?_|(refine Imp.mk fun h=> ?_;(try dsimp only at h);(try simp only[nc,Int.toNat_natCast,ne_eq,zz]at h);(try simp only[nc]at h))|refine Ob.mk ?_ ?_|refine Chk.mk (by kernel_rfl) ?_|refine Eq'.mk ?_|(refine AllN.mk fun i hi=> ?_;cbv)|(refine AllC.mk fun c hc hcm=> ?_;(try dsimp only at hc);cbv)|(refine AllS.mk fun r hr=> ?_;(try simp only[Dat.ok,Dat.dec,Leaf.ok,Leaf.val,Z0,Z1,Z2,Z3,Z4,Z5,Z6,Z7,Z8,Z9,Z10,Z11,Z12,Z13,Z14,qA]at hr);cbv)
  all_goals exact absurd hi (Nat.not_lt_zero _)
 have hk9:k≤L.length:=hk
 have ho9:out.length≤k:=ho
 have hR9:parseL L 0 []=parseL (L.drop k) k out:=hR
 have ls:=hLs k
 cbv
 repeat' first|(show Stp _;exfalso;first|omega|(exact h ‹_›)|(exact absurd ‹_› h)|(exact Bool.false_ne_true (h.symm.trans (show _=true by assumption))))|(refine Stp.mk ?_;cbv)|(refine Gen.mk fun r hr=> ?_;(try simp only[Dat.ok,Dat.dec,Leaf.ok,Leaf.val,Z0,Z1,Z2,Z3,Z4,Z5,Z6,Z7,Z8,Z9,Z10,Z11,Z12,Z13,Z14,qA,qB]at hr);cbv)|exact trivial|rfl|refine Both.mk ?_ ?_|(refine Imp.mk fun h=> ?_;(try dsimp only at h);(try simp only[nc,Int.toNat_natCast,ne_eq,zz]at h);(try simp only[nc]at h))|refine Ob.mk ?_ ?_|refine Chk.mk (by kernel_rfl) ?_|refine Eq'.mk ?_|(refine AllN.mk fun i hi=> ?_;cbv)|(refine AllC.mk fun c hc hcm=> ?_;(try dsimp only at hc);cbv)|(refine AllS.mk fun r hr=> ?_;(try simp only[Dat.ok,Dat.dec,Leaf.ok,Leaf.val,Z0,Z1,Z2,Z3,Z4,Z5,Z6,Z7,Z8,Z9,Z10,Z11,Z12,Z13,Z14,qA]at hr);cbv)
 all_goals ((try dsimp only at*);(try simp only[nc,Int.toNat_natCast,ne_eq,zz]at*);(try simp only[nc]at*))
 all_goals try rw[nc]at*
 all_goals try simp only[Dat.dec,Leaf.val,Z0,Z1,Z2,Z3,Z4,Z5,Z6,Z7,Z8,Z9,Z10,Z11,Z12,Z13,Z14,qA]at*
 all_goals try first
  |exact⟨by omega,by omega⟩
  |exact Nat.le_refl _
  |exact Nat.lt_of_le_of_lt ls (by decide)
  |exact⟨Nat.lt_of_le_of_lt (Nat.le_trans (qEk _) ls) (by decide),Nat.le_refl _⟩
  |exact⟨rfl,trivial,fun i _=>Dat.hok _,trivial,by rw[hr];exact Nat.le_trans qEU (Nat.le_trans (Nat.succ_le_succ (Nat.le_trans (qEk _) ls)) (by decide))⟩
  |(show InR ((k:Int)+1);unfold InR;omega)
  |omega
  |exact⟨⟨rfl,fun i _=>Dat.hok _⟩,show _≤_ by omega⟩
  |(refine fin0 _ _ _ _ ?_
    rw[eP,hR9,qJG (by omega),if_neg (by assumption)]
    done)
  |(have eR:qC7 s=(out,0,0):=by rw[eP,hR9,qJG (by omega),if_pos (by assumption)]
    subst hK
    rw[eR]
    cbv
    repeat' first|(refine Stp.mk ?_;cbv)|(refine Gen.mk fun r hr=> ?_;(try simp only[Dat.ok,Dat.dec,Leaf.ok,Leaf.val,Z0,Z1,Z2,Z3,Z4,Z5,Z6,Z7,Z8,Z9,Z10,Z11,Z12,Z13,Z14,qA,qB]at hr);cbv)|exact trivial|rfl|refine Both.mk ?_ ?_|(refine Imp.mk fun h=> ?_;(try dsimp only at h);(try simp only[nc,Int.toNat_natCast,ne_eq,zz]at h);(try simp only[nc]at h))|refine Ob.mk ?_ ?_|refine Chk.mk (by kernel_rfl) ?_|refine Eq'.mk ?_|(refine AllN.mk fun i hi=> ?_;cbv)|(refine AllC.mk fun c hc hcm=> ?_;(try dsimp only at hc);cbv)|(refine AllS.mk fun r hr=> ?_;(try simp only[Dat.ok,Dat.dec,Leaf.ok,Leaf.val,Z0,Z1,Z2,Z3,Z4,Z5,Z6,Z7,Z8,Z9,Z10,Z11,Z12,Z13,Z14,qA]at hr);cbv)
    all_goals fail)
 ·refine⟨⟨k+1,by omega,out,by omega,hR9.trans (qQH (by omega) (qTv hr (by assumption) (by assumption)))⟩, ?_, ?_,rfl,by(try dsimp only);omega⟩
  iterate 2
   ·cbv
    repeat' first|(refine Stp.mk ?_;cbv)|(refine Gen.mk fun r hr=> ?_;(try simp only[Dat.ok,Dat.dec,Leaf.ok,Leaf.val,Z0,Z1,Z2,Z3,Z4,Z5,Z6,Z7,Z8,Z9,Z10,Z11,Z12,Z13,Z14,qA,qB]at hr);cbv)|exact trivial|rfl|refine Both.mk ?_ ?_|(refine Imp.mk fun h=> ?_;(try dsimp only at h);(try simp only[nc,Int.toNat_natCast,ne_eq,zz]at h);(try simp only[nc]at h))|refine Ob.mk ?_ ?_|refine Chk.mk (by kernel_rfl) ?_|refine Eq'.mk ?_|(refine AllN.mk fun i hi=> ?_;cbv)|(refine AllC.mk fun c hc hcm=> ?_;(try dsimp only at hc);cbv)|(refine AllS.mk fun r hr=> ?_;(try simp only[Dat.ok,Dat.dec,Leaf.ok,Leaf.val,Z0,Z1,Z2,Z3,Z4,Z5,Z6,Z7,Z8,Z9,Z10,Z11,Z12,Z13,Z14,qA]at hr);cbv)
 have hw:List.filter neB r=qBl (L.getD k Dat.d0):=by
  exact congrArg (fun r=>List.filter neB r) (hr.trans (by assumption))
 generalize hwe:List.filter neB r=w at*
 have hw0:0<w.length:=by omega
 have hw1:w.length≤10001:=by rw[hw];exact Nat.le_trans (qMZ _) (Nat.succ_le_succ ls)
 have hw2:∀x∈w,x.size≤10000:=fun x h=>by
  rw[hw]at h
  exact Nat.le_trans (qOT h) ls
 refine LoopVC.frame [4,5,8,9,16] (IdX (w.getD 0 Dat.d0)) (fun x=>[(8,.i .i64 fun _=>x.k)]) (fun _=>[]) [] (fun x=>qN.length-x.k) ⟨0,Nat.zero_le _,rfl⟩ rfl (fun _=>rfl) ?_ ?_ fun⟨j,hj,hi⟩=> ?_
 iterate 2
  ·cbv
   repeat' first|(refine Stp.mk ?_;cbv)|(refine Gen.mk fun r hr=> ?_;(try simp only[Dat.ok,Dat.dec,Leaf.ok,Leaf.val,Z0,Z1,Z2,Z3,Z4,Z5,Z6,Z7,Z8,Z9,Z10,Z11,Z12,Z13,Z14,qA,qB]at hr);cbv)|exact trivial|rfl|refine Both.mk ?_ ?_|(refine Imp.mk fun h=> ?_;(try dsimp only at h);(try simp only[nc,Int.toNat_natCast,ne_eq,zz]at h);(try simp only[nc]at h))|refine Ob.mk ?_ ?_|refine Chk.mk (by kernel_rfl) ?_|refine Eq'.mk ?_|(refine AllN.mk fun i hi=> ?_;cbv)|(refine AllC.mk fun c hc hcm=> ?_;(try dsimp only at hc);cbv)|(refine AllS.mk fun r hr=> ?_;(try simp only[Dat.ok,Dat.dec,Leaf.ok,Leaf.val,Z0,Z1,Z2,Z3,Z4,Z5,Z6,Z7,Z8,Z9,Z10,Z11,Z12,Z13,Z14,qA]at hr);cbv)
 have hj9:j≤qN.length:=hj
 have hi9:idxFrom (w.getD 0 Dat.d0) qN 0=idxFrom (w.getD 0 Dat.d0) (qN.drop j) j:=hi
 cbv
 repeat' first|(show Stp _;exfalso;first|omega|(exact h ‹_›)|(exact absurd ‹_› h)|(exact Bool.false_ne_true (h.symm.trans (show _=true by assumption))))|(refine Stp.mk ?_;cbv)|(refine Gen.mk fun r hr=> ?_;(try simp only[Dat.ok,Dat.dec,Leaf.ok,Leaf.val,Z0,Z1,Z2,Z3,Z4,Z5,Z6,Z7,Z8,Z9,Z10,Z11,Z12,Z13,Z14,qA,qB]at hr);cbv)|exact trivial|rfl|refine Both.mk ?_ ?_|(refine Imp.mk fun h=> ?_;(try dsimp only at h);(try simp only[nc,Int.toNat_natCast,ne_eq,zz]at h);(try simp only[nc]at h))|refine Ob.mk ?_ ?_|refine Chk.mk (by kernel_rfl) ?_|refine Eq'.mk ?_|(refine AllN.mk fun i hi=> ?_;cbv)|(refine AllC.mk fun c hc hcm=> ?_;(try dsimp only at hc);cbv)|(refine AllS.mk fun r hr=> ?_;(try simp only[Dat.ok,Dat.dec,Leaf.ok,Leaf.val,Z0,Z1,Z2,Z3,Z4,Z5,Z6,Z7,Z8,Z9,Z10,Z11,Z12,Z13,Z14,qA]at hr);cbv)
 all_goals try generalize hL9:qDK (Leaf.val (.sl 3 (fun _=>1) fun _=>[.i .i64 fun _=>11,.i .i64 fun _=>0,.i .i64 fun _=>0])) 99=L9 at h ⊢
 all_goals ((try dsimp only at*);(try simp only[nc,Int.toNat_natCast,ne_eq,zz]at*);(try simp only[nc]at*))
 all_goals try rw[nc]at*
 all_goals try simp only[Dat.dec,Leaf.val,Z0,Z1,Z2,Z3,Z4,Z5,Z6,Z7,Z8,Z9,Z10,Z11,Z12,Z13,Z14,qA]at*
 all_goals try simp only[qWx]at*
 all_goals have hl9:=qWw
 all_goals try have hL8:L9=List.replicate 99 qOS:=hL9.symm
 all_goals try have hq:_=L9++[(qC4 (qN.getD j Dat.d0) j w).1]:=qQh (α:=Ins) L9 [.i .i64 fun _=>(qC4 (qN.getD j Dat.d0) j w).1.code,.i .i64 fun _=>(qC4 (qN.getD j Dat.d0) j w).1.a,.i .i64 fun _=>(qC4 (qN.getD j Dat.d0) j w).1.b] 3 (L9.length+1) rfl rfl ⟨trivial,trivial,trivial⟩
 all_goals try simp only[hq]at h ⊢
 all_goals try subst hL8
 all_goals have hs9:=shl
 all_goals try first
  |exact⟨by omega,by omega⟩
  |(show InR ((_:Nat)+1:Int);unfold InR;omega)
  |omega
  |(refine⟨⟨j+1,by omega,qQL (by omega) hi9 (by assumption)⟩, ?_, ?_,rfl,by(try dsimp only);omega⟩
    ·cbv
     repeat' first|(refine Stp.mk ?_;cbv)|(refine Gen.mk fun r hr=> ?_;(try simp only[Dat.ok,Dat.dec,Leaf.ok,Leaf.val,Z0,Z1,Z2,Z3,Z4,Z5,Z6,Z7,Z8,Z9,Z10,Z11,Z12,Z13,Z14,qA,qB]at hr);cbv)|exact trivial|rfl|refine Both.mk ?_ ?_|(refine Imp.mk fun h=> ?_;(try dsimp only at h);(try simp only[nc,Int.toNat_natCast,ne_eq,zz]at h);(try simp only[nc]at h))|refine Ob.mk ?_ ?_|refine Chk.mk (by kernel_rfl) ?_|refine Eq'.mk ?_|(refine AllN.mk fun i hi=> ?_;cbv)|(refine AllC.mk fun c hc hcm=> ?_;(try dsimp only at hc);cbv)|(refine AllS.mk fun r hr=> ?_;(try simp only[Dat.ok,Dat.dec,Leaf.ok,Leaf.val,Z0,Z1,Z2,Z3,Z4,Z5,Z6,Z7,Z8,Z9,Z10,Z11,Z12,Z13,Z14,qA]at hr);cbv)
    ·cbv
     repeat' first|(refine Stp.mk ?_;cbv)|(refine Gen.mk fun r hr=> ?_;(try simp only[Dat.ok,Dat.dec,Leaf.ok,Leaf.val,Z0,Z1,Z2,Z3,Z4,Z5,Z6,Z7,Z8,Z9,Z10,Z11,Z12,Z13,Z14,qA,qB]at hr);cbv)|exact trivial|rfl|refine Both.mk ?_ ?_|(refine Imp.mk fun h=> ?_;(try dsimp only at h);(try simp only[nc,Int.toNat_natCast,ne_eq,zz]at h);(try simp only[nc]at h))|refine Ob.mk ?_ ?_|refine Chk.mk (by kernel_rfl) ?_|refine Eq'.mk ?_|(refine AllN.mk fun i hi=> ?_;cbv)|(refine AllC.mk fun c hc hcm=> ?_;(try dsimp only at hc);cbv)|(refine AllS.mk fun r hr=> ?_;(try simp only[Dat.ok,Dat.dec,Leaf.ok,Leaf.val,Z0,Z1,Z2,Z3,Z4,Z5,Z6,Z7,Z8,Z9,Z10,Z11,Z12,Z13,Z14,qA]at hr);cbv))
  |(refine fin0 _ _ _ _ (eP.trans (hR9.trans (qGm (by omega) (qQI hw hw0 ?_))))
    first
    |(rw[qH4 (by omega) hi9 (by assumption)];assumption)
    |(rw[qQM (by omega) hi9];decide))
  |exact fin0 _ _ _ _ (eP.trans (hR9.trans (qGm (by omega) (qQJ hw hw0 (qH4 (by omega) hi9 (by assumption)) (by assumption) (by assumption)))))
  |exact fin0 _ _ _ _ (eP.trans (hR9.trans (qGm (by omega) (qQK hw hw0 (qH4 (by omega) hi9 (by assumption)) (by assumption) (by assumption) (by assumption)))))
  |(refine⟨by omega, ?_⟩
    refine And.intro (Dat.hok fun _=>qN.getD j Dat.d0) (And.intro ⟨rfl,fun i _=>Dat.hok _⟩ ⟨hw0,by omega,fun x h=>Nat.le_trans (hw2 x h) (by decide)⟩))
  |(refine⟨by omega, ?_⟩
    refine And.intro ⟨⟨rfl,fun i _=>⟨trivial,trivial,trivial⟩⟩,rfl,by decide,by decide⟩ fun i _=>rfl)
  |(refine⟨by omega, ?_⟩
    refine And.intro ⟨rfl,fun i _=>qUQ rfl (Dat.hok _) ⟨trivial,trivial,trivial⟩⟩ (show _≤_ by rw[List.length_append,hl9,List.length_singleton];decide))
 refine⟨⟨k+1,by omega,out++[(qC4 (qN.getD j Dat.d0) j w).1],by rw[List.length_append,List.length_singleton];omega,hR9.trans (qOU (by omega) (qTw hw hw0 (qH4 (by omega) hi9 (by assumption)) (by assumption) (by assumption) (by assumption)))⟩, ?_, ?_,rfl,by(try dsimp only);omega⟩
 ·cbv
  repeat' first|(refine Stp.mk ?_;cbv)|(refine Gen.mk fun r hr=> ?_;(try simp only[Dat.ok,Dat.dec,Leaf.ok,Leaf.val,Z0,Z1,Z2,Z3,Z4,Z5,Z6,Z7,Z8,Z9,Z10,Z11,Z12,Z13,Z14,qA,qB]at hr);cbv)|exact trivial|rfl|refine Both.mk ?_ ?_|(refine Imp.mk fun h=> ?_;(try dsimp only at h);(try simp only[nc,Int.toNat_natCast,ne_eq,zz]at h);(try simp only[nc]at h))|refine Ob.mk ?_ ?_|refine Chk.mk (by kernel_rfl) ?_|refine Eq'.mk ?_|(refine AllN.mk fun i hi=> ?_;cbv)|(refine AllC.mk fun c hc hcm=> ?_;(try dsimp only at hc);cbv)|(refine AllS.mk fun r hr=> ?_;(try simp only[Dat.ok,Dat.dec,Leaf.ok,Leaf.val,Z0,Z1,Z2,Z3,Z4,Z5,Z6,Z7,Z8,Z9,Z10,Z11,Z12,Z13,Z14,qA]at hr);cbv)
  all_goals (simp;done)
 ·cbv
  repeat' first|(refine Stp.mk ?_;cbv)|(refine Gen.mk fun r hr=> ?_;(try simp only[Dat.ok,Dat.dec,Leaf.ok,Leaf.val,Z0,Z1,Z2,Z3,Z4,Z5,Z6,Z7,Z8,Z9,Z10,Z11,Z12,Z13,Z14,qA,qB]at hr);cbv)|exact trivial|rfl|refine Both.mk ?_ ?_|(refine Imp.mk fun h=> ?_;(try dsimp only at h);(try simp only[nc,Int.toNat_natCast,ne_eq,zz]at h);(try simp only[nc]at h))|refine Ob.mk ?_ ?_|refine Chk.mk (by kernel_rfl) ?_|refine Eq'.mk ?_|(refine AllN.mk fun i hi=> ?_;cbv)|(refine AllC.mk fun c hc hcm=> ?_;(try dsimp only at hc);cbv)|(refine AllS.mk fun r hr=> ?_;(try simp only[Dat.ok,Dat.dec,Leaf.ok,Leaf.val,Z0,Z1,Z2,Z3,Z4,Z5,Z6,Z7,Z8,Z9,Z10,Z11,Z12,Z13,Z14,qA]at hr);cbv)
  all_goals first
   |(have e:=qAE out ((qC4 (qN.getD j Dat.d0) j w).1) Dat.d0 i (by assumption)
     dsimp only
     rw[e];cases decide (i<out.length)<;>rfl)
   |(simp;done)
end Go.Proofs.YtiaiifcgbjlfoaaGreatDoor
