/- parts.own: walked. -/
import Derived.Test.YtiaiifcgbjlfoaaGreatDoorPartC
import Derived.Test.YtiaiifcgbjlfoaaGreatDoorAbsG4
import Derived.Test.YtiaiifcgbjlfoaaGreatDoorAbsG3
set_option linter.all false
namespace Go.Proofs.YtiaiifcgbjlfoaaGreatDoor
open Go Go.Abs
def qTP (r:Th ((List Window))):AV:= .own 0 fun _=>(r ()).length
def qTQ (r:Th ((List Window))):Hp:=[qA2 106 fun _=>(r ())]
def qPc (l:(List Window)):Prop:=l.length≤1099511627776
set_option maxRecDepth 100000 in
set_option maxHeartbeats 4000000 in
theorem qQ5 (l:(List Window)) (hp:qPc l):qO Tryz.prog 53 [Leaf.av fun _=>l] [] (qAf (qTP fun _=>l) (qTQ fun _=>l)):=by
 refine qAe qI zl qP qD (keep:=[0,2,4]) Tryz.func53 rfl ?_
 have hp':l.length≤1099511627776:=hp
 cbv
 repeat' first|(refine Stp.mk ?_;cbv)|(refine Gen.mk fun r hr=> ?_;(try simp only[Dat.ok,Dat.dec,Leaf.ok,Leaf.val,Z0,Z1,Z2,Z3,Z4,Z5,Z6,Z7,Z8,Z9,Z10,Z11,Z12,Z13,Z14,qA,qB]at hr);cbv)|exact trivial|rfl|refine Both.mk ?_ ?_|(refine Imp.mk fun h=> ?_;(try dsimp only at h);(try simp only[nc,Int.toNat_natCast,ne_eq,zz]at h);(try simp only[nc]at h))|refine Ob.mk ?_ ?_|refine Chk.mk (by kernel_rfl) ?_|refine Eq'.mk ?_|(refine AllN.mk fun i hi=> ?_;cbv)|(refine AllC.mk fun c hc hcm=> ?_;(try dsimp only at hc);cbv)|(refine AllS.mk fun r hr=> ?_;(try simp only[Dat.ok,Dat.dec,Leaf.ok,Leaf.val,Z0,Z1,Z2,Z3,Z4,Z5,Z6,Z7,Z8,Z9,Z10,Z11,Z12,Z13,Z14,qA]at hr);cbv)
 all_goals ((try dsimp only at*);(try simp only[nc,Int.toNat_natCast,ne_eq,zz]at*);(try simp only[nc]at*))
 all_goals first
  |omega
  |(exact⟨Nat.le_refl _,trivial,by omega,by omega⟩)
  |(simp only[Nat.zero_add,Nat.sub_zero,Nat.not_lt_zero,decide_false,cond_false];done)
  |(simp_all;done)
  |fail
def qQ6 (r:Th ((List Wire))):AV:= .own 0 fun _=>(r ()).length
def qQ7 (r:Th ((List Wire))):Hp:=[qA2 37 fun _=>(r ())]
def qL6 (l:(List Wire)):Prop:=l.length≤1099511627776
set_option maxRecDepth 100000 in
set_option maxHeartbeats 4000000 in
theorem qPd (l:(List Wire)) (hp:qL6 l):qO Tryz.prog 54 [Leaf.av fun _=>l] [] (qAf (qQ6 fun _=>l) (qQ7 fun _=>l)):=by
 refine qAe qI zl qP qD (keep:=[0,2,4]) Tryz.func54 rfl ?_
 have hp':l.length≤1099511627776:=hp
 cbv
 repeat' first|(refine Stp.mk ?_;cbv)|(refine Gen.mk fun r hr=> ?_;(try simp only[Dat.ok,Dat.dec,Leaf.ok,Leaf.val,Z0,Z1,Z2,Z3,Z4,Z5,Z6,Z7,Z8,Z9,Z10,Z11,Z12,Z13,Z14,qA,qB]at hr);cbv)|exact trivial|rfl|refine Both.mk ?_ ?_|(refine Imp.mk fun h=> ?_;(try dsimp only at h);(try simp only[nc,Int.toNat_natCast,ne_eq,zz]at h);(try simp only[nc]at h))|refine Ob.mk ?_ ?_|refine Chk.mk (by kernel_rfl) ?_|refine Eq'.mk ?_|(refine AllN.mk fun i hi=> ?_;cbv)|(refine AllC.mk fun c hc hcm=> ?_;(try dsimp only at hc);cbv)|(refine AllS.mk fun r hr=> ?_;(try simp only[Dat.ok,Dat.dec,Leaf.ok,Leaf.val,Z0,Z1,Z2,Z3,Z4,Z5,Z6,Z7,Z8,Z9,Z10,Z11,Z12,Z13,Z14,qA]at hr);cbv)
 all_goals ((try dsimp only at*);(try simp only[nc,Int.toNat_natCast,ne_eq,zz]at*);(try simp only[nc]at*))
 all_goals first
  |omega
  |(exact⟨Nat.le_refl _,trivial,by omega,by omega⟩)
  |(simp only[Nat.zero_add,Nat.sub_zero,Nat.not_lt_zero,decide_false,cond_false];done)
  |(simp_all;done)
  |fail
def qTR (r:Th ((List Ins))):AV:= .own 0 fun _=>(r ()).length
def qTS (r:Th ((List Ins))):Hp:=[qA2 131 fun _=>(r ())]
def qPe (l:(List Ins)):Prop:=l.length≤1099511627776
set_option maxRecDepth 100000 in
set_option maxHeartbeats 4000000 in
theorem qQ8 (l:(List Ins)) (hp:qPe l):qO Tryz.prog 55 [Leaf.av fun _=>l] [] (qAf (qTR fun _=>l) (qTS fun _=>l)):=by
 refine qAe qI zl qP qD (keep:=[0,2,4]) Tryz.func55 rfl ?_
 have hp':l.length≤1099511627776:=hp
 cbv
 repeat' first|(refine Stp.mk ?_;cbv)|(refine Gen.mk fun r hr=> ?_;(try simp only[Dat.ok,Dat.dec,Leaf.ok,Leaf.val,Z0,Z1,Z2,Z3,Z4,Z5,Z6,Z7,Z8,Z9,Z10,Z11,Z12,Z13,Z14,qA,qB]at hr);cbv)|exact trivial|rfl|refine Both.mk ?_ ?_|(refine Imp.mk fun h=> ?_;(try dsimp only at h);(try simp only[nc,Int.toNat_natCast,ne_eq,zz]at h);(try simp only[nc]at h))|refine Ob.mk ?_ ?_|refine Chk.mk (by kernel_rfl) ?_|refine Eq'.mk ?_|(refine AllN.mk fun i hi=> ?_;cbv)|(refine AllC.mk fun c hc hcm=> ?_;(try dsimp only at hc);cbv)|(refine AllS.mk fun r hr=> ?_;(try simp only[Dat.ok,Dat.dec,Leaf.ok,Leaf.val,Z0,Z1,Z2,Z3,Z4,Z5,Z6,Z7,Z8,Z9,Z10,Z11,Z12,Z13,Z14,qA]at hr);cbv)
 all_goals ((try dsimp only at*);(try simp only[nc,Int.toNat_natCast,ne_eq,zz]at*);(try simp only[nc]at*))
 all_goals first
  |omega
  |(exact⟨Nat.le_refl _,trivial,by omega,by omega⟩)
  |(simp only[Nat.zero_add,Nat.sub_zero,Nat.not_lt_zero,decide_false,cond_false];done)
  |(simp_all;done)
  |fail
def qQ9 (r:Th ((List Window))):AV:=Leaf.av fun _=>(r ())
def qFx:Det:=fun A=>match A with
 |[l]=>some (fun _=>Leaf.ok (List Window) l∧qPc (Leaf.val l),qQ9 fun _=>(Leaf.val l))
 |_=>none
theorem qHf:∀A p r,qFx A=some (p,r)→p ()→qJV Tryz.prog 53 A r:=fun A p r h hp0=>by
 unfold qFx at h
 split at h
 ·rename_i l
  cases h
  obtain⟨g0,hp⟩:=hp0
  exact qO.fresh (A:=[l]) (qO.pre (A':=[Leaf.av fun _=>(Leaf.val l:(List Window))]) (qQ5 (Leaf.val l) hp) (.mk (Leaf.hle _ g0) (trivial))) rfl (q:=_) (d:=_) rfl (by intro p hp;repeat (first|(cases hp;done)|(rcases List.mem_cons.1 hp with rfl|hp;· exact Nat.le_refl _))) rfl rfl ⟨.mk fun _ _=>rfl,trivial⟩
 ·cases h
def qPf (r:Th ((List Wire))):AV:=Leaf.av fun _=>(r ())
def qEn:Det:=fun A=>match A with
 |[l]=>some (fun _=>Leaf.ok (List Wire) l∧qL6 (Leaf.val l),qPf fun _=>(Leaf.val l))
 |_=>none
theorem qGq:∀A p r,qEn A=some (p,r)→p ()→qJV Tryz.prog 54 A r:=fun A p r h hp0=>by
 unfold qEn at h
 split at h
 ·rename_i l
  cases h
  obtain⟨g0,hp⟩:=hp0
  exact qO.fresh (A:=[l]) (qO.pre (A':=[Leaf.av fun _=>(Leaf.val l:(List Wire))]) (qPd (Leaf.val l) hp) (.mk (Leaf.hle _ g0) (trivial))) rfl (q:=_) (d:=_) rfl (by intro p hp;repeat (first|(cases hp;done)|(rcases List.mem_cons.1 hp with rfl|hp;· exact Nat.le_refl _))) rfl rfl ⟨.mk fun _ _=>rfl,trivial⟩
 ·cases h
def qRa (r:Th ((List Ins))):AV:=Leaf.av fun _=>(r ())
def qIi:Det:=fun A=>match A with
 |[l]=>some (fun _=>Leaf.ok (List Ins) l∧qPe (Leaf.val l),qRa fun _=>(Leaf.val l))
 |_=>none
theorem qM3:∀A p r,qIi A=some (p,r)→p ()→qJV Tryz.prog 55 A r:=fun A p r h hp0=>by
 unfold qIi at h
 split at h
 ·rename_i l
  cases h
  obtain⟨g0,hp⟩:=hp0
  exact qO.fresh (A:=[l]) (qO.pre (A':=[Leaf.av fun _=>(Leaf.val l:(List Ins))]) (qQ8 (Leaf.val l) hp) (.mk (Leaf.hle _ g0) (trivial))) rfl (q:=_) (d:=_) rfl (by intro p hp;repeat (first|(cases hp;done)|(rcases List.mem_cons.1 hp with rfl|hp;· exact Nat.le_refl _))) rfl rfl ⟨.mk fun _ _=>rfl,trivial⟩
 ·cases h
def qRb (r:Th ((List Int))):AV:=Leaf.av fun _=>(r ())
def qIj:Det:=fun A=>match A with
 |[l]=>some (fun _=>Leaf.ok (List Int) l∧qKQ (Leaf.val l),qRb fun _=>(Leaf.val l))
 |_=>none
theorem qM4:∀A p r,qIj A=some (p,r)→p ()→qJV Tryz.prog 36 A r:=fun A p r h hp0=>by
 unfold qIj at h
 split at h
 ·rename_i l
  cases h
  obtain⟨g0,hp⟩:=hp0
  exact qO.fresh (A:=[l]) (qO.pre (A':=[Leaf.av fun _=>(Leaf.val l:(List Int))]) (qLX (Leaf.val l) hp) (.mk (Leaf.hle _ g0) (trivial))) rfl (q:=_) (d:=_) rfl (by intro p hp;repeat (first|(cases hp;done)|(rcases List.mem_cons.1 hp with rfl|hp;· exact Nat.le_refl _))) rfl rfl ⟨.mk fun _ _=>rfl,trivial⟩
 ·cases h
inductive EitC (c1 c2:Con) (A:List AV) (H:Hp) (K:qBm):Prop where
 |l (h:c1 A H K)
 |r (h:c2 A H K)
noncomputable def qL7:Con:=EitC (qH qH9) (qDE qIj)
theorem qPg {A:List AV}{H:Hp}{K:qBm}(hv:qL7 A H K):qO Tryz.prog 36 A H K:=by
 cases hv with
 |l h=>exact qE qLY h
 |r h=>exact qAY qM4 h
noncomputable def qYw:FuncId→Con:=fun f=>match f with
 |53=>qDE qFx
 |54=>qDE qEn
 |55=>qDE qIi
 |36=>qL7
 |_=>fun _ _ _=>Bad 1001
theorem qPh:qY Tryz.prog qYw:=fun f A H K h=>by
 unfold qYw at h
 split at h
 ·exact⟨⟨Tryz.f53,Tryz.func53,by kernel_rfl,by kernel_rfl⟩,qAY qHf h⟩
 ·exact⟨⟨Tryz.f54,Tryz.func54,by kernel_rfl,by kernel_rfl⟩,qAY qGq h⟩
 ·exact⟨⟨Tryz.f55,Tryz.func55,by kernel_rfl,by kernel_rfl⟩,qAY qM3 h⟩
 ·exact⟨⟨Tryz.f36,Tryz.func36,by kernel_rfl,by kernel_rfl⟩,qPg h⟩
 ·cases h
def qYx:FuncId→Option Dt:=fun f=>match f with
 |53=>some (.f qFx)
 |54=>some (.f qEn)
 |_=>none
theorem qTT:qBk Tryz.prog qYx:=fun f d h=>by
 unfold qYx at h
 split at h
 ·cases h;exact⟨⟨Tryz.f53,Tryz.func53,by kernel_rfl,by kernel_rfl⟩,qHf⟩
 ·cases h;exact⟨⟨Tryz.f54,Tryz.func54,by kernel_rfl,by kernel_rfl⟩,qGq⟩
 ·cases h
def qWS (p:List Oper→Bool) (d1 d2:Drw):Drw:=fun nt ops s h kl K=>match p ops with
 |true=>d1 nt ops s h kl K
 |false=>d2 nt ops s h kl K
theorem qRc {P:Program}{p:List Oper→Bool}{d1 d2:Drw}(h1:qED P d1) (h2:qED P d2):qED P (qWS p d1 d2):=fun w0 M0 β0 cp0 h0 nt id ops s h kl a w K Q hv hst hQ=>by
 unfold qWS at hv
 split at hv
 ·exact h1 w0 M0 β0 cp0 h0 nt id ops s h kl a w K Q hv hst hQ
 ·exact h2 w0 M0 β0 cp0 h0 nt id ops s h kl a w K Q hv hst hQ
def psO (n:Th Nat) (ps:Th (List Part)):AObj:= .nst 50 6 n (fun i=>[.c (.sl 3 (fun _=>((ps ()).getD (i ()) Dat.d0).code.length) fun j=>Dat.enc fun _=>((ps ()).getD (i ()) Dat.d0).code.getD (j ()) Dat.d0),.c (.i .i64 fun _=>((ps ()).getD (i ()) Dat.d0).vm.at_),
 .c (.sl 1 (fun _=>((ps ()).getD (i ()) Dat.d0).vm.regs.length) fun j=>Dat.enc fun _=>((ps ()).getD (i ()) Dat.d0).vm.regs.getD (j ()) Dat.d0),.c (.b fun _=>((ps ()).getD (i ()) Dat.d0).vm.halts),.c (.b fun _=>((ps ()).getD (i ()) Dat.d0).vm.fault),
 .sl 3 1 (fun _=>((ps ()).getD (i ()) Dat.d0).box.length) fun j=>Dat.enc fun _=>((ps ()).getD (i ()) Dat.d0).box.getD (j ()) Dat.d0]) none
def mdA (b:Nat) (m:Th Module):List AV:=[.i .i64 fun _=>(m ()).table.frame,.sl 3 (fun _=>(m ()).table.windows.length) fun i=>Dat.enc fun _=>(m ()).table.windows.getD (i ()) Dat.d0,.own b fun _=>(m ()).parts.length,
 .sl 3 (fun _=>(m ()).wires.length) fun i=>Dat.enc fun _=>(m ()).wires.getD (i ()) Dat.d0,.i .i64 fun _=>(m ()).now,.i .i64 fun _=>(m ()).lost]
theorem qM5 {α:Type}(f:Nat→α) {i k:Nat}(h:i<k+1):(bif decide (k≤i)then f k else f i)=f i:=by
 by_cases h2:k≤i
 ·have:i=k:=by omega
  subst this
  rw[decide_eq_true h2,cond_true]
 ·rw[decide_eq_false h2,cond_false]
structure OnX (ps:List Part) where
 k:Nat
 hk:k≤ps.length
set_option maxRecDepth 100000 in
set_option maxHeartbeats 4000000 in
theorem qWT (m:Module) (hm:qAU m=0):
  qO Tryz.prog 21 [.agg (Dat.enc fun _=>m)] [] (qCL 0 (.agg (mdA 2 fun _=>m)) [.dead,.dead,psO (fun _=>m.parts.length) fun _=>m.parts] []):=by
 generalize hK:qCL 0 (.agg (mdA 2 fun _=>m)) [.dead,.dead,psO (fun _=>m.parts.length) fun _=>m.parts] []=K
 have M:=qAZ.1 hm
 have T:=qBA.1 M.t
 refine qAe qI zl qPh (qRc (p:=fun ops=>Nat.beq (len ops) 17) (qNY qI zl qPh mixed) (qD6 qI zl qTT mixed)) (keep:=[0,1,2,3,5,21,22,23,24]) Tryz.func21 rfl ?_
 cbv
 repeat' first|(show Stp _;exfalso;first|omega|(exact h ‹_›)|(exact absurd ‹_› h)|(exact Bool.false_ne_true (h.symm.trans (show _=true by assumption))))|(refine Stp.mk ?_;cbv)|(refine Gen.mk fun r hr=> ?_;(try simp only[Dat.ok,Dat.dec,Leaf.ok,Leaf.val,Z0,Z1,Z2,Z3,Z4,Z5,Z6,Z7,Z8,Z9,Z10,Z11,Z12,Z13,Z14,qA,qB]at hr);cbv)|exact trivial|rfl|refine Both.mk ?_ ?_|(refine Imp.mk fun h=> ?_;(try dsimp only at h);(try simp only[nc,Int.toNat_natCast,ne_eq,zz]at h);(try simp only[nc]at h))|refine Ob.mk ?_ ?_|refine Chk.mk (by kernel_rfl) ?_|refine Eq'.mk ?_|(refine AllN.mk fun i hi=> ?_;cbv)|(refine AllC.mk fun c hc hcm=> ?_;(try dsimp only at hc);cbv)|(refine AllS.mk fun r hr=> ?_;(try simp only[Dat.ok,Dat.dec,Leaf.ok,Leaf.val,Z0,Z1,Z2,Z3,Z4,Z5,Z6,Z7,Z8,Z9,Z10,Z11,Z12,Z13,Z14,qA]at hr);cbv)
 all_goals ((try dsimp only at*);(try simp only[nc,Int.toNat_natCast,ne_eq,zz]at*);(try simp only[nc]at*))
 all_goals try simp only[Dat.dec,Leaf.val,Z0,Z1,Z2,Z3,Z4,Z5,Z6,Z7,Z8,Z9,Z10,Z11,Z12,Z13,Z14,qA]at*
 all_goals try first
  |exact⟨⟨rfl,fun i _=>Dat.hok _⟩,by show(_:Nat)≤_;have:=T.len;have:=M.lw;omega⟩
  |(have:=M.lp;exact⟨by omega,by omega,by omega,by omega⟩)
 have lp:=M.lp
 refine LoopVC.frame [3,5,23,24] (OnX m.parts) (fun x=>[(23,.i .i64 fun _=>x.k),(3,.own 2 fun _=>x.k)]) (fun x=>[(2,psO (fun _=>x.k) fun _=>m.parts)]) [2] (fun x=>m.parts.length-x.k)
  ⟨0,Nat.zero_le _⟩ rfl (fun _=>rfl) ?_ ?_ fun⟨k,hk⟩=> ?_
 ·cbv
  repeat' first|(refine Stp.mk ?_;cbv)|(refine Gen.mk fun r hr=> ?_;(try simp only[Dat.ok,Dat.dec,Leaf.ok,Leaf.val,Z0,Z1,Z2,Z3,Z4,Z5,Z6,Z7,Z8,Z9,Z10,Z11,Z12,Z13,Z14,qA,qB]at hr);cbv)|exact trivial|rfl|refine Both.mk ?_ ?_|(refine Imp.mk fun h=> ?_;(try dsimp only at h);(try simp only[nc,Int.toNat_natCast,ne_eq,zz]at h);(try simp only[nc]at h))|refine Ob.mk ?_ ?_|refine Chk.mk (by kernel_rfl) ?_|refine Eq'.mk ?_|(refine AllN.mk fun i hi=> ?_;cbv)|(refine AllC.mk fun c hc hcm=> ?_;(try dsimp only at hc);cbv)|(refine AllS.mk fun r hr=> ?_;(try simp only[Dat.ok,Dat.dec,Leaf.ok,Leaf.val,Z0,Z1,Z2,Z3,Z4,Z5,Z6,Z7,Z8,Z9,Z10,Z11,Z12,Z13,Z14,qA]at hr);cbv)
  all_goals fail
 ·cbv
  repeat' first|(refine Stp.mk ?_;cbv)|(refine Gen.mk fun r hr=> ?_;(try simp only[Dat.ok,Dat.dec,Leaf.ok,Leaf.val,Z0,Z1,Z2,Z3,Z4,Z5,Z6,Z7,Z8,Z9,Z10,Z11,Z12,Z13,Z14,qA,qB]at hr);cbv)|exact trivial|rfl|refine Both.mk ?_ ?_|(refine Imp.mk fun h=> ?_;(try dsimp only at h);(try simp only[nc,Int.toNat_natCast,ne_eq,zz]at h);(try simp only[nc]at h))|refine Ob.mk ?_ ?_|refine Chk.mk (by kernel_rfl) ?_|refine Eq'.mk ?_|(refine AllN.mk fun i hi=> ?_;cbv)|(refine AllC.mk fun c hc hcm=> ?_;(try dsimp only at hc);cbv)|(refine AllS.mk fun r hr=> ?_;(try simp only[Dat.ok,Dat.dec,Leaf.ok,Leaf.val,Z0,Z1,Z2,Z3,Z4,Z5,Z6,Z7,Z8,Z9,Z10,Z11,Z12,Z13,Z14,qA]at hr);cbv)
  all_goals fail
 have P:=fun(hk2:k<m.parts.length)=>qB5.1 (M.p (m.parts.getD k Dat.d0) (by rw[List.getD_eq_getElem?_getD,List.getElem?_eq_getElem hk2];exact List.getElem_mem hk2))
 have e9:∀i,i<k+1→k≤i→m.parts.getD i Dat.d0=m.parts.getD k Dat.d0:=fun i h1 h2=>by rw[show i=k by omega]
 cbv
 repeat' first|(show Stp _;exfalso;first|omega|(exact h ‹_›)|(exact absurd ‹_› h)|(exact Bool.false_ne_true (h.symm.trans (show _=true by assumption))))|(refine Stp.mk ?_;cbv)|(refine Gen.mk fun r hr=> ?_;(try simp only[Dat.ok,Dat.dec,Leaf.ok,Leaf.val,Z0,Z1,Z2,Z3,Z4,Z5,Z6,Z7,Z8,Z9,Z10,Z11,Z12,Z13,Z14,qA,qB]at hr);cbv)|exact trivial|rfl|refine Both.mk ?_ ?_|(refine Imp.mk fun h=> ?_;(try dsimp only at h);(try simp only[nc,Int.toNat_natCast,ne_eq,zz]at h);(try simp only[nc]at h))|refine Ob.mk ?_ ?_|refine Chk.mk (by kernel_rfl) ?_|refine Eq'.mk ?_|(refine AllN.mk fun i hi=> ?_;cbv)|(refine AllC.mk fun c hc hcm=> ?_;(try dsimp only at hc);cbv)|(refine AllS.mk fun r hr=> ?_;(try simp only[Dat.ok,Dat.dec,Leaf.ok,Leaf.val,Z0,Z1,Z2,Z3,Z4,Z5,Z6,Z7,Z8,Z9,Z10,Z11,Z12,Z13,Z14,qA]at hr);cbv)
 all_goals ((try dsimp only at*);(try simp only[nc,Int.toNat_natCast,ne_eq,zz]at*);(try simp only[nc]at*))
 all_goals try first
  |omega
  |exact⟨by omega,by omega⟩
 all_goals try (refine EitC.l ?_;cbv)
 repeat' first|(refine Stp.mk ?_;cbv)|(refine Gen.mk fun r hr=> ?_;(try simp only[Dat.ok,Dat.dec,Leaf.ok,Leaf.val,Z0,Z1,Z2,Z3,Z4,Z5,Z6,Z7,Z8,Z9,Z10,Z11,Z12,Z13,Z14,qA,qB]at hr);cbv)|exact trivial|rfl|refine Both.mk ?_ ?_|(refine Imp.mk fun h=> ?_;(try dsimp only at h);(try simp only[nc,Int.toNat_natCast,ne_eq,zz]at h);(try simp only[nc]at h))|refine Ob.mk ?_ ?_|refine Chk.mk (by kernel_rfl) ?_|refine Eq'.mk ?_|(refine AllN.mk fun i hi=> ?_;cbv)|(refine AllC.mk fun c hc hcm=> ?_;(try dsimp only at hc);cbv)|(refine AllS.mk fun r hr=> ?_;(try simp only[Dat.ok,Dat.dec,Leaf.ok,Leaf.val,Z0,Z1,Z2,Z3,Z4,Z5,Z6,Z7,Z8,Z9,Z10,Z11,Z12,Z13,Z14,qA]at hr);cbv)
 all_goals try (refine EitC.r ?_;cbv)
 repeat' first|(refine Stp.mk ?_;cbv)|(refine Gen.mk fun r hr=> ?_;(try simp only[Dat.ok,Dat.dec,Leaf.ok,Leaf.val,Z0,Z1,Z2,Z3,Z4,Z5,Z6,Z7,Z8,Z9,Z10,Z11,Z12,Z13,Z14,qA,qB]at hr);cbv)|exact trivial|rfl|refine Both.mk ?_ ?_|(refine Imp.mk fun h=> ?_;(try dsimp only at h);(try simp only[nc,Int.toNat_natCast,ne_eq,zz]at h);(try simp only[nc]at h))|refine Ob.mk ?_ ?_|refine Chk.mk (by kernel_rfl) ?_|refine Eq'.mk ?_|(refine AllN.mk fun i hi=> ?_;cbv)|(refine AllC.mk fun c hc hcm=> ?_;(try dsimp only at hc);cbv)|(refine AllS.mk fun r hr=> ?_;(try simp only[Dat.ok,Dat.dec,Leaf.ok,Leaf.val,Z0,Z1,Z2,Z3,Z4,Z5,Z6,Z7,Z8,Z9,Z10,Z11,Z12,Z13,Z14,qA]at hr);cbv)
 all_goals ((try dsimp only at*);(try simp only[nc,Int.toNat_natCast,ne_eq,zz]at*);(try simp only[nc]at*))
 all_goals try simp only[Dat.dec,Leaf.val,Z0,Z1,Z2,Z3,Z4,Z5,Z6,Z7,Z8,Z9,Z10,Z11,Z12,Z13,Z14,qA]at*
 all_goals try rw[nc]at*
 all_goals try first
  |omega
  |(unfold InR;omega)
  |exact⟨by omega,by omega⟩
  |exact⟨trivial,rfl,by omega,by omega⟩
  |exact⟨trivial,trivial,by omega,by omega⟩
  |exact⟨⟨rfl,fun i _=>Dat.hok _⟩,by show(_:Nat)≤_;have:=qC9 (P (by omega)).c;omega⟩
  |exact⟨⟨rfl,fun i _=>Dat.hok _⟩,by show(_:Nat)≤_;have:=(P (by omega)).l;omega⟩
  |exact⟨⟨rfl,fun i _=>Dat.hok _⟩,by show(_:Nat)≤_;have:=(qB4 (P (by omega)).v).2.1;omega⟩
  |(refine⟨⟨k+1,by omega⟩, ?_, ?_,rfl,by(try dsimp only);omega⟩
    ·cbv
     repeat' first|(refine Stp.mk ?_;cbv)|(refine Gen.mk fun r hr=> ?_;(try simp only[Dat.ok,Dat.dec,Leaf.ok,Leaf.val,Z0,Z1,Z2,Z3,Z4,Z5,Z6,Z7,Z8,Z9,Z10,Z11,Z12,Z13,Z14,qA,qB]at hr);cbv)|exact trivial|rfl|refine Both.mk ?_ ?_|(refine Imp.mk fun h=> ?_;(try dsimp only at h);(try simp only[nc,Int.toNat_natCast,ne_eq,zz]at h);(try simp only[nc]at h))|refine Ob.mk ?_ ?_|refine Chk.mk (by kernel_rfl) ?_|refine Eq'.mk ?_|(refine AllN.mk fun i hi=> ?_;cbv)|(refine AllC.mk fun c hc hcm=> ?_;(try dsimp only at hc);cbv)|(refine AllS.mk fun r hr=> ?_;(try simp only[Dat.ok,Dat.dec,Leaf.ok,Leaf.val,Z0,Z1,Z2,Z3,Z4,Z5,Z6,Z7,Z8,Z9,Z10,Z11,Z12,Z13,Z14,qA]at hr);cbv)
    ·cbv
     repeat' first|(refine Stp.mk ?_;cbv)|(refine Gen.mk fun r hr=> ?_;(try simp only[Dat.ok,Dat.dec,Leaf.ok,Leaf.val,Z0,Z1,Z2,Z3,Z4,Z5,Z6,Z7,Z8,Z9,Z10,Z11,Z12,Z13,Z14,qA,qB]at hr);cbv)|exact trivial|rfl|refine Both.mk ?_ ?_|(refine Imp.mk fun h=> ?_;(try dsimp only at h);(try simp only[nc,Int.toNat_natCast,ne_eq,zz]at h);(try simp only[nc]at h))|refine Ob.mk ?_ ?_|refine Chk.mk (by kernel_rfl) ?_|refine Eq'.mk ?_|(refine AllN.mk fun i hi=> ?_;cbv)|(refine AllC.mk fun c hc hcm=> ?_;(try dsimp only at hc);cbv)|(refine AllS.mk fun r hr=> ?_;(try simp only[Dat.ok,Dat.dec,Leaf.ok,Leaf.val,Z0,Z1,Z2,Z3,Z4,Z5,Z6,Z7,Z8,Z9,Z10,Z11,Z12,Z13,Z14,qA]at hr);cbv)
     all_goals ((try dsimp only at*);(try simp only[nc,Int.toNat_natCast,ne_eq,zz]at*);(try simp only[nc]at*))
     all_goals first
      |rfl
      |omega
      |exact qM5 (fun i=>(m.parts.getD i Dat.d0).vm.at_) (by assumption)
      |exact qM5 (fun i=>(m.parts.getD i Dat.d0).vm.halts) (by assumption)
      |exact qM5 (fun i=>(m.parts.getD i Dat.d0).vm.fault) (by assumption)
      |exact qM5 (fun i=>(m.parts.getD i Dat.d0).box.length) (by assumption)
      |exact congrArg (fun(w:Part)=>w.code.length) (e9 _ (by assumption) (by assumption)).symm
      |exact congrArg (fun(w:Part)=>(w.code.getD _ Dat.d0).code) (e9 _ (by assumption) (by assumption)).symm
      |exact congrArg (fun(w:Part)=>(w.code.getD _ Dat.d0).a) (e9 _ (by assumption) (by assumption)).symm
      |exact congrArg (fun(w:Part)=>(w.code.getD _ Dat.d0).b) (e9 _ (by assumption) (by assumption)).symm
      |exact congrArg (fun(w:Part)=>w.vm.regs.length) (e9 _ (by assumption) (by assumption)).symm
      |exact congrArg (fun(w:Part)=>w.vm.regs.getD _ Dat.d0) (e9 _ (by assumption) (by assumption)).symm
      |(have hr9:r=(m.parts.getD k Dat.d0).box:=by assumption
        subst hr9
        first
         |exact qM5 (fun i=>(m.parts.getD i Dat.d0).box.length) (by assumption)
         |exact qM5 (fun i=>(m.parts.getD i Dat.d0).box.getD _ Dat.d0) (by assumption))
      |fail)
 have ek:k=m.parts.length:=by omega
 subst ek
 subst hK
 cbv
 repeat' first|(refine Stp.mk ?_;cbv)|(refine Gen.mk fun r hr=> ?_;(try simp only[Dat.ok,Dat.dec,Leaf.ok,Leaf.val,Z0,Z1,Z2,Z3,Z4,Z5,Z6,Z7,Z8,Z9,Z10,Z11,Z12,Z13,Z14,qA,qB]at hr);cbv)|exact trivial|rfl|refine Both.mk ?_ ?_|(refine Imp.mk fun h=> ?_;(try dsimp only at h);(try simp only[nc,Int.toNat_natCast,ne_eq,zz]at h);(try simp only[nc]at h))|refine Ob.mk ?_ ?_|refine Chk.mk (by kernel_rfl) ?_|refine Eq'.mk ?_|(refine AllN.mk fun i hi=> ?_;cbv)|(refine AllC.mk fun c hc hcm=> ?_;(try dsimp only at hc);cbv)|(refine AllS.mk fun r hr=> ?_;(try simp only[Dat.ok,Dat.dec,Leaf.ok,Leaf.val,Z0,Z1,Z2,Z3,Z4,Z5,Z6,Z7,Z8,Z9,Z10,Z11,Z12,Z13,Z14,qA]at hr);cbv)
inductive OwnP (A:List AV) (PK:AV→Hp→Prop):Prop where
 |mk (m:Module) (h1:qAU m=0) (h2:leL 0 A [.agg (Dat.enc fun _=>m)]) (h3:PK (.agg (mdA 2 fun _=>m)) [.dead,.dead,psO (fun _=>m.parts.length) fun _=>m.parts])
theorem qTU:qBf Tryz.prog 21 OwnP:=fun A PK h=>by
 obtain⟨m,h1,h2,h3⟩:=h
 exact qO.pre (qO.le (qWT m h1) rfl h3) h2
noncomputable def qPi:Con:=qH OwnP
theorem qRd {A:List AV}{H:Hp}{K:qBm}(hv:qPi A H K):qO Tryz.prog 21 A H K:=qE qTU hv
end Go.Proofs.YtiaiifcgbjlfoaaGreatDoor
