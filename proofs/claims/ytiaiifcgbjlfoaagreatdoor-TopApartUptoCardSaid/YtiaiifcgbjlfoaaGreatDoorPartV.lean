/- parts.Run: walked. -/
import Derived.Test.YtiaiifcgbjlfoaaGreatDoorPartT
set_option linter.all false
namespace Go.Proofs.YtiaiifcgbjlfoaaGreatDoor
open Go Go.Abs
set_option maxRecDepth 100000 in
set_option maxHeartbeats 4000000 in
theorem qRl (m:Module) (hm:qAU m=0) (R:Module×Int) (hR:qAM m=R) (hne:qBd m (qV m.table m.now).1=true→(m.parts.getD (qV m.table m.now).1.toNat Dat.d0).box.length=0):
  qO Tryz.prog 22 [.ptr 0 0] [.blk (mdA 1 fun _=>m),psO (fun _=>m.parts.length) fun _=>m.parts] (qCL 2 (.i .i64 fun _=>R.2) [.blk (mdA 1 fun _=>R.1),psO (fun _=>R.1.parts.length) fun _=>R.1.parts] [1]):=by
 generalize hK:qCL 2 (.i .i64 fun _=>R.2) [.blk (mdA 1 fun _=>R.1),psO (fun _=>R.1.parts.length) fun _=>R.1.parts] [1]=K
 have M:=qAZ.1 hm
 have T:=qBA.1 M.t
 have lp:=M.lp
 have lw:=M.lw
 refine qAe qI zl qSr (qD6 qI zl qW3 mixed) (keep:=[0,2,3,5,6,7,8,12,24,49,88,89,90,91]) Tryz.func22 rfl ?_
 cbv
 repeat' first|(show Stp _;exfalso;first|omega|(exact h ‹_›)|(exact absurd ‹_› h)|(exact Bool.false_ne_true (h.symm.trans (show _=true by assumption))))|(refine Stp.mk ?_;cbv)|(refine Gen.mk fun r hr=> ?_;(try simp only[Dat.ok,Dat.dec,Leaf.ok,Leaf.val,Z0,Z1,Z2,Z3,Z4,Z5,Z6,Z7,Z8,Z9,Z10,Z11,Z12,Z13,Z14,qA,qB]at hr);cbv)|exact trivial|rfl|refine Both.mk ?_ ?_|(refine Imp.mk fun h=> ?_;(try dsimp only at h);(try simp only[nc,Int.toNat_natCast,ne_eq,zz]at h);(try simp only[nc]at h))|refine Ob.mk ?_ ?_|refine Chk.mk (by kernel_rfl) ?_|refine Eq'.mk ?_|(refine AllN.mk fun i hi=> ?_;cbv)|(refine AllC.mk fun c hc hcm=> ?_;(try dsimp only at hc);cbv)|(refine AllS.mk fun r hr=> ?_;(try simp only[Dat.ok,Dat.dec,Leaf.ok,Leaf.val,Z0,Z1,Z2,Z3,Z4,Z5,Z6,Z7,Z8,Z9,Z10,Z11,Z12,Z13,Z14,qA]at hr);cbv)
 all_goals ((try dsimp only at*);(try simp only[nc,Int.toNat_natCast,ne_eq,zz]at*);(try simp only[nc]at*))
 all_goals try simp only[Dat.dec,Leaf.val,Z0,Z1,Z2,Z3,Z4,Z5,Z6,Z7,Z8,Z9,Z10,Z11,Z12,Z13,Z14,qA]at*
 all_goals first
  |(subst hK
    have hR2:R=(m,6):=by rw[←hR,qAM,if_pos (by omega)]
    subst hR2
    cbv
    repeat' first|(refine Stp.mk ?_;cbv)|(refine Gen.mk fun r hr=> ?_;(try simp only[Dat.ok,Dat.dec,Leaf.ok,Leaf.val,Z0,Z1,Z2,Z3,Z4,Z5,Z6,Z7,Z8,Z9,Z10,Z11,Z12,Z13,Z14,qA,qB]at hr);cbv)|exact trivial|rfl|refine Both.mk ?_ ?_|(refine Imp.mk fun h=> ?_;(try dsimp only at h);(try simp only[nc,Int.toNat_natCast,ne_eq,zz]at h);(try simp only[nc]at h))|refine Ob.mk ?_ ?_|refine Chk.mk (by kernel_rfl) ?_|refine Eq'.mk ?_|(refine AllN.mk fun i hi=> ?_;cbv)|(refine AllC.mk fun c hc hcm=> ?_;(try dsimp only at hc);cbv)|(refine AllS.mk fun r hr=> ?_;(try simp only[Dat.ok,Dat.dec,Leaf.ok,Leaf.val,Z0,Z1,Z2,Z3,Z4,Z5,Z6,Z7,Z8,Z9,Z10,Z11,Z12,Z13,Z14,qA]at hr);cbv)
    done)
  |exact⟨⟨trivial,rfl,fun i _=>Dat.hok _⟩,by show(_:Nat)≤_;have:=T.len;omega⟩
  |(have:=M.now;unfold InR;omega)
  |exact Nat.le_refl _
  |exact⟨⟨trivial,⟨rfl,fun i _=>Dat.hok _⟩,⟨rfl,fun i _=>qPp (ps:=m.parts)⟩,⟨rfl,fun i _=>Dat.hok _⟩,trivial,trivial⟩,by show(slV (psA m.parts):List Part).length≤_;rw[qKY];omega⟩
  |(have hb:qBd m (qV m.table m.now).1=false:=qCi (by assumption)
    subst hK
    have hR2:R=(⟨m.table,m.parts,m.wires,m.now+1,m.lost⟩,0):=by rw[←hR,qAM,if_neg (by omega),if_pos hb]
    subst hR2
    cbv
    repeat' first|(refine Stp.mk ?_;cbv)|(refine Gen.mk fun r hr=> ?_;(try simp only[Dat.ok,Dat.dec,Leaf.ok,Leaf.val,Z0,Z1,Z2,Z3,Z4,Z5,Z6,Z7,Z8,Z9,Z10,Z11,Z12,Z13,Z14,qA,qB]at hr);cbv)|exact trivial|rfl|refine Both.mk ?_ ?_|(refine Imp.mk fun h=> ?_;(try dsimp only at h);(try simp only[nc,Int.toNat_natCast,ne_eq,zz]at h);(try simp only[nc]at h))|refine Ob.mk ?_ ?_|refine Chk.mk (by kernel_rfl) ?_|refine Eq'.mk ?_|(refine AllN.mk fun i hi=> ?_;cbv)|(refine AllC.mk fun c hc hcm=> ?_;(try dsimp only at hc);cbv)|(refine AllS.mk fun r hr=> ?_;(try simp only[Dat.ok,Dat.dec,Leaf.ok,Leaf.val,Z0,Z1,Z2,Z3,Z4,Z5,Z6,Z7,Z8,Z9,Z10,Z11,Z12,Z13,Z14,qA]at hr);cbv)
    done)
  |(have hb:qBd m (qV m.table m.now).1=true:=qCi (by assumption)
    have hb2:=of_decide_eq_true hb
    first
     |exact⟨hb2.1,hb2.2⟩
     |omega)
  |(have hb:qBd m (qV m.table m.now).1=true:=qCi (by assumption)
    have hb2:=of_decide_eq_true hb
    have P:=qB5.1 (M.p (m.parts.getD (qV m.table m.now).1.toNat Dat.d0) (by
     have h9:(qV m.table m.now).1.toNat<m.parts.length:=by omega
     rw[List.getD_eq_getElem?_getD,List.getElem?_eq_getElem h9];exact List.getElem_mem h9))
    have bd:= @qEX (m.parts.getD (qV m.table m.now).1.toNat Dat.d0).code (m.parts.getD (qV m.table m.now).1.toNat Dat.d0).vm (m.parts.getD (qV m.table m.now).1.toNat Dat.d0).box 1
    have c1:=qC9 P.c
    have c2:=(qB4 P.v).2.1
    have c3:=P.l
    first
     |exact⟨Nat.le_refl _,⟨rfl,fun i _=>Dat.hok _⟩,⟨trivial,⟨rfl,fun i _=>Dat.hok _⟩,trivial,trivial⟩,⟨rfl,fun i _=>Dat.hok _⟩,Nat.le_trans c1 (by decide),Nat.le_trans (Nat.le_of_eq c2) (by decide),Nat.le_trans c3 (by decide)⟩
     |exact⟨rfl,trivial,fun i _=>Dat.hok _,hne hb,rfl,by have:=hne hb;omega⟩)
  |skip
 have hb:qBd m (qV m.table m.now).1=true:=qCi (by assumption)
 have hb2:=of_decide_eq_true hb
 obtain⟨q,hq⟩:∃q:Nat,(qV m.table m.now).1=q:=⟨(qV m.table m.now).1.toNat,by omega⟩
 have hq2:q<m.parts.length:=by omega
 have P:=qB5.1 (M.p (m.parts.getD q Dat.d0) (by rw[List.getD_eq_getElem?_getD,List.getElem?_eq_getElem hq2];exact List.getElem_mem hq2))
 have bd:= @qEX (m.parts.getD q Dat.d0).code (m.parts.getD q Dat.d0).vm (m.parts.getD q Dat.d0).box 1
 have ol:= @qKZ (m.parts.getD q Dat.d0)
 have hz:=hne hb
 rw[hq,Int.toNat_natCast]at hz
 have eF:qT2 (m.parts.getD q Dat.d0).box 0 (qAH (m.parts.getD q Dat.d0).code (m.parts.getD q Dat.d0).vm (m.parts.getD q Dat.d0).box 1).2.2.1=(qIf (m.parts.getD q Dat.d0)).box:=by
  show(m.parts.getD q Dat.d0).box=List.drop _ _
  rw[List.eq_nil_of_length_eq_zero hz];simp
 have eN:qT3 (m.parts.getD q Dat.d0).box 0 (qAH (m.parts.getD q Dat.d0).code (m.parts.getD q Dat.d0).vm (m.parts.getD q Dat.d0).box 1).2.2.1=(qIf (m.parts.getD q Dat.d0)).box.length:=by
  rw[←eF];rfl
 have eT:qAM m=(qA6 q (qEp (m.parts.getD q Dat.d0)) ⟨m.table,m.parts.set q (qIf (m.parts.getD q Dat.d0)),m.wires,m.now+1,m.lost⟩,0):=by
  rw[qAM,if_neg (by omega),if_neg (by rw[hb];decide),hq,Int.toNat_natCast]
 rw[hq]at*
 simp only[Int.toNat_natCast]at*
 have hS0:SOk ⟨m.table,m.parts.set q (qIf (m.parts.getD q Dat.d0)),m.wires,m.now+1,m.lost⟩:=by
  refine⟨by rw[List.length_set];exact lp,lw,by rw[List.length_set];exact M.w,⟨M.lost.1,by have:=M.lost.2;show m.lost≤_;omega⟩,fun p hp=> ?_⟩
  rcases List.mem_or_eq_of_mem_set hp with hp|rfl
  ·exact(qB5.1 (M.p p hp)).l
  ·have:=P.l
   unfold qIf
   show(List.drop _ _).length≤50
   rw[List.length_drop];omega
 refine .cls ?_
 cbv
 repeat' first|(refine Stp.mk ?_;cbv)|(refine Gen.mk fun r hr=> ?_;(try simp only[Dat.ok,Dat.dec,Leaf.ok,Leaf.val,Z0,Z1,Z2,Z3,Z4,Z5,Z6,Z7,Z8,Z9,Z10,Z11,Z12,Z13,Z14,qA,qB]at hr);cbv)|exact trivial|rfl|refine Both.mk ?_ ?_|(refine Imp.mk fun h=> ?_;(try dsimp only at h);(try simp only[nc,Int.toNat_natCast,ne_eq,zz]at h);(try simp only[nc]at h))|refine Ob.mk ?_ ?_|refine Chk.mk (by kernel_rfl) ?_|refine Eq'.mk ?_|(refine AllN.mk fun i hi=> ?_;cbv)|(refine AllC.mk fun c hc hcm=> ?_;(try dsimp only at hc);cbv)|(refine AllS.mk fun r hr=> ?_;(try simp only[Dat.ok,Dat.dec,Leaf.ok,Leaf.val,Z0,Z1,Z2,Z3,Z4,Z5,Z6,Z7,Z8,Z9,Z10,Z11,Z12,Z13,Z14,qA]at hr);cbv)
 refine LoopI.frameC (5::[12,90,91]) (TkX q (qEp (m.parts.getD q Dat.d0)) ⟨m.table,m.parts.set q (qIf (m.parts.getD q Dat.d0)),m.wires,m.now+1,m.lost⟩) (fun x=>[(90,.i .i64 fun _=>x.k),(5,.any)]) (fun x=>[(0,.blk (mdA 1 fun _=>x.m')),(1,psO (fun _=>x.m'.parts.length) fun _=>x.m'.parts)]) [1,2,4,5,6,7,8,9,10,11,12] (fun x=>(qEp (m.parts.getD q Dat.d0)).length-x.k)
  ⟨0,_,Nat.zero_le _,hS0,by show m.lost≤m.lost+32*0;omega,by rw[List.drop_zero]⟩ rfl (fun _=>rfl) ?_ ?_ fun⟨k,m',hk,hS,hx,he⟩=> ?_
 ·cbv
  repeat' first|(refine Stp.mk ?_;cbv)|(refine Gen.mk fun r hr=> ?_;(try simp only[Dat.ok,Dat.dec,Leaf.ok,Leaf.val,Z0,Z1,Z2,Z3,Z4,Z5,Z6,Z7,Z8,Z9,Z10,Z11,Z12,Z13,Z14,qA,qB]at hr);cbv)|exact trivial|rfl|refine Both.mk ?_ ?_|(refine Imp.mk fun h=> ?_;(try dsimp only at h);(try simp only[nc,Int.toNat_natCast,ne_eq,zz]at h);(try simp only[nc]at h))|refine Ob.mk ?_ ?_|refine Chk.mk (by kernel_rfl) ?_|refine Eq'.mk ?_|(refine AllN.mk fun i hi=> ?_;cbv)|(refine AllC.mk fun c hc hcm=> ?_;(try dsimp only at hc);cbv)|(refine AllS.mk fun r hr=> ?_;(try simp only[Dat.ok,Dat.dec,Leaf.ok,Leaf.val,Z0,Z1,Z2,Z3,Z4,Z5,Z6,Z7,Z8,Z9,Z10,Z11,Z12,Z13,Z14,qA]at hr);cbv)
  all_goals fail
 ·cbv
  repeat' first|(refine Stp.mk ?_;cbv)|(refine Gen.mk fun r hr=> ?_;(try simp only[Dat.ok,Dat.dec,Leaf.ok,Leaf.val,Z0,Z1,Z2,Z3,Z4,Z5,Z6,Z7,Z8,Z9,Z10,Z11,Z12,Z13,Z14,qA,qB]at hr);cbv)|exact trivial|rfl|refine Both.mk ?_ ?_|(refine Imp.mk fun h=> ?_;(try dsimp only at h);(try simp only[nc,Int.toNat_natCast,ne_eq,zz]at h);(try simp only[nc]at h))|refine Ob.mk ?_ ?_|refine Chk.mk (by kernel_rfl) ?_|refine Eq'.mk ?_|(refine AllN.mk fun i hi=> ?_;cbv)|(refine AllC.mk fun c hc hcm=> ?_;(try dsimp only at hc);cbv)|(refine AllS.mk fun r hr=> ?_;(try simp only[Dat.ok,Dat.dec,Leaf.ok,Leaf.val,Z0,Z1,Z2,Z3,Z4,Z5,Z6,Z7,Z8,Z9,Z10,Z11,Z12,Z13,Z14,qA]at hr);cbv)
  all_goals ((try dsimp only at*);(try simp only[nc,Int.toNat_natCast,ne_eq,zz]at*);(try simp only[nc]at*))
  all_goals try simp only[eN,eF]at*
  all_goals first
   |rfl
   |exact(List.length_set).symm
   |exact qCh (fun p=>p.vm.at_) (by assumption) rfl
   |exact qCh (fun p=>p.vm.halts) (by assumption) rfl
   |exact qCh (fun p=>p.vm.fault) (by assumption) rfl
   |exact qCh (fun p=>p.box.length) (by assumption) rfl
   |exact qCh (fun p=>p.box.getD _ Dat.d0) (by assumption) rfl
   |(rw[qPl]<;>first|rfl|assumption)
   |exact congrArg (fun(p:Part)=>p.code.length) (qBr (by assumption) (by assumption)).symm
   |exact congrArg (fun(p:Part)=>(p.code.getD _ Dat.d0).code) (qBr (by assumption) (by assumption)).symm
   |exact congrArg (fun(p:Part)=>(p.code.getD _ Dat.d0).a) (qBr (by assumption) (by assumption)).symm
   |exact congrArg (fun(p:Part)=>(p.code.getD _ Dat.d0).b) (qBr (by assumption) (by assumption)).symm
   |exact congrArg (fun(p:Part)=>p.vm.regs.length) (qBr (by assumption) (by assumption)).symm
   |exact congrArg (fun(p:Part)=>p.vm.regs.getD _ Dat.d0) (qBr (by assumption) (by assumption)).symm
   |(simp;done)
   |fail
 have hx:m'.lost≤m.lost+32*k:=hx
 have hx9:m'.lost+32≤m.lost+32*((k+1:Nat):Int):=by rw[show((k+1:Nat):Int)=(k:Int)+1 from rfl,Int.mul_add];omega
 have hl2:m'.lost≤2199023255552:=by omega
 have st:=fun h=> @qHh q (qEp (m.parts.getD q Dat.d0)) m' k h
 have sk:= @qL8 q ((qEp (m.parts.getD q Dat.d0)).getD k Dat.d0) m' hS hl2
 cbv
 repeat' first|(refine Stp.mk ?_;cbv)|(refine Gen.mk fun r hr=> ?_;(try simp only[Dat.ok,Dat.dec,Leaf.ok,Leaf.val,Z0,Z1,Z2,Z3,Z4,Z5,Z6,Z7,Z8,Z9,Z10,Z11,Z12,Z13,Z14,qA,qB]at hr);cbv)|exact trivial|rfl|refine Both.mk ?_ ?_|(refine Imp.mk fun h=> ?_;(try dsimp only at h);(try simp only[nc,Int.toNat_natCast,ne_eq,zz]at h);(try simp only[nc]at h))|refine Ob.mk ?_ ?_|refine Chk.mk (by kernel_rfl) ?_|refine Eq'.mk ?_|(refine AllN.mk fun i hi=> ?_;cbv)|(refine AllC.mk fun c hc hcm=> ?_;(try dsimp only at hc);cbv)|(refine AllS.mk fun r hr=> ?_;(try simp only[Dat.ok,Dat.dec,Leaf.ok,Leaf.val,Z0,Z1,Z2,Z3,Z4,Z5,Z6,Z7,Z8,Z9,Z10,Z11,Z12,Z13,Z14,qA]at hr);cbv)
 ·have h9:k<(qEp (m.parts.getD q Dat.d0)).length:=Int.ofNat_lt.1 h
  exact⟨Int.natCast_nonneg k,Int.ofNat_lt.2 h9⟩
 ·have h9:k<(qEp (m.parts.getD q Dat.d0)).length:=Int.ofNat_lt.1 h
  have st:=st h9
  refine SndI.mk m' q ((qEp (m.parts.getD q Dat.d0)).getD k Dat.d0) hS rfl ?_ ?_ fun R2 hR2=> ?_
  ·cbv
   repeat' first|(refine Stp.mk ?_;cbv)|(refine Gen.mk fun r hr=> ?_;(try simp only[Dat.ok,Dat.dec,Leaf.ok,Leaf.val,Z0,Z1,Z2,Z3,Z4,Z5,Z6,Z7,Z8,Z9,Z10,Z11,Z12,Z13,Z14,qA,qB]at hr);cbv)|exact trivial|rfl|refine Both.mk ?_ ?_|(refine Imp.mk fun h=> ?_;(try dsimp only at h);(try simp only[nc,Int.toNat_natCast,ne_eq,zz]at h);(try simp only[nc]at h))|refine Ob.mk ?_ ?_|refine Chk.mk (by kernel_rfl) ?_|refine Eq'.mk ?_|(refine AllN.mk fun i hi=> ?_;cbv)|(refine AllC.mk fun c hc hcm=> ?_;(try dsimp only at hc);cbv)|(refine AllS.mk fun r hr=> ?_;(try simp only[Dat.ok,Dat.dec,Leaf.ok,Leaf.val,Z0,Z1,Z2,Z3,Z4,Z5,Z6,Z7,Z8,Z9,Z10,Z11,Z12,Z13,Z14,qA]at hr);cbv)
   all_goals fail
  ·cbv
   repeat' first|(refine Stp.mk ?_;cbv)|(refine Gen.mk fun r hr=> ?_;(try simp only[Dat.ok,Dat.dec,Leaf.ok,Leaf.val,Z0,Z1,Z2,Z3,Z4,Z5,Z6,Z7,Z8,Z9,Z10,Z11,Z12,Z13,Z14,qA,qB]at hr);cbv)|exact trivial|rfl|refine Both.mk ?_ ?_|(refine Imp.mk fun h=> ?_;(try dsimp only at h);(try simp only[nc,Int.toNat_natCast,ne_eq,zz]at h);(try simp only[nc]at h))|refine Ob.mk ?_ ?_|refine Chk.mk (by kernel_rfl) ?_|refine Eq'.mk ?_|(refine AllN.mk fun i hi=> ?_;cbv)|(refine AllC.mk fun c hc hcm=> ?_;(try dsimp only at hc);cbv)|(refine AllS.mk fun r hr=> ?_;(try simp only[Dat.ok,Dat.dec,Leaf.ok,Leaf.val,Z0,Z1,Z2,Z3,Z4,Z5,Z6,Z7,Z8,Z9,Z10,Z11,Z12,Z13,Z14,qA]at hr);cbv)
   all_goals fail
  ·cbv
   repeat' first|(refine Stp.mk ?_;cbv)|(refine Gen.mk fun r hr=> ?_;(try simp only[Dat.ok,Dat.dec,Leaf.ok,Leaf.val,Z0,Z1,Z2,Z3,Z4,Z5,Z6,Z7,Z8,Z9,Z10,Z11,Z12,Z13,Z14,qA,qB]at hr);cbv)|exact trivial|rfl|refine Both.mk ?_ ?_|(refine Imp.mk fun h=> ?_;(try dsimp only at h);(try simp only[nc,Int.toNat_natCast,ne_eq,zz]at h);(try simp only[nc]at h))|refine Ob.mk ?_ ?_|refine Chk.mk (by kernel_rfl) ?_|refine Eq'.mk ?_|(refine AllN.mk fun i hi=> ?_;cbv)|(refine AllC.mk fun c hc hcm=> ?_;(try dsimp only at hc);cbv)|(refine AllS.mk fun r hr=> ?_;(try simp only[Dat.ok,Dat.dec,Leaf.ok,Leaf.val,Z0,Z1,Z2,Z3,Z4,Z5,Z6,Z7,Z8,Z9,Z10,Z11,Z12,Z13,Z14,qA]at hr);cbv)
   all_goals first
    |(show InR ((k:Int)+1);unfold InR;omega)
    |(have sk2:=sk
      rw[hR2]at sk2 st
      refine⟨⟨k+1,R2,by omega,sk2.1,Int.le_trans sk2.2 hx9,he.trans st⟩, ?_, ?_,rfl,by(try dsimp only);omega⟩
      ·cbv
       repeat' first|(refine Stp.mk ?_;cbv)|(refine Gen.mk fun r hr=> ?_;(try simp only[Dat.ok,Dat.dec,Leaf.ok,Leaf.val,Z0,Z1,Z2,Z3,Z4,Z5,Z6,Z7,Z8,Z9,Z10,Z11,Z12,Z13,Z14,qA,qB]at hr);cbv)|exact trivial|rfl|refine Both.mk ?_ ?_|(refine Imp.mk fun h=> ?_;(try dsimp only at h);(try simp only[nc,Int.toNat_natCast,ne_eq,zz]at h);(try simp only[nc]at h))|refine Ob.mk ?_ ?_|refine Chk.mk (by kernel_rfl) ?_|refine Eq'.mk ?_|(refine AllN.mk fun i hi=> ?_;cbv)|(refine AllC.mk fun c hc hcm=> ?_;(try dsimp only at hc);cbv)|(refine AllS.mk fun r hr=> ?_;(try simp only[Dat.ok,Dat.dec,Leaf.ok,Leaf.val,Z0,Z1,Z2,Z3,Z4,Z5,Z6,Z7,Z8,Z9,Z10,Z11,Z12,Z13,Z14,qA]at hr);cbv)
      ·cbv
       repeat' first|(refine Stp.mk ?_;cbv)|(refine Gen.mk fun r hr=> ?_;(try simp only[Dat.ok,Dat.dec,Leaf.ok,Leaf.val,Z0,Z1,Z2,Z3,Z4,Z5,Z6,Z7,Z8,Z9,Z10,Z11,Z12,Z13,Z14,qA,qB]at hr);cbv)|exact trivial|rfl|refine Both.mk ?_ ?_|(refine Imp.mk fun h=> ?_;(try dsimp only at h);(try simp only[nc,Int.toNat_natCast,ne_eq,zz]at h);(try simp only[nc]at h))|refine Ob.mk ?_ ?_|refine Chk.mk (by kernel_rfl) ?_|refine Eq'.mk ?_|(refine AllN.mk fun i hi=> ?_;cbv)|(refine AllC.mk fun c hc hcm=> ?_;(try dsimp only at hc);cbv)|(refine AllS.mk fun r hr=> ?_;(try simp only[Dat.ok,Dat.dec,Leaf.ok,Leaf.val,Z0,Z1,Z2,Z3,Z4,Z5,Z6,Z7,Z8,Z9,Z10,Z11,Z12,Z13,Z14,qA]at hr);cbv)
       all_goals fail)
    |fail
 ·have h9:(qEp (m.parts.getD q Dat.d0)).length≤k:=Int.ofNat_le.1 h
  have eR:R=(m',0):=by rw[←hR,eT,he,List.drop_eq_nil_of_le h9,qA6]
  subst eR
  subst hK
  cbv
  repeat' first|(refine Stp.mk ?_;cbv)|(refine Gen.mk fun r hr=> ?_;(try simp only[Dat.ok,Dat.dec,Leaf.ok,Leaf.val,Z0,Z1,Z2,Z3,Z4,Z5,Z6,Z7,Z8,Z9,Z10,Z11,Z12,Z13,Z14,qA,qB]at hr);cbv)|exact trivial|rfl|refine Both.mk ?_ ?_|(refine Imp.mk fun h=> ?_;(try dsimp only at h);(try simp only[nc,Int.toNat_natCast,ne_eq,zz]at h);(try simp only[nc]at h))|refine Ob.mk ?_ ?_|refine Chk.mk (by kernel_rfl) ?_|refine Eq'.mk ?_|(refine AllN.mk fun i hi=> ?_;cbv)|(refine AllC.mk fun c hc hcm=> ?_;(try dsimp only at hc);cbv)|(refine AllS.mk fun r hr=> ?_;(try simp only[Dat.ok,Dat.dec,Leaf.ok,Leaf.val,Z0,Z1,Z2,Z3,Z4,Z5,Z6,Z7,Z8,Z9,Z10,Z11,Z12,Z13,Z14,qA]at hr);cbv)
  all_goals fail
theorem qUb (m:Module) (hm:qAU m=0) (R:Module×Int) (hR:qAM m=R):
  qO Tryz.prog 22 [.ptr 0 0] [.blk (mdA 1 fun _=>m),psO (fun _=>m.parts.length) fun _=>m.parts] (qCL 2 (.i .i64 fun _=>R.2) [.blk (mdA 1 fun _=>R.1),psO (fun _=>R.1.parts.length) fun _=>R.1.parts] [1]):=by
 rcases Nat.eq_zero_or_pos (m.parts.getD (qV m.table m.now).1.toNat Dat.d0).box.length with h|h
 ·exact qRl m hm R hR fun _=>h
 ·exact qRg m hm R hR fun _=>h
inductive TkI (A:List AV) (H:Hp) (K:qBm):Prop where
 |mk (m:Module) (h1:qAU m=0) (h2:H.length=2) (h3:leL 2 A [.ptr 0 0]) (h4:leH H [.blk (mdA 1 fun _=>m),psO (fun _=>m.parts.length) fun _=>m.parts])
  (h5:∀R,qAM m=R→K (.i .i64 fun _=>R.2) [.blk (mdA 1 fun _=>R.1),psO (fun _=>R.1.parts.length) fun _=>R.1.parts] [1])
noncomputable def qXc:Con:=qLD TkI
theorem qXd {A:List AV}{H:Hp}{K:qBm}(hv:qXc A H K):qO Tryz.prog 22 A H K:=
 qJw (fun{A H K} hv=>by
  obtain⟨m,h1,h2,h3,h4,h5⟩:=hv
  exact qYy (qO.le (qUb m h1 _ rfl) rfl (h5 _ rfl)) h2 h3 h4) hv
end Go.Proofs.YtiaiifcgbjlfoaaGreatDoor

namespace Go.Proofs.YtiaiifcgbjlfoaaGreatDoor
open Go Go.Abs
theorem qXe:qC5 0=true:=by decide
theorem qRm {l:List Int}{k:Nat}(h:qPM l):qC5 (l.getD k Dat.d0)=true:=by
 by_cases hk:k<l.length
 ·rw[List.getD_eq_getElem?_getD,List.getElem?_eq_getElem hk];exact h _ (List.getElem_mem hk)
 ·rw[List.getD_eq_getElem?_getD,List.getElem?_eq_none (by omega)];exact qXe
theorem qEo {p:Part}(P:POk p):qFe p.code p.vm p.box 1=0:=qC8.2 ⟨P.c,P.v,P.a,P.n,by decide,by decide,by have:=P.l;omega⟩
theorem qUc {p:Part}(P:POk p):∀x∈qEp p,qC5 x.n=true:=by
 have I:=qXP (qEo P)
 unfold qEp
 rw[qDL (qEo P)]
 show∀x∈(qAy p.code 1 (qCe p.vm p.box)).1.out,_
 rw[qAy]
 split
 ·intro x hx;cases hx
 ·split
  ·intro x hx;cases hx
  ·cases h:qAF p.code (qCe p.vm p.box)with
   |none=>intro x hx;cases hx
   |some m'=>
    show∀x∈(qAy p.code 0 m').1.out,_
    rw[qAy]
    show∀x∈m'.out,_
    have hn:∀k,qC5 (gR (qCe p.vm p.box) k)=true:=fun k=>qRm I.rn
    unfold qAF at h
    repeat' split at h
    all_goals first
     |(cases h;done)
     |(cases h;intro x hx;cases hx;done)
     |(cases h
       intro x hx
       have hx:x∈[_]:=hx
       rw[List.mem_singleton.1 hx]
       exact hn _)
theorem qPt {p:Part}(P:POk p):POk (qIf p):=by
 have I:=qId P.c 1 _ (qXP (qEo P))
 have e:(qAH p.code p.vm p.box 1).1=qM1 (qAy p.code 1 (qCe p.vm p.box)).1:=by rw[qDL (qEo P)];rfl
 refine⟨P.c, ?_, ?_, ?_,fun x hx=>P.n x (List.mem_of_mem_drop hx)⟩
 ·show qA1 (qAH p.code p.vm p.box 1).1=0
  rw[e];exact qJM P.c I
 ·show(qAH p.code p.vm p.box 1).1.at_≤p.code.length
  rw[e];exact I.a1
 ·show(List.drop _ _).length≤50
  rw[List.length_drop];have:=P.l;omega
theorem qUd {m:Module}{w:Wire}{n:Int}(h:∀p∈m.parts,POk p) (hn:qC5 n=true):∀p∈(qBF m w n).parts,POk p:=by
 unfold qBF
 split
 ·rename_i q
  by_cases hr:w.to.toNat<m.parts.length
  ·intro p hp
   rcases List.mem_or_eq_of_mem_set hp with hp|rfl
   ·exact h p hp
   ·have P:=h (m.parts.getD w.to.toNat Dat.d0) (by rw[List.getD_eq_getElem?_getD,List.getElem?_eq_getElem hr];exact List.getElem_mem hr)
    refine⟨P.c,P.v,P.a, ?_,fun x hx=> ?_⟩
    ·show(_++_:List Int).length≤50
     rw[List.length_append];simp only[List.length_singleton];omega
    ·rcases List.mem_append.1 hx with hx|hx
     ·exact P.n x hx
     ·rw[List.mem_singleton.1 hx];exact hn
  ·show∀p∈m.parts.set _ _,POk p
   rw[List.set_eq_of_length_le (by omega)];exact h
 ·exact h
theorem qK0 {i:Int}{x:Emit}(hn:qC5 x.n=true):∀{l:List Wire}{m:Module},(∀p∈m.parts,POk p)→∀p∈(qA9 i x l m).parts,POk p
 |[],_,h=>h
 |w::r,m,h=>by
  rw[qA9]
  split
  ·exact qK0 hn (qUd h hn)
  ·exact qK0 hn h
theorem qL9 {i:Int}:∀{out:List Emit}{m:Module},(∀x∈out,qC5 x.n=true)→(∀p∈m.parts,POk p)→(qA6 i out m).wires=m.wires∧(qA6 i out m).table=m.table∧(qA6 i out m).now=m.now∧(qA6 i out m).parts.length=m.parts.length∧
  (m.lost≤(qA6 i out m).lost∧(qA6 i out m).lost≤m.lost+m.wires.length*out.length)∧∀p∈(qA6 i out m).parts,POk p
 |[],m,_,h=>⟨rfl,rfl,rfl,rfl,⟨Int.le_refl _,by show m.lost≤m.lost+m.wires.length*0;omega⟩,h⟩
 |x::r,m,hx,h=>by
  rw[qA6]
  have a:=qFz (i:=i) (x:=x) (l:=m.wires) (m:=m) fun p hp=>(h p hp).l
  have b:=qL9 (i:=i) (out:=r) (m:=qA9 i x m.wires m) (fun y hy=>hx y (List.mem_cons_of_mem _ hy)) (qK0 (hx x List.mem_cons_self) h)
  obtain⟨a1,a2,a3,a4,a5,a6⟩:=a
  obtain⟨b1,b2,b3,b4,b5,b6⟩:=b
  rw[a1]at b1 b5
  have e:(m.wires.length:Int)*((x::r).length:Int)=m.wires.length*r.length+m.wires.length:=by
   rw[List.length_cons]
   show(m.wires.length:Int)*((r.length:Int)+1)=_
   rw[Int.mul_add,Int.mul_one]
  refine⟨b1,b2.trans a2,b3.trans a3,b4.trans a4,⟨by omega, ?_⟩,b6⟩
  rw[e];omega
theorem qPu {m:Module}(h:(qAM m).2=0):¬(m.now=1099511627776∨1099511627744<m.lost):=fun q=>by
 unfold qAM at h
 rw[if_pos q]at h;cases h
theorem qK1 {m:Module}(M:MOk m) (h:(qAM m).2=0):MOk (qAM m).1∧(qAM m).1.now=m.now+1∧(qAM m).1.table=m.table∧(qAM m).1.wires=m.wires∧(qAM m).1.parts.length=m.parts.length∧m.lost≤(qAM m).1.lost:=by
 have g:=qPu h
 have hn:=M.now
 have hl:=M.lost
 unfold qAM
 rw[if_neg g]
 split
 ·exact⟨⟨M.t,M.lp,M.lw,M.p,M.w,⟨by show 0≤m.now+1;omega,by show m.now+1≤_;omega⟩,M.lost⟩,rfl,rfl,rfl,rfl,Int.le_refl _⟩
 ·rename_i hb
  have hb:qBd m (qV m.table m.now).1=true:=by simpa using hb
  have hb2:=of_decide_eq_true hb
  generalize (qV m.table m.now).1=i at hb2
  have hi:i.toNat<m.parts.length:=by omega
  have P:=qB5.1 (M.p (m.parts.getD i.toNat Dat.d0) (by rw[List.getD_eq_getElem?_getD,List.getElem?_eq_getElem hi];exact List.getElem_mem hi))
  have hp:∀p∈m.parts.set i.toNat (qIf (m.parts.getD i.toNat Dat.d0)),POk p:=fun p hp=>by
   rcases List.mem_or_eq_of_mem_set hp with hp|rfl
   ·exact qB5.1 (M.p p hp)
   ·exact qPt P
  obtain⟨s1,s2,s3,s4,s5,s6⟩:=qL9 (i:=i) (out:=qEp (m.parts.getD i.toNat Dat.d0)) (m:=⟨m.table,m.parts.set i.toNat (qIf (m.parts.getD i.toNat Dat.d0)),m.wires,m.now+1,m.lost⟩) (qUc P) hp
  have ol:= @qKZ (m.parts.getD i.toNat Dat.d0)
  have s4:_=m.parts.length:=s4.trans (List.length_set ..)
  have lw:=M.lw
  have bd:(m.wires.length:Int)*((qEp (m.parts.getD i.toNat Dat.d0)).length:Int)≤32:=by
   rcases Nat.eq_zero_or_pos (qEp (m.parts.getD i.toNat Dat.d0)).length with z|z
   ·rw[z];simp
   ·rw[show(qEp (m.parts.getD i.toNat Dat.d0)).length=1 by omega];omega
  dsimp only at s1 s2 s3 s5
  refine⟨⟨by rw[s2];exact M.t,by rw[s4];exact M.lp,by rw[s1];exact M.lw,fun p hp=>qB5.2 (s6 p hp),by rw[s1,s4];exact M.w, ?_, ?_⟩,s3,s2,s1,s4,s5.1⟩
  ·rw[s3];omega
  ·exact⟨Int.le_trans hl.1 s5.1,Int.le_trans s5.2 (by omega)⟩
theorem qHi {n:Nat}{m:Module}(h:(qAM m).2=0):qAK (n+1) m=qAK n (qAM m).1:=by rw[qAK,if_pos h]
theorem qJN {n:Nat}{m:Module}(h:¬(qAM m).2=0):qAK (n+1) m=(zM,(qAM m).2):=by rw[qAK,if_neg h]
end Go.Proofs.YtiaiifcgbjlfoaaGreatDoor

namespace Go.Proofs.YtiaiifcgbjlfoaaGreatDoor
open Go Go.Abs
structure RuX (m0:Module) (n:Nat) where
 k:Nat
 m:Module
 hk:k≤n
 hm:qAU m=0
 he:qAK n m0=qAK (n-k) m
noncomputable def cRu:FuncId→Con:=fun f=>match f with
 |19=>qH (qM qIh)
 |21=>qPi
 |22=>qXc
 |_=>fun _ _ _=>Bad 1001
theorem qXf:qY Tryz.prog cRu:=fun f A H K h=>by
 unfold cRu at h
 split at h
 ·exact⟨⟨Tryz.f19,Tryz.func19,by kernel_rfl,by kernel_rfl⟩,qE qL5 h⟩
 ·exact⟨⟨Tryz.f21,Tryz.func21,by kernel_rfl,by kernel_rfl⟩,qRd h⟩
 ·exact⟨⟨Tryz.f22,Tryz.func22,by kernel_rfl,by kernel_rfl⟩,qXd h⟩
 ·cases h
set_option maxRecDepth 100000 in
set_option maxHeartbeats 4000000 in
theorem qUe (m:Module) (n:Int) (hp:qCH m) (R:Module×Int) (hR:qEm m n=R):
  qO Tryz.prog 6 [.agg (Dat.enc fun _=>m),.i .i64 fun _=>n] [] (qAf (.tup [.agg (mdA 0 fun _=>R.1),.i .i64 fun _=>R.2]) [psO (fun _=>R.1.parts.length) fun _=>R.1.parts]):=by
 have fin0:∀e H kl,R=(zM,e)→qAf (.tup [.agg (mdA 0 fun _=>R.1),.i .i64 fun _=>R.2]) [psO (fun _=>R.1.parts.length) fun _=>R.1.parts] (.tup [.agg [.i .i64 fun _=>0,.nil,.nil,.nil,.i .i64 fun _=>0,.i .i64 fun _=>0],.i .i64 fun _=>e]) H kl:=fun e H kl h=>by
  subst h
  cbv
  repeat' first|(refine Stp.mk ?_;cbv)|(refine Gen.mk fun r hr=> ?_;(try simp only[Dat.ok,Dat.dec,Leaf.ok,Leaf.val,Z0,Z1,Z2,Z3,Z4,Z5,Z6,Z7,Z8,Z9,Z10,Z11,Z12,Z13,Z14,qA,qB]at hr);cbv)|exact trivial|rfl|refine Both.mk ?_ ?_|(refine Imp.mk fun h=> ?_;(try dsimp only at h);(try simp only[nc,Int.toNat_natCast,ne_eq,zz]at h);(try simp only[nc]at h))|refine Ob.mk ?_ ?_|refine Chk.mk (by kernel_rfl) ?_|refine Eq'.mk ?_|(refine AllN.mk fun i hi=> ?_;cbv)|(refine AllC.mk fun c hc hcm=> ?_;(try dsimp only at hc);cbv)|(refine AllS.mk fun r hr=> ?_;(try simp only[Dat.ok,Dat.dec,Leaf.ok,Leaf.val,Z0,Z1,Z2,Z3,Z4,Z5,Z6,Z7,Z8,Z9,Z10,Z11,Z12,Z13,Z14,qA]at hr);cbv)
  all_goals first|exact absurd hi (Nat.not_lt_zero _)|fail
 have fin1:∀m' a0 a1 a2 a3 kl,R=(m',0)→qAf (.tup [.agg (mdA 0 fun _=>R.1),.i .i64 fun _=>R.2]) [psO (fun _=>R.1.parts.length) fun _=>R.1.parts] (.tup [.agg (mdA 4 fun _=>m'),.i .i64 fun _=>0]) [a0,a1,a2,a3,psO (fun _=>m'.parts.length) fun _=>m'.parts] kl:=fun m' a0 a1 a2 a3 kl h=>by
  subst h
  cbv
  repeat' first|(refine Stp.mk ?_;cbv)|(refine Gen.mk fun r hr=> ?_;(try simp only[Dat.ok,Dat.dec,Leaf.ok,Leaf.val,Z0,Z1,Z2,Z3,Z4,Z5,Z6,Z7,Z8,Z9,Z10,Z11,Z12,Z13,Z14,qA,qB]at hr);cbv)|exact trivial|rfl|refine Both.mk ?_ ?_|(refine Imp.mk fun h=> ?_;(try dsimp only at h);(try simp only[nc,Int.toNat_natCast,ne_eq,zz]at h);(try simp only[nc]at h))|refine Ob.mk ?_ ?_|refine Chk.mk (by kernel_rfl) ?_|refine Eq'.mk ?_|(refine AllN.mk fun i hi=> ?_;cbv)|(refine AllC.mk fun c hc hcm=> ?_;(try dsimp only at hc);cbv)|(refine AllS.mk fun r hr=> ?_;(try simp only[Dat.ok,Dat.dec,Leaf.ok,Leaf.val,Z0,Z1,Z2,Z3,Z4,Z5,Z6,Z7,Z8,Z9,Z10,Z11,Z12,Z13,Z14,qA]at hr);cbv)
  all_goals fail
 generalize qAf (.tup [.agg (mdA 0 fun _=>R.1),.i .i64 fun _=>R.2]) [psO (fun _=>R.1.parts.length) fun _=>R.1.parts]=K at fin0 fin1 ⊢
 refine qAe qI zl qXf qD (keep:=[0,1,2,4,5,6,7,11,19,23,24,25,28]) Tryz.func6 rfl ?_
 cbv
 repeat' first|(show Stp _;exfalso;first|omega|(exact h ‹_›)|(exact absurd ‹_› h)|(exact Bool.false_ne_true (h.symm.trans (show _=true by assumption))))|(refine Stp.mk ?_;cbv)|(refine Gen.mk fun r hr=> ?_;(try simp only[Dat.ok,Dat.dec,Leaf.ok,Leaf.val,Z0,Z1,Z2,Z3,Z4,Z5,Z6,Z7,Z8,Z9,Z10,Z11,Z12,Z13,Z14,qA,qB]at hr);cbv)|exact trivial|rfl|refine Both.mk ?_ ?_|(refine Imp.mk fun h=> ?_;(try dsimp only at h);(try simp only[nc,Int.toNat_natCast,ne_eq,zz]at h);(try simp only[nc]at h))|refine Ob.mk ?_ ?_|refine Chk.mk (by kernel_rfl) ?_|refine Eq'.mk ?_|(refine AllN.mk fun i hi=> ?_;cbv)|(refine AllC.mk fun c hc hcm=> ?_;(try dsimp only at hc);cbv)|(refine AllS.mk fun r hr=> ?_;(try simp only[Dat.ok,Dat.dec,Leaf.ok,Leaf.val,Z0,Z1,Z2,Z3,Z4,Z5,Z6,Z7,Z8,Z9,Z10,Z11,Z12,Z13,Z14,qA]at hr);cbv)
 all_goals ((try dsimp only at*);(try simp only[nc,Int.toNat_natCast,ne_eq,zz]at*);(try simp only[nc]at*))
 all_goals try simp only[Dat.dec,Leaf.val,Z0,Z1,Z2,Z3,Z4,Z5,Z6,Z7,Z8,Z9,Z10,Z11,Z12,Z13,Z14,qA]at*
 all_goals try first
  |exact⟨⟨trivial,⟨rfl,fun i _=>Dat.hok _⟩,⟨rfl,fun i _=>Dat.hok _⟩,⟨rfl,fun i _=>Dat.hok _⟩,trivial,trivial⟩,hp⟩
  |(refine fin0 _ _ _ ?_
    rw[←hR,qEm,if_pos (by assumption)]
    done)
  |(refine fin0 _ _ _ ?_
    rw[←hR,qEm,if_neg (fun q=>q (by assumption)),if_pos (by omega)]
    done)
 have hm:qAU m=0:=by assumption
 have n0:0≤n:=by assumption
 have n1:n≤5000:=by assumption
 have eR:R=qAK n.toNat m:=by rw[←hR,qEm,if_neg (fun q=>q hm),if_neg (by omega)]
 refine OwnP.mk m hm ?_ ?_
 ·cbv
  repeat' first|(refine Stp.mk ?_;cbv)|(refine Gen.mk fun r hr=> ?_;(try simp only[Dat.ok,Dat.dec,Leaf.ok,Leaf.val,Z0,Z1,Z2,Z3,Z4,Z5,Z6,Z7,Z8,Z9,Z10,Z11,Z12,Z13,Z14,qA,qB]at hr);cbv)|exact trivial|rfl|refine Both.mk ?_ ?_|(refine Imp.mk fun h=> ?_;(try dsimp only at h);(try simp only[nc,Int.toNat_natCast,ne_eq,zz]at h);(try simp only[nc]at h))|refine Ob.mk ?_ ?_|refine Chk.mk (by kernel_rfl) ?_|refine Eq'.mk ?_|(refine AllN.mk fun i hi=> ?_;cbv)|(refine AllC.mk fun c hc hcm=> ?_;(try dsimp only at hc);cbv)|(refine AllS.mk fun r hr=> ?_;(try simp only[Dat.ok,Dat.dec,Leaf.ok,Leaf.val,Z0,Z1,Z2,Z3,Z4,Z5,Z6,Z7,Z8,Z9,Z10,Z11,Z12,Z13,Z14,qA]at hr);cbv)
  all_goals fail
 cbv
 repeat' first|(refine Stp.mk ?_;cbv)|(refine Gen.mk fun r hr=> ?_;(try simp only[Dat.ok,Dat.dec,Leaf.ok,Leaf.val,Z0,Z1,Z2,Z3,Z4,Z5,Z6,Z7,Z8,Z9,Z10,Z11,Z12,Z13,Z14,qA,qB]at hr);cbv)|exact trivial|rfl|refine Both.mk ?_ ?_|(refine Imp.mk fun h=> ?_;(try dsimp only at h);(try simp only[nc,Int.toNat_natCast,ne_eq,zz]at h);(try simp only[nc]at h))|refine Ob.mk ?_ ?_|refine Chk.mk (by kernel_rfl) ?_|refine Eq'.mk ?_|(refine AllN.mk fun i hi=> ?_;cbv)|(refine AllC.mk fun c hc hcm=> ?_;(try dsimp only at hc);cbv)|(refine AllS.mk fun r hr=> ?_;(try simp only[Dat.ok,Dat.dec,Leaf.ok,Leaf.val,Z0,Z1,Z2,Z3,Z4,Z5,Z6,Z7,Z8,Z9,Z10,Z11,Z12,Z13,Z14,qA]at hr);cbv)
 refine .now (LoopI.frameC [5,7,24,25,28] (RuX m n.toNat) (fun x=>[(24,.i .i64 fun _=>x.k)]) (fun x=>[(0,.blk (mdA 4 fun _=>x.m)),(4,psO (fun _=>x.m.parts.length) fun _=>x.m.parts)]) [4,5,6,7,8] (fun x=>n.toNat-x.k)
  ⟨0,m,Nat.zero_le _,hm,by rw[Nat.sub_zero]⟩ rfl (fun _=>rfl) ?_ ?_ fun⟨k,m',hk,hm',he⟩=> ?_)
 ·cbv
  repeat' first|(refine Stp.mk ?_;cbv)|(refine Gen.mk fun r hr=> ?_;(try simp only[Dat.ok,Dat.dec,Leaf.ok,Leaf.val,Z0,Z1,Z2,Z3,Z4,Z5,Z6,Z7,Z8,Z9,Z10,Z11,Z12,Z13,Z14,qA,qB]at hr);cbv)|exact trivial|rfl|refine Both.mk ?_ ?_|(refine Imp.mk fun h=> ?_;(try dsimp only at h);(try simp only[nc,Int.toNat_natCast,ne_eq,zz]at h);(try simp only[nc]at h))|refine Ob.mk ?_ ?_|refine Chk.mk (by kernel_rfl) ?_|refine Eq'.mk ?_|(refine AllN.mk fun i hi=> ?_;cbv)|(refine AllC.mk fun c hc hcm=> ?_;(try dsimp only at hc);cbv)|(refine AllS.mk fun r hr=> ?_;(try simp only[Dat.ok,Dat.dec,Leaf.ok,Leaf.val,Z0,Z1,Z2,Z3,Z4,Z5,Z6,Z7,Z8,Z9,Z10,Z11,Z12,Z13,Z14,qA]at hr);cbv)
  all_goals fail
 ·cbv
  repeat' first|(refine Stp.mk ?_;cbv)|(refine Gen.mk fun r hr=> ?_;(try simp only[Dat.ok,Dat.dec,Leaf.ok,Leaf.val,Z0,Z1,Z2,Z3,Z4,Z5,Z6,Z7,Z8,Z9,Z10,Z11,Z12,Z13,Z14,qA,qB]at hr);cbv)|exact trivial|rfl|refine Both.mk ?_ ?_|(refine Imp.mk fun h=> ?_;(try dsimp only at h);(try simp only[nc,Int.toNat_natCast,ne_eq,zz]at h);(try simp only[nc]at h))|refine Ob.mk ?_ ?_|refine Chk.mk (by kernel_rfl) ?_|refine Eq'.mk ?_|(refine AllN.mk fun i hi=> ?_;cbv)|(refine AllC.mk fun c hc hcm=> ?_;(try dsimp only at hc);cbv)|(refine AllS.mk fun r hr=> ?_;(try simp only[Dat.ok,Dat.dec,Leaf.ok,Leaf.val,Z0,Z1,Z2,Z3,Z4,Z5,Z6,Z7,Z8,Z9,Z10,Z11,Z12,Z13,Z14,qA]at hr);cbv)
  all_goals fail
 have tk:∀R2,qAM m'=R2→R2.2=0→qAU R2.1=0:=fun R2 h h2=>by
  subst h
  exact qAZ.2 (qK1 (qAZ.1 hm') h2).1
 have st:∀R2,qAM m'=R2→k<n.toNat→qAK (n.toNat-k) m'=if R2.2=0 then qAK (n.toNat-(k+1)) R2.1 else(zM,R2.2):=fun R2 h h2=>by
  subst h
  rw[show n.toNat-k=(n.toNat-(k+1))+1 by omega,qAK]
 cbv
 repeat' first|(refine Stp.mk ?_;cbv)|(refine Gen.mk fun r hr=> ?_;(try simp only[Dat.ok,Dat.dec,Leaf.ok,Leaf.val,Z0,Z1,Z2,Z3,Z4,Z5,Z6,Z7,Z8,Z9,Z10,Z11,Z12,Z13,Z14,qA,qB]at hr);cbv)|exact trivial|rfl|refine Both.mk ?_ ?_|(refine Imp.mk fun h=> ?_;(try dsimp only at h);(try simp only[nc,Int.toNat_natCast,ne_eq,zz]at h);(try simp only[nc]at h))|refine Ob.mk ?_ ?_|refine Chk.mk (by kernel_rfl) ?_|refine Eq'.mk ?_|(refine AllN.mk fun i hi=> ?_;cbv)|(refine AllC.mk fun c hc hcm=> ?_;(try dsimp only at hc);cbv)|(refine AllS.mk fun r hr=> ?_;(try simp only[Dat.ok,Dat.dec,Leaf.ok,Leaf.val,Z0,Z1,Z2,Z3,Z4,Z5,Z6,Z7,Z8,Z9,Z10,Z11,Z12,Z13,Z14,qA]at hr);cbv)
 ·have h9:k<n.toNat:=by
   have h9:(k:Int)<n:=h
   omega
  have st2:=fun R2 h=>st R2 h h9
  refine TkI.mk m' hm' rfl ?_ ?_ fun R2 hR2=> ?_
  ·cbv
   repeat' first|(refine Stp.mk ?_;cbv)|(refine Gen.mk fun r hr=> ?_;(try simp only[Dat.ok,Dat.dec,Leaf.ok,Leaf.val,Z0,Z1,Z2,Z3,Z4,Z5,Z6,Z7,Z8,Z9,Z10,Z11,Z12,Z13,Z14,qA,qB]at hr);cbv)|exact trivial|rfl|refine Both.mk ?_ ?_|(refine Imp.mk fun h=> ?_;(try dsimp only at h);(try simp only[nc,Int.toNat_natCast,ne_eq,zz]at h);(try simp only[nc]at h))|refine Ob.mk ?_ ?_|refine Chk.mk (by kernel_rfl) ?_|refine Eq'.mk ?_|(refine AllN.mk fun i hi=> ?_;cbv)|(refine AllC.mk fun c hc hcm=> ?_;(try dsimp only at hc);cbv)|(refine AllS.mk fun r hr=> ?_;(try simp only[Dat.ok,Dat.dec,Leaf.ok,Leaf.val,Z0,Z1,Z2,Z3,Z4,Z5,Z6,Z7,Z8,Z9,Z10,Z11,Z12,Z13,Z14,qA]at hr);cbv)
  ·cbv
   repeat' first|(refine Stp.mk ?_;cbv)|(refine Gen.mk fun r hr=> ?_;(try simp only[Dat.ok,Dat.dec,Leaf.ok,Leaf.val,Z0,Z1,Z2,Z3,Z4,Z5,Z6,Z7,Z8,Z9,Z10,Z11,Z12,Z13,Z14,qA,qB]at hr);cbv)|exact trivial|rfl|refine Both.mk ?_ ?_|(refine Imp.mk fun h=> ?_;(try dsimp only at h);(try simp only[nc,Int.toNat_natCast,ne_eq,zz]at h);(try simp only[nc]at h))|refine Ob.mk ?_ ?_|refine Chk.mk (by kernel_rfl) ?_|refine Eq'.mk ?_|(refine AllN.mk fun i hi=> ?_;cbv)|(refine AllC.mk fun c hc hcm=> ?_;(try dsimp only at hc);cbv)|(refine AllS.mk fun r hr=> ?_;(try simp only[Dat.ok,Dat.dec,Leaf.ok,Leaf.val,Z0,Z1,Z2,Z3,Z4,Z5,Z6,Z7,Z8,Z9,Z10,Z11,Z12,Z13,Z14,qA]at hr);cbv)
   all_goals fail
  ·cbv
   repeat' first|(refine Stp.mk ?_;cbv)|(refine Gen.mk fun r hr=> ?_;(try simp only[Dat.ok,Dat.dec,Leaf.ok,Leaf.val,Z0,Z1,Z2,Z3,Z4,Z5,Z6,Z7,Z8,Z9,Z10,Z11,Z12,Z13,Z14,qA,qB]at hr);cbv)|exact trivial|rfl|refine Both.mk ?_ ?_|(refine Imp.mk fun h=> ?_;(try dsimp only at h);(try simp only[nc,Int.toNat_natCast,ne_eq,zz]at h);(try simp only[nc]at h))|refine Ob.mk ?_ ?_|refine Chk.mk (by kernel_rfl) ?_|refine Eq'.mk ?_|(refine AllN.mk fun i hi=> ?_;cbv)|(refine AllC.mk fun c hc hcm=> ?_;(try dsimp only at hc);cbv)|(refine AllS.mk fun r hr=> ?_;(try simp only[Dat.ok,Dat.dec,Leaf.ok,Leaf.val,Z0,Z1,Z2,Z3,Z4,Z5,Z6,Z7,Z8,Z9,Z10,Z11,Z12,Z13,Z14,qA]at hr);cbv)
   all_goals first
    |(have h8:¬R2.2=0:=by assumption
      refine fin0 _ _ _ ?_
      rw[eR,he,st2 R2 hR2,if_neg h8])
    |(show InR ((k:Int)+1);unfold InR;omega)
    |(have h8:R2.2=0:=by assumption
      refine⟨⟨k+1,R2.1,by omega,tk R2 hR2 h8,by rw[he,st2 R2 hR2,if_pos h8]⟩, ?_, ?_,rfl,by(try dsimp only);omega⟩
      ·cbv
       repeat' first|(refine Stp.mk ?_;cbv)|(refine Gen.mk fun r hr=> ?_;(try simp only[Dat.ok,Dat.dec,Leaf.ok,Leaf.val,Z0,Z1,Z2,Z3,Z4,Z5,Z6,Z7,Z8,Z9,Z10,Z11,Z12,Z13,Z14,qA,qB]at hr);cbv)|exact trivial|rfl|refine Both.mk ?_ ?_|(refine Imp.mk fun h=> ?_;(try dsimp only at h);(try simp only[nc,Int.toNat_natCast,ne_eq,zz]at h);(try simp only[nc]at h))|refine Ob.mk ?_ ?_|refine Chk.mk (by kernel_rfl) ?_|refine Eq'.mk ?_|(refine AllN.mk fun i hi=> ?_;cbv)|(refine AllC.mk fun c hc hcm=> ?_;(try dsimp only at hc);cbv)|(refine AllS.mk fun r hr=> ?_;(try simp only[Dat.ok,Dat.dec,Leaf.ok,Leaf.val,Z0,Z1,Z2,Z3,Z4,Z5,Z6,Z7,Z8,Z9,Z10,Z11,Z12,Z13,Z14,qA]at hr);cbv)
      ·cbv
       repeat' first|(refine Stp.mk ?_;cbv)|(refine Gen.mk fun r hr=> ?_;(try simp only[Dat.ok,Dat.dec,Leaf.ok,Leaf.val,Z0,Z1,Z2,Z3,Z4,Z5,Z6,Z7,Z8,Z9,Z10,Z11,Z12,Z13,Z14,qA,qB]at hr);cbv)|exact trivial|rfl|refine Both.mk ?_ ?_|(refine Imp.mk fun h=> ?_;(try dsimp only at h);(try simp only[nc,Int.toNat_natCast,ne_eq,zz]at h);(try simp only[nc]at h))|refine Ob.mk ?_ ?_|refine Chk.mk (by kernel_rfl) ?_|refine Eq'.mk ?_|(refine AllN.mk fun i hi=> ?_;cbv)|(refine AllC.mk fun c hc hcm=> ?_;(try dsimp only at hc);cbv)|(refine AllS.mk fun r hr=> ?_;(try simp only[Dat.ok,Dat.dec,Leaf.ok,Leaf.val,Z0,Z1,Z2,Z3,Z4,Z5,Z6,Z7,Z8,Z9,Z10,Z11,Z12,Z13,Z14,qA]at hr);cbv)
       all_goals fail)
    |fail
 ·have h9:n.toNat≤k:=by
   have h9:n≤(k:Int):=h
   omega
  refine fin1 m' _ _ _ _ _ ?_
  rw[eR,he,show n.toNat-k=0 by omega,qAK]
def qSt (r:Th (Module×Int)):AV:= .tup [.agg [.i .i64 fun _=>(r ()).1.table.frame,Leaf.av fun _=>(r ()).1.table.windows,Leaf.av fun _=>(r ()).1.parts,Leaf.av fun _=>(r ()).1.wires,.i .i64 fun _=>(r ()).1.now,.i .i64 fun _=>(r ()).1.lost],.i .i64 fun _=>(r ()).2]
def qXg (m:Module) (n:Int):Prop:=qCH m
def qPv:Det:=fun A=>match A with
 |[.agg m,.i .i64 n]=>some (fun _=>Dat.ok Module m∧qXg (Dat.dec m) (n ()),qSt fun _=>qEm (Dat.dec m) (n ()))
 |_=>none
theorem qUf (m:Module) (n:Int) (hp:qCH m):qO Tryz.prog 6 [.agg (Dat.enc fun _=>m),.i .i64 fun _=>n] [] (qAf (qSt fun _=>qEm m n) []):=by
 refine qO.froz (qUe m n hp _ rfl) rfl (q:=_) (d:=_) rfl (by intro p hp;repeat (first|(cases hp;done)|(rcases List.mem_cons.1 hp with rfl|hp;· exact Nat.le_refl _))) rfl ?_
 cbv
 repeat' first|(refine Stp.mk ?_;cbv)|(refine Gen.mk fun r hr=> ?_;(try simp only[Dat.ok,Dat.dec,Leaf.ok,Leaf.val,Z0,Z1,Z2,Z3,Z4,Z5,Z6,Z7,Z8,Z9,Z10,Z11,Z12,Z13,Z14,qA,qB]at hr);cbv)|exact trivial|rfl|refine Both.mk ?_ ?_|(refine Imp.mk fun h=> ?_;(try dsimp only at h);(try simp only[nc,Int.toNat_natCast,ne_eq,zz]at h);(try simp only[nc]at h))|refine Ob.mk ?_ ?_|refine Chk.mk (by kernel_rfl) ?_|refine Eq'.mk ?_|(refine AllN.mk fun i hi=> ?_;cbv)|(refine AllC.mk fun c hc hcm=> ?_;(try dsimp only at hc);cbv)|(refine AllS.mk fun r hr=> ?_;(try simp only[Dat.ok,Dat.dec,Leaf.ok,Leaf.val,Z0,Z1,Z2,Z3,Z4,Z5,Z6,Z7,Z8,Z9,Z10,Z11,Z12,Z13,Z14,qA]at hr);cbv)
 all_goals fail
theorem qUg:qBf Tryz.prog 6 (qM qPv):=qS fun A p r h hp0=>by
 unfold qPv at h
 split at h
 ·rename_i m n
  cases h
  obtain⟨g0,hp⟩:=hp0
  exact⟨rfl,qO.pre (A':=[.agg (Dat.enc fun _=>(Dat.dec m:Module)),.i .i64 fun _=>n ()]) (qUf (Dat.dec m) (n ()) hp) (.mk (Dat.hle _ g0) (.mk (.mk (.mk rfl) (.mk rfl)) (trivial)))⟩
 ·cases h
end Go.Proofs.YtiaiifcgbjlfoaaGreatDoor
