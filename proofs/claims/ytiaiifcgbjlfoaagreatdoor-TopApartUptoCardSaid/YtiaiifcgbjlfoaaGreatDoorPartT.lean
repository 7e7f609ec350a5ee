/- parts.tick: walked. -/
import Derived.Test.YtiaiifcgbjlfoaaGreatDoorPartD
set_option linter.all false
namespace Go.Proofs.YtiaiifcgbjlfoaaGreatDoor
open Go Go.Abs
inductive SndI (A:List AV) (H:Hp) (K:qBm):Prop where
 |mk (m:Module) (i:Int) (x:Emit) (h1:SOk m) (h2:H.length=2) (h3:leL 2 A [.ptr 0 0,.i .i64 fun _=>i,.agg [.i .i64 fun _=>x.port,.i .i64 fun _=>x.n]]) (h4:leH H [.blk (mdA 1 fun _=>m),psO (fun _=>m.parts.length) fun _=>m.parts])
  (h5:∀R,qA9 i x m.wires m=R→K (.tup []) [.blk (mdA 1 fun _=>R),psO (fun _=>R.parts.length) fun _=>R.parts] [1])
noncomputable def qWZ:Con:=qLD SndI
theorem qW0 {A:List AV}{H:Hp}{K:qBm}(hv:qWZ A H K):qO Tryz.prog 58 A H K:=
 qJw (fun{A H K} hv=>by
  obtain⟨m,i,x,h1,h2,h3,h4,h5⟩:=hv
  exact qYy (qO.le (qTZ m h1 i x _ rfl) rfl (h5 _ rfl)) h2 h3 h4) hv
def qW1 (r:Th (Vm×(List Emit)×Int×Int×Int)):AV:= .tup [.agg [.i .i64 fun _=>(r ()).1.at_,Leaf.av fun _=>(r ()).1.regs,.b fun _=>(r ()).1.halts,.b fun _=>(r ()).1.fault],Leaf.av fun _=>(r ()).2.1,.i .i64 fun _=>(r ()).2.2.1,.i .i64 fun _=>(r ()).2.2.2.1,.i .i64 fun _=>(r ()).2.2.2.2]
def qHg:Det:=fun A=>match A with
 |[p,.agg v,inp,.i .i64 fuel]=>some (fun _=>Leaf.ok (List Ins) p∧Dat.ok Vm v∧Leaf.ok (List Int) inp∧qWC (Leaf.val p) (Dat.dec v) (Leaf.val inp) (fuel ()),qW1 fun _=>qAH (Leaf.val p) (Dat.dec v) (Leaf.val inp) (fuel ()))
 |_=>none
theorem qFy:∀A p r,qHg A=some (p,r)→p ()→qJV Tryz.prog 10 A r:=fun A p r h hp0=>by
 unfold qHg at h
 split at h
 ·rename_i p v inp fuel
  cases h
  obtain⟨g0,g1,g2,hp⟩:=hp0
  exact qO.fresh (A:=[p,.agg v,inp,.i .i64 fuel]) (qO.pre (A':=[Leaf.av fun _=>(Leaf.val p:(List Ins)),.agg (Dat.enc fun _=>(Dat.dec v:Vm)),Leaf.av fun _=>(Leaf.val inp:(List Int)),.i .i64 fun _=>fuel ()]) (qWD (Leaf.val p) (Dat.dec v) (Leaf.val inp) (fuel ()) hp) (.mk (Leaf.hle _ g0) (.mk (Dat.hle _ g1) (.mk (Leaf.hle _ g2) (.mk (.mk (.mk rfl) (.mk rfl)) (trivial)))))) rfl (q:=_) (d:=_) rfl (by intro p hp;repeat (first|(cases hp;done)|(rcases List.mem_cons.1 hp with rfl|hp;· exact Nat.le_refl _))) rfl rfl ⟨.mk fun _ _=>rfl,.mk fun _ _=>rfl,trivial⟩
 ·cases h
noncomputable def cTk:FuncId→Con:=fun f=>match f with
 |20=>qH (qM pinC_D)
 |58=>qWZ
 |_=>fun _ _ _=>Bad 1001
theorem qSr:qY Tryz.prog cTk:=fun f A H K h=>by
 unfold cTk at h
 split at h
 ·exact⟨⟨Tryz.f20,Tryz.func20,by kernel_rfl,by kernel_rfl⟩,qE pinC_ok h⟩
 ·exact⟨⟨Tryz.f58,Tryz.func58,by kernel_rfl,by kernel_rfl⟩,qW0 h⟩
 ·cases h
def dTn:FuncId→Option Dt:=fun f=>match f with
 |56=>some (.c qFw)
 |10=>some (.f qHg)
 |57=>some (.o (qG3 Int 3 qIk))
 |_=>none
theorem qW2:qBk Tryz.prog dTn:=fun f d h=>by
 unfold dTn at h
 split at h
 ·cases h;exact⟨⟨Tryz.f56,Tryz.func56,by kernel_rfl,by kernel_rfl⟩,qJL⟩
 ·cases h;exact⟨⟨Tryz.f10,Tryz.func10,by kernel_rfl,by kernel_rfl⟩,qFy⟩
 ·cases h;exact⟨⟨Tryz.f57,Tryz.func57,by kernel_rfl,by kernel_rfl⟩,qPo⟩
 ·cases h
def dTe:FuncId→Option Dt:=fun f=>match f with
 |56=>some (.c qFw)
 |10=>some (.f qHg)
 |57=>some (.o (qG3 Int 3 qWX))
 |_=>none
theorem qW3:qBk Tryz.prog dTe:=fun f d h=>by
 unfold dTe at h
 split at h
 ·cases h;exact⟨⟨Tryz.f56,Tryz.func56,by kernel_rfl,by kernel_rfl⟩,qJL⟩
 ·cases h;exact⟨⟨Tryz.f10,Tryz.func10,by kernel_rfl,by kernel_rfl⟩,qFy⟩
 ·cases h;exact⟨⟨Tryz.f57,Tryz.func57,by kernel_rfl,by kernel_rfl⟩,qT4⟩
 ·cases h
def rowP (ps:List Part) (i:Th Nat):List NC:=[.c (.sl 3 (fun _=>(ps.getD (i ()) Dat.d0).code.length) fun j=>Dat.enc fun _=>(ps.getD (i ()) Dat.d0).code.getD (j ()) Dat.d0),.c (.i .i64 fun _=>(ps.getD (i ()) Dat.d0).vm.at_),
 .c (.sl 1 (fun _=>(ps.getD (i ()) Dat.d0).vm.regs.length) fun j=>Dat.enc fun _=>(ps.getD (i ()) Dat.d0).vm.regs.getD (j ()) Dat.d0),.c (.b fun _=>(ps.getD (i ()) Dat.d0).vm.halts),.c (.b fun _=>(ps.getD (i ()) Dat.d0).vm.fault),
 .sl 3 1 (fun _=>(ps.getD (i ()) Dat.d0).box.length) fun j=>Dat.enc fun _=>(ps.getD (i ()) Dat.d0).box.getD (j ()) Dat.d0]
def psA (ps:List Part):AV:= .sl 6 (fun _=>ps.length) fun i=>qFh (rowP ps i)
theorem qPp {ps:List Part}{i:Nat}:Dat.ok Part (qFh (rowP ps fun _=>i)):=by
 have:=Dat.hok fun _=>ps.getD i Dat.d0
 exact this
theorem qKY {ps:List Part}:(slV (psA ps):List Part)=ps:=by
 refine qLy (d:=Dat.d0) rfl fun i hi=> ?_
 exact(Dat.hdec fun _=>ps.getD i Dat.d0:Dat.dec (Dat.enc fun _=>ps.getD i Dat.d0)=_)
theorem qCi {m:Module}{t:Table}{w:List Wire}{a b i:Int}{c:Bool}(h:qBd ⟨t,slV (psA m.parts),w,a,b⟩ i=c):qBd m i=c:=by
 rw[qKY]at h;exact h
theorem qFz {i:Int}{x:Emit}:∀{l:List Wire}{m:Module},(∀p∈m.parts,p.box.length≤50)→(qA9 i x l m).wires=m.wires∧(qA9 i x l m).table=m.table∧(qA9 i x l m).now=m.now∧(qA9 i x l m).parts.length=m.parts.length∧(m.lost≤(qA9 i x l m).lost∧(qA9 i x l m).lost≤m.lost+l.length)∧∀p∈(qA9 i x l m).parts,p.box.length≤50
 |[],m,h=>⟨rfl,rfl,rfl,rfl,⟨Int.le_refl _,by show m.lost≤m.lost+0;omega⟩,h⟩
 |w::r,m,h=>by
  rw[qA9,List.length_cons]
  split
  ·have ih:=qFz (i:=i) (x:=x) (l:=r) (qPk (w:=w) (n:=x.n) h)
   have:= @qPj m w x.n
   exact⟨ih.1.trans qTV,ih.2.1.trans qTW,ih.2.2.1.trans qTX,ih.2.2.2.1.trans qTY,⟨by omega,by omega⟩,ih.2.2.2.2.2⟩
  ·have ih:=qFz (i:=i) (x:=x) (l:=r) h
   exact⟨ih.1,ih.2.1,ih.2.2.1,ih.2.2.2.1,⟨by omega,by omega⟩,ih.2.2.2.2.2⟩
theorem qKZ {p:Part}:(qEp p).length≤1:=by
 unfold qEp qAH
 split
 ·show(qAy p.code 1 (qCe p.vm p.box)).1.out.length≤1
  rw[qAy]
  split
  ·exact Nat.zero_le _
  ·split
   ·exact Nat.zero_le _
   ·cases h:qAF p.code (qCe p.vm p.box)with
    |none=>exact Nat.zero_le _
    |some m'=>
     show(qAy p.code 0 m').1.out.length≤1
     rw[qAy]
     show m'.out.length≤1
     unfold qAF at h
     repeat' split at h
     all_goals first
      |(cases h;done)
      |(cases h;first|exact Nat.zero_le _|exact Nat.le_refl _)
 ·exact Nat.zero_le _
structure TkX (i:Int) (out:List Emit) (m1:Module) where
 k:Nat
 m':Module
 hk:k≤out.length
 hS:SOk m'
 hx:m'.lost≤m1.lost+32*k
 he:qA6 i out m1=qA6 i (out.drop k) m'
theorem qHh {i:Int}{out:List Emit}{m:Module}{k:Nat}(hk:k<out.length):qA6 i (out.drop k) m=qA6 i (out.drop (k+1)) (qA9 i (out.getD k Dat.d0) m.wires m):=by rw[qX Dat.d0 hk,qA6]
theorem qL8 {i:Int}{x:Emit}{m:Module}(h:SOk m) (hx:m.lost≤2199023255552):SOk (qA9 i x m.wires m)∧(qA9 i x m.wires m).lost≤m.lost+32:=by
 have:=qFz (i:=i) (x:=x) (l:=m.wires) h.b
 obtain⟨a1,a2,a3,a4,a5,a6⟩:=this
 have:=h.lw
 have:=h.lost
 exact⟨⟨by rw[a4];exact h.lp,by rw[a1];exact h.lw,by rw[a1,a4];exact h.w,⟨by omega,by omega⟩,a6⟩,by omega⟩
set_option maxRecDepth 100000 in
set_option maxHeartbeats 4000000 in
theorem qRg (m:Module) (hm:qAU m=0) (R:Module×Int) (hR:qAM m=R) (hne:qBd m (qV m.table m.now).1=true→0<(m.parts.getD (qV m.table m.now).1.toNat Dat.d0).box.length):
  qO Tryz.prog 22 [.ptr 0 0] [.blk (mdA 1 fun _=>m),psO (fun _=>m.parts.length) fun _=>m.parts] (qCL 2 (.i .i64 fun _=>R.2) [.blk (mdA 1 fun _=>R.1),psO (fun _=>R.1.parts.length) fun _=>R.1.parts] [1]):=by
 generalize hK:qCL 2 (.i .i64 fun _=>R.2) [.blk (mdA 1 fun _=>R.1),psO (fun _=>R.1.parts.length) fun _=>R.1.parts] [1]=K
 have M:=qAZ.1 hm
 have T:=qBA.1 M.t
 have lp:=M.lp
 have lw:=M.lw
 refine qAe qI zl qSr (qD6 qI zl qW2 mixed) (keep:=[0,2,3,5,6,7,8,12,24,49,88,89,90,91]) Tryz.func22 rfl ?_
 cbv
 repeat' first|(show Stp _;exfalso;first|omega|(exact h ‹_›)|(exact absurd ‹_› h)|(exact Bool.false_ne_true (h.symm.trans (show _=true by assumption))))|(refine Stp.mk ?_;cbv)|(refine Gen.mk fun r hr=> ?_;(try simp only[Dat.ok,Dat.dec,Leaf.ok,Leaf.val,Z0,Z1,Z2,Z3,Z4,Z5,Z6,Z7,Z8,Z9,Z10,Z11,Z12,Z13,Z14,qA,qB]at hr);cbv)|exact trivial|rfl|refine Both.mk ?_ ?_|(refine Imp.mk fun h=> ?_;(try dsimp only at h);(try simp only[nc,Int.toNat_natCast,ne_eq,zz]at h);(try simp only[nc]at h))|refine Ob.mk ?_ ?_|refine Chk.mk (by kernel_rfl) ?_|refine Eq'.mk ?_|(refine AllN.mk fun i hi=> ?_;cbv)|(refine AllC.mk fun c hc hcm=> ?_;(try dsimp only at hc);cbv)|(refine AllS.mk fun r hr=> ?_;(try simp only[Dat.ok,Dat.dec,Leaf.ok,Leaf.val,Z0,Z1,Z2,Z3,Z4,Z5,Z6,Z7,Z8,Z9,Z10,Z11,Z12,Z13,Z14,qA]at hr);cbv)
 all_goals ((try dsimp only at*);(try simp only[nc,Int.toNat_natCast,ne_eq,zz]at*);(try simp only[nc]at*))
 all_goals try simp only[Dat.dec,Leaf.val,Z0,Z1,Z2,Z3,Z4,Z5,Z6,Z7,Z8,Z9,Z10,Z11,Z12,Z13,Z14,qA]at*
 all_goals first
  |(subst hK
    have hR2:R=(m,6):=by rw[←hR,qAM,if_pos (by omega)]
    subst hR2
    cbv
    repeat' first|(refine Stp.mk ?_;cbv)|(refine Gen.mk fun r hr=> ?_;(try simp only[Dat.ok,Dat.dec,Leaf.ok,Leaf.val,Z0,Z1,Z2,Z3,Z4,Z5,Z6,Z7,Z8,Z9,Z10,Z11,Z12,Z13,Z14,qA,qB]at hr);cbv)|exact trivial|rfl|refine Both.mk ?_ ?_|(refine Imp.mk fun h=> ?_;(try dsimp only at h);(try simp only[nc,Int.toNat_natCast,ne_eq,zz]at h);(try simp only[nc]at h))|refine Ob.mk ?_ ?_|refine Chk.mk (by kernel_rfl) ?_|refine Eq'.mk ?_|(refine AllN.mk fun i hi=> ?_;cbv)|(refine AllC.mk fun c hc hcm=> ?_;(try dsimp only at hc);cbv)|(refine AllS.mk fun r hr=> ?_;(try simp only[Dat.ok,Dat.dec,Leaf.ok,Leaf.val,Z0,Z1,Z2,Z3,Z4,Z5,Z6,Z7,Z8,Z9,Z10,Z11,Z12,Z13,Z14,qA]at hr);cbv)
    done)
  |exact⟨⟨trivial,rfl,fun i _=>Dat.hok _⟩,by show(_:Nat)≤_;have:=T.len;omega⟩
  |(have:=M.now;unfold InR;omega)
  |exact Nat.le_refl _
  |exact⟨⟨trivial,⟨rfl,fun i _=>Dat.hok _⟩,⟨rfl,fun i _=>qPp (ps:=m.parts)⟩,⟨rfl,fun i _=>Dat.hok _⟩,trivial,trivial⟩,by show(slV (psA m.parts):List Part).length≤_;rw[qKY];omega⟩
  |(have hb:qBd m (qV m.table m.now).1=false:=qCi (by assumption)
    subst hK
    have hR2:R=(⟨m.table,m.parts,m.wires,m.now+1,m.lost⟩,0):=by rw[←hR,qAM,if_neg (by omega),if_pos hb]
    subst hR2
    cbv
    repeat' first|(refine Stp.mk ?_;cbv)|(refine Gen.mk fun r hr=> ?_;(try simp only[Dat.ok,Dat.dec,Leaf.ok,Leaf.val,Z0,Z1,Z2,Z3,Z4,Z5,Z6,Z7,Z8,Z9,Z10,Z11,Z12,Z13,Z14,qA,qB]at hr);cbv)|exact trivial|rfl|refine Both.mk ?_ ?_|(refine Imp.mk fun h=> ?_;(try dsimp only at h);(try simp only[nc,Int.toNat_natCast,ne_eq,zz]at h);(try simp only[nc]at h))|refine Ob.mk ?_ ?_|refine Chk.mk (by kernel_rfl) ?_|refine Eq'.mk ?_|(refine AllN.mk fun i hi=> ?_;cbv)|(refine AllC.mk fun c hc hcm=> ?_;(try dsimp only at hc);cbv)|(refine AllS.mk fun r hr=> ?_;(try simp only[Dat.ok,Dat.dec,Leaf.ok,Leaf.val,Z0,Z1,Z2,Z3,Z4,Z5,Z6,Z7,Z8,Z9,Z10,Z11,Z12,Z13,Z14,qA]at hr);cbv)
    done)
  |(have hb:qBd m (qV m.table m.now).1=true:=qCi (by assumption)
    have hb2:=of_decide_eq_true hb
    first
     |exact⟨hb2.1,hb2.2⟩
     |omega)
  |(have hb:qBd m (qV m.table m.now).1=true:=qCi (by assumption)
    have hb2:=of_decide_eq_true hb
    have P:=qB5.1 (M.p (m.parts.getD (qV m.table m.now).1.toNat Dat.d0) (by
     have h9:(qV m.table m.now).1.toNat<m.parts.length:=by omega
     rw[List.getD_eq_getElem?_getD,List.getElem?_eq_getElem h9];exact List.getElem_mem h9))
    have bd:= @qEX (m.parts.getD (qV m.table m.now).1.toNat Dat.d0).code (m.parts.getD (qV m.table m.now).1.toNat Dat.d0).vm (m.parts.getD (qV m.table m.now).1.toNat Dat.d0).box 1
    have c1:=qC9 P.c
    have c2:=(qB4 P.v).2.1
    have c3:=P.l
    first
     |exact⟨Nat.le_refl _,⟨rfl,fun i _=>Dat.hok _⟩,⟨trivial,⟨rfl,fun i _=>Dat.hok _⟩,trivial,trivial⟩,⟨rfl,fun i _=>Dat.hok _⟩,Nat.le_trans c1 (by decide),Nat.le_trans (Nat.le_of_eq c2) (by decide),Nat.le_trans c3 (by decide)⟩
     |exact⟨rfl,trivial,fun i _=>Dat.hok _,Int.le_refl _,bd.1,bd.2.1,hne hb,Nat.le_trans c3 (by decide)⟩)
  |skip
 have hb:qBd m (qV m.table m.now).1=true:=qCi (by assumption)
 have hb2:=of_decide_eq_true hb
 obtain⟨q,hq⟩:∃q:Nat,(qV m.table m.now).1=q:=⟨(qV m.table m.now).1.toNat,by omega⟩
 have hq2:q<m.parts.length:=by omega
 have P:=qB5.1 (M.p (m.parts.getD q Dat.d0) (by rw[List.getD_eq_getElem?_getD,List.getElem?_eq_getElem hq2];exact List.getElem_mem hq2))
 have bd:= @qEX (m.parts.getD q Dat.d0).code (m.parts.getD q Dat.d0).vm (m.parts.getD q Dat.d0).box 1
 have ol:= @qKZ (m.parts.getD q Dat.d0)
 have eF:qGs (m.parts.getD q Dat.d0).box 0 (qAH (m.parts.getD q Dat.d0).code (m.parts.getD q Dat.d0).vm (m.parts.getD q Dat.d0).box 1).2.2.1=(qIf (m.parts.getD q Dat.d0)).box:=by
  show qLC _ _ _=List.drop _ _
  simp[qLC]
 have eN:qKX (m.parts.getD q Dat.d0).box 0 (qAH (m.parts.getD q Dat.d0).code (m.parts.getD q Dat.d0).vm (m.parts.getD q Dat.d0).box 1).2.2.1=(qIf (m.parts.getD q Dat.d0)).box.length:=congrArg List.length eF
 have eT:qAM m=(qA6 q (qEp (m.parts.getD q Dat.d0)) ⟨m.table,m.parts.set q (qIf (m.parts.getD q Dat.d0)),m.wires,m.now+1,m.lost⟩,0):=by
  rw[qAM,if_neg (by omega),if_neg (by rw[hb];decide),hq,Int.toNat_natCast]
 rw[hq]at*
 simp only[Int.toNat_natCast]at*
 have hS0:SOk ⟨m.table,m.parts.set q (qIf (m.parts.getD q Dat.d0)),m.wires,m.now+1,m.lost⟩:=by
  refine⟨by rw[List.length_set];exact lp,lw,by rw[List.length_set];exact M.w,⟨M.lost.1,by have:=M.lost.2;show m.lost≤_;omega⟩,fun p hp=> ?_⟩
  rcases List.mem_or_eq_of_mem_set hp with hp|rfl
  ·exact(qB5.1 (M.p p hp)).l
  ·have:=P.l
   unfold qIf
   show(List.drop _ _).length≤50
   rw[List.length_drop];omega
 refine .cls ?_
 cbv
 repeat' first|(refine Stp.mk ?_;cbv)|(refine Gen.mk fun r hr=> ?_;(try simp only[Dat.ok,Dat.dec,Leaf.ok,Leaf.val,Z0,Z1,Z2,Z3,Z4,Z5,Z6,Z7,Z8,Z9,Z10,Z11,Z12,Z13,Z14,qA,qB]at hr);cbv)|exact trivial|rfl|refine Both.mk ?_ ?_|(refine Imp.mk fun h=> ?_;(try dsimp only at h);(try simp only[nc,Int.toNat_natCast,ne_eq,zz]at h);(try simp only[nc]at h))|refine Ob.mk ?_ ?_|refine Chk.mk (by kernel_rfl) ?_|refine Eq'.mk ?_|(refine AllN.mk fun i hi=> ?_;cbv)|(refine AllC.mk fun c hc hcm=> ?_;(try dsimp only at hc);cbv)|(refine AllS.mk fun r hr=> ?_;(try simp only[Dat.ok,Dat.dec,Leaf.ok,Leaf.val,Z0,Z1,Z2,Z3,Z4,Z5,Z6,Z7,Z8,Z9,Z10,Z11,Z12,Z13,Z14,qA]at hr);cbv)
 refine LoopI.frameC (5::[12,90,91]) (TkX q (qEp (m.parts.getD q Dat.d0)) ⟨m.table,m.parts.set q (qIf (m.parts.getD q Dat.d0)),m.wires,m.now+1,m.lost⟩) (fun x=>[(90,.i .i64 fun _=>x.k),(5,.any)]) (fun x=>[(0,.blk (mdA 1 fun _=>x.m')),(1,psO (fun _=>x.m'.parts.length) fun _=>x.m'.parts)]) [1,2,4,5,6,7,8,9,10,11,12] (fun x=>(qEp (m.parts.getD q Dat.d0)).length-x.k)
  ⟨0,_,Nat.zero_le _,hS0,by show m.lost≤m.lost+32*0;omega,by rw[List.drop_zero]⟩ rfl (fun _=>rfl) ?_ ?_ fun⟨k,m',hk,hS,hx,he⟩=> ?_
 ·cbv
  repeat' first|(refine Stp.mk ?_;cbv)|(refine Gen.mk fun r hr=> ?_;(try simp only[Dat.ok,Dat.dec,Leaf.ok,Leaf.val,Z0,Z1,Z2,Z3,Z4,Z5,Z6,Z7,Z8,Z9,Z10,Z11,Z12,Z13,Z14,qA,qB]at hr);cbv)|exact trivial|rfl|refine Both.mk ?_ ?_|(refine Imp.mk fun h=> ?_;(try dsimp only at h);(try simp only[nc,Int.toNat_natCast,ne_eq,zz]at h);(try simp only[nc]at h))|refine Ob.mk ?_ ?_|refine Chk.mk (by kernel_rfl) ?_|refine Eq'.mk ?_|(refine AllN.mk fun i hi=> ?_;cbv)|(refine AllC.mk fun c hc hcm=> ?_;(try dsimp only at hc);cbv)|(refine AllS.mk fun r hr=> ?_;(try simp only[Dat.ok,Dat.dec,Leaf.ok,Leaf.val,Z0,Z1,Z2,Z3,Z4,Z5,Z6,Z7,Z8,Z9,Z10,Z11,Z12,Z13,Z14,qA]at hr);cbv)
  all_goals fail
 ·cbv
  repeat' first|(refine Stp.mk ?_;cbv)|(refine Gen.mk fun r hr=> ?_;(try simp only[Dat.ok,Dat.dec,Leaf.ok,Leaf.val,Z0,Z1,Z2,Z3,Z4,Z5,Z6,Z7,Z8,Z9,Z10,Z11,Z12,Z13,Z14,qA,qB]at hr);cbv)|exact trivial|rfl|refine Both.mk ?_ ?_|(refine Imp.mk fun h=> ?_;(try dsimp only at h);(try simp only[nc,Int.toNat_natCast,ne_eq,zz]at h);(try simp only[nc]at h))|refine Ob.mk ?_ ?_|refine Chk.mk (by kernel_rfl) ?_|refine Eq'.mk ?_|(refine AllN.mk fun i hi=> ?_;cbv)|(refine AllC.mk fun c hc hcm=> ?_;(try dsimp only at hc);cbv)|(refine AllS.mk fun r hr=> ?_;(try simp only[Dat.ok,Dat.dec,Leaf.ok,Leaf.val,Z0,Z1,Z2,Z3,Z4,Z5,Z6,Z7,Z8,Z9,Z10,Z11,Z12,Z13,Z14,qA]at hr);cbv)
  all_goals ((try dsimp only at*);(try simp only[nc,Int.toNat_natCast,ne_eq,zz]at*);(try simp only[nc]at*))
  all_goals try simp only[eN,eF]at*
  all_goals first
   |rfl
   |exact(List.length_set).symm
   |exact qCh (fun p=>p.vm.at_) (by assumption) rfl
   |exact qCh (fun p=>p.vm.halts) (by assumption) rfl
   |exact qCh (fun p=>p.vm.fault) (by assumption) rfl
   |exact qCh (fun p=>p.box.length) (by assumption) rfl
   |exact qCh (fun p=>p.box.getD _ Dat.d0) (by assumption) rfl
   |(rw[qPl]<;>first|rfl|assumption)
   |exact congrArg (fun(p:Part)=>p.code.length) (qBr (by assumption) (by assumption)).symm
   |exact congrArg (fun(p:Part)=>(p.code.getD _ Dat.d0).code) (qBr (by assumption) (by assumption)).symm
   |exact congrArg (fun(p:Part)=>(p.code.getD _ Dat.d0).a) (qBr (by assumption) (by assumption)).symm
   |exact congrArg (fun(p:Part)=>(p.code.getD _ Dat.d0).b) (qBr (by assumption) (by assumption)).symm
   |exact congrArg (fun(p:Part)=>p.vm.regs.length) (qBr (by assumption) (by assumption)).symm
   |exact congrArg (fun(p:Part)=>p.vm.regs.getD _ Dat.d0) (qBr (by assumption) (by assumption)).symm
   |(simp;done)
   |fail
 have hx:m'.lost≤m.lost+32*k:=hx
 have hx9:m'.lost+32≤m.lost+32*((k+1:Nat):Int):=by rw[show((k+1:Nat):Int)=(k:Int)+1 from rfl,Int.mul_add];omega
 have hl2:m'.lost≤2199023255552:=by omega
 have st:=fun h=> @qHh q (qEp (m.parts.getD q Dat.d0)) m' k h
 have sk:= @qL8 q ((qEp (m.parts.getD q Dat.d0)).getD k Dat.d0) m' hS hl2
 cbv
 repeat' first|(refine Stp.mk ?_;cbv)|(refine Gen.mk fun r hr=> ?_;(try simp only[Dat.ok,Dat.dec,Leaf.ok,Leaf.val,Z0,Z1,Z2,Z3,Z4,Z5,Z6,Z7,Z8,Z9,Z10,Z11,Z12,Z13,Z14,qA,qB]at hr);cbv)|exact trivial|rfl|refine Both.mk ?_ ?_|(refine Imp.mk fun h=> ?_;(try dsimp only at h);(try simp only[nc,Int.toNat_natCast,ne_eq,zz]at h);(try simp only[nc]at h))|refine Ob.mk ?_ ?_|refine Chk.mk (by kernel_rfl) ?_|refine Eq'.mk ?_|(refine AllN.mk fun i hi=> ?_;cbv)|(refine AllC.mk fun c hc hcm=> ?_;(try dsimp only at hc);cbv)|(refine AllS.mk fun r hr=> ?_;(try simp only[Dat.ok,Dat.dec,Leaf.ok,Leaf.val,Z0,Z1,Z2,Z3,Z4,Z5,Z6,Z7,Z8,Z9,Z10,Z11,Z12,Z13,Z14,qA]at hr);cbv)
 ·have h9:k<(qEp (m.parts.getD q Dat.d0)).length:=Int.ofNat_lt.1 h
  exact⟨Int.natCast_nonneg k,Int.ofNat_lt.2 h9⟩
 ·have h9:k<(qEp (m.parts.getD q Dat.d0)).length:=Int.ofNat_lt.1 h
  have st:=st h9
  refine SndI.mk m' q ((qEp (m.parts.getD q Dat.d0)).getD k Dat.d0) hS rfl ?_ ?_ fun R2 hR2=> ?_
  ·cbv
   repeat' first|(refine Stp.mk ?_;cbv)|(refine Gen.mk fun r hr=> ?_;(try simp only[Dat.ok,Dat.dec,Leaf.ok,Leaf.val,Z0,Z1,Z2,Z3,Z4,Z5,Z6,Z7,Z8,Z9,Z10,Z11,Z12,Z13,Z14,qA,qB]at hr);cbv)|exact trivial|rfl|refine Both.mk ?_ ?_|(refine Imp.mk fun h=> ?_;(try dsimp only at h);(try simp only[nc,Int.toNat_natCast,ne_eq,zz]at h);(try simp only[nc]at h))|refine Ob.mk ?_ ?_|refine Chk.mk (by kernel_rfl) ?_|refine Eq'.mk ?_|(refine AllN.mk fun i hi=> ?_;cbv)|(refine AllC.mk fun c hc hcm=> ?_;(try dsimp only at hc);cbv)|(refine AllS.mk fun r hr=> ?_;(try simp only[Dat.ok,Dat.dec,Leaf.ok,Leaf.val,Z0,Z1,Z2,Z3,Z4,Z5,Z6,Z7,Z8,Z9,Z10,Z11,Z12,Z13,Z14,qA]at hr);cbv)
   all_goals fail
  ·cbv
   repeat' first|(refine Stp.mk ?_;cbv)|(refine Gen.mk fun r hr=> ?_;(try simp only[Dat.ok,Dat.dec,Leaf.ok,Leaf.val,Z0,Z1,Z2,Z3,Z4,Z5,Z6,Z7,Z8,Z9,Z10,Z11,Z12,Z13,Z14,qA,qB]at hr);cbv)|exact trivial|rfl|refine Both.mk ?_ ?_|(refine Imp.mk fun h=> ?_;(try dsimp only at h);(try simp only[nc,Int.toNat_natCast,ne_eq,zz]at h);(try simp only[nc]at h))|refine Ob.mk ?_ ?_|refine Chk.mk (by kernel_rfl) ?_|refine Eq'.mk ?_|(refine AllN.mk fun i hi=> ?_;cbv)|(refine AllC.mk fun c hc hcm=> ?_;(try dsimp only at hc);cbv)|(refine AllS.mk fun r hr=> ?_;(try simp only[Dat.ok,Dat.dec,Leaf.ok,Leaf.val,Z0,Z1,Z2,Z3,Z4,Z5,Z6,Z7,Z8,Z9,Z10,Z11,Z12,Z13,Z14,qA]at hr);cbv)
   all_goals fail
  ·cbv
   repeat' first|(refine Stp.mk ?_;cbv)|(refine Gen.mk fun r hr=> ?_;(try simp only[Dat.ok,Dat.dec,Leaf.ok,Leaf.val,Z0,Z1,Z2,Z3,Z4,Z5,Z6,Z7,Z8,Z9,Z10,Z11,Z12,Z13,Z14,qA,qB]at hr);cbv)|exact trivial|rfl|refine Both.mk ?_ ?_|(refine Imp.mk fun h=> ?_;(try dsimp only at h);(try simp only[nc,Int.toNat_natCast,ne_eq,zz]at h);(try simp only[nc]at h))|refine Ob.mk ?_ ?_|refine Chk.mk (by kernel_rfl) ?_|refine Eq'.mk ?_|(refine AllN.mk fun i hi=> ?_;cbv)|(refine AllC.mk fun c hc hcm=> ?_;(try dsimp only at hc);cbv)|(refine AllS.mk fun r hr=> ?_;(try simp only[Dat.ok,Dat.dec,Leaf.ok,Leaf.val,Z0,Z1,Z2,Z3,Z4,Z5,Z6,Z7,Z8,Z9,Z10,Z11,Z12,Z13,Z14,qA]at hr);cbv)
   all_goals first
    |(show InR ((k:Int)+1);unfold InR;omega)
    |(have sk2:=sk
      rw[hR2]at sk2 st
      refine⟨⟨k+1,R2,by omega,sk2.1,Int.le_trans sk2.2 hx9,he.trans st⟩, ?_, ?_,rfl,by(try dsimp only);omega⟩
      ·cbv
       repeat' first|(refine Stp.mk ?_;cbv)|(refine Gen.mk fun r hr=> ?_;(try simp only[Dat.ok,Dat.dec,Leaf.ok,Leaf.val,Z0,Z1,Z2,Z3,Z4,Z5,Z6,Z7,Z8,Z9,Z10,Z11,Z12,Z13,Z14,qA,qB]at hr);cbv)|exact trivial|rfl|refine Both.mk ?_ ?_|(refine Imp.mk fun h=> ?_;(try dsimp only at h);(try simp only[nc,Int.toNat_natCast,ne_eq,zz]at h);(try simp only[nc]at h))|refine Ob.mk ?_ ?_|refine Chk.mk (by kernel_rfl) ?_|refine Eq'.mk ?_|(refine AllN.mk fun i hi=> ?_;cbv)|(refine AllC.mk fun c hc hcm=> ?_;(try dsimp only at hc);cbv)|(refine AllS.mk fun r hr=> ?_;(try simp only[Dat.ok,Dat.dec,Leaf.ok,Leaf.val,Z0,Z1,Z2,Z3,Z4,Z5,Z6,Z7,Z8,Z9,Z10,Z11,Z12,Z13,Z14,qA]at hr);cbv)
      ·cbv
       repeat' first|(refine Stp.mk ?_;cbv)|(refine Gen.mk fun r hr=> ?_;(try simp only[Dat.ok,Dat.dec,Leaf.ok,Leaf.val,Z0,Z1,Z2,Z3,Z4,Z5,Z6,Z7,Z8,Z9,Z10,Z11,Z12,Z13,Z14,qA,qB]at hr);cbv)|exact trivial|rfl|refine Both.mk ?_ ?_|(refine Imp.mk fun h=> ?_;(try dsimp only at h);(try simp only[nc,Int.toNat_natCast,ne_eq,zz]at h);(try simp only[nc]at h))|refine Ob.mk ?_ ?_|refine Chk.mk (by kernel_rfl) ?_|refine Eq'.mk ?_|(refine AllN.mk fun i hi=> ?_;cbv)|(refine AllC.mk fun c hc hcm=> ?_;(try dsimp only at hc);cbv)|(refine AllS.mk fun r hr=> ?_;(try simp only[Dat.ok,Dat.dec,Leaf.ok,Leaf.val,Z0,Z1,Z2,Z3,Z4,Z5,Z6,Z7,Z8,Z9,Z10,Z11,Z12,Z13,Z14,qA]at hr);cbv)
       all_goals fail)
    |fail
 ·have h9:(qEp (m.parts.getD q Dat.d0)).length≤k:=Int.ofNat_le.1 h
  have eR:R=(m',0):=by rw[←hR,eT,he,List.drop_eq_nil_of_le h9,qA6]
  subst eR
  subst hK
  cbv
  repeat' first|(refine Stp.mk ?_;cbv)|(refine Gen.mk fun r hr=> ?_;(try simp only[Dat.ok,Dat.dec,Leaf.ok,Leaf.val,Z0,Z1,Z2,Z3,Z4,Z5,Z6,Z7,Z8,Z9,Z10,Z11,Z12,Z13,Z14,qA,qB]at hr);cbv)|exact trivial|rfl|refine Both.mk ?_ ?_|(refine Imp.mk fun h=> ?_;(try dsimp only at h);(try simp only[nc,Int.toNat_natCast,ne_eq,zz]at h);(try simp only[nc]at h))|refine Ob.mk ?_ ?_|refine Chk.mk (by kernel_rfl) ?_|refine Eq'.mk ?_|(refine AllN.mk fun i hi=> ?_;cbv)|(refine AllC.mk fun c hc hcm=> ?_;(try dsimp only at hc);cbv)|(refine AllS.mk fun r hr=> ?_;(try simp only[Dat.ok,Dat.dec,Leaf.ok,Leaf.val,Z0,Z1,Z2,Z3,Z4,Z5,Z6,Z7,Z8,Z9,Z10,Z11,Z12,Z13,Z14,qA]at hr);cbv)
  all_goals fail
end Go.Proofs.YtiaiifcgbjlfoaaGreatDoor
