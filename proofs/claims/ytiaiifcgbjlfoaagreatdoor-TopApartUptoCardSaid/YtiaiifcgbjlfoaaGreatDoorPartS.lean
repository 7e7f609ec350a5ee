/- parts.send: walked. -/
import Derived.Test.YtiaiifcgbjlfoaaGreatDoorPartO
set_option linter.all false
namespace Go.Proofs.YtiaiifcgbjlfoaaGreatDoor
open Go Go.Abs
structure SOk (m:Module):Prop where
 lp:m.parts.length≤16
 lw:m.wires.length≤32
 w:∀w∈m.wires,qM2 m.parts.length w=true
 lost:0≤m.lost∧m.lost≤4398046511104
 b:∀p∈m.parts,p.box.length≤50
theorem qTV {m:Module}{w:Wire}{n:Int}:(qBF m w n).wires=m.wires:=by unfold qBF;split<;>rfl
theorem qTW {m:Module}{w:Wire}{n:Int}:(qBF m w n).table=m.table:=by unfold qBF;split<;>rfl
theorem qTX {m:Module}{w:Wire}{n:Int}:(qBF m w n).now=m.now:=by unfold qBF;split<;>rfl
theorem qTY {m:Module}{w:Wire}{n:Int}:(qBF m w n).parts.length=m.parts.length:=by unfold qBF;split;simp;rfl
theorem qPj {m:Module}{w:Wire}{n:Int}:m.lost≤(qBF m w n).lost∧(qBF m w n).lost≤m.lost+1:=by
 unfold qBF;split
 ·exact⟨Int.le_refl _,by show m.lost≤m.lost+1;omega⟩
 ·exact⟨by show m.lost≤m.lost+1;omega,Int.le_refl _⟩
theorem qPk {m:Module}{w:Wire}{n:Int}(h:∀p∈m.parts,p.box.length≤50):∀p∈(qBF m w n).parts,p.box.length≤50:=by
 unfold qBF;split
 ·rename_i q
  intro p hp
  rcases List.mem_or_eq_of_mem_set hp with hp|rfl
  ·exact h p hp
  ·show(_++_:List Int).length≤50
   rw[List.length_append];simp only[List.length_singleton];omega
 ·exact h
theorem qWU {ps:List Part}{i q:Nat}{x:Part}(hi:i<ps.length):(ps.set q x).getD i Dat.d0=if i=q then x else ps.getD i Dat.d0:=by
 by_cases h:i=q
 ·subst h;rw[if_pos rfl];simp[List.getD_eq_getElem?_getD,hi]
 ·rw[if_neg h];simp[List.getD_eq_getElem?_getD,List.getElem?_set,Ne.symm h]
theorem qCh {α:Type}{ps:List Part}{i q:Nat}{x:Part}(f:Part→α) (hi:i<ps.length) {a:α}(ha:a=f x):(bif decide (i=q)then a else f (ps.getD i Dat.d0))=f ((ps.set q x).getD i Dat.d0):=by
 rw[qWU hi]
 by_cases h:i=q
 ·rw[decide_eq_true h,cond_true,if_pos h,ha]
 ·rw[decide_eq_false h,cond_false,if_neg h]
theorem qPl {ps:List Part}{i q:Nat}{x:Part}(hi:i<ps.length) (h:i=q):(ps.set q x).getD i Dat.d0=x:=by rw[qWU hi,if_pos h]
theorem qBr {ps:List Part}{i q:Nat}{x:Part}(hi:i<ps.length) (h:¬i=q):(ps.set q x).getD i Dat.d0=ps.getD i Dat.d0:=by rw[qWU hi,if_neg h]
theorem qPm {α:Type}{ps:List Part}{i q:Nat}(f:Part→α):(bif decide (i=q)then f (ps.getD q Dat.d0)else f (ps.getD i Dat.d0))=f (ps.getD i Dat.d0):=by
 by_cases h:i=q
 ·subst h;rw[decide_eq_true rfl,cond_true]
 ·rw[decide_eq_false h,cond_false]
theorem qEZ {ps:List Part}{i q:Nat}(h:i=q):ps.getD i Dat.d0=ps.getD q Dat.d0:=by rw[h]
theorem qWV {ps:List Part}{i q j:Nat}{c:List Ins}{v:Vm}{n:Int}(hi:i<ps.length) (hj:j<bif decide (i=q)then(ps.getD q Dat.d0).box.length+1 else(ps.getD i Dat.d0).box.length):
  (bif decide (i=q)then(bif decide (j<(ps.getD q Dat.d0).box.length)then(ps.getD q Dat.d0).box.getD j Dat.d0 else n)else(ps.getD i Dat.d0).box.getD j Dat.d0)=((ps.set q ⟨c,v,(ps.getD q Dat.d0).box++[n]⟩).getD i Dat.d0).box.getD j Dat.d0:=by
 rw[qWU hi]
 by_cases h:i=q
 ·rw[decide_eq_true h,cond_true]at hj
  rw[decide_eq_true h,cond_true,if_pos h]
  show _=((ps.getD q Dat.d0).box++[n]).getD j Dat.d0
  generalize (ps.getD q Dat.d0).box=l at hj ⊢
  by_cases h2:j<l.length
  ·rw[decide_eq_true h2,cond_true];simp[List.getD_eq_getElem?_getD,List.getElem?_append,h2]
  ·rw[decide_eq_false h2,cond_false,show j=l.length by omega];simp[List.getD_eq_getElem?_getD]
 ·rw[decide_eq_false h,cond_false,if_neg h]
structure SeX (i:Int) (x:Emit) (m:Module) where
 k:Nat
 m':Module
 hk:k≤m.wires.length
 ht:m'.table=m.table
 hw:m'.wires=m.wires
 hl:m'.parts.length=m.parts.length
 hx:m.lost≤m'.lost∧m'.lost≤m.lost+k
 hb:∀p∈m'.parts,p.box.length≤50
 hn:m'.now=m.now
 he:qA9 i x m.wires m=qA9 i x (m.wires.drop k) m'
def dSe:FuncId→Option Dt:=fun f=>match f with
 |_=>none
theorem qWW:qBk Tryz.prog dSe:=fun f d h=>by
 unfold dSe at h
 split at h
 ·cases h
set_option maxRecDepth 100000 in
set_option maxHeartbeats 4000000 in
theorem qTZ (m:Module) (hm:SOk m) (i:Int) (x:Emit) (R:Module) (hR:qA9 i x m.wires m=R):
  qO Tryz.prog 58 [.ptr 0 0,.i .i64 fun _=>i,.agg [.i .i64 fun _=>x.port,.i .i64 fun _=>x.n]] [.blk (mdA 1 fun _=>m),psO (fun _=>m.parts.length) fun _=>m.parts] (qCL 2 (.tup []) [.blk (mdA 1 fun _=>R),psO (fun _=>R.parts.length) fun _=>R.parts] [1]):=by
 generalize hK:qCL 2 (.tup []) [.blk (mdA 1 fun _=>R),psO (fun _=>R.parts.length) fun _=>R.parts] [1]=K
 refine qAe qI zl qP (qD6 qI zl qWW mixed) (keep:=[0,1,2,5,7,8,12,13,14,15,28,41]) Tryz.func58 rfl ?_
 cbv
 repeat' first|(show Stp _;exfalso;first|omega|(exact h ‹_›)|(exact absurd ‹_› h)|(exact Bool.false_ne_true (h.symm.trans (show _=true by assumption))))|(refine Stp.mk ?_;cbv)|(refine Gen.mk fun r hr=> ?_;(try simp only[Dat.ok,Dat.dec,Leaf.ok,Leaf.val,Z0,Z1,Z2,Z3,Z4,Z5,Z6,Z7,Z8,Z9,Z10,Z11,Z12,Z13,Z14,qA,qB]at hr);cbv)|exact trivial|rfl|refine Both.mk ?_ ?_|(refine Imp.mk fun h=> ?_;(try dsimp only at h);(try simp only[nc,Int.toNat_natCast,ne_eq,zz]at h);(try simp only[nc]at h))|refine Ob.mk ?_ ?_|refine Chk.mk (by kernel_rfl) ?_|refine Eq'.mk ?_|(refine AllN.mk fun i hi=> ?_;cbv)|(refine AllC.mk fun c hc hcm=> ?_;(try dsimp only at hc);cbv)|(refine AllS.mk fun r hr=> ?_;(try simp only[Dat.ok,Dat.dec,Leaf.ok,Leaf.val,Z0,Z1,Z2,Z3,Z4,Z5,Z6,Z7,Z8,Z9,Z10,Z11,Z12,Z13,Z14,qA]at hr);cbv)
 all_goals ((try dsimp only at*);(try simp only[nc,Int.toNat_natCast,ne_eq,zz]at*);(try simp only[nc]at*))
 refine .now (LoopI.frameC [7,8,14,15,28,41] (SeX i x m) (fun x=>[(14,.i .i64 fun _=>x.k)]) (fun x=>[(0,.blk (mdA 1 fun _=>x.m')),(1,psO (fun _=>x.m'.parts.length) fun _=>x.m'.parts)]) [1,2,3,4,5] (fun x=>m.wires.length-x.k)
  ⟨0,m,Nat.zero_le _,rfl,rfl,rfl,⟨Int.le_refl _,by show m.lost≤m.lost+0;omega⟩,hm.b,rfl,by rw[List.drop_zero]⟩ rfl (fun _=>rfl) ?_ ?_ fun⟨k,m',hk,ht,hw,hl,hx,hb,hn,he⟩=> ?_)
 ·cbv
  repeat' first|(refine Stp.mk ?_;cbv)|(refine Gen.mk fun r hr=> ?_;(try simp only[Dat.ok,Dat.dec,Leaf.ok,Leaf.val,Z0,Z1,Z2,Z3,Z4,Z5,Z6,Z7,Z8,Z9,Z10,Z11,Z12,Z13,Z14,qA,qB]at hr);cbv)|exact trivial|rfl|refine Both.mk ?_ ?_|(refine Imp.mk fun h=> ?_;(try dsimp only at h);(try simp only[nc,Int.toNat_natCast,ne_eq,zz]at h);(try simp only[nc]at h))|refine Ob.mk ?_ ?_|refine Chk.mk (by kernel_rfl) ?_|refine Eq'.mk ?_|(refine AllN.mk fun i hi=> ?_;cbv)|(refine AllC.mk fun c hc hcm=> ?_;(try dsimp only at hc);cbv)|(refine AllS.mk fun r hr=> ?_;(try simp only[Dat.ok,Dat.dec,Leaf.ok,Leaf.val,Z0,Z1,Z2,Z3,Z4,Z5,Z6,Z7,Z8,Z9,Z10,Z11,Z12,Z13,Z14,qA]at hr);cbv)
 ·cbv
  repeat' first|(refine Stp.mk ?_;cbv)|(refine Gen.mk fun r hr=> ?_;(try simp only[Dat.ok,Dat.dec,Leaf.ok,Leaf.val,Z0,Z1,Z2,Z3,Z4,Z5,Z6,Z7,Z8,Z9,Z10,Z11,Z12,Z13,Z14,qA,qB]at hr);cbv)|exact trivial|rfl|refine Both.mk ?_ ?_|(refine Imp.mk fun h=> ?_;(try dsimp only at h);(try simp only[nc,Int.toNat_natCast,ne_eq,zz]at h);(try simp only[nc]at h))|refine Ob.mk ?_ ?_|refine Chk.mk (by kernel_rfl) ?_|refine Eq'.mk ?_|(refine AllN.mk fun i hi=> ?_;cbv)|(refine AllC.mk fun c hc hcm=> ?_;(try dsimp only at hc);cbv)|(refine AllS.mk fun r hr=> ?_;(try simp only[Dat.ok,Dat.dec,Leaf.ok,Leaf.val,Z0,Z1,Z2,Z3,Z4,Z5,Z6,Z7,Z8,Z9,Z10,Z11,Z12,Z13,Z14,qA]at hr);cbv)
 have wk:k<m.wires.length→_:=fun h=>of_decide_eq_true (hm.w (m.wires.getD k Dat.d0) (by rw[List.getD_eq_getElem?_getD,List.getElem?_eq_getElem h];exact List.getElem_mem h))
 have lw:=hm.lw
 have lp:=hm.lp
 have lx:=hm.lost
 have bk:(m.wires.getD k Dat.d0).to.toNat<m'.parts.length→(m'.parts.getD (m.wires.getD k Dat.d0).to.toNat Dat.d0).box.length≤50:=fun h=>hb _ (by rw[List.getD_eq_getElem?_getD,List.getElem?_eq_getElem h];exact List.getElem_mem h)
 cbv
 repeat' first|(show Stp _;exfalso;first|omega|(exact h ‹_›)|(exact absurd ‹_› h)|(exact Bool.false_ne_true (h.symm.trans (show _=true by assumption))))|(refine Stp.mk ?_;cbv)|(refine Gen.mk fun r hr=> ?_;(try simp only[Dat.ok,Dat.dec,Leaf.ok,Leaf.val,Z0,Z1,Z2,Z3,Z4,Z5,Z6,Z7,Z8,Z9,Z10,Z11,Z12,Z13,Z14,qA,qB]at hr);cbv)|exact trivial|rfl|refine Both.mk ?_ ?_|(refine Imp.mk fun h=> ?_;(try dsimp only at h);(try simp only[nc,Int.toNat_natCast,ne_eq,zz]at h);(try simp only[nc]at h))|refine Ob.mk ?_ ?_|refine Chk.mk (by kernel_rfl) ?_|refine Eq'.mk ?_|(refine AllN.mk fun i hi=> ?_;cbv)|(refine AllC.mk fun c hc hcm=> ?_;(try dsimp only at hc);cbv)|(refine AllS.mk fun r hr=> ?_;(try simp only[Dat.ok,Dat.dec,Leaf.ok,Leaf.val,Z0,Z1,Z2,Z3,Z4,Z5,Z6,Z7,Z8,Z9,Z10,Z11,Z12,Z13,Z14,qA]at hr);cbv)
 all_goals ((try dsimp only at*);(try simp only[nc,Int.toNat_natCast,ne_eq,zz]at*);(try simp only[nc]at*))
 all_goals try rw[nc]at*
 all_goals try first
  |omega
  |(unfold InR;omega)
  |exact⟨by omega,by omega⟩
  |(have c0:=wk (by omega)
    first
     |omega
     |exact⟨by omega,by omega⟩
     |(have c1:=bk (by omega)
       exact⟨Nat.le_refl _,Nat.le_refl _,by omega,by omega,Nat.le_refl _⟩))
  |(have c0:k<m.wires.length:=by omega
    have c1:¬((m.wires.getD k Dat.d0).frm=i∧(m.wires.getD k Dat.d0).port=x.port):=by
     rintro⟨q1,q2⟩
     first|exact absurd q1 (by assumption)|exact absurd q2 (by assumption)
    refine⟨⟨k+1,m',by omega,ht,hw,hl,by omega,hb,hn,by rw[he,qX Dat.d0 c0,qA9,if_neg c1]⟩, ?_, ?_,rfl,by(try dsimp only);omega⟩
    ·cbv
     repeat' first|(refine Stp.mk ?_;cbv)|(refine Gen.mk fun r hr=> ?_;(try simp only[Dat.ok,Dat.dec,Leaf.ok,Leaf.val,Z0,Z1,Z2,Z3,Z4,Z5,Z6,Z7,Z8,Z9,Z10,Z11,Z12,Z13,Z14,qA,qB]at hr);cbv)|exact trivial|rfl|refine Both.mk ?_ ?_|(refine Imp.mk fun h=> ?_;(try dsimp only at h);(try simp only[nc,Int.toNat_natCast,ne_eq,zz]at h);(try simp only[nc]at h))|refine Ob.mk ?_ ?_|refine Chk.mk (by kernel_rfl) ?_|refine Eq'.mk ?_|(refine AllN.mk fun i hi=> ?_;cbv)|(refine AllC.mk fun c hc hcm=> ?_;(try dsimp only at hc);cbv)|(refine AllS.mk fun r hr=> ?_;(try simp only[Dat.ok,Dat.dec,Leaf.ok,Leaf.val,Z0,Z1,Z2,Z3,Z4,Z5,Z6,Z7,Z8,Z9,Z10,Z11,Z12,Z13,Z14,qA]at hr);cbv)
    ·cbv
     repeat' first|(refine Stp.mk ?_;cbv)|(refine Gen.mk fun r hr=> ?_;(try simp only[Dat.ok,Dat.dec,Leaf.ok,Leaf.val,Z0,Z1,Z2,Z3,Z4,Z5,Z6,Z7,Z8,Z9,Z10,Z11,Z12,Z13,Z14,qA,qB]at hr);cbv)|exact trivial|rfl|refine Both.mk ?_ ?_|(refine Imp.mk fun h=> ?_;(try dsimp only at h);(try simp only[nc,Int.toNat_natCast,ne_eq,zz]at h);(try simp only[nc]at h))|refine Ob.mk ?_ ?_|refine Chk.mk (by kernel_rfl) ?_|refine Eq'.mk ?_|(refine AllN.mk fun i hi=> ?_;cbv)|(refine AllC.mk fun c hc hcm=> ?_;(try dsimp only at hc);cbv)|(refine AllS.mk fun r hr=> ?_;(try simp only[Dat.ok,Dat.dec,Leaf.ok,Leaf.val,Z0,Z1,Z2,Z3,Z4,Z5,Z6,Z7,Z8,Z9,Z10,Z11,Z12,Z13,Z14,qA]at hr);cbv))
  |(have c0:k<m.wires.length:=by omega
    have w0:=wk c0
    have c1:(m.wires.getD k Dat.d0).frm=i∧(m.wires.getD k Dat.d0).port=x.port:=⟨by assumption,by assumption⟩
    have c2:¬(m'.parts.getD (m.wires.getD k Dat.d0).to.toNat Dat.d0).box.length<50:=by omega
    have s1:qBF m' (m.wires.getD k Dat.d0) x.n=⟨m'.table,m'.parts,m'.wires,m'.now,m'.lost+1⟩:=by rw[qBF,if_neg c2]
    have s4:qA9 i x m.wires m=qA9 i x (m.wires.drop (k+1)) (qBF m' (m.wires.getD k Dat.d0) x.n):=by rw[he,qX Dat.d0 c0,qA9,if_pos c1]
    rw[s1]at s4
    refine⟨⟨k+1,⟨m'.table,m'.parts,m'.wires,m'.now,m'.lost+1⟩,by omega,ht,hw,hl,by dsimp only;omega,hb,hn,s4⟩, ?_, ?_,rfl,by(try dsimp only);omega⟩
    ·cbv
     repeat' first|(refine Stp.mk ?_;cbv)|(refine Gen.mk fun r hr=> ?_;(try simp only[Dat.ok,Dat.dec,Leaf.ok,Leaf.val,Z0,Z1,Z2,Z3,Z4,Z5,Z6,Z7,Z8,Z9,Z10,Z11,Z12,Z13,Z14,qA,qB]at hr);cbv)|exact trivial|rfl|refine Both.mk ?_ ?_|(refine Imp.mk fun h=> ?_;(try dsimp only at h);(try simp only[nc,Int.toNat_natCast,ne_eq,zz]at h);(try simp only[nc]at h))|refine Ob.mk ?_ ?_|refine Chk.mk (by kernel_rfl) ?_|refine Eq'.mk ?_|(refine AllN.mk fun i hi=> ?_;cbv)|(refine AllC.mk fun c hc hcm=> ?_;(try dsimp only at hc);cbv)|(refine AllS.mk fun r hr=> ?_;(try simp only[Dat.ok,Dat.dec,Leaf.ok,Leaf.val,Z0,Z1,Z2,Z3,Z4,Z5,Z6,Z7,Z8,Z9,Z10,Z11,Z12,Z13,Z14,qA]at hr);cbv)
    ·cbv
     repeat' first|(refine Stp.mk ?_;cbv)|(refine Gen.mk fun r hr=> ?_;(try simp only[Dat.ok,Dat.dec,Leaf.ok,Leaf.val,Z0,Z1,Z2,Z3,Z4,Z5,Z6,Z7,Z8,Z9,Z10,Z11,Z12,Z13,Z14,qA,qB]at hr);cbv)|exact trivial|rfl|refine Both.mk ?_ ?_|(refine Imp.mk fun h=> ?_;(try dsimp only at h);(try simp only[nc,Int.toNat_natCast,ne_eq,zz]at h);(try simp only[nc]at h))|refine Ob.mk ?_ ?_|refine Chk.mk (by kernel_rfl) ?_|refine Eq'.mk ?_|(refine AllN.mk fun i hi=> ?_;cbv)|(refine AllC.mk fun c hc hcm=> ?_;(try dsimp only at hc);cbv)|(refine AllS.mk fun r hr=> ?_;(try simp only[Dat.ok,Dat.dec,Leaf.ok,Leaf.val,Z0,Z1,Z2,Z3,Z4,Z5,Z6,Z7,Z8,Z9,Z10,Z11,Z12,Z13,Z14,qA]at hr);cbv)
     all_goals ((try dsimp only at*);(try simp only[nc,Int.toNat_natCast,ne_eq,zz]at*);(try simp only[nc]at*))
     all_goals first
      |exact qPm (fun(p:Part)=>p.vm.at_)
      |exact qPm (fun(p:Part)=>p.vm.halts)
      |exact qPm (fun(p:Part)=>p.vm.fault)
      |exact qPm (fun(p:Part)=>p.box.length)
      |exact qPm (fun(p:Part)=>p.box.getD _ Dat.d0)
      |exact congrArg (fun(p:Part)=>p.code.length) (qEZ (by assumption)).symm
      |exact congrArg (fun(p:Part)=>(p.code.getD _ Dat.d0).code) (qEZ (by assumption)).symm
      |exact congrArg (fun(p:Part)=>(p.code.getD _ Dat.d0).a) (qEZ (by assumption)).symm
      |exact congrArg (fun(p:Part)=>(p.code.getD _ Dat.d0).b) (qEZ (by assumption)).symm
      |exact congrArg (fun(p:Part)=>p.vm.regs.length) (qEZ (by assumption)).symm
      |exact congrArg (fun(p:Part)=>p.vm.regs.getD _ Dat.d0) (qEZ (by assumption)).symm
      |fail)
  |(have eR:m'=R:=by
     rw[←hR,he,List.drop_eq_nil_of_le (by omega),qA9]
    subst eR
    subst hK
    cbv
    repeat' first|(refine Stp.mk ?_;cbv)|(refine Gen.mk fun r hr=> ?_;(try simp only[Dat.ok,Dat.dec,Leaf.ok,Leaf.val,Z0,Z1,Z2,Z3,Z4,Z5,Z6,Z7,Z8,Z9,Z10,Z11,Z12,Z13,Z14,qA,qB]at hr);cbv)|exact trivial|rfl|refine Both.mk ?_ ?_|(refine Imp.mk fun h=> ?_;(try dsimp only at h);(try simp only[nc,Int.toNat_natCast,ne_eq,zz]at h);(try simp only[nc]at h))|refine Ob.mk ?_ ?_|refine Chk.mk (by kernel_rfl) ?_|refine Eq'.mk ?_|(refine AllN.mk fun i hi=> ?_;cbv)|(refine AllC.mk fun c hc hcm=> ?_;(try dsimp only at hc);cbv)|(refine AllS.mk fun r hr=> ?_;(try simp only[Dat.ok,Dat.dec,Leaf.ok,Leaf.val,Z0,Z1,Z2,Z3,Z4,Z5,Z6,Z7,Z8,Z9,Z10,Z11,Z12,Z13,Z14,qA]at hr);cbv))
 have c0:k<m.wires.length:=by omega
 have w0:=wk c0
 have c1:(m.wires.getD k Dat.d0).frm=i∧(m.wires.getD k Dat.d0).port=x.port:=⟨by assumption,by assumption⟩
 have c2:(m'.parts.getD (m.wires.getD k Dat.d0).to.toNat Dat.d0).box.length<50:=by omega
 have s1:qBF m' (m.wires.getD k Dat.d0) x.n=⟨m'.table,m'.parts.set (m.wires.getD k Dat.d0).to.toNat ⟨(m'.parts.getD (m.wires.getD k Dat.d0).to.toNat Dat.d0).code,(m'.parts.getD (m.wires.getD k Dat.d0).to.toNat Dat.d0).vm,(m'.parts.getD (m.wires.getD k Dat.d0).to.toNat Dat.d0).box++[x.n]⟩,m'.wires,m'.now,m'.lost⟩:=by rw[qBF,if_pos c2]
 have s2:= @qPj m' (m.wires.getD k Dat.d0) x.n
 have s3:= @qPk m' (m.wires.getD k Dat.d0) x.n hb
 have s4:qA9 i x m.wires m=qA9 i x (m.wires.drop (k+1)) (qBF m' (m.wires.getD k Dat.d0) x.n):=by rw[he,qX Dat.d0 c0,qA9,if_pos c1]
 rw[s1]at s2 s3 s4
 dsimp only at s2
 refine⟨⟨k+1,⟨m'.table,m'.parts.set (m.wires.getD k Dat.d0).to.toNat ⟨(m'.parts.getD (m.wires.getD k Dat.d0).to.toNat Dat.d0).code,(m'.parts.getD (m.wires.getD k Dat.d0).to.toNat Dat.d0).vm,(m'.parts.getD (m.wires.getD k Dat.d0).to.toNat Dat.d0).box++[x.n]⟩,m'.wires,m'.now,m'.lost⟩,by omega,ht,hw,by rw[List.length_set];exact hl,by dsimp only;omega,s3,hn,s4⟩, ?_, ?_,rfl,by(try dsimp only);omega⟩
 ·cbv
  repeat' first|(refine Stp.mk ?_;cbv)|(refine Gen.mk fun r hr=> ?_;(try simp only[Dat.ok,Dat.dec,Leaf.ok,Leaf.val,Z0,Z1,Z2,Z3,Z4,Z5,Z6,Z7,Z8,Z9,Z10,Z11,Z12,Z13,Z14,qA,qB]at hr);cbv)|exact trivial|rfl|refine Both.mk ?_ ?_|(refine Imp.mk fun h=> ?_;(try dsimp only at h);(try simp only[nc,Int.toNat_natCast,ne_eq,zz]at h);(try simp only[nc]at h))|refine Ob.mk ?_ ?_|refine Chk.mk (by kernel_rfl) ?_|refine Eq'.mk ?_|(refine AllN.mk fun i hi=> ?_;cbv)|(refine AllC.mk fun c hc hcm=> ?_;(try dsimp only at hc);cbv)|(refine AllS.mk fun r hr=> ?_;(try simp only[Dat.ok,Dat.dec,Leaf.ok,Leaf.val,Z0,Z1,Z2,Z3,Z4,Z5,Z6,Z7,Z8,Z9,Z10,Z11,Z12,Z13,Z14,qA]at hr);cbv)
 ·cbv
  repeat' first|(refine Stp.mk ?_;cbv)|(refine Gen.mk fun r hr=> ?_;(try simp only[Dat.ok,Dat.dec,Leaf.ok,Leaf.val,Z0,Z1,Z2,Z3,Z4,Z5,Z6,Z7,Z8,Z9,Z10,Z11,Z12,Z13,Z14,qA,qB]at hr);cbv)|exact trivial|rfl|refine Both.mk ?_ ?_|(refine Imp.mk fun h=> ?_;(try dsimp only at h);(try simp only[nc,Int.toNat_natCast,ne_eq,zz]at h);(try simp only[nc]at h))|refine Ob.mk ?_ ?_|refine Chk.mk (by kernel_rfl) ?_|refine Eq'.mk ?_|(refine AllN.mk fun i hi=> ?_;cbv)|(refine AllC.mk fun c hc hcm=> ?_;(try dsimp only at hc);cbv)|(refine AllS.mk fun r hr=> ?_;(try simp only[Dat.ok,Dat.dec,Leaf.ok,Leaf.val,Z0,Z1,Z2,Z3,Z4,Z5,Z6,Z7,Z8,Z9,Z10,Z11,Z12,Z13,Z14,qA]at hr);cbv)
  all_goals ((try dsimp only at*);(try simp only[nc,Int.toNat_natCast,ne_eq,zz]at*);(try simp only[nc]at*))
  all_goals first
   |exact qCh (fun p=>p.vm.at_) (by assumption) rfl
   |exact qCh (fun p=>p.vm.halts) (by assumption) rfl
   |exact qCh (fun p=>p.vm.fault) (by assumption) rfl
   |exact qCh (fun p=>p.box.length) (by assumption) (by simp)
   |exact congrArg (fun(p:Part)=>p.code.length) (qBr (by assumption) (by assumption)).symm
   |exact congrArg (fun(p:Part)=>(p.code.getD _ Dat.d0).code) (qBr (by assumption) (by assumption)).symm
   |exact congrArg (fun(p:Part)=>(p.code.getD _ Dat.d0).a) (qBr (by assumption) (by assumption)).symm
   |exact congrArg (fun(p:Part)=>(p.code.getD _ Dat.d0).b) (qBr (by assumption) (by assumption)).symm
   |exact congrArg (fun(p:Part)=>p.vm.regs.length) (qBr (by assumption) (by assumption)).symm
   |exact congrArg (fun(p:Part)=>p.vm.regs.getD _ Dat.d0) (qBr (by assumption) (by assumption)).symm
   |exact qWV (by assumption) hi
   |(rw[qPl]<;>first|rfl|assumption)
   |rfl
   |exact(List.length_set).symm
   |(simp;done)
   |fail
end Go.Proofs.YtiaiifcgbjlfoaaGreatDoor
