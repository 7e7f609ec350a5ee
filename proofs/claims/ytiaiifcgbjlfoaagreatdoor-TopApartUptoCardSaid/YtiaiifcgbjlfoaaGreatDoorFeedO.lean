/- parts.Feeds: its result as read-only data. -/
import Derived.Test.YtiaiifcgbjlfoaaGreatDoorPartY
import Derived.Test.YtiaiifcgbjlfoaaGreatDoorAbsG4
set_option linter.all false
namespace Go.Proofs.YtiaiifcgbjlfoaaGreatDoor
open Go Go.Abs
def qM7 (out:List Bool):List Wire→Option Nat
 |[]=>none
 |w::r=>if out.getD w.to.toNat Dat.d0=true∧out.getD w.frm.toNat Dat.d0=false then some w.frm.toNat else qM7 out r
def qE0 (ws:List Wire):Nat→List Bool→List Bool
 |0,out=>out
 |f+1,out=>match qM7 out ws with
  |some k=>qE0 ws f (out.set k true)
  |none=>out
def qFj (n:Nat) (i:Int):List Bool:=(List.replicate n false).set i.toNat true
def qBM (m:Module) (i:Int):List Bool×Int:=
 if¬qAU m=0 then([],qAU m)else if qBd m i=false then([],7)else(qE0 m.wires m.parts.length (qFj m.parts.length i),0)
def cntF:List Bool→Nat
 |[]=>0
 |b::r=>(if b=false then 1 else 0)+cntF r
theorem qPx:∀l:List Bool,cntF l≤l.length
 |[]=>Nat.le_refl _
 |b::r=>by have:=qPx r;rw[cntF,List.length_cons];split<;>omega
theorem qMc:∀{l:List Bool}{k:Nat},k<l.length→l.getD k Dat.d0=false→cntF (l.set k true)+1=cntF l
 |b::r,0,_,h=>by
  have h:b=false:=h
  rw[List.set_cons_zero,cntF,cntF,h,if_neg (by decide),if_pos rfl];omega
 |b::r,k+1,hk,h=>by
  have:=qMc (l:=r) (k:=k) (by simpa using hk) h
  rw[List.set_cons_succ,cntF,cntF];omega
theorem qMd {out:List Bool}:∀{ws:List Wire}{k:Nat},qM7 out ws=some k→∃w∈ws,out.getD w.to.toNat Dat.d0=true∧out.getD w.frm.toNat Dat.d0=false∧k=w.frm.toNat
 |w::r,k,h=>by
  rw[qM7]at h
  split at h
  ·rename_i q
   exact⟨w,List.mem_cons_self,q.1,q.2,by simpa using h.symm⟩
  ·obtain⟨v,hv,h2⟩:=qMd h
   exact⟨v,List.mem_cons_of_mem _ hv,h2⟩
theorem qJO {ws:List Wire}:∀{f:Nat}{out:List Bool},(qE0 ws f out).length=out.length
 |0,_=>rfl
 |f+1,out=>by
  rw[qE0]
  split
  ·rw[qJO,List.length_set]
  ·rfl
theorem qMe {ws:List Wire}{f k:Nat}{out:List Bool}(h:qM7 out ws=some k) (hl:∀w∈ws,w.frm.toNat<out.length) (hc:cntF out≤f):0<f∧qE0 ws f out=qE0 ws (f-1) (out.set k true)∧cntF (out.set k true)≤f-1:=by
 obtain⟨w,hw,h1,h2,rfl⟩:=qMd h
 have h3:=qMc (hl w hw) h2
 match f,hc with
 |0,hc=>omega
 |f+1,hc=>
  refine⟨Nat.succ_pos _, ?_,by omega⟩
  rw[qE0,h];rfl
theorem qMf {ws:List Wire}{f:Nat}{out:List Bool}(h:qM7 out ws=none):qE0 ws f out=out:=by
 match f with
 |0=>rfl
 |f+1=>rw[qE0,h]
theorem qFA {out:List Bool}{ws:List Wire}{k:Nat}(hk:k<ws.length):qM7 out (ws.drop k)=if out.getD (ws.getD k Dat.d0).to.toNat Dat.d0=true∧out.getD (ws.getD k Dat.d0).frm.toNat Dat.d0=false then some (ws.getD k Dat.d0).frm.toNat else qM7 out (ws.drop (k+1)):=by
 rw[qX Dat.d0 hk,qM7]
end Go.Proofs.YtiaiifcgbjlfoaaGreatDoor

namespace Go.Proofs.YtiaiifcgbjlfoaaGreatDoor
open Go Go.Abs
noncomputable def cFd:FuncId→Con:=fun f=>match f with
 |19=>qH (qM qIh)
 |20=>qH (qM pinC_D)
 |_=>fun _ _ _=>Bad 1001
theorem qXi:qY Tryz.prog cFd:=fun f A H K h=>by
 unfold cFd at h
 split at h
 ·exact⟨⟨Tryz.f19,Tryz.func19,by kernel_rfl,by kernel_rfl⟩,qE qL5 h⟩
 ·exact⟨⟨Tryz.f20,Tryz.func20,by kernel_rfl,by kernel_rfl⟩,qE pinC_ok h⟩
 ·cases h
structure FsX (m:Module) (i:Int) where
 out:List Bool
 f:Nat
 hl:out.length=m.parts.length
 hc:cntF out≤f
 he:qE0 m.wires m.parts.length (qFj m.parts.length i)=qE0 m.wires f out
 hm:qAU m=0
 hb:qBd m i=true
structure FlX (m:Module) (out:List Bool) where
 k:Nat
 hk:k≤m.wires.length
 he:qM7 out m.wires=qM7 out (m.wires.drop k)
theorem qGt {l:List Bool}{k j:Nat}(hj:j<l.length):(l.set k true).getD j Dat.d0=bif decide (j=k)then true else l.getD j Dat.d0:=by
 rw[List.getD_eq_getElem?_getD,List.getElem?_set]
 by_cases e:j=k
 ·subst e;simp[hj]
 ·rw[if_neg (fun z=>e z.symm),←List.getD_eq_getElem?_getD,decide_eq_false e];rfl
theorem qHj {n j:Nat}{i:Int}(hj:j<n):(qFj n i).getD j Dat.d0=bif decide (j=i.toNat)then true else false:=by
 rw[qFj,qGt (by simpa using hj)]
 simp[List.getD_eq_getElem?_getD,hj]
theorem qB6 {n:Nat}{i:Int}:(qFj n i).length=n:=(List.length_set ..).trans (List.length_replicate ..)
theorem qIm {m:Module}(h:qAU m=0) {k:Nat}(hk:k<m.wires.length):(0≤(m.wires.getD k Dat.d0).to∧(m.wires.getD k Dat.d0).to<m.parts.length)∧0≤(m.wires.getD k Dat.d0).frm∧(m.wires.getD k Dat.d0).frm<m.parts.length:=by
 have M:=qAZ.1 h
 have q:=of_decide_eq_true (M.w _ (show m.wires.getD k Dat.d0∈m.wires by rw[List.getD_eq_getElem?_getD,List.getElem?_eq_getElem hk];exact List.getElem_mem hk))
 omega
def qUi (d:Th (List Bool)):AObj:= .vec 4 1 (fun _=>(d ()).length) fun i=>Dat.enc fun _=>(d ()).getD (i ()) Dat.d0
set_option maxRecDepth 100000 in
set_option maxHeartbeats 4000000 in
theorem qRn (m:Module) (i:Int) (hp:qCH m) (R:List Bool×Int) (hR:qBM m i=R):
  qO Tryz.prog 5 [.agg (Dat.enc fun _=>m),.i .i64 fun _=>i] [] (qAf (.tup [.own 0 fun _=>R.1.length,.i .i64 fun _=>R.2]) [qUi fun _=>R.1]):=by
 have fin0:∀e H kl,R=([],e)→qAf (.tup [.own 0 fun _=>R.1.length,.i .i64 fun _=>R.2]) [qUi fun _=>R.1] (.tup [.nil,.i .i64 fun _=>e]) H kl:=fun e H kl h=>by
  subst h
  cbv
  repeat' first|(refine Stp.mk ?_;cbv)|(refine Gen.mk fun r hr=> ?_;(try simp only[Dat.ok,Dat.dec,Leaf.ok,Leaf.val,Z0,Z1,Z2,Z3,Z4,Z5,Z6,Z7,Z8,Z9,Z10,Z11,Z12,Z13,Z14,qA,qB]at hr);cbv)|exact trivial|rfl|refine Both.mk ?_ ?_|(refine Imp.mk fun h=> ?_;(try dsimp only at h);(try simp only[nc,Int.toNat_natCast,ne_eq,zz]at h);(try simp only[nc]at h))|refine Ob.mk ?_ ?_|refine Chk.mk (by kernel_rfl) ?_|refine Eq'.mk ?_|(refine AllN.mk fun i hi=> ?_;cbv)|(refine AllC.mk fun c hc hcm=> ?_;(try dsimp only at hc);cbv)|(refine AllS.mk fun r hr=> ?_;(try simp only[Dat.ok,Dat.dec,Leaf.ok,Leaf.val,Z0,Z1,Z2,Z3,Z4,Z5,Z6,Z7,Z8,Z9,Z10,Z11,Z12,Z13,Z14,qA]at hr);cbv)
  all_goals first|exact absurd hi (Nat.not_lt_zero _)|fail
 have fin1:∀out a0 kl H,R=(out,0)→qAf (.tup [.own 0 fun _=>R.1.length,.i .i64 fun _=>R.2]) [qUi fun _=>R.1] (.tup [.own 1 fun _=>out.length,.i .i64 fun _=>0]) (a0::qUi (fun _=>out)::H) kl:=fun out a0 kl H h=>by
  subst h
  cbv
  repeat' first|(refine Stp.mk ?_;cbv)|(refine Gen.mk fun r hr=> ?_;(try simp only[Dat.ok,Dat.dec,Leaf.ok,Leaf.val,Z0,Z1,Z2,Z3,Z4,Z5,Z6,Z7,Z8,Z9,Z10,Z11,Z12,Z13,Z14,qA,qB]at hr);cbv)|exact trivial|rfl|refine Both.mk ?_ ?_|(refine Imp.mk fun h=> ?_;(try dsimp only at h);(try simp only[nc,Int.toNat_natCast,ne_eq,zz]at h);(try simp only[nc]at h))|refine Ob.mk ?_ ?_|refine Chk.mk (by kernel_rfl) ?_|refine Eq'.mk ?_|(refine AllN.mk fun i hi=> ?_;cbv)|(refine AllC.mk fun c hc hcm=> ?_;(try dsimp only at hc);cbv)|(refine AllS.mk fun r hr=> ?_;(try simp only[Dat.ok,Dat.dec,Leaf.ok,Leaf.val,Z0,Z1,Z2,Z3,Z4,Z5,Z6,Z7,Z8,Z9,Z10,Z11,Z12,Z13,Z14,qA]at hr);cbv)
  all_goals fail
 have eR:qAU m=0→qBd m i=true→R=(qE0 m.wires m.parts.length (qFj m.parts.length i),0):=fun a b=>by
  rw[←hR,qBM,if_neg (fun q=>q a),if_neg (by rw[b];decide)]
 generalize qAf (.tup [.own 0 fun _=>R.1.length,.i .i64 fun _=>R.2]) [qUi fun _=>R.1]=K at fin0 fin1 ⊢
 refine qUR qI zl qXi qD (keep:=[0,1,2,4,5,6,7,9,13,18,27,28,29,30,45]) Tryz.func5 rfl rfl ?_
 cbv
 refine ScopeVC.mk 0 _ rfl (FsX m i) (fun x=>[(1,.i .i64 fun _=>i),(2,.ptr 0 0),(7,.own 1 fun _=>x.out.length)]) (fun x=>[.blk [.i .i64 fun _=>m.table.frame,.sl 3 (fun _=>m.table.windows.length) fun i=>Dat.enc fun _=>m.table.windows.getD (i ()) Dat.d0,.sl 6 (fun _=>m.parts.length) fun i=>Dat.enc fun _=>m.parts.getD (i ()) Dat.d0,.sl 3 (fun _=>m.wires.length) fun i=>Dat.enc fun _=>m.wires.getD (i ()) Dat.d0,.i .i64 fun _=>m.now,.i .i64 fun _=>m.lost],qUi fun _=>x.out]) [] (fun x=>x.f) (fun _=>rfl) ?_ fun⟨out,f,hl,hc,he,hm,hb⟩=> ?_
 ·cbv
  repeat' first|(show Stp _;exfalso;first|omega|(exact h ‹_›)|(exact absurd ‹_› h)|(exact Bool.false_ne_true (h.symm.trans (show _=true by assumption))))|(refine Stp.mk ?_;cbv)|(refine Gen.mk fun r hr=> ?_;(try simp only[Dat.ok,Dat.dec,Leaf.ok,Leaf.val,Z0,Z1,Z2,Z3,Z4,Z5,Z6,Z7,Z8,Z9,Z10,Z11,Z12,Z13,Z14,qA,qB]at hr);cbv)|exact trivial|rfl|refine Both.mk ?_ ?_|(refine Imp.mk fun h=> ?_;(try dsimp only at h);(try simp only[nc,Int.toNat_natCast,ne_eq,zz]at h);(try simp only[nc]at h))|refine Ob.mk ?_ ?_|refine Chk.mk (by kernel_rfl) ?_|refine Eq'.mk ?_|(refine AllN.mk fun i hi=> ?_;cbv)|(refine AllC.mk fun c hc hcm=> ?_;(try dsimp only at hc);cbv)|(refine AllS.mk fun r hr=> ?_;(try simp only[Dat.ok,Dat.dec,Leaf.ok,Leaf.val,Z0,Z1,Z2,Z3,Z4,Z5,Z6,Z7,Z8,Z9,Z10,Z11,Z12,Z13,Z14,qA]at hr);cbv)
  all_goals ((try dsimp only at*);(try simp only[nc,Int.toNat_natCast,ne_eq,zz]at*);(try simp only[nc]at*))
  all_goals try simp only[Dat.dec,Leaf.val,Z0,Z1,Z2,Z3,Z4,Z5,Z6,Z7,Z8,Z9,Z10,Z11,Z12,Z13,Z14,qA]at*
  all_goals try first
   |exact⟨⟨trivial,⟨rfl,fun i _=>Dat.hok _⟩,⟨rfl,fun i _=>Dat.hok _⟩,⟨rfl,fun i _=>Dat.hok _⟩,trivial,trivial⟩,hp⟩
   |exact⟨⟨trivial,⟨rfl,fun i _=>Dat.hok _⟩,⟨rfl,fun i _=>Dat.hok _⟩,⟨rfl,fun i _=>Dat.hok _⟩,trivial,trivial⟩,hp.2.1⟩
   |(refine fin0 _ _ _ ?_
     rw[←hR,qBM,if_pos (by assumption)]
     done)
   |(refine fin0 _ _ _ ?_
     rw[←hR,qBM,if_neg (fun q=>q (by assumption)),if_pos (by assumption)]
     done)
  all_goals try (
   have c0:=of_decide_eq_true (show qBd m i=true by assumption)
   have c1:=(qAZ.1 (show qAU m=0 by assumption)).lp
   first
    |omega
    |exact⟨by omega,by omega⟩
    |exact⟨by omega,by omega,by omega,by omega⟩)
  have hm:qAU m=0:=by assumption
  have hb:qBd m i=true:=by assumption
  refine LoopVC.frame (7::[9,29,30,45]) (FlX m (qFj m.parts.length i)) (fun x=>[(7,.own 1 fun _=>(qFj m.parts.length i).length),(29,.i .i64 fun _=>x.k)]) (fun _=>[(1,qUi fun _=>qFj m.parts.length i)]) [] (fun x=>m.wires.length-x.k) ⟨0,Nat.zero_le _,by rw[List.drop_zero]⟩ rfl (fun _=>rfl) ?_ ?_ fun⟨k,hk,hh⟩=> ?_
  ·cbv
   repeat' first|(refine Stp.mk ?_;cbv)|(refine Gen.mk fun r hr=> ?_;(try simp only[Dat.ok,Dat.dec,Leaf.ok,Leaf.val,Z0,Z1,Z2,Z3,Z4,Z5,Z6,Z7,Z8,Z9,Z10,Z11,Z12,Z13,Z14,qA,qB]at hr);cbv)|exact trivial|rfl|refine Both.mk ?_ ?_|(refine Imp.mk fun h=> ?_;(try dsimp only at h);(try simp only[nc,Int.toNat_natCast,ne_eq,zz]at h);(try simp only[nc]at h))|refine Ob.mk ?_ ?_|refine Chk.mk (by kernel_rfl) ?_|refine Eq'.mk ?_|(refine AllN.mk fun i hi=> ?_;cbv)|(refine AllC.mk fun c hc hcm=> ?_;(try dsimp only at hc);cbv)|(refine AllS.mk fun r hr=> ?_;(try simp only[Dat.ok,Dat.dec,Leaf.ok,Leaf.val,Z0,Z1,Z2,Z3,Z4,Z5,Z6,Z7,Z8,Z9,Z10,Z11,Z12,Z13,Z14,qA]at hr);cbv)
   all_goals first
    |exact qB6.symm
    |exact(qHj (by assumption)).symm
    |fail
  ·cbv
   repeat' first|(refine Stp.mk ?_;cbv)|(refine Gen.mk fun r hr=> ?_;(try simp only[Dat.ok,Dat.dec,Leaf.ok,Leaf.val,Z0,Z1,Z2,Z3,Z4,Z5,Z6,Z7,Z8,Z9,Z10,Z11,Z12,Z13,Z14,qA,qB]at hr);cbv)|exact trivial|rfl|refine Both.mk ?_ ?_|(refine Imp.mk fun h=> ?_;(try dsimp only at h);(try simp only[nc,Int.toNat_natCast,ne_eq,zz]at h);(try simp only[nc]at h))|refine Ob.mk ?_ ?_|refine Chk.mk (by kernel_rfl) ?_|refine Eq'.mk ?_|(refine AllN.mk fun i hi=> ?_;cbv)|(refine AllC.mk fun c hc hcm=> ?_;(try dsimp only at hc);cbv)|(refine AllS.mk fun r hr=> ?_;(try simp only[Dat.ok,Dat.dec,Leaf.ok,Leaf.val,Z0,Z1,Z2,Z3,Z4,Z5,Z6,Z7,Z8,Z9,Z10,Z11,Z12,Z13,Z14,qA]at hr);cbv)
   all_goals first
    |exact qB6.symm
    |exact(qHj (by assumption)).symm
    |fail
  cbv
  repeat' first|(show Stp _;exfalso;first|omega|(exact h ‹_›)|(exact absurd ‹_› h)|(exact Bool.false_ne_true (h.symm.trans (show _=true by assumption))))|(refine Stp.mk ?_;cbv)|(refine Gen.mk fun r hr=> ?_;(try simp only[Dat.ok,Dat.dec,Leaf.ok,Leaf.val,Z0,Z1,Z2,Z3,Z4,Z5,Z6,Z7,Z8,Z9,Z10,Z11,Z12,Z13,Z14,qA,qB]at hr);cbv)|exact trivial|rfl|refine Both.mk ?_ ?_|(refine Imp.mk fun h=> ?_;(try dsimp only at h);(try simp only[nc,Int.toNat_natCast,ne_eq,zz]at h);(try simp only[nc]at h))|refine Ob.mk ?_ ?_|refine Chk.mk (by kernel_rfl) ?_|refine Eq'.mk ?_|(refine AllN.mk fun i hi=> ?_;cbv)|(refine AllC.mk fun c hc hcm=> ?_;(try dsimp only at hc);cbv)|(refine AllS.mk fun r hr=> ?_;(try simp only[Dat.ok,Dat.dec,Leaf.ok,Leaf.val,Z0,Z1,Z2,Z3,Z4,Z5,Z6,Z7,Z8,Z9,Z10,Z11,Z12,Z13,Z14,qA]at hr);cbv)
  all_goals ((try dsimp only at*);(try simp only[nc,Int.toNat_natCast,ne_eq,zz]at*);(try simp only[nc]at*))
  all_goals try rw[nc]at*
  all_goals try simp only[Dat.dec,Leaf.val,Z0,Z1,Z2,Z3,Z4,Z5,Z6,Z7,Z8,Z9,Z10,Z11,Z12,Z13,Z14,qA]at*
  all_goals try (
   have wk:=qIm hm (show k<m.wires.length by omega)
   first
    |(have M:=(qAZ.1 hm).lw
      unfold InR;omega)
    |exact⟨by omega,by omega⟩
    |(rw[qB6];exact⟨by omega,by omega⟩)
    |(rw[qB6];omega)
    |(have c0:k<m.wires.length:=by omega
      refine⟨⟨k+1,by omega,by rw[hh,qFA c0,if_neg (fun q=>by first|exact Bool.noConfusion (q.1.symm.trans (by assumption):true=false)|exact Bool.noConfusion (q.2.symm.trans (by assumption):false=true))]⟩, ?_, ?_,rfl,by(try dsimp only);omega⟩
      ·cbv
       repeat' first|(refine Stp.mk ?_;cbv)|(refine Gen.mk fun r hr=> ?_;(try simp only[Dat.ok,Dat.dec,Leaf.ok,Leaf.val,Z0,Z1,Z2,Z3,Z4,Z5,Z6,Z7,Z8,Z9,Z10,Z11,Z12,Z13,Z14,qA,qB]at hr);cbv)|exact trivial|rfl|refine Both.mk ?_ ?_|(refine Imp.mk fun h=> ?_;(try dsimp only at h);(try simp only[nc,Int.toNat_natCast,ne_eq,zz]at h);(try simp only[nc]at h))|refine Ob.mk ?_ ?_|refine Chk.mk (by kernel_rfl) ?_|refine Eq'.mk ?_|(refine AllN.mk fun i hi=> ?_;cbv)|(refine AllC.mk fun c hc hcm=> ?_;(try dsimp only at hc);cbv)|(refine AllS.mk fun r hr=> ?_;(try simp only[Dat.ok,Dat.dec,Leaf.ok,Leaf.val,Z0,Z1,Z2,Z3,Z4,Z5,Z6,Z7,Z8,Z9,Z10,Z11,Z12,Z13,Z14,qA]at hr);cbv)
      ·cbv
       repeat' first|(refine Stp.mk ?_;cbv)|(refine Gen.mk fun r hr=> ?_;(try simp only[Dat.ok,Dat.dec,Leaf.ok,Leaf.val,Z0,Z1,Z2,Z3,Z4,Z5,Z6,Z7,Z8,Z9,Z10,Z11,Z12,Z13,Z14,qA,qB]at hr);cbv)|exact trivial|rfl|refine Both.mk ?_ ?_|(refine Imp.mk fun h=> ?_;(try dsimp only at h);(try simp only[nc,Int.toNat_natCast,ne_eq,zz]at h);(try simp only[nc]at h))|refine Ob.mk ?_ ?_|refine Chk.mk (by kernel_rfl) ?_|refine Eq'.mk ?_|(refine AllN.mk fun i hi=> ?_;cbv)|(refine AllC.mk fun c hc hcm=> ?_;(try dsimp only at hc);cbv)|(refine AllS.mk fun r hr=> ?_;(try simp only[Dat.ok,Dat.dec,Leaf.ok,Leaf.val,Z0,Z1,Z2,Z3,Z4,Z5,Z6,Z7,Z8,Z9,Z10,Z11,Z12,Z13,Z14,qA]at hr);cbv)))
  all_goals try (
   have wk:=qIm hm (show k<m.wires.length by omega)
   have hit:qM7 (qFj m.parts.length i) m.wires=some (m.wires.getD k Dat.d0).frm.toNat:=by rw[hh,qFA (by omega),if_pos ⟨by assumption,by assumption⟩]
   obtain⟨f1,f2,f3⟩:=qMe hit (fun w hw=>by
    have M:=of_decide_eq_true ((qAZ.1 hm).w w hw)
    rw[qB6]
    omega) (Nat.le_trans (qPx _) (Nat.le_of_eq qB6))
   refine⟨⟨(qFj m.parts.length i).set (m.wires.getD k Dat.d0).frm.toNat true,m.parts.length-1,(List.length_set ..).trans qB6,f3,f2,hm,hb⟩, ?_, ?_,rfl⟩
   ·cbv
    repeat' first|(refine Stp.mk ?_;cbv)|(refine Gen.mk fun r hr=> ?_;(try simp only[Dat.ok,Dat.dec,Leaf.ok,Leaf.val,Z0,Z1,Z2,Z3,Z4,Z5,Z6,Z7,Z8,Z9,Z10,Z11,Z12,Z13,Z14,qA,qB]at hr);cbv)|exact trivial|rfl|refine Both.mk ?_ ?_|(refine Imp.mk fun h=> ?_;(try dsimp only at h);(try simp only[nc,Int.toNat_natCast,ne_eq,zz]at h);(try simp only[nc]at h))|refine Ob.mk ?_ ?_|refine Chk.mk (by kernel_rfl) ?_|refine Eq'.mk ?_|(refine AllN.mk fun i hi=> ?_;cbv)|(refine AllC.mk fun c hc hcm=> ?_;(try dsimp only at hc);cbv)|(refine AllS.mk fun r hr=> ?_;(try simp only[Dat.ok,Dat.dec,Leaf.ok,Leaf.val,Z0,Z1,Z2,Z3,Z4,Z5,Z6,Z7,Z8,Z9,Z10,Z11,Z12,Z13,Z14,qA]at hr);cbv)
    all_goals exact(List.length_set ..).symm
   ·cbv
    repeat' first|(refine Stp.mk ?_;cbv)|(refine Gen.mk fun r hr=> ?_;(try simp only[Dat.ok,Dat.dec,Leaf.ok,Leaf.val,Z0,Z1,Z2,Z3,Z4,Z5,Z6,Z7,Z8,Z9,Z10,Z11,Z12,Z13,Z14,qA,qB]at hr);cbv)|exact trivial|rfl|refine Both.mk ?_ ?_|(refine Imp.mk fun h=> ?_;(try dsimp only at h);(try simp only[nc,Int.toNat_natCast,ne_eq,zz]at h);(try simp only[nc]at h))|refine Ob.mk ?_ ?_|refine Chk.mk (by kernel_rfl) ?_|refine Eq'.mk ?_|(refine AllN.mk fun i hi=> ?_;cbv)|(refine AllC.mk fun c hc hcm=> ?_;(try dsimp only at hc);cbv)|(refine AllS.mk fun r hr=> ?_;(try simp only[Dat.ok,Dat.dec,Leaf.ok,Leaf.val,Z0,Z1,Z2,Z3,Z4,Z5,Z6,Z7,Z8,Z9,Z10,Z11,Z12,Z13,Z14,qA]at hr);cbv)
    all_goals first
     |exact(List.length_set ..).symm
     |exact(qGt (by assumption)).symm
     |fail)
  all_goals try (
   have c0:m.wires.length≤k:=by omega
   refine fin1 _ _ _ _ ?_
   rw[eR hm hb,qMf (by rw[hh,List.drop_eq_nil_of_le c0];rfl)]
   done)
  all_goals fail
 ·cbv
  repeat' first|(show Stp _;exfalso;first|omega|(exact h ‹_›)|(exact absurd ‹_› h)|(exact Bool.false_ne_true (h.symm.trans (show _=true by assumption))))|(refine Stp.mk ?_;cbv)|(refine Gen.mk fun r hr=> ?_;(try simp only[Dat.ok,Dat.dec,Leaf.ok,Leaf.val,Z0,Z1,Z2,Z3,Z4,Z5,Z6,Z7,Z8,Z9,Z10,Z11,Z12,Z13,Z14,qA,qB]at hr);cbv)|exact trivial|rfl|refine Both.mk ?_ ?_|(refine Imp.mk fun h=> ?_;(try dsimp only at h);(try simp only[nc,Int.toNat_natCast,ne_eq,zz]at h);(try simp only[nc]at h))|refine Ob.mk ?_ ?_|refine Chk.mk (by kernel_rfl) ?_|refine Eq'.mk ?_|(refine AllN.mk fun i hi=> ?_;cbv)|(refine AllC.mk fun c hc hcm=> ?_;(try dsimp only at hc);cbv)|(refine AllS.mk fun r hr=> ?_;(try simp only[Dat.ok,Dat.dec,Leaf.ok,Leaf.val,Z0,Z1,Z2,Z3,Z4,Z5,Z6,Z7,Z8,Z9,Z10,Z11,Z12,Z13,Z14,qA]at hr);cbv)
  all_goals ((try dsimp only at*);(try simp only[nc,Int.toNat_natCast,ne_eq,zz]at*);(try simp only[nc]at*))
  refine LoopVC.frame [9,29,30,45] (FlX m out) (fun x=>[(29,.i .i64 fun _=>x.k)]) (fun _=>[]) [] (fun x=>m.wires.length-x.k) ⟨0,Nat.zero_le _,by rw[List.drop_zero]⟩ rfl (fun _=>rfl) ?_ ?_ fun⟨k,hk,hh⟩=> ?_
  ·cbv
   repeat' first|(refine Stp.mk ?_;cbv)|(refine Gen.mk fun r hr=> ?_;(try simp only[Dat.ok,Dat.dec,Leaf.ok,Leaf.val,Z0,Z1,Z2,Z3,Z4,Z5,Z6,Z7,Z8,Z9,Z10,Z11,Z12,Z13,Z14,qA,qB]at hr);cbv)|exact trivial|rfl|refine Both.mk ?_ ?_|(refine Imp.mk fun h=> ?_;(try dsimp only at h);(try simp only[nc,Int.toNat_natCast,ne_eq,zz]at h);(try simp only[nc]at h))|refine Ob.mk ?_ ?_|refine Chk.mk (by kernel_rfl) ?_|refine Eq'.mk ?_|(refine AllN.mk fun i hi=> ?_;cbv)|(refine AllC.mk fun c hc hcm=> ?_;(try dsimp only at hc);cbv)|(refine AllS.mk fun r hr=> ?_;(try simp only[Dat.ok,Dat.dec,Leaf.ok,Leaf.val,Z0,Z1,Z2,Z3,Z4,Z5,Z6,Z7,Z8,Z9,Z10,Z11,Z12,Z13,Z14,qA]at hr);cbv)
   all_goals fail
  ·cbv
   repeat' first|(refine Stp.mk ?_;cbv)|(refine Gen.mk fun r hr=> ?_;(try simp only[Dat.ok,Dat.dec,Leaf.ok,Leaf.val,Z0,Z1,Z2,Z3,Z4,Z5,Z6,Z7,Z8,Z9,Z10,Z11,Z12,Z13,Z14,qA,qB]at hr);cbv)|exact trivial|rfl|refine Both.mk ?_ ?_|(refine Imp.mk fun h=> ?_;(try dsimp only at h);(try simp only[nc,Int.toNat_natCast,ne_eq,zz]at h);(try simp only[nc]at h))|refine Ob.mk ?_ ?_|refine Chk.mk (by kernel_rfl) ?_|refine Eq'.mk ?_|(refine AllN.mk fun i hi=> ?_;cbv)|(refine AllC.mk fun c hc hcm=> ?_;(try dsimp only at hc);cbv)|(refine AllS.mk fun r hr=> ?_;(try simp only[Dat.ok,Dat.dec,Leaf.ok,Leaf.val,Z0,Z1,Z2,Z3,Z4,Z5,Z6,Z7,Z8,Z9,Z10,Z11,Z12,Z13,Z14,qA]at hr);cbv)
   all_goals fail
  cbv
  repeat' first|(show Stp _;exfalso;first|omega|(exact h ‹_›)|(exact absurd ‹_› h)|(exact Bool.false_ne_true (h.symm.trans (show _=true by assumption))))|(refine Stp.mk ?_;cbv)|(refine Gen.mk fun r hr=> ?_;(try simp only[Dat.ok,Dat.dec,Leaf.ok,Leaf.val,Z0,Z1,Z2,Z3,Z4,Z5,Z6,Z7,Z8,Z9,Z10,Z11,Z12,Z13,Z14,qA,qB]at hr);cbv)|exact trivial|rfl|refine Both.mk ?_ ?_|(refine Imp.mk fun h=> ?_;(try dsimp only at h);(try simp only[nc,Int.toNat_natCast,ne_eq,zz]at h);(try simp only[nc]at h))|refine Ob.mk ?_ ?_|refine Chk.mk (by kernel_rfl) ?_|refine Eq'.mk ?_|(refine AllN.mk fun i hi=> ?_;cbv)|(refine AllC.mk fun c hc hcm=> ?_;(try dsimp only at hc);cbv)|(refine AllS.mk fun r hr=> ?_;(try simp only[Dat.ok,Dat.dec,Leaf.ok,Leaf.val,Z0,Z1,Z2,Z3,Z4,Z5,Z6,Z7,Z8,Z9,Z10,Z11,Z12,Z13,Z14,qA]at hr);cbv)
  all_goals ((try dsimp only at*);(try simp only[nc,Int.toNat_natCast,ne_eq,zz]at*);(try simp only[nc]at*))
  all_goals try rw[nc]at*
  all_goals try simp only[Dat.dec,Leaf.val,Z0,Z1,Z2,Z3,Z4,Z5,Z6,Z7,Z8,Z9,Z10,Z11,Z12,Z13,Z14,qA]at*
  all_goals try (
   have wk:=qIm hm (show k<m.wires.length by omega)
   first
    |(have M:=(qAZ.1 hm).lw
      unfold InR;omega)
    |exact⟨by omega,by omega⟩
    |(rw[hl];exact⟨by omega,by omega⟩)
    |(rw[hl];omega)
    |(have c0:k<m.wires.length:=by omega
      refine⟨⟨k+1,by omega,by rw[hh,qFA c0,if_neg (fun q=>by first|exact Bool.noConfusion (q.1.symm.trans (by assumption):true=false)|exact Bool.noConfusion (q.2.symm.trans (by assumption):false=true))]⟩, ?_, ?_,rfl,by(try dsimp only);omega⟩
      ·cbv
       repeat' first|(refine Stp.mk ?_;cbv)|(refine Gen.mk fun r hr=> ?_;(try simp only[Dat.ok,Dat.dec,Leaf.ok,Leaf.val,Z0,Z1,Z2,Z3,Z4,Z5,Z6,Z7,Z8,Z9,Z10,Z11,Z12,Z13,Z14,qA,qB]at hr);cbv)|exact trivial|rfl|refine Both.mk ?_ ?_|(refine Imp.mk fun h=> ?_;(try dsimp only at h);(try simp only[nc,Int.toNat_natCast,ne_eq,zz]at h);(try simp only[nc]at h))|refine Ob.mk ?_ ?_|refine Chk.mk (by kernel_rfl) ?_|refine Eq'.mk ?_|(refine AllN.mk fun i hi=> ?_;cbv)|(refine AllC.mk fun c hc hcm=> ?_;(try dsimp only at hc);cbv)|(refine AllS.mk fun r hr=> ?_;(try simp only[Dat.ok,Dat.dec,Leaf.ok,Leaf.val,Z0,Z1,Z2,Z3,Z4,Z5,Z6,Z7,Z8,Z9,Z10,Z11,Z12,Z13,Z14,qA]at hr);cbv)
      ·cbv
       repeat' first|(refine Stp.mk ?_;cbv)|(refine Gen.mk fun r hr=> ?_;(try simp only[Dat.ok,Dat.dec,Leaf.ok,Leaf.val,Z0,Z1,Z2,Z3,Z4,Z5,Z6,Z7,Z8,Z9,Z10,Z11,Z12,Z13,Z14,qA,qB]at hr);cbv)|exact trivial|rfl|refine Both.mk ?_ ?_|(refine Imp.mk fun h=> ?_;(try dsimp only at h);(try simp only[nc,Int.toNat_natCast,ne_eq,zz]at h);(try simp only[nc]at h))|refine Ob.mk ?_ ?_|refine Chk.mk (by kernel_rfl) ?_|refine Eq'.mk ?_|(refine AllN.mk fun i hi=> ?_;cbv)|(refine AllC.mk fun c hc hcm=> ?_;(try dsimp only at hc);cbv)|(refine AllS.mk fun r hr=> ?_;(try simp only[Dat.ok,Dat.dec,Leaf.ok,Leaf.val,Z0,Z1,Z2,Z3,Z4,Z5,Z6,Z7,Z8,Z9,Z10,Z11,Z12,Z13,Z14,qA]at hr);cbv)))
  all_goals try (
   have wk:=qIm hm (show k<m.wires.length by omega)
   have hit:qM7 out m.wires=some (m.wires.getD k Dat.d0).frm.toNat:=by rw[hh,qFA (by omega),if_pos ⟨by assumption,by assumption⟩]
   obtain⟨f1,f2,f3⟩:=qMe hit (fun w hw=>by
    have M:=of_decide_eq_true ((qAZ.1 hm).w w hw)
    rw[hl]
    omega) hc
   refine⟨⟨out.set (m.wires.getD k Dat.d0).frm.toNat true,f-1,(List.length_set ..).trans hl,f3,he.trans f2,hm,hb⟩, ?_, ?_,rfl,by(try dsimp only);omega⟩
   ·cbv
    repeat' first|(refine Stp.mk ?_;cbv)|(refine Gen.mk fun r hr=> ?_;(try simp only[Dat.ok,Dat.dec,Leaf.ok,Leaf.val,Z0,Z1,Z2,Z3,Z4,Z5,Z6,Z7,Z8,Z9,Z10,Z11,Z12,Z13,Z14,qA,qB]at hr);cbv)|exact trivial|rfl|refine Both.mk ?_ ?_|(refine Imp.mk fun h=> ?_;(try dsimp only at h);(try simp only[nc,Int.toNat_natCast,ne_eq,zz]at h);(try simp only[nc]at h))|refine Ob.mk ?_ ?_|refine Chk.mk (by kernel_rfl) ?_|refine Eq'.mk ?_|(refine AllN.mk fun i hi=> ?_;cbv)|(refine AllC.mk fun c hc hcm=> ?_;(try dsimp only at hc);cbv)|(refine AllS.mk fun r hr=> ?_;(try simp only[Dat.ok,Dat.dec,Leaf.ok,Leaf.val,Z0,Z1,Z2,Z3,Z4,Z5,Z6,Z7,Z8,Z9,Z10,Z11,Z12,Z13,Z14,qA]at hr);cbv)
    all_goals exact(List.length_set ..).symm
   ·cbv
    repeat' first|(refine Stp.mk ?_;cbv)|(refine Gen.mk fun r hr=> ?_;(try simp only[Dat.ok,Dat.dec,Leaf.ok,Leaf.val,Z0,Z1,Z2,Z3,Z4,Z5,Z6,Z7,Z8,Z9,Z10,Z11,Z12,Z13,Z14,qA,qB]at hr);cbv)|exact trivial|rfl|refine Both.mk ?_ ?_|(refine Imp.mk fun h=> ?_;(try dsimp only at h);(try simp only[nc,Int.toNat_natCast,ne_eq,zz]at h);(try simp only[nc]at h))|refine Ob.mk ?_ ?_|refine Chk.mk (by kernel_rfl) ?_|refine Eq'.mk ?_|(refine AllN.mk fun i hi=> ?_;cbv)|(refine AllC.mk fun c hc hcm=> ?_;(try dsimp only at hc);cbv)|(refine AllS.mk fun r hr=> ?_;(try simp only[Dat.ok,Dat.dec,Leaf.ok,Leaf.val,Z0,Z1,Z2,Z3,Z4,Z5,Z6,Z7,Z8,Z9,Z10,Z11,Z12,Z13,Z14,qA]at hr);cbv)
    all_goals first
     |exact(List.length_set ..).symm
     |exact(qGt (by assumption)).symm
     |fail)
  all_goals try (
   have c0:m.wires.length≤k:=by omega
   refine fin1 _ _ _ _ ?_
   rw[eR hm hb,he,qMf (by rw[hh,List.drop_eq_nil_of_le c0];rfl)]
   done)
  all_goals fail
end Go.Proofs.YtiaiifcgbjlfoaaGreatDoor

namespace Go.Proofs.YtiaiifcgbjlfoaaGreatDoor
open Go Go.Abs
def qPy (r:Th ((List Bool)×Int)):AV:= .tup [Leaf.av fun _=>(r ()).1,.i .i64 fun _=>(r ()).2]
def qUj (m:Module) (i:Int):Prop:=qCH m
def qK2:Det:=fun A=>match A with
 |[.agg m,.i .i64 i]=>some (fun _=>Dat.ok Module m∧qUj (Dat.dec m) (i ()),qPy fun _=>qBM (Dat.dec m) (i ()))
 |_=>none
theorem qRo (m:Module) (i:Int) (hp:qCH m):qO Tryz.prog 5 [.agg (Dat.enc fun _=>m),.i .i64 fun _=>i] [] (qAf (qPy fun _=>qBM m i) []):=by
 refine qO.froz (qRn m i hp _ rfl) rfl (q:=_) (d:=_) rfl (by intro p hp;repeat (first|(cases hp;done)|(rcases List.mem_cons.1 hp with rfl|hp;· exact Nat.le_refl _))) rfl ?_
 cbv
 repeat' first|(refine Stp.mk ?_;cbv)|(refine Gen.mk fun r hr=> ?_;(try simp only[Dat.ok,Dat.dec,Leaf.ok,Leaf.val,Z0,Z1,Z2,Z3,Z4,Z5,Z6,Z7,Z8,Z9,Z10,Z11,Z12,Z13,Z14,qA,qB]at hr);cbv)|exact trivial|rfl|refine Both.mk ?_ ?_|(refine Imp.mk fun h=> ?_;(try dsimp only at h);(try simp only[nc,Int.toNat_natCast,ne_eq,zz]at h);(try simp only[nc]at h))|refine Ob.mk ?_ ?_|refine Chk.mk (by kernel_rfl) ?_|refine Eq'.mk ?_|(refine AllN.mk fun i hi=> ?_;cbv)|(refine AllC.mk fun c hc hcm=> ?_;(try dsimp only at hc);cbv)|(refine AllS.mk fun r hr=> ?_;(try simp only[Dat.ok,Dat.dec,Leaf.ok,Leaf.val,Z0,Z1,Z2,Z3,Z4,Z5,Z6,Z7,Z8,Z9,Z10,Z11,Z12,Z13,Z14,qA]at hr);cbv)
 all_goals fail
theorem qRp:qBf Tryz.prog 5 (qM qK2):=qS fun A p r h hp0=>by
 unfold qK2 at h
 split at h
 ·rename_i m i
  cases h
  obtain⟨g0,hp⟩:=hp0
  exact⟨rfl,qO.pre (A':=[.agg (Dat.enc fun _=>(Dat.dec m:Module)),.i .i64 fun _=>i ()]) (qRo (Dat.dec m) (i ()) hp) (.mk (Dat.hle _ g0) (.mk (.mk (.mk rfl) (.mk rfl)) (trivial)))⟩
 ·cases h
end Go.Proofs.YtiaiifcgbjlfoaaGreatDoor
