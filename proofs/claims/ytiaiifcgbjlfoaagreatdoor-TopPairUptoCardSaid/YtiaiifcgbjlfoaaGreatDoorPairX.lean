/- pair.Play: walked. -/
import Derived.Test.YtiaiifcgbjlfoaaGreatDoorPairW
import Derived.Test.YtiaiifcgbjlfoaaGreatDoorPreL
set_option linter.all false
namespace Go.Proofs.YtiaiifcgbjlfoaaGreatDoor
open Go Go.Abs
inductive ActC (A:List AV) (H:Hp) (K:Kont):Prop where
 |mk (code:List Ins) (n:Int) (c:Nat) (p:Pair) (a:PairAct) (hc:checkP code=0) (hP:PrOk code n c p) (hn:n≤4) (hcc:c<100) (h1:H.length=4) (h2:leL 4 A [.ptr 0 0,.agg [.i .i64 fun _=>a.kind,.i .i64 fun _=>a.who,.i .i64 fun _=>a.n]])
  (h3:leH H (prO code fun _=>p)) (h4:∀R,actA code p a=R→K (.i .i64 fun _=>R.2) (prO code fun _=>R.1) [1,2,3])
noncomputable def actC_K:Con:=subCon ActC
theorem actC_ok {A:List AV}{H:Hp}{K:Kont}(hv:actC_K A H K):FnOk Tryz.prog 48 A H K:=
 subCon_ok (fun{A H K} hv=>by
  obtain⟨code,n,c,p,a,hc,hP,hn,hcc,h1,h2,h3,h4⟩:=hv
  exact preL (FnOk.le (act_vc code n c p a hc hP hn hcc _ rfl) rfl (h4 _ rfl)) h1 h2 h3) hv
noncomputable def cPl:FuncId→Con:=fun f=>match f with
 |30=>pureCon (detPC checkC_D)
 |48=>actC_K
 |47=>pureCon freshP_C
 |_=>fun _ _ _=>Bad 1001
theorem cPl_ok:ConOk Tryz.prog cPl:=fun f A H K h=>by
 unfold cPl at h
 split at h
 ·exact⟨⟨Tryz.f30,Tryz.func30,by kernel_rfl,by kernel_rfl⟩,pureCon_ok checkC_ok h⟩
 ·exact⟨⟨Tryz.f48,Tryz.func48,by kernel_rfl,by kernel_rfl⟩,actC_ok h⟩
 ·exact⟨⟨Tryz.f47,Tryz.func47,by kernel_rfl,by kernel_rfl⟩,pureCon_ok freshP_ok h⟩
 ·cases h
def dPl:FuncId→Option Dt:=fun f=>match f with
 |_=>none
theorem dPl_ok:DetOk Tryz.prog dPl:=fun f d h=>by
 unfold dPl at h
 split at h
 ·cases h
structure P1X (n:Int) where
 k:Nat
 hk:(k:Int)≤n
structure P2X (code:List Ins) (n:Int) (l:List PairAct) where
 k:Nat
 hk:k≤l.length
 p:Pair
 out:List Int
 hP:PrOk code n k p
 ho:out.length=k
 h1:runA code (p0 n) l=runA code p (l.drop k)
 h2:ansA code (p0 n) l=out++ansA code p (l.drop k)
def prR (p:Th Pair):AV:= .agg [.own 0 fun _=>(p ()).log.length,.i .i64 fun _=>(p ()).fence.epoch,.i .i64 fun _=>(p ()).fence.owner,.own 1 fun _=>(p ()).nodes.length,.own 2 fun _=>(p ()).saved.length,.i .i64 fun _=>(p ()).gate.fence.epoch,.i .i64 fun _=>(p ()).gate.fence.owner,
 .sl 1 (fun _=>(p ()).gate.out.length) fun j=>Dat.enc fun _=>(p ()).gate.out.getD (j ()) Dat.d0]
def prH (p:Th Pair) (out:Th (List Int)):Hp:=[vecO 3 fun _=>(p ()).log,ndO (fun _=>(p ()).nodes.length) fun _=>(p ()).nodes,vecO 138 fun _=>(p ()).saved,vecO 30 out]
def prT (R:Pair×List Int×Int):AV:= .tup [prR fun _=>R.1,.own 3 fun _=>R.2.1.length,.i .i64 fun _=>R.2.2]
def bxA (a b c:Nat) (code:List Ins) (p:Th Pair):List AV:=[.own a fun _=>(p ()).log.length,.i .i64 fun _=>(p ()).fence.epoch,.i .i64 fun _=>(p ()).fence.owner,.own b fun _=>(p ()).nodes.length,.own c fun _=>(p ()).saved.length,.i .i64 fun _=>(p ()).gate.fence.epoch,.i .i64 fun _=>(p ()).gate.fence.owner,
 .sl 1 (fun _=>(p ()).gate.out.length) fun j=>Dat.enc fun _=>(p ()).gate.out.getD (j ()) Dat.d0,.sl 3 (fun _=>code.length) fun j=>Dat.enc fun _=>code.getD (j ()) Dat.d0]
theorem p0_get {n:Int}{i:Nat}(h:i<n.toNat):(p0 n).nodes.getD i Dat.d0=nd0:=by
 show(List.replicate n.toNat nd0).getD i Dat.d0=nd0
 rw[List.getD_eq_getElem?_getD,List.getElem?_replicate,if_pos h];rfl
def ndC (n:Th Nat):AObj:= .nst 138 8 n (fun _=>[.c (.i .i64 fun _=>0),.c (.i .i64 fun _=>0),.c (.sl 1 (fun _=>v0.regs.length) fun j=>Dat.enc fun _=>v0.regs.getD (j ()) Dat.d0),.c (.bc false),.c (.bc false),.c (.i .i64 fun _=>0),
 .sl 78 2 (fun _=>0) (fun j=>Dat.enc fun _=>([]:List Emit).getD (j ()) Dat.d0),.c (.i .i64 fun _=>0)]) none
set_option maxRecDepth 100000 in
set_option maxHeartbeats 4000000 in
theorem playo_vc (code:List Ins) (n:Int) (l:List PairAct) (hp:code.length≤9223372036854775807∧l.length≤9223372036854775807) (R:Pair×List Int×Int) (hR:playA code n l=R):
  FnOk Tryz.prog 14 [.sl 3 (fun _=>code.length) fun i=>Dat.enc fun _=>code.getD (i ()) Dat.d0,.i .i64 fun _=>n,.sl 3 (fun _=>l.length) fun i=>Dat.enc fun _=>l.getD (i ()) Dat.d0] [] (outA (prT R) (prH (fun _=>R.1) fun _=>R.2.1)):=by
 have fin0:∀e H kl,R=(zP,[],e)→outA (prT R) (prH (fun _=>R.1) fun _=>R.2.1) (.tup [.agg [.nil,.i .i64 fun _=>0,.i .i64 fun _=>0,.nil,.nil,.i .i64 fun _=>0,.i .i64 fun _=>0,.nil],.nil,.i .i64 fun _=>e]) H kl:=fun e H kl h=>by
  subst h
  cbv
  repeat' first|(refine Stp.mk ?_;cbv)|(refine Gen.mk fun r hr=> ?_;(try simp only[Dat.ok,Dat.dec,Leaf.ok,Leaf.val,Z0,Z1,Z2,Z3,Z4,Z5,Z6,Z7,Z8,Z9,Z10,Z11,Z12,Z13,Z14,Z15,Z16,Z17,Z18,Z19,Z20,Z21,Z22,val_sl,val_nil]at hr);cbv)|exact trivial|rfl|refine Both.mk ?_ ?_|(refine Imp.mk fun h=> ?_;(try dsimp only at h);(try simp only[nc,Int.toNat_natCast,ne_eq,zz]at h);(try simp only[nc]at h))|refine Ob.mk ?_ ?_|refine Chk.mk (by kernel_rfl) ?_|refine Eq'.mk ?_|(refine AllN.mk fun i hi=> ?_;cbv)|(refine AllC.mk fun c hc hcm=> ?_;(try dsimp only at hc);cbv)|(refine AllS.mk fun r hr=> ?_;(try simp only[Dat.ok,Dat.dec,Leaf.ok,Leaf.val,Z0,Z1,Z2,Z3,Z4,Z5,Z6,Z7,Z8,Z9,Z10,Z11,Z12,Z13,Z14,Z15,Z16,Z17,Z18,Z19,Z20,Z21,Z22,val_sl]at hr);cbv)
  all_goals first|exact absurd hi (Nat.not_lt_zero _)|fail
 generalize hK:outA (prT R) (prH (fun _=>R.1) fun _=>R.2.1)=K at fin0 ⊢
 refine fn_ok envOk zl cPl_ok (mixD_ok envOk zl cPl_ok dPl_ok mixed) (keep:=[0,1,2,6,7,8,9,10,11,13,17,25,29,33,34,35,45,46,47,48]) Tryz.func14 rfl ?_
 cbv
 repeat' first|(show Stp _;exfalso;first|omega|(exact h ‹_›)|(exact absurd ‹_› h)|(exact Bool.false_ne_true (h.symm.trans (show _=true by assumption))))|(refine Stp.mk ?_;cbv)|(refine Gen.mk fun r hr=> ?_;(try simp only[Dat.ok,Dat.dec,Leaf.ok,Leaf.val,Z0,Z1,Z2,Z3,Z4,Z5,Z6,Z7,Z8,Z9,Z10,Z11,Z12,Z13,Z14,Z15,Z16,Z17,Z18,Z19,Z20,Z21,Z22,val_sl,val_nil]at hr);cbv)|exact trivial|rfl|refine Both.mk ?_ ?_|(refine Imp.mk fun h=> ?_;(try dsimp only at h);(try simp only[nc,Int.toNat_natCast,ne_eq,zz]at h);(try simp only[nc]at h))|refine Ob.mk ?_ ?_|refine Chk.mk (by kernel_rfl) ?_|refine Eq'.mk ?_|(refine AllN.mk fun i hi=> ?_;cbv)|(refine AllC.mk fun c hc hcm=> ?_;(try dsimp only at hc);cbv)|(refine AllS.mk fun r hr=> ?_;(try simp only[Dat.ok,Dat.dec,Leaf.ok,Leaf.val,Z0,Z1,Z2,Z3,Z4,Z5,Z6,Z7,Z8,Z9,Z10,Z11,Z12,Z13,Z14,Z15,Z16,Z17,Z18,Z19,Z20,Z21,Z22,val_sl]at hr);cbv)
 all_goals ((try dsimp only at*);(try simp only[nc,Int.toNat_natCast,ne_eq,zz]at*);(try simp only[nc]at*))
 all_goals try simp only[Dat.dec,Leaf.val,Z0,Z1,Z2,Z3,Z4,Z5,Z6,Z7,Z8,Z9,Z10,Z11,Z12,Z13,Z14,Z15,Z16,Z17,Z18,Z19,Z20,Z21,Z22,val_sl]at*
 all_goals try first
  |exact⟨⟨rfl,fun i _=>Dat.hok _⟩,hp.1⟩
  |(refine fin0 _ _ _ ?_
    rw[←hR,playA,if_pos (by assumption)]
    done)
  |(refine fin0 _ _ _ ?_
    rw[←hR,playA,if_neg (fun q=>q (by assumption)),if_pos (by omega)]
    done)
  |(refine fin0 _ _ _ ?_
    rw[←hR,playA,if_neg (fun q=>q (by assumption)),if_neg (by omega),if_pos (by omega)]
    done)
 have hc:checkP code=0:=by assumption
 have n0:1≤n:=by assumption
 have n1:n≤4:=by assumption
 have hl:l.length≤100:=by omega
 have eR:R=(runA code (p0 n) l,ansA code (p0 n) l,0):=by rw[←hR,playA,if_neg (fun q=>q hc),if_neg (by omega),if_neg (by omega)]
 refine .now (LoopI.frameC [34,35] (P1X n) (fun x=>[(34,.i .i64 fun _=>x.k)]) (fun x=>[(1,.blk [.nil,.i .i64 fun _=>0,.i .i64 fun _=>0,.own 2 fun _=>x.k,.nil,.i .i64 fun _=>0,.i .i64 fun _=>0,.nil,.sl 3 (fun _=>code.length) fun j=>Dat.enc fun _=>code.getD (j ()) Dat.d0]),
  (2,ndC fun _=>x.k)]) [2,3,4,5,6] (fun x=>(n-x.k).toNat) ⟨0,by omega⟩ rfl (fun _=>rfl) ?_ ?_ fun⟨k,hk⟩=> ?_)
 ·cbv
  repeat' first|(refine Stp.mk ?_;cbv)|(refine Gen.mk fun r hr=> ?_;(try simp only[Dat.ok,Dat.dec,Leaf.ok,Leaf.val,Z0,Z1,Z2,Z3,Z4,Z5,Z6,Z7,Z8,Z9,Z10,Z11,Z12,Z13,Z14,Z15,Z16,Z17,Z18,Z19,Z20,Z21,Z22,val_sl,val_nil]at hr);cbv)|exact trivial|rfl|refine Both.mk ?_ ?_|(refine Imp.mk fun h=> ?_;(try dsimp only at h);(try simp only[nc,Int.toNat_natCast,ne_eq,zz]at h);(try simp only[nc]at h))|refine Ob.mk ?_ ?_|refine Chk.mk (by kernel_rfl) ?_|refine Eq'.mk ?_|(refine AllN.mk fun i hi=> ?_;cbv)|(refine AllC.mk fun c hc hcm=> ?_;(try dsimp only at hc);cbv)|(refine AllS.mk fun r hr=> ?_;(try simp only[Dat.ok,Dat.dec,Leaf.ok,Leaf.val,Z0,Z1,Z2,Z3,Z4,Z5,Z6,Z7,Z8,Z9,Z10,Z11,Z12,Z13,Z14,Z15,Z16,Z17,Z18,Z19,Z20,Z21,Z22,val_sl]at hr);cbv)
  all_goals fail
 ·cbv
  repeat' first|(refine Stp.mk ?_;cbv)|(refine Gen.mk fun r hr=> ?_;(try simp only[Dat.ok,Dat.dec,Leaf.ok,Leaf.val,Z0,Z1,Z2,Z3,Z4,Z5,Z6,Z7,Z8,Z9,Z10,Z11,Z12,Z13,Z14,Z15,Z16,Z17,Z18,Z19,Z20,Z21,Z22,val_sl,val_nil]at hr);cbv)|exact trivial|rfl|refine Both.mk ?_ ?_|(refine Imp.mk fun h=> ?_;(try dsimp only at h);(try simp only[nc,Int.toNat_natCast,ne_eq,zz]at h);(try simp only[nc]at h))|refine Ob.mk ?_ ?_|refine Chk.mk (by kernel_rfl) ?_|refine Eq'.mk ?_|(refine AllN.mk fun i hi=> ?_;cbv)|(refine AllC.mk fun c hc hcm=> ?_;(try dsimp only at hc);cbv)|(refine AllS.mk fun r hr=> ?_;(try simp only[Dat.ok,Dat.dec,Leaf.ok,Leaf.val,Z0,Z1,Z2,Z3,Z4,Z5,Z6,Z7,Z8,Z9,Z10,Z11,Z12,Z13,Z14,Z15,Z16,Z17,Z18,Z19,Z20,Z21,Z22,val_sl]at hr);cbv)
  all_goals fail
 cbv
 repeat' first|(refine Stp.mk ?_;cbv)|(refine Gen.mk fun r hr=> ?_;(try simp only[Dat.ok,Dat.dec,Leaf.ok,Leaf.val,Z0,Z1,Z2,Z3,Z4,Z5,Z6,Z7,Z8,Z9,Z10,Z11,Z12,Z13,Z14,Z15,Z16,Z17,Z18,Z19,Z20,Z21,Z22,val_sl,val_nil]at hr);cbv)|exact trivial|rfl|refine Both.mk ?_ ?_|(refine Imp.mk fun h=> ?_;(try dsimp only at h);(try simp only[nc,Int.toNat_natCast,ne_eq,zz]at h);(try simp only[nc]at h))|refine Ob.mk ?_ ?_|refine Chk.mk (by kernel_rfl) ?_|refine Eq'.mk ?_|(refine AllN.mk fun i hi=> ?_;cbv)|(refine AllC.mk fun c hc hcm=> ?_;(try dsimp only at hc);cbv)|(refine AllS.mk fun r hr=> ?_;(try simp only[Dat.ok,Dat.dec,Leaf.ok,Leaf.val,Z0,Z1,Z2,Z3,Z4,Z5,Z6,Z7,Z8,Z9,Z10,Z11,Z12,Z13,Z14,Z15,Z16,Z17,Z18,Z19,Z20,Z21,Z22,val_sl]at hr);cbv)
 all_goals try dsimp only
 all_goals try rw[nc]at*
 all_goals try first
  |exact⟨rfl,rfl,by omega,by omega⟩
  |(unfold InR;omega)
  |(have h9:(k:Int)<n:=h
    refine⟨⟨k+1,by omega⟩, ?_, ?_,rfl,by show(n-((k+1:Nat):Int)).toNat<(n-(k:Int)).toNat;omega⟩
    ·cbv
     repeat' first|(refine Stp.mk ?_;cbv)|(refine Gen.mk fun r hr=> ?_;(try simp only[Dat.ok,Dat.dec,Leaf.ok,Leaf.val,Z0,Z1,Z2,Z3,Z4,Z5,Z6,Z7,Z8,Z9,Z10,Z11,Z12,Z13,Z14,Z15,Z16,Z17,Z18,Z19,Z20,Z21,Z22,val_sl,val_nil]at hr);cbv)|exact trivial|rfl|refine Both.mk ?_ ?_|(refine Imp.mk fun h=> ?_;(try dsimp only at h);(try simp only[nc,Int.toNat_natCast,ne_eq,zz]at h);(try simp only[nc]at h))|refine Ob.mk ?_ ?_|refine Chk.mk (by kernel_rfl) ?_|refine Eq'.mk ?_|(refine AllN.mk fun i hi=> ?_;cbv)|(refine AllC.mk fun c hc hcm=> ?_;(try dsimp only at hc);cbv)|(refine AllS.mk fun r hr=> ?_;(try simp only[Dat.ok,Dat.dec,Leaf.ok,Leaf.val,Z0,Z1,Z2,Z3,Z4,Z5,Z6,Z7,Z8,Z9,Z10,Z11,Z12,Z13,Z14,Z15,Z16,Z17,Z18,Z19,Z20,Z21,Z22,val_sl]at hr);cbv)
    ·cbv
     repeat' first|(refine Stp.mk ?_;cbv)|(refine Gen.mk fun r hr=> ?_;(try simp only[Dat.ok,Dat.dec,Leaf.ok,Leaf.val,Z0,Z1,Z2,Z3,Z4,Z5,Z6,Z7,Z8,Z9,Z10,Z11,Z12,Z13,Z14,Z15,Z16,Z17,Z18,Z19,Z20,Z21,Z22,val_sl,val_nil]at hr);cbv)|exact trivial|rfl|refine Both.mk ?_ ?_|(refine Imp.mk fun h=> ?_;(try dsimp only at h);(try simp only[nc,Int.toNat_natCast,ne_eq,zz]at h);(try simp only[nc]at h))|refine Ob.mk ?_ ?_|refine Chk.mk (by kernel_rfl) ?_|refine Eq'.mk ?_|(refine AllN.mk fun i hi=> ?_;cbv)|(refine AllC.mk fun c hc hcm=> ?_;(try dsimp only at hc);cbv)|(refine AllS.mk fun r hr=> ?_;(try simp only[Dat.ok,Dat.dec,Leaf.ok,Leaf.val,Z0,Z1,Z2,Z3,Z4,Z5,Z6,Z7,Z8,Z9,Z10,Z11,Z12,Z13,Z14,Z15,Z16,Z17,Z18,Z19,Z20,Z21,Z22,val_sl]at hr);cbv)
     all_goals exact Bool.cond_self _ _)
 have hkn:(k:Int)=n:=by
  have h9:n≤(k:Int):=h
  have h8:(k:Int)≤n:=hk
  omega
 have hkt:k=n.toNat:=by omega
 have hpl:(p0 n).nodes.length=n.toNat:=List.length_replicate ..
 refine .now (LoopI.frameC [11,13,47,48] (P2X code n l) (fun x=>[(47,.i .i64 fun _=>x.k),(11,.own 5 fun _=>x.out.length)]) (fun x=>[(1,.blk (bxA 3 2 4 code fun _=>x.p)),(2,ndO (fun _=>x.p.nodes.length) fun _=>x.p.nodes),(3,vecO 3 fun _=>x.p.log),(4,vecO 138 fun _=>x.p.saved),(5,vecO 30 fun _=>x.out)])
  [2,3,4,5,6,7,8,9,10,11,12] (fun x=>l.length-x.k) ⟨0,Nat.zero_le _,p0 n,[],p0_ok n0,rfl,rfl,rfl⟩ rfl (fun _=>rfl) ?_ ?_ fun⟨k,hk,p,out,hP,ho,h1,h2⟩=> ?_)
 ·cbv
  repeat' first|(refine Stp.mk ?_;cbv)|(refine Gen.mk fun r hr=> ?_;(try simp only[Dat.ok,Dat.dec,Leaf.ok,Leaf.val,Z0,Z1,Z2,Z3,Z4,Z5,Z6,Z7,Z8,Z9,Z10,Z11,Z12,Z13,Z14,Z15,Z16,Z17,Z18,Z19,Z20,Z21,Z22,val_sl,val_nil]at hr);cbv)|exact trivial|rfl|refine Both.mk ?_ ?_|(refine Imp.mk fun h=> ?_;(try dsimp only at h);(try simp only[nc,Int.toNat_natCast,ne_eq,zz]at h);(try simp only[nc]at h))|refine Ob.mk ?_ ?_|refine Chk.mk (by kernel_rfl) ?_|refine Eq'.mk ?_|(refine AllN.mk fun i hi=> ?_;cbv)|(refine AllC.mk fun c hc hcm=> ?_;(try dsimp only at hc);cbv)|(refine AllS.mk fun r hr=> ?_;(try simp only[Dat.ok,Dat.dec,Leaf.ok,Leaf.val,Z0,Z1,Z2,Z3,Z4,Z5,Z6,Z7,Z8,Z9,Z10,Z11,Z12,Z13,Z14,Z15,Z16,Z17,Z18,Z19,Z20,Z21,Z22,val_sl]at hr);cbv)
  all_goals fail
 ·cbv
  repeat' first|(refine Stp.mk ?_;cbv)|(refine Gen.mk fun r hr=> ?_;(try simp only[Dat.ok,Dat.dec,Leaf.ok,Leaf.val,Z0,Z1,Z2,Z3,Z4,Z5,Z6,Z7,Z8,Z9,Z10,Z11,Z12,Z13,Z14,Z15,Z16,Z17,Z18,Z19,Z20,Z21,Z22,val_sl,val_nil]at hr);cbv)|exact trivial|rfl|refine Both.mk ?_ ?_|(refine Imp.mk fun h=> ?_;(try dsimp only at h);(try simp only[nc,Int.toNat_natCast,ne_eq,zz]at h);(try simp only[nc]at h))|refine Ob.mk ?_ ?_|refine Chk.mk (by kernel_rfl) ?_|refine Eq'.mk ?_|(refine AllN.mk fun i hi=> ?_;cbv)|(refine AllC.mk fun c hc hcm=> ?_;(try dsimp only at hc);cbv)|(refine AllS.mk fun r hr=> ?_;(try simp only[Dat.ok,Dat.dec,Leaf.ok,Leaf.val,Z0,Z1,Z2,Z3,Z4,Z5,Z6,Z7,Z8,Z9,Z10,Z11,Z12,Z13,Z14,Z15,Z16,Z17,Z18,Z19,Z20,Z21,Z22,val_sl]at hr);cbv)
  all_goals dsimp only
  all_goals first
   |(rw[hpl];exact hkt)
   |(rw[p0_get]<;>first|rfl|omega)
   |exact absurd hi (Nat.not_lt_zero _)
   |fail
 have hk9:k≤l.length:=hk
 have g1:(k:Int)<l.length→0≤(k:Int)∧(k:Int)<l.length:=fun h=>⟨by omega,h⟩
 have g2:(k:Int)<l.length→k<100:=fun h=>by omega
 have g3:∀R2,actA code p (l.getD k Dat.d0)=R2→(k:Int)<l.length→PrOk code n (k+1) R2.1∧runA code (p0 n) l=runA code R2.1 (l.drop (k+1))∧ansA code (p0 n) l=(out++[R2.2])++ansA code R2.1 (l.drop (k+1)):=fun R2 hR2 h=>by
  have h8:k<l.length:=by omega
  have hP2:=(hP.act (a:=l.getD k Dat.d0) hc n1 (by omega)).1
  rw[hR2]at hP2
  refine⟨hP2, ?_, ?_⟩
  ·rw[h1,List.drop_eq_getElem_cons h8,runA,←hR2,List.getD_eq_getElem?_getD,List.getElem?_eq_getElem h8];rfl
  ·rw[h2,List.drop_eq_getElem_cons h8,ansA,←hR2,List.getD_eq_getElem?_getD,List.getElem?_eq_getElem h8,List.append_assoc];rfl
 have g5:(k:Int)<l.length→k+1≤l.length∧l.length-(k+1)<l.length-k:=fun h=>by omega
 have g4:∀x:Int,(out++[x]).length=k+1:=fun x=>by simp[ho]
 cbv
 repeat' first|(refine Stp.mk ?_;cbv)|(refine Gen.mk fun r hr=> ?_;(try simp only[Dat.ok,Dat.dec,Leaf.ok,Leaf.val,Z0,Z1,Z2,Z3,Z4,Z5,Z6,Z7,Z8,Z9,Z10,Z11,Z12,Z13,Z14,Z15,Z16,Z17,Z18,Z19,Z20,Z21,Z22,val_sl,val_nil]at hr);cbv)|exact trivial|rfl|refine Both.mk ?_ ?_|(refine Imp.mk fun h=> ?_;(try dsimp only at h);(try simp only[nc,Int.toNat_natCast,ne_eq,zz]at h);(try simp only[nc]at h))|refine Ob.mk ?_ ?_|refine Chk.mk (by kernel_rfl) ?_|refine Eq'.mk ?_|(refine AllN.mk fun i hi=> ?_;cbv)|(refine AllC.mk fun c hc hcm=> ?_;(try dsimp only at hc);cbv)|(refine AllS.mk fun r hr=> ?_;(try simp only[Dat.ok,Dat.dec,Leaf.ok,Leaf.val,Z0,Z1,Z2,Z3,Z4,Z5,Z6,Z7,Z8,Z9,Z10,Z11,Z12,Z13,Z14,Z15,Z16,Z17,Z18,Z19,Z20,Z21,Z22,val_sl]at hr);cbv)
 ·exact g1 h
 ·refine ActC.mk code n k p (l.getD k Dat.d0) hc hP n1 (g2 h) rfl ?_ ?_ fun R2 hR2=> ?_
  ·cbv
   repeat' first|(refine Stp.mk ?_;cbv)|(refine Gen.mk fun r hr=> ?_;(try simp only[Dat.ok,Dat.dec,Leaf.ok,Leaf.val,Z0,Z1,Z2,Z3,Z4,Z5,Z6,Z7,Z8,Z9,Z10,Z11,Z12,Z13,Z14,Z15,Z16,Z17,Z18,Z19,Z20,Z21,Z22,val_sl,val_nil]at hr);cbv)|exact trivial|rfl|refine Both.mk ?_ ?_|(refine Imp.mk fun h=> ?_;(try dsimp only at h);(try simp only[nc,Int.toNat_natCast,ne_eq,zz]at h);(try simp only[nc]at h))|refine Ob.mk ?_ ?_|refine Chk.mk (by kernel_rfl) ?_|refine Eq'.mk ?_|(refine AllN.mk fun i hi=> ?_;cbv)|(refine AllC.mk fun c hc hcm=> ?_;(try dsimp only at hc);cbv)|(refine AllS.mk fun r hr=> ?_;(try simp only[Dat.ok,Dat.dec,Leaf.ok,Leaf.val,Z0,Z1,Z2,Z3,Z4,Z5,Z6,Z7,Z8,Z9,Z10,Z11,Z12,Z13,Z14,Z15,Z16,Z17,Z18,Z19,Z20,Z21,Z22,val_sl]at hr);cbv)
   all_goals fail
  ·cbv
   repeat' first|(refine Stp.mk ?_;cbv)|(refine Gen.mk fun r hr=> ?_;(try simp only[Dat.ok,Dat.dec,Leaf.ok,Leaf.val,Z0,Z1,Z2,Z3,Z4,Z5,Z6,Z7,Z8,Z9,Z10,Z11,Z12,Z13,Z14,Z15,Z16,Z17,Z18,Z19,Z20,Z21,Z22,val_sl,val_nil]at hr);cbv)|exact trivial|rfl|refine Both.mk ?_ ?_|(refine Imp.mk fun h=> ?_;(try dsimp only at h);(try simp only[nc,Int.toNat_natCast,ne_eq,zz]at h);(try simp only[nc]at h))|refine Ob.mk ?_ ?_|refine Chk.mk (by kernel_rfl) ?_|refine Eq'.mk ?_|(refine AllN.mk fun i hi=> ?_;cbv)|(refine AllC.mk fun c hc hcm=> ?_;(try dsimp only at hc);cbv)|(refine AllS.mk fun r hr=> ?_;(try simp only[Dat.ok,Dat.dec,Leaf.ok,Leaf.val,Z0,Z1,Z2,Z3,Z4,Z5,Z6,Z7,Z8,Z9,Z10,Z11,Z12,Z13,Z14,Z15,Z16,Z17,Z18,Z19,Z20,Z21,Z22,val_sl]at hr);cbv)
   all_goals fail
  ·cbv
   repeat' first|(refine Stp.mk ?_;cbv)|(refine Gen.mk fun r hr=> ?_;(try simp only[Dat.ok,Dat.dec,Leaf.ok,Leaf.val,Z0,Z1,Z2,Z3,Z4,Z5,Z6,Z7,Z8,Z9,Z10,Z11,Z12,Z13,Z14,Z15,Z16,Z17,Z18,Z19,Z20,Z21,Z22,val_sl,val_nil]at hr);cbv)|exact trivial|rfl|refine Both.mk ?_ ?_|(refine Imp.mk fun h=> ?_;(try dsimp only at h);(try simp only[nc,Int.toNat_natCast,ne_eq,zz]at h);(try simp only[nc]at h))|refine Ob.mk ?_ ?_|refine Chk.mk (by kernel_rfl) ?_|refine Eq'.mk ?_|(refine AllN.mk fun i hi=> ?_;cbv)|(refine AllC.mk fun c hc hcm=> ?_;(try dsimp only at hc);cbv)|(refine AllS.mk fun r hr=> ?_;(try simp only[Dat.ok,Dat.dec,Leaf.ok,Leaf.val,Z0,Z1,Z2,Z3,Z4,Z5,Z6,Z7,Z8,Z9,Z10,Z11,Z12,Z13,Z14,Z15,Z16,Z17,Z18,Z19,Z20,Z21,Z22,val_sl]at hr);cbv)
   all_goals first
    |(show InR ((k:Int)+1);unfold InR;omega)
    |(obtain⟨hP2,st1,st2⟩:=g3 R2 hR2 h
      refine⟨⟨k+1,(g5 h).1,R2.1,out++[R2.2],hP2,g4 _,st1,st2⟩, ?_, ?_,rfl,(g5 h).2⟩
      ·cbv
       repeat' first|(refine Stp.mk ?_;cbv)|(refine Gen.mk fun r hr=> ?_;(try simp only[Dat.ok,Dat.dec,Leaf.ok,Leaf.val,Z0,Z1,Z2,Z3,Z4,Z5,Z6,Z7,Z8,Z9,Z10,Z11,Z12,Z13,Z14,Z15,Z16,Z17,Z18,Z19,Z20,Z21,Z22,val_sl,val_nil]at hr);cbv)|exact trivial|rfl|refine Both.mk ?_ ?_|(refine Imp.mk fun h=> ?_;(try dsimp only at h);(try simp only[nc,Int.toNat_natCast,ne_eq,zz]at h);(try simp only[nc]at h))|refine Ob.mk ?_ ?_|refine Chk.mk (by kernel_rfl) ?_|refine Eq'.mk ?_|(refine AllN.mk fun i hi=> ?_;cbv)|(refine AllC.mk fun c hc hcm=> ?_;(try dsimp only at hc);cbv)|(refine AllS.mk fun r hr=> ?_;(try simp only[Dat.ok,Dat.dec,Leaf.ok,Leaf.val,Z0,Z1,Z2,Z3,Z4,Z5,Z6,Z7,Z8,Z9,Z10,Z11,Z12,Z13,Z14,Z15,Z16,Z17,Z18,Z19,Z20,Z21,Z22,val_sl]at hr);cbv)
       all_goals first
        |(simp;done)
        |fail
      ·cbv
       repeat' first|(refine Stp.mk ?_;cbv)|(refine Gen.mk fun r hr=> ?_;(try simp only[Dat.ok,Dat.dec,Leaf.ok,Leaf.val,Z0,Z1,Z2,Z3,Z4,Z5,Z6,Z7,Z8,Z9,Z10,Z11,Z12,Z13,Z14,Z15,Z16,Z17,Z18,Z19,Z20,Z21,Z22,val_sl,val_nil]at hr);cbv)|exact trivial|rfl|refine Both.mk ?_ ?_|(refine Imp.mk fun h=> ?_;(try dsimp only at h);(try simp only[nc,Int.toNat_natCast,ne_eq,zz]at h);(try simp only[nc]at h))|refine Ob.mk ?_ ?_|refine Chk.mk (by kernel_rfl) ?_|refine Eq'.mk ?_|(refine AllN.mk fun i hi=> ?_;cbv)|(refine AllC.mk fun c hc hcm=> ?_;(try dsimp only at hc);cbv)|(refine AllS.mk fun r hr=> ?_;(try simp only[Dat.ok,Dat.dec,Leaf.ok,Leaf.val,Z0,Z1,Z2,Z3,Z4,Z5,Z6,Z7,Z8,Z9,Z10,Z11,Z12,Z13,Z14,Z15,Z16,Z17,Z18,Z19,Z20,Z21,Z22,val_sl]at hr);cbv)
       all_goals dsimp only
       all_goals first
        |(simp;done)
        |(rw[gd_snoc _ _ _ _ hi];done)
        |fail)
    |(dsimp only;exact⟨Nat.le_refl _,Nat.le_refl _,by omega,by omega,Nat.le_refl _⟩)
    |fail
 ·have h9:(l.length:Int)≤k:=h
  have e1:l.drop k=[]:=List.drop_eq_nil_of_le (by omega)
  have eR2:R=(p,out,0):=by
   rw[eR,h1,h2,e1,runA,ansA,List.append_nil]
  subst eR2
  subst hK
  cbv
  repeat' first|(refine Stp.mk ?_;cbv)|(refine Gen.mk fun r hr=> ?_;(try simp only[Dat.ok,Dat.dec,Leaf.ok,Leaf.val,Z0,Z1,Z2,Z3,Z4,Z5,Z6,Z7,Z8,Z9,Z10,Z11,Z12,Z13,Z14,Z15,Z16,Z17,Z18,Z19,Z20,Z21,Z22,val_sl,val_nil]at hr);cbv)|exact trivial|rfl|refine Both.mk ?_ ?_|(refine Imp.mk fun h=> ?_;(try dsimp only at h);(try simp only[nc,Int.toNat_natCast,ne_eq,zz]at h);(try simp only[nc]at h))|refine Ob.mk ?_ ?_|refine Chk.mk (by kernel_rfl) ?_|refine Eq'.mk ?_|(refine AllN.mk fun i hi=> ?_;cbv)|(refine AllC.mk fun c hc hcm=> ?_;(try dsimp only at hc);cbv)|(refine AllS.mk fun r hr=> ?_;(try simp only[Dat.ok,Dat.dec,Leaf.ok,Leaf.val,Z0,Z1,Z2,Z3,Z4,Z5,Z6,Z7,Z8,Z9,Z10,Z11,Z12,Z13,Z14,Z15,Z16,Z17,Z18,Z19,Z20,Z21,Z22,val_sl]at hr);cbv)
  all_goals fail
def playC_R (r:Th (Pair×(List Int)×Int)):AV:= .tup [.agg [Leaf.av fun _=>(r ()).1.log,.i .i64 fun _=>(r ()).1.fence.epoch,.i .i64 fun _=>(r ()).1.fence.owner,Leaf.av fun _=>(r ()).1.nodes,Leaf.av fun _=>(r ()).1.saved,.i .i64 fun _=>(r ()).1.gate.fence.epoch,.i .i64 fun _=>(r ()).1.gate.fence.owner,Leaf.av fun _=>(r ()).1.gate.out],Leaf.av fun _=>(r ()).2.1,.i .i64 fun _=>(r ()).2.2]
def playC_P (code:(List Ins)) (n:Int) (l:(List PairAct)):Prop:=code.length≤9223372036854775807∧l.length≤9223372036854775807
def playC_D:Det:=fun A=>match A with
 |[code,.i .i64 n,l]=>some (fun _=>Leaf.ok (List Ins) code∧Leaf.ok (List PairAct) l∧playC_P (Leaf.val code) (n ()) (Leaf.val l),playC_R fun _=>playA (Leaf.val code) (n ()) (Leaf.val l))
 |_=>none
theorem playC_vc (code:List Ins) (n:Int) (l:List PairAct) (hp:code.length≤9223372036854775807∧l.length≤9223372036854775807):FnOk Tryz.prog 14 [.sl 3 (fun _=>code.length) fun i=>Dat.enc fun _=>code.getD (i ()) Dat.d0,.i .i64 fun _=>n,.sl 3 (fun _=>l.length) fun i=>Dat.enc fun _=>l.getD (i ()) Dat.d0] [] (outA (playC_R fun _=>playA code n l) []):=by
 refine FnOk.froz (playo_vc code n l hp _ rfl) rfl (q:=_) (d:=_) rfl (by intro p hp;repeat (first|(cases hp;done)|(rcases List.mem_cons.1 hp with rfl|hp;· exact Nat.le_refl _))) rfl ?_
 cbv
 repeat' first|(refine Stp.mk ?_;cbv)|(refine Gen.mk fun r hr=> ?_;(try simp only[Dat.ok,Dat.dec,Leaf.ok,Leaf.val,Z0,Z1,Z2,Z3,Z4,Z5,Z6,Z7,Z8,Z9,Z10,Z11,Z12,Z13,Z14,Z15,Z16,Z17,Z18,Z19,Z20,Z21,Z22,val_sl,val_nil]at hr);cbv)|exact trivial|rfl|refine Both.mk ?_ ?_|(refine Imp.mk fun h=> ?_;(try dsimp only at h);(try simp only[nc,Int.toNat_natCast,ne_eq,zz]at h);(try simp only[nc]at h))|refine Ob.mk ?_ ?_|refine Chk.mk (by kernel_rfl) ?_|refine Eq'.mk ?_|(refine AllN.mk fun i hi=> ?_;cbv)|(refine AllC.mk fun c hc hcm=> ?_;(try dsimp only at hc);cbv)|(refine AllS.mk fun r hr=> ?_;(try simp only[Dat.ok,Dat.dec,Leaf.ok,Leaf.val,Z0,Z1,Z2,Z3,Z4,Z5,Z6,Z7,Z8,Z9,Z10,Z11,Z12,Z13,Z14,Z15,Z16,Z17,Z18,Z19,Z20,Z21,Z22,val_sl]at hr);cbv)
 all_goals fail
theorem playC_ok:PcOk Tryz.prog 14 (detPC playC_D):=det_okA fun A p r h hp0=>by
 unfold playC_D at h
 split at h
 ·rename_i code n l
  cases h
  obtain⟨g0,g1,hp⟩:=hp0
  exact⟨rfl,FnOk.pre (A':=[Leaf.av fun _=>(Leaf.val code:(List Ins)),.i .i64 fun _=>n (),Leaf.av fun _=>(Leaf.val l:(List PairAct))]) (playC_vc (Leaf.val code) (n ()) (Leaf.val l) hp) (.mk (Leaf.hle _ g0) (.mk (.mk (.mk rfl) (.mk rfl)) (.mk (Leaf.hle _ g1) (trivial))))⟩
 ·cases h
end Go.Proofs.YtiaiifcgbjlfoaaGreatDoor
