/- pair: an act: its contracts, its objects, what it does. -/
import Derived.Test.YtiaiifcgbjlfoaaGreatDoorPairV
import Derived.Test.YtiaiifcgbjlfoaaGreatDoorPairP
import Derived.Test.YtiaiifcgbjlfoaaGreatDoorAbsG3
import Derived.Test.YtiaiifcgbjlfoaaGreatDoorAbsG4
set_option linter.all false
namespace Go.Proofs.YtiaiifcgbjlfoaaGreatDoor
open Go Go.Abs
def gclaimF_R (r:Th (Gate×Bool×Int)):AV:= .tup [.agg [.i .i64 fun _=>(r ()).1.fence.epoch,.i .i64 fun _=>(r ()).1.fence.owner,Leaf.av fun _=>(r ()).1.out],.b fun _=>(r ()).2.1,.i .i64 fun _=>(r ()).2.2]
def gclaimF_D:Det:=fun A=>match A with
 |[.agg g,.i .i64 who,.i .i64 epoch]=>some (fun _=>Dat.ok Gate g∧gclaim_P (Dat.dec g) (who ()) (epoch ()),gclaimF_R fun _=>claimG (Dat.dec g) (who ()) (epoch ()))
 |_=>none
theorem gclaimF_okF:∀A p r,gclaimF_D A=some (p,r)→p ()→FrOk Tryz.prog 50 A r:=fun A p r h hp0=>by
 unfold gclaimF_D at h
 split at h
 ·rename_i g who epoch
  cases h
  obtain⟨g0,hp⟩:=hp0
  exact FnOk.fresh (A:=[.agg g,.i .i64 who,.i .i64 epoch]) (FnOk.pre (A':=[.agg (Dat.enc fun _=>(Dat.dec g:Gate)),.i .i64 fun _=>who (),.i .i64 fun _=>epoch ()]) (gclaim_vc (Dat.dec g) (who ()) (epoch ()) hp) (.mk (Dat.hle _ g0) (.mk (.mk (.mk rfl) (.mk rfl)) (.mk (.mk (.mk rfl) (.mk rfl)) (trivial))))) rfl (q:=_) (d:=_) rfl (by intro p hp;repeat (first|(cases hp;done)|(rcases List.mem_cons.1 hp with rfl|hp;· exact Nat.le_refl _))) rfl rfl ⟨.mk fun _ _=>rfl,trivial⟩
 ·cases h
def ghandF_R (r:Th (Gate×Bool×Int)):AV:= .tup [.agg [.i .i64 fun _=>(r ()).1.fence.epoch,.i .i64 fun _=>(r ()).1.fence.owner,Leaf.av fun _=>(r ()).1.out],.b fun _=>(r ()).2.1,.i .i64 fun _=>(r ()).2.2]
def ghandF_D:Det:=fun A=>match A with
 |[.agg g,.agg x]=>some (fun _=>Dat.ok Gate g∧Dat.ok Give x∧ghand_P (Dat.dec g) (Dat.dec x),ghandF_R fun _=>handG (Dat.dec g) (Dat.dec x))
 |_=>none
theorem ghandF_okF:∀A p r,ghandF_D A=some (p,r)→p ()→FrOk Tryz.prog 51 A r:=fun A p r h hp0=>by
 unfold ghandF_D at h
 split at h
 ·rename_i g x
  cases h
  obtain⟨g0,g1,hp⟩:=hp0
  exact FnOk.fresh (A:=[.agg g,.agg x]) (FnOk.pre (A':=[.agg (Dat.enc fun _=>(Dat.dec g:Gate)),.agg (Dat.enc fun _=>(Dat.dec x:Give))]) (ghand_vc (Dat.dec g) (Dat.dec x) hp) (.mk (Dat.hle _ g0) (.mk (Dat.hle _ g1) (trivial)))) rfl (q:=_) (d:=_) rfl (by intro p hp;repeat (first|(cases hp;done)|(rcases List.mem_cons.1 hp with rfl|hp;· exact Nat.le_refl _))) rfl rfl ⟨.mk fun _ _=>rfl,trivial⟩
 ·cases h
def runF_R (r:Th (Vm×(List Emit)×Int×Int×Int)):AV:= .tup [.agg [.i .i64 fun _=>(r ()).1.at_,Leaf.av fun _=>(r ()).1.regs,.b fun _=>(r ()).1.halts,.b fun _=>(r ()).1.fault],Leaf.av fun _=>(r ()).2.1,.i .i64 fun _=>(r ()).2.2.1,.i .i64 fun _=>(r ()).2.2.2.1,.i .i64 fun _=>(r ()).2.2.2.2]
def runF_D:Det:=fun A=>match A with
 |[p,.agg v,inp,.i .i64 fuel]=>some (fun _=>Leaf.ok (List Ins) p∧Dat.ok Vm v∧Leaf.ok (List Int) inp∧run_P (Leaf.val p) (Dat.dec v) (Leaf.val inp) (fuel ()),runF_R fun _=>runV (Leaf.val p) (Dat.dec v) (Leaf.val inp) (fuel ()))
 |_=>none
theorem runF_okF:∀A p r,runF_D A=some (p,r)→p ()→FrOk Tryz.prog 10 A r:=fun A p r h hp0=>by
 unfold runF_D at h
 split at h
 ·rename_i p v inp fuel
  cases h
  obtain⟨g0,g1,g2,hp⟩:=hp0
  exact FnOk.fresh (A:=[p,.agg v,inp,.i .i64 fuel]) (FnOk.pre (A':=[Leaf.av fun _=>(Leaf.val p:(List Ins)),.agg (Dat.enc fun _=>(Dat.dec v:Vm)),Leaf.av fun _=>(Leaf.val inp:(List Int)),.i .i64 fun _=>fuel ()]) (run_vc (Leaf.val p) (Dat.dec v) (Leaf.val inp) (fuel ()) hp) (.mk (Leaf.hle _ g0) (.mk (Dat.hle _ g1) (.mk (Leaf.hle _ g2) (.mk (.mk (.mk rfl) (.mk rfl)) (trivial)))))) rfl (q:=_) (d:=_) rfl (by intro p hp;repeat (first|(cases hp;done)|(rcases List.mem_cons.1 hp with rfl|hp;· exact Nat.le_refl _))) rfl rfl ⟨.mk fun _ _=>rfl,.mk fun _ _=>rfl,trivial⟩
 ·cases h
def dNo:FuncId→Option Dt:=fun f=>match f with
 |_=>none
theorem dNo_ok:DetOk Tryz.prog dNo:=fun f d h=>by
 unfold dNo at h
 split at h
 ·cases h
def dClm:FuncId→Option Dt:=fun f=>match f with
 |87=>some (.c cl_D)
 |50=>some (.f gclaimF_D)
 |_=>none
theorem dClm_ok:DetOk Tryz.prog dClm:=fun f d h=>by
 unfold dClm at h
 split at h
 ·cases h;exact⟨⟨Tryz.f87,Tryz.func87,by kernel_rfl,by kernel_rfl⟩,cl_ok⟩
 ·cases h;exact⟨⟨Tryz.f50,Tryz.func50,by kernel_rfl,by kernel_rfl⟩,gclaimF_okF⟩
 ·cases h
def dWrk:FuncId→Option Dt:=fun f=>match f with
 |116=>some (.c pa_D)
 |10=>some (.f runF_D)
 |_=>none
theorem dWrk_ok:DetOk Tryz.prog dWrk:=fun f d h=>by
 unfold dWrk at h
 split at h
 ·cases h;exact⟨⟨Tryz.f116,Tryz.func116,by kernel_rfl,by kernel_rfl⟩,pa_ok⟩
 ·cases h;exact⟨⟨Tryz.f10,Tryz.func10,by kernel_rfl,by kernel_rfl⟩,runF_okF⟩
 ·cases h
def dSnd:FuncId→Option Dt:=fun f=>match f with
 |16=>some (.c textC_D)
 |51=>some (.f ghandF_D)
 |_=>none
theorem dSnd_ok:DetOk Tryz.prog dSnd:=fun f d h=>by
 unfold dSnd at h
 split at h
 ·cases h;exact⟨⟨Tryz.f16,Tryz.func16,by kernel_rfl,by kernel_rfl⟩,textC_ok⟩
 ·cases h;exact⟨⟨Tryz.f51,Tryz.func51,by kernel_rfl,by kernel_rfl⟩,ghandF_okF⟩
 ·cases h
def dLd:FuncId→Option Dt:=fun f=>match f with
 |84=>some (.n stillO_N)
 |_=>none
theorem dLd_ok:DetOk Tryz.prog dLd:=fun f d h=>by
 unfold dLd at h
 split at h
 ·cases h;exact⟨⟨Tryz.f84,Tryz.func84,by kernel_rfl,by kernel_rfl⟩,stillO_okN⟩
 ·cases h
def dAct:FuncId→Option Dt:=fun f=>match f with
 |84=>some (.f stillF_D)
 |_=>none
theorem dAct_ok:DetOk Tryz.prog dAct:=fun f d h=>by
 unfold dAct at h
 split at h
 ·cases h;exact⟨⟨Tryz.f84,Tryz.func84,by kernel_rfl,by kernel_rfl⟩,stillF_okF⟩
 ·cases h
noncomputable def cAct:FuncId→Con:=fun f=>match f with
 |47=>pureCon freshP_C
 |79=>inlCon E noCon (drawsN E dNo) [0,1,3,4,11] Tryz.f79
 |80=>inlCon E noCon (drawsN E dClm) [0,1,2,5,6,7,8,9,25,33,53] Tryz.f80
 |81=>inlCon E noCon (drawsN E dWrk) [0,1,2,5,6,7,9,10,11,12,14,19,36,79] Tryz.f81
 |82=>inlCon E noCon (drawsN E dSnd) [0,1,2,5,6,7,9,14,24,58,60] Tryz.f82
 |83=>inlCon E noCon (drawsN E dLd) [0,1,2,5,6,7,13] Tryz.f83
 |_=>fun _ _ _=>Bad 1001
theorem cAct_ok:ConOk Tryz.prog cAct:=fun f A H K h=>by
 unfold cAct at h
 split at h
 ·exact⟨⟨Tryz.f47,Tryz.func47,by kernel_rfl,by kernel_rfl⟩,pureCon_ok freshP_ok h⟩
 ·exact⟨⟨Tryz.f79,Tryz.func79,by kernel_rfl,by kernel_rfl⟩,inl_ok envOk zl noCon_ok (drawsN_ok envOk zl dNo_ok mixed) Tryz.func79 h⟩
 ·exact⟨⟨Tryz.f80,Tryz.func80,by kernel_rfl,by kernel_rfl⟩,inl_ok envOk zl noCon_ok (drawsN_ok envOk zl dClm_ok mixed) Tryz.func80 h⟩
 ·exact⟨⟨Tryz.f81,Tryz.func81,by kernel_rfl,by kernel_rfl⟩,inl_ok envOk zl noCon_ok (drawsN_ok envOk zl dWrk_ok mixed) Tryz.func81 h⟩
 ·exact⟨⟨Tryz.f82,Tryz.func82,by kernel_rfl,by kernel_rfl⟩,inl_ok envOk zl noCon_ok (drawsN_ok envOk zl dSnd_ok mixed) Tryz.func82 h⟩
 ·exact⟨⟨Tryz.f83,Tryz.func83,by kernel_rfl,by kernel_rfl⟩,inl_ok envOk zl noCon_ok (drawsN_ok envOk zl dLd_ok mixed) Tryz.func83 h⟩
 ·cases h
def ndO (n:Th Nat) (l:Th (List Node)):AObj:= .nst 138 8 n (fun i=>[.c (.i .i64 fun _=>((l ()).getD (i ()) Dat.d0).epoch),.c (.i .i64 fun _=>((l ()).getD (i ()) Dat.d0).vm.at_),.c (.sl 1 (fun _=>((l ()).getD (i ()) Dat.d0).vm.regs.length) fun j=>Dat.enc fun _=>((l ()).getD (i ()) Dat.d0).vm.regs.getD (j ()) Dat.d0),
 .c (.b fun _=>((l ()).getD (i ()) Dat.d0).vm.halts),.c (.b fun _=>((l ()).getD (i ()) Dat.d0).vm.fault),.c (.i .i64 fun _=>((l ()).getD (i ()) Dat.d0).read),.sl 78 2 (fun _=>((l ()).getD (i ()) Dat.d0).outs.length) (fun j=>Dat.enc fun _=>((l ()).getD (i ()) Dat.d0).outs.getD (j ()) Dat.d0),
 .c (.i .i64 fun _=>((l ()).getD (i ()) Dat.d0).sent)]) none
def prA (code:List Ins) (p:Th Pair):List AV:=[.own 1 fun _=>(p ()).log.length,.i .i64 fun _=>(p ()).fence.epoch,.i .i64 fun _=>(p ()).fence.owner,.own 2 fun _=>(p ()).nodes.length,.own 3 fun _=>(p ()).saved.length,.i .i64 fun _=>(p ()).gate.fence.epoch,.i .i64 fun _=>(p ()).gate.fence.owner,
 .sl 1 (fun _=>(p ()).gate.out.length) fun j=>Dat.enc fun _=>(p ()).gate.out.getD (j ()) Dat.d0,.sl 3 (fun _=>code.length) fun j=>Dat.enc fun _=>code.getD (j ()) Dat.d0]
def prO (code:List Ins) (p:Th Pair):Hp:=[.blk (prA code p),vecO 3 fun _=>(p ()).log,ndO (fun _=>(p ()).nodes.length) fun _=>(p ()).nodes,vecO 138 fun _=>(p ()).saved]
theorem bif_eq {α:Type}{c:Bool}{x y r:α}(h1:c=true→x=r) (h2:c=false→y=r):(bif c then x else y)=r:=by cases c;exact h2 rfl;exact h1 rfl
theorem snoc_get {l:List Node}{x:Node}{i:Nat}:(l++[x]).getD i Dat.d0=if i<l.length then l.getD i Dat.d0 else if i=l.length then x else Dat.d0:=by
 rw[List.getD_eq_getElem?_getD,List.getD_eq_getElem?_getD]
 by_cases h:i<l.length
 ·rw[if_pos h,List.getElem?_append_left h]
 ·rw[if_neg h,List.getElem?_append_right (by omega)]
  by_cases h2:i=l.length
  ·subst h2;simp
  ·rw[if_neg h2,List.getElem?_eq_none (by simp;omega)];rfl
theorem val_in {l:List Int}{r m:Nat}(h:r+m≤l.length):(slV (.sl 1 (fun _=>m) fun k=>Dat.enc fun _=>l.getD (k ()+r) Dat.d0):List Int)=(l.drop r).take m:=by
 refine lst_eq (d:=Dat.d0) (by rw[List.length_take,List.length_drop,Nat.min_eq_left (by omega)]) fun i hi=> ?_
 show l.getD (i+r) Dat.d0=_
 have hi2:i<m:=by simpa using hi
 rw[List.getD_eq_getElem?_getD,List.getD_eq_getElem?_getD,List.getElem?_take,if_pos hi2,List.getElem?_drop,Nat.add_comm]
theorem in_eq {p:Pair}{x:Node}(h0:0≤x.read) (h1:x.read≤p.log.length):
  (slV (.sl 1 (fun _=>((if(p.log.length:Int)<x.read+1 then(p.log.length:Int)else x.read+1)-x.read).toNat) fun k=>Dat.enc fun _=>p.log.getD (k ()+x.read.toNat) Dat.d0):List Int)=inA p x:=by
 rw[val_in (by split<;>omega)]
 unfold inA
 split
 ·rw[show(↑p.log.length-x.read).toNat=0 by omega,List.drop_of_length_le (by omega)];simp
 ·rw[show(x.read+1-x.read).toNat=1 by omega]
structure NB (log:List Int) (x:Node):Prop where
 r0:0≤x.read
 r1:x.read≤log.length
 s0:0≤x.sent
 s1:x.sent≤x.outs.length
 ol:x.outs.length≤5000
 rg:x.vm.regs.length=8
 em:∀e∈x.outs,okE e
def okM (e:Emit):Prop:=0≤e.port∧e.port≤3∧numB e.n=true
theorem out_step {p:List Ins}{m m':Mac}(hp:checkP p=0) (h:Inv p m) (ho:∀e∈m.out,okM e) (hs:stepM p m=some m'):∀e∈m'.out,okM e:=by
 unfold stepM at hs
 split at hs
 ·cases hs;exact ho
 rename_i hne
 have a0:=h.a0
 have a1:=h.a1
 have hI:=right_ins hp (show m.at_.toNat<p.length by omega)
 have hi:(p.getD m.at_.toNat Dat.d0)=insAt p m:=rfl
 rw[hi]at hI
 repeat' split at hs
 all_goals first
  |(cases hs;exact ho)
  |(cases hs;done)
  |skip
 rename_i c10
 cases hs
 intro e he
 rcases List.mem_append.1 he with q|q
 ·exact ho e q
 ·rw[List.mem_singleton.1 q]
  unfold rightB at hI
  rw[if_neg (by omega),if_neg (by omega),if_neg (by omega),if_neg (by omega),if_neg (by omega),if_pos c10]at hI
  unfold regB winB at hI
  simp only[Bool.and_eq_true,decide_eq_true_eq]at hI
  refine⟨hI.2.1,hI.2.2,h.rn _ ?_⟩
  have:=h.rg
  unfold gR
  rw[List.getD_eq_getElem?_getD,List.getElem?_eq_getElem (show(insAt p m).a.toNat<m.regs.length by omega)]
  exact List.getElem_mem _
theorem out_run {p:List Ins}(hp:checkP p=0):∀(f:Nat) (m:Mac),Inv p m→(∀e∈m.out,okM e)→∀e∈(runM p f m).1.out,okM e
 |0,m,h,ho=>ho
 |f+1,m,h,ho=>by
  rw[runM]
  split
  ·exact ho
  ·rename_i hh
   split
   ·exact ho
   ·rename_i hf
    split
    ·exact ho
    ·rename_i m' hs
     exact out_run hp f m' (inv_step hp h (by simpa using hh) (by simpa using hf) hs) (out_step hp h ho hs)
theorem okM_E {e:Emit}(h:okM e):okE e:=by
 obtain⟨h1,h2,h3⟩:=h
 have h4:e.n=IntKind.i64.wrap (IntKind.i32.wrap e.n):=of_decide_eq_true h3
 have h5:=w32_bd e.n
 have h6:IntKind.i64.wrap (IntKind.i32.wrap e.n)=IntKind.i32.wrap e.n:=by
  generalize IntKind.i32.wrap e.n=z at h5
  simp[IntKind.wrap,IntKind.bits,IntKind.signed]
  omega
 rw[h6]at h4
 exact⟨⟨by omega,by omega⟩,by omega,by omega⟩
theorem nok_nb {code:List Ins}{log:List Int}{c:Nat}{x:Node}(hc:checkP code=0) (hn:allN log) (hl:log.length≤5000) (hcc:c≤100) (h:NOk code log c x):NB log x:=by
 obtain⟨⟨f,q1,q2⟩,s0,s1⟩:=h
 have rd:=at_read q2
 have I:=inv_run hc f _ (inv0 (err_v0 (fuel:=0) hc hn hl (by omega) (by omega)))
 have O:=out_run hc f _ (inv0 (err_v0 (fuel:=0) hc hn hl (by omega) (by omega))) (fun e he=>absurd he List.not_mem_nil)
 obtain⟨-,-,-,i4⟩:=run_inp (p:=code) f (mac0 v0 log)
 have i4:((runM code f (mac0 v0 log)).1.out.length:Int)-0≤(runM code f (mac0 v0 log)).2:=i4
 obtain⟨a1,a2,a3,a4⟩:=q2
 refine⟨rd.1,rd.2.1,s0,s1, ?_, ?_,fun e he=>okM_E (O e (by rw[a3];exact he))⟩
 ·rw[a1,a3]at i4;omega
 ·rw[←a2];exact I.rg
section
variable {code:List Ins}{p:Pair}{a:PairAct}
theorem act_i0 (h:a.kind=1) (k:¬a.n=IntKind.i64.wrap (IntKind.i32.wrap a.n)):actA code p a=(p,4):=by
 rw[actA,if_pos h,inpA,if_neg (by simpa[numB]using k)]
theorem act_i1 (h:a.kind=1) (k:a.n=IntKind.i64.wrap (IntKind.i32.wrap a.n)):actA code p a=(⟨p.log++[a.n],p.fence,p.nodes,p.saved,p.gate⟩,0):=by
 rw[actA,if_pos h,inpA,if_pos (show numB a.n=true from decide_eq_true k)]
theorem act_b (h:¬a.kind=1) (k:a.kind<1∨7<a.kind):actA code p a=(p,1):=by
 rw[actA,if_neg h,if_pos k]
theorem act_w (h:¬a.kind=1) (h1:1≤a.kind∧a.kind≤7) (k:a.who<0∨(p.nodes.length:Int)≤a.who):actA code p a=(p,7):=by
 rw[actA,if_neg h,if_neg (by omega),if_pos k]
theorem act_2 (h:a.kind=2) (h0:0≤a.who) (h1:a.who<p.nodes.length):actA code p a=claimA p a:=by
 rw[actA,if_neg (by omega),if_neg (by omega),if_neg (by omega),if_pos h]
theorem act_3 (h:a.kind=3) (h0:0≤a.who) (h1:a.who<p.nodes.length):actA code p a=workA code p a:=by
 rw[actA,if_neg (by omega),if_neg (by omega),if_neg (by omega),if_neg (by omega),if_pos h]
theorem act_4 (h:a.kind=4) (h0:0≤a.who) (h1:a.who<p.nodes.length):actA code p a=sendA p a:=by
 rw[actA,if_neg (by omega),if_neg (by omega),if_neg (by omega),if_neg (by omega),if_neg (by omega),if_pos h]
theorem act_6 (h:a.kind=6) (h0:0≤a.who) (h1:a.who<p.nodes.length):actA code p a=loadA p a:=by
 rw[actA,if_neg (by omega),if_neg (by omega),if_neg (by omega),if_neg (by omega),if_neg (by omega),if_neg (by omega),if_pos h]
theorem act_5 (h:a.kind=5) (h0:0≤a.who) (h1:a.who<p.nodes.length):actA code p a=(⟨p.log,p.fence,p.nodes,p.saved++[stillN (getN p a.who)],p.gate⟩,0):=by
 rw[actA,if_neg (by omega),if_neg (by omega),if_neg (by omega),if_neg (by omega),if_neg (by omega),if_neg (by omega),if_neg (by omega),if_pos h]
theorem act_7 (h:¬a.kind=1) (g:1≤a.kind∧a.kind≤7) (k:okF (fun _=>a.kind) [2,3,4,6]=false) (h5:¬a.kind=5) (h0:0≤a.who) (h1:a.who<p.nodes.length):actA code p a=(putN p a.who nd0,0):=by
 simp only[okF,Bool.or_eq_false_iff,decide_eq_false_iff_not]at k
 obtain⟨k2,k3,k4,k6,-⟩:=k
 rw[actA,if_neg h,if_neg (by omega),if_neg (by omega),if_neg k2,if_neg k3,if_neg k4,if_neg k6,if_neg h5]
theorem claim_0 (k:¬(claimS p.fence a.who a.n).2.2=0):claimA p a=(p,(claimS p.fence a.who a.n).2.2):=by rw[claimA,if_pos k]
theorem claim_1 (k:(claimS p.fence a.who a.n).2.2=0) (k2:(claimS p.fence a.who a.n).2.1=false):claimA p a=(⟨p.log,(claimS p.fence a.who a.n).1,p.nodes,p.saved,p.gate⟩,9):=by rw[claimA,if_neg (fun q=>q k),if_pos k2]
theorem claim_2 (k:(claimS p.fence a.who a.n).2.2=0) (k2:(claimS p.fence a.who a.n).2.1=true) (k3:(claimG p.gate a.who a.n).2.1=false):claimA p a=(⟨p.log,(claimS p.fence a.who a.n).1,p.nodes,p.saved,(claimG p.gate a.who a.n).1⟩,9):=by
 rw[claimA,if_neg (fun q=>q k),if_neg (by rw[k2];decide),if_pos k3]
theorem claim_3 (k:(claimS p.fence a.who a.n).2.2=0) (k2:(claimS p.fence a.who a.n).2.1=true) (k3:(claimG p.gate a.who a.n).2.1=true):
  claimA p a=(⟨p.log,(claimS p.fence a.who a.n).1,p.nodes.set a.who.toNat ⟨a.n,(p.nodes.getD a.who.toNat Dat.d0).vm,(p.nodes.getD a.who.toNat Dat.d0).read,(p.nodes.getD a.who.toNat Dat.d0).outs,0⟩,p.saved,(claimG p.gate a.who a.n).1⟩,0):=by
 rw[claimA,if_neg (fun q=>q k),if_neg (by rw[k2];decide),if_neg (by rw[k3];decide)];rfl
theorem work_0 (k:(p.nodes.getD a.who.toNat Dat.d0).epoch=0):workA code p a=(p,9):=by rw[workA,if_pos (show(getN p a.who).epoch=0 from k)]
theorem work_1 (k:¬(p.nodes.getD a.who.toNat Dat.d0).epoch=0) (k2:(passS p.fence a.who (p.nodes.getD a.who.toNat Dat.d0).epoch).1=false):workA code p a=(putN p a.who ⟨0,(p.nodes.getD a.who.toNat Dat.d0).vm,(p.nodes.getD a.who.toNat Dat.d0).read,(p.nodes.getD a.who.toNat Dat.d0).outs,(p.nodes.getD a.who.toNat Dat.d0).sent⟩,9):=by
 rw[workA,if_neg (show¬(getN p a.who).epoch=0 from k),if_pos (show(passS p.fence a.who (getN p a.who).epoch).1=false from k2)];rfl
theorem work_2 (k:¬(p.nodes.getD a.who.toNat Dat.d0).epoch=0) (k2:(passS p.fence a.who (p.nodes.getD a.who.toNat Dat.d0).epoch).1=true) (k3:¬(runV code (p.nodes.getD a.who.toNat Dat.d0).vm (inA p (p.nodes.getD a.who.toNat Dat.d0)) 50).2.2.2.2=0):workA code p a=(p,(runV code (p.nodes.getD a.who.toNat Dat.d0).vm (inA p (p.nodes.getD a.who.toNat Dat.d0)) 50).2.2.2.2):=by
 rw[workA,if_neg (show¬(getN p a.who).epoch=0 from k),if_neg (by rw[show(passS p.fence a.who (getN p a.who).epoch).1=true from k2];decide),if_pos (show¬(wrkA code p (getN p a.who)).2.2.2.2=0 from k3)];rfl
theorem work_3 (k:¬(p.nodes.getD a.who.toNat Dat.d0).epoch=0) (k2:(passS p.fence a.who (p.nodes.getD a.who.toNat Dat.d0).epoch).1=true) (k3:(runV code (p.nodes.getD a.who.toNat Dat.d0).vm (inA p (p.nodes.getD a.who.toNat Dat.d0)) 50).2.2.2.2=0):
  workA code p a=(putN p a.who ⟨(p.nodes.getD a.who.toNat Dat.d0).epoch,(runV code (p.nodes.getD a.who.toNat Dat.d0).vm (inA p (p.nodes.getD a.who.toNat Dat.d0)) 50).1,(p.nodes.getD a.who.toNat Dat.d0).read+(runV code (p.nodes.getD a.who.toNat Dat.d0).vm (inA p (p.nodes.getD a.who.toNat Dat.d0)) 50).2.2.1,(p.nodes.getD a.who.toNat Dat.d0).outs++(runV code (p.nodes.getD a.who.toNat Dat.d0).vm (inA p (p.nodes.getD a.who.toNat Dat.d0)) 50).2.1,(p.nodes.getD a.who.toNat Dat.d0).sent⟩,0):=by
 rw[workA,if_neg (show¬(getN p a.who).epoch=0 from k),if_neg (by rw[show(passS p.fence a.who (getN p a.who).epoch).1=true from k2];decide),if_neg (fun q=>q (show(wrkA code p (getN p a.who)).2.2.2.2=0 from k3))];rfl
theorem send_0 (k:(p.nodes.getD a.who.toNat Dat.d0).epoch=0):sendA p a=(p,9):=by rw[sendA,if_pos (show(getN p a.who).epoch=0 from k)]
theorem send_1 (k:¬(p.nodes.getD a.who.toNat Dat.d0).epoch=0) (k2:(p.nodes.getD a.who.toNat Dat.d0).sent=(p.nodes.getD a.who.toNat Dat.d0).outs.length):sendA p a=(p,7):=by
 rw[sendA,if_neg (show¬(getN p a.who).epoch=0 from k),if_pos (show(getN p a.who).sent=(getN p a.who).outs.length from k2)]
theorem send_2 (k:¬(p.nodes.getD a.who.toNat Dat.d0).epoch=0) (k2:¬(p.nodes.getD a.who.toNat Dat.d0).sent=(p.nodes.getD a.who.toNat Dat.d0).outs.length) (k3:¬(handG p.gate ⟨a.who,(p.nodes.getD a.who.toNat Dat.d0).epoch,(p.nodes.getD a.who.toNat Dat.d0).sent,textV ((p.nodes.getD a.who.toNat Dat.d0).outs.getD (p.nodes.getD a.who.toNat Dat.d0).sent.toNat Dat.d0)⟩).2.2=0) (k4:(handG p.gate ⟨a.who,(p.nodes.getD a.who.toNat Dat.d0).epoch,(p.nodes.getD a.who.toNat Dat.d0).sent,textV ((p.nodes.getD a.who.toNat Dat.d0).outs.getD (p.nodes.getD a.who.toNat Dat.d0).sent.toNat Dat.d0)⟩).2.2=9):sendA p a=(putN p a.who ⟨0,(p.nodes.getD a.who.toNat Dat.d0).vm,(p.nodes.getD a.who.toNat Dat.d0).read,(p.nodes.getD a.who.toNat Dat.d0).outs,(p.nodes.getD a.who.toNat Dat.d0).sent⟩,(handG p.gate ⟨a.who,(p.nodes.getD a.who.toNat Dat.d0).epoch,(p.nodes.getD a.who.toNat Dat.d0).sent,textV ((p.nodes.getD a.who.toNat Dat.d0).outs.getD (p.nodes.getD a.who.toNat Dat.d0).sent.toNat Dat.d0)⟩).2.2):=by
 rw[sendA,if_neg (show¬(getN p a.who).epoch=0 from k),if_neg (show¬(getN p a.who).sent=(getN p a.who).outs.length from k2),if_pos (show¬(handG p.gate (giveA p a)).2.2=0 from k3),if_pos (show(handG p.gate (giveA p a)).2.2=9 from k4)];rfl
theorem send_3 (k:¬(p.nodes.getD a.who.toNat Dat.d0).epoch=0) (k2:¬(p.nodes.getD a.who.toNat Dat.d0).sent=(p.nodes.getD a.who.toNat Dat.d0).outs.length) (k3:¬(handG p.gate ⟨a.who,(p.nodes.getD a.who.toNat Dat.d0).epoch,(p.nodes.getD a.who.toNat Dat.d0).sent,textV ((p.nodes.getD a.who.toNat Dat.d0).outs.getD (p.nodes.getD a.who.toNat Dat.d0).sent.toNat Dat.d0)⟩).2.2=0) (k4:¬(handG p.gate ⟨a.who,(p.nodes.getD a.who.toNat Dat.d0).epoch,(p.nodes.getD a.who.toNat Dat.d0).sent,textV ((p.nodes.getD a.who.toNat Dat.d0).outs.getD (p.nodes.getD a.who.toNat Dat.d0).sent.toNat Dat.d0)⟩).2.2=9):sendA p a=(p,(handG p.gate ⟨a.who,(p.nodes.getD a.who.toNat Dat.d0).epoch,(p.nodes.getD a.who.toNat Dat.d0).sent,textV ((p.nodes.getD a.who.toNat Dat.d0).outs.getD (p.nodes.getD a.who.toNat Dat.d0).sent.toNat Dat.d0)⟩).2.2):=by
 rw[sendA,if_neg (show¬(getN p a.who).epoch=0 from k),if_neg (show¬(getN p a.who).sent=(getN p a.who).outs.length from k2),if_pos (show¬(handG p.gate (giveA p a)).2.2=0 from k3),if_neg (show¬(handG p.gate (giveA p a)).2.2=9 from k4)];rfl
theorem send_4 (k:¬(p.nodes.getD a.who.toNat Dat.d0).epoch=0) (k2:¬(p.nodes.getD a.who.toNat Dat.d0).sent=(p.nodes.getD a.who.toNat Dat.d0).outs.length) (k3:(handG p.gate ⟨a.who,(p.nodes.getD a.who.toNat Dat.d0).epoch,(p.nodes.getD a.who.toNat Dat.d0).sent,textV ((p.nodes.getD a.who.toNat Dat.d0).outs.getD (p.nodes.getD a.who.toNat Dat.d0).sent.toNat Dat.d0)⟩).2.2=0):sendA p a=(⟨p.log,p.fence,p.nodes.set a.who.toNat ⟨(p.nodes.getD a.who.toNat Dat.d0).epoch,(p.nodes.getD a.who.toNat Dat.d0).vm,(p.nodes.getD a.who.toNat Dat.d0).read,(p.nodes.getD a.who.toNat Dat.d0).outs,(p.nodes.getD a.who.toNat Dat.d0).sent+1⟩,p.saved,(handG p.gate ⟨a.who,(p.nodes.getD a.who.toNat Dat.d0).epoch,(p.nodes.getD a.who.toNat Dat.d0).sent,textV ((p.nodes.getD a.who.toNat Dat.d0).outs.getD (p.nodes.getD a.who.toNat Dat.d0).sent.toNat Dat.d0)⟩).1⟩,0):=by
 rw[sendA,if_neg (show¬(getN p a.who).epoch=0 from k),if_neg (show¬(getN p a.who).sent=(getN p a.who).outs.length from k2),if_neg (fun q=>q (show(handG p.gate (giveA p a)).2.2=0 from k3))];rfl
theorem load_0 (k:¬(p.nodes.getD a.who.toNat Dat.d0).epoch=0):loadA p a=(p,9):=by rw[loadA,if_pos (show¬(getN p a.who).epoch=0 from k)]
theorem load_1 (k:(p.nodes.getD a.who.toNat Dat.d0).epoch=0) (k2:a.n<0∨(p.saved.length:Int)≤a.n):loadA p a=(p,7):=by rw[loadA,if_neg (fun q=>q (show(getN p a.who).epoch=0 from k)),if_pos k2]
theorem load_2 (k:(p.nodes.getD a.who.toNat Dat.d0).epoch=0) (k2:0≤a.n∧a.n<p.saved.length):loadA p a=(putN p a.who (stillN (p.saved.getD a.n.toNat Dat.d0)),0):=by
 rw[loadA,if_neg (fun q=>q (show(getN p a.who).epoch=0 from k)),if_neg (by omega)]
end
theorem app_bif {α β:Type}(f:β→α) {b l:List β}{k:Nat}{d:β}:(bif decide (k<b.length)then f (b.getD k d)else f (l.getD (k-b.length) d))=f ((b++l).getD k d):=by
 by_cases h:k<b.length
 ·rw[decide_eq_true h,cond_true,List.getD_eq_getElem?_getD,List.getD_eq_getElem?_getD,List.getElem?_append_left h]
 ·rw[decide_eq_false h,cond_false,List.getD_eq_getElem?_getD,List.getD_eq_getElem?_getD,List.getElem?_append_right (by omega)]
end Go.Proofs.YtiaiifcgbjlfoaaGreatDoor
