/- A pair, plain: whatever happens, each has done a begin of one run; what is out is a begin of what it lets out. -/
import Derived.Test.YtiaiifcgbjlfoaaGreatDoorPairQ
set_option linter.all false
namespace Go.Proofs.YtiaiifcgbjlfoaaGreatDoor
open Go Go.Abs
def At (code:List Ins) (log:List Int) (f:Nat) (v:Vm) (o:List Emit) (r:Int):Prop:=
 (runM code f (mac0 v0 log)).2=f∧vmOf (runM code f (mac0 v0 log)).1=v∧(runM code f (mac0 v0 log)).1.out=o∧r=(log.length:Int)-((runM code f (mac0 v0 log)).1.inp.length:Int)
theorem run_used {p:List Ins}:∀(f:Nat) (m:Mac),runM p (runM p f m).2.toNat m=runM p f m
 |0,m=>rfl
 |f+1,m=>by
  by_cases hs:stuck p m
  ·rw[run_stuck hs (f+1)];exact run_stuck hs _
  ·obtain⟨m',hm⟩:∃m',stepM p m=some m':=by
    cases h:stepM p m with
    |none=>exact absurd (.inr (.inr h)) hs
    |some m'=>exact⟨m',rfl⟩
   have hh:¬m.halts=true:=fun q=>hs (.inl q)
   have hf:¬m.fault=true:=fun q=>hs (.inr (.inl q))
   have e:∀k,runM p (k+1) m=((runM p k m').1,(runM p k m').2+1):=fun k=>by rw[runM,if_neg hh,if_neg hf,hm]
   have hb:=run_bd (p:=p) f m'
   rw[e f]
   dsimp only
   rw[show((runM p f m').2+1).toNat=(runM p f m').2.toNat+1 by omega,e,run_used f m']
variable {code:List Ins}{log:List Int}{f g c d:Nat}{v v':Vm}{o o':List Emit}{r r':Int}{n:Int}{p:Pair}{a:PairAct}{x:Node}
theorem at_more (h:At code log f v o r) (more:List Int):At code (log++more) f v o r:=by
 obtain⟨a1,a2,a3,a4⟩:=h
 have e:runM code f (mac0 v0 (log++more))=_:=run_more (p:=code) more f (mac0 v0 log)
 rw[a1,show f-((f:Int)).toNat=0 by omega]at e
 have z:∀m,runM code 0 m=(m,0):=fun _=>rfl
 rw[z]at e
 unfold At
 rw[e]
 refine⟨by dsimp only;omega,a2,a3, ?_⟩
 dsimp only
 rw[List.length_append,List.length_append]
 omega
theorem at_read (h:At code log f v o r):0≤r∧r≤log.length∧(runM code f (mac0 v0 log)).1.inp=log.drop r.toNat:=by
 obtain⟨a1,a2,a3,a4⟩:=h
 obtain⟨i1,i2,i3,i4⟩:=run_inp (p:=code) f (mac0 v0 log)
 have e:(mac0 v0 log).inp=log:=rfl
 rw[e]at i1 i2
 refine⟨by omega,by omega, ?_⟩
 rw[i2,a4]
 congr 1
 omega
theorem at_work (h:At code log f v o r):At code log (f+(runM code 50 (mac0 v ((log.drop r.toNat).take 1))).2.toNat) (vmOf (runM code 50 (mac0 v ((log.drop r.toNat).take 1))).1) (o++(runM code 50 (mac0 v ((log.drop r.toNat).take 1))).1.out)
  (r+((((log.drop r.toNat).take 1).length:Int)-((runM code 50 (mac0 v ((log.drop r.toNat).take 1))).1.inp.length:Int))):=by
 obtain⟨r0,r1,ri⟩:=at_read h
 obtain⟨a1,a2,a3,a4⟩:=h
 generalize hL:(log.drop r.toNat).take 1=L
 have hl:L++(log.drop r.toNat).drop 1=(runM code f (mac0 v0 log)).1.inp:=by rw[ri,←hL];exact List.take_append_drop ..
 generalize (log.drop r.toNat).drop 1=rest at hl
 have bS:=run_bd (p:=code) 50 (mac0 v L)
 have us:=run_used (p:=code) 50 (mac0 v L)
 have e1:runM code (runM code 50 (mac0 v L)).2.toNat (mac0 v (L++rest))=_:=run_more (p:=code) rest (runM code 50 (mac0 v L)).2.toNat (mac0 v L)
 rw[us,Nat.sub_self]at e1
 have z:∀m,runM code 0 m=(m,0):=fun _=>rfl
 rw[z]at e1
 have e2:=run_on (p:=code) (runM code 50 (mac0 v L)).2.toNat (runM code f (mac0 v0 log)).1 (runM code f (mac0 v0 log)).1.inp
 rw[a2,←hl,e1,hl]at e2
 have e3:({(runM code f (mac0 v0 log)).1 with inp:=(runM code f (mac0 v0 log)).1.inp}:Mac)=(runM code f (mac0 v0 log)).1:=rfl
 rw[e3]at e2
 have ea:=run_add (p:=code) f (runM code 50 (mac0 v L)).2.toNat (mac0 v0 log)
 rw[e2]at ea
 have hn:=congrArg List.length hl
 rw[List.length_append]at hn
 generalize runM code 50 (mac0 v L)=S at*
 unfold At
 rw[ea]
 refine⟨?_,rfl, ?_, ?_⟩
 ·dsimp only;omega
 ·dsimp only;rw[a3]
 ·dsimp only;rw[List.length_append];omega
theorem at_pre (h:At code log f v o r) (hfg:f≤g):o<+:(runM code g (mac0 v0 log)).1.out:=by
 obtain⟨a1,a2,a3,a4⟩:=h
 have ea:=run_add (p:=code) f (g-f) (mac0 v0 log)
 rw[show f+(g-f)=g by omega]at ea
 have e2:=run_on (p:=code) (g-f) (runM code f (mac0 v0 log)).1 (runM code f (mac0 v0 log)).1.inp
 have e3:({(runM code f (mac0 v0 log)).1 with inp:=(runM code f (mac0 v0 log)).1.inp}:Mac)=(runM code f (mac0 v0 log)).1:=rfl
 rw[e3]at e2
 rw[e2]at ea
 rw[ea]
 dsimp only
 rw[a3]
 exact List.prefix_append ..
theorem at_comp (h:At code log f v o r) (h':At code log g v' o' r'):o<+:o'∨o'<+:o:=by
 rcases Nat.le_total f g with q|q
 ·exact .inl (h'.2.2.1▸at_pre h q)
 ·exact .inr (h.2.2.1▸at_pre h' q)
theorem v0_right:rightV v0=0:=by decide+kernel
theorem err_v0 {fuel:Int}(hc:checkP code=0) (hn:allN log) (hl:log.length≤5000) (h0:0≤fuel) (h1:fuel≤5000):errV code v0 log fuel=0:=
 err_iff.2 ⟨hc,v0_right,Int.natCast_nonneg _,hn,h0,h1,by omega⟩
theorem at_err {L:List Int}(hc:checkP code=0) (hn:allN log) (hl:log.length≤5000) (hL:allN L) (hLl:L.length≤5000) (h:At code log f v o r):errV code v L 50=0:=by
 have I:=inv_run hc f _ (inv0 (err_v0 (fuel:=0) hc hn hl (by omega) (by omega)))
 rw[←h.2.1]
 exact err_next hc I hL (by omega) (by omega) (by omega)
def NOk (code:List Ins) (log:List Int) (c:Nat) (x:Node):Prop:=(∃f:Nat,f≤50*c∧At code log f x.vm x.outs x.read)∧0≤x.sent∧x.sent≤x.outs.length
theorem nok_up (h:NOk code log c x) (hcd:c≤d) (more:List Int):NOk code (log++more) d x:=by
 obtain⟨⟨f,h1,h2⟩,h3,h4⟩:=h
 exact⟨⟨f,by omega,at_more h2 more⟩,h3,h4⟩
theorem nok_le (h:NOk code log c x) (hcd:c≤d):NOk code log d x:=by
 have:=nok_up h hcd []
 rwa [List.append_nil]at this
theorem nok_nd0:NOk code log c nd0:=⟨⟨0,by omega,rfl,rfl,rfl,by show(0:Int)=(log.length:Int)-(log.length:Int);omega⟩,by show(0:Int)≤0;omega,by show(0:Int)≤0;omega⟩
theorem nok_still (h:NOk code log c x):NOk code log c (stillN x):=⟨h.1,Int.le_refl _,Int.natCast_nonneg _⟩
structure PrOk (code:List Ins) (n:Int) (c:Nat) (p:Pair):Prop where
 ln:(p.nodes.length:Int)=n
 lg:allN p.log
 ll:p.log.length≤c
 ls:p.saved.length≤c
 nd:∀x∈p.nodes,NOk code p.log c x
 sd:∀x∈p.saved,NOk code p.log c x
 fg:p.gate.fence=p.fence
 fc:chB p.fence=true
 ge:∃f v o r,f≤50*c∧At code p.log f v o r∧p.gate.out<+:o.map textV
 gl:p.gate.out.length≤c
 gs:p.gate.out.any longB=false
 ep:∀i:Nat,i<p.nodes.length→(p.nodes.getD i Dat.d0).epoch=0∨(epB (p.nodes.getD i Dat.d0).epoch=true∧(p.nodes.getD i Dat.d0).epoch≤p.fence.epoch∧((p.nodes.getD i Dat.d0).epoch=p.fence.epoch→p.fence.owner=i))
 dj:∀i j:Nat,i<p.nodes.length→j<p.nodes.length→i≠j→(p.nodes.getD i Dat.d0).epoch≠0→(p.nodes.getD i Dat.d0).epoch≠(p.nodes.getD j Dat.d0).epoch
theorem fence_eq {f:Fence}{e w:Int}(h1:f.epoch=e) (h2:f.owner=w):f=⟨e,w⟩:=by cases f;simp at h1 h2;simp[h1,h2]
theorem getD_memN {l:List Node}{k:Nat}(h:k<l.length):l.getD k Dat.d0∈l:=by
 rw[List.getD_eq_getElem?_getD,List.getElem?_eq_getElem h];exact List.getElem_mem h
theorem getD_setN {l:List Node}{k i:Nat}{y:Node}:(l.set k y).getD i Dat.d0=if k=i∧i<l.length then y else l.getD i Dat.d0:=by
 rw[List.getD_eq_getElem?_getD,List.getElem?_set,List.getD_eq_getElem?_getD]
 by_cases h:k=i
 ·subst h
  by_cases h2:k<l.length
  ·simp[h2]
  ·simp[h2]
 ·simp[h]
theorem PrOk.up (h:PrOk code n c p) (hcd:c≤d):PrOk code n d p:=by
 obtain⟨f,v,o,r,g1,g2,g3⟩:=h.ge
 exact⟨h.ln,h.lg,by have:=h.ll;omega,by have:=h.ls;omega,fun x q=>nok_le (h.nd x q) hcd,fun x q=>nok_le (h.sd x q) hcd,h.fg,h.fc,⟨f,v,o,r,by omega,g2,g3⟩,by have:=h.gl;omega,h.gs,h.ep,h.dj⟩
theorem PrOk.gc (h:PrOk code n c p) (hc:c≤100):checkG p.gate=0:=by
 unfold checkG
 rw[h.fg,if_pos h.fc,if_neg (by have:=h.gl;omega),h.gs,if_neg (by decide)]
theorem PrOk.at (h:PrOk code n c p) {w:Int}(h0:0≤w) (h1:w<p.nodes.length):NOk code p.log c (getN p w):=h.nd _ (getD_memN (by omega))
theorem PrOk.put (h:PrOk code n c p) {w:Int}{y:Node}(h0:0≤w) (h1:w<p.nodes.length) (hy:NOk code p.log c y) (he:y.epoch=0∨y.epoch=(getN p w).epoch):PrOk code n c (putN p w y):=by
 have E:∀i:Nat,((p.nodes.set w.toNat y).getD i Dat.d0).epoch=0∨((p.nodes.set w.toNat y).getD i Dat.d0).epoch=(p.nodes.getD i Dat.d0).epoch:=fun i=>by
  rw[getD_setN]
  split
  ·rename_i q
   rcases he with e|e
   ·exact .inl e
   ·refine .inr ?_;rw[e,←q.1];rfl
  ·exact .inr rfl
 refine⟨by show((p.nodes.set _ _).length:Int)=n;rw[List.length_set];exact h.ln,h.lg,h.ll,h.ls,fun x q=> ?_,h.sd,h.fg,h.fc,h.ge,h.gl,h.gs,fun i hi=> ?_,fun i j hi hj hij h2=> ?_⟩
 ·rcases List.mem_or_eq_of_mem_set q with q|q
  ·exact h.nd x q
  ·exact q▸hy
 ·have hi':i<p.nodes.length:=by have q:i<(p.nodes.set w.toNat y).length:=hi;rwa [List.length_set]at q
  rcases E i with e|e
  ·exact .inl e
  ·show((p.nodes.set w.toNat y).getD i Dat.d0).epoch=0∨_
   have:=h.ep i hi'
   rw[←e]at this
   exact this
 ·have hi':i<p.nodes.length:=by have q:i<(p.nodes.set w.toNat y).length:=hi;rwa [List.length_set]at q
  have hj':j<p.nodes.length:=by have q:j<(p.nodes.set w.toNat y).length:=hj;rwa [List.length_set]at q
  have h2':¬((p.nodes.set w.toNat y).getD i Dat.d0).epoch=0:=h2
  show((p.nodes.set w.toNat y).getD i Dat.d0).epoch≠((p.nodes.set w.toNat y).getD j Dat.d0).epoch
  rcases E i with e|e
  ·exact absurd e h2'
  rcases E j with e'|e'
  ·rw[e'];exact h2'
  ·rw[e,e']
   exact h.dj i j hi' hj' hij (by rw[←e];exact h2')
theorem pass_may {f:Fence}{w n:Int}(hf:chB f=true) (hw:0≤w∧w≤255) (hn:epB n=true):passS f w n=(f.epoch==n&&f.owner==w,0):=by
 have:mayV f w n=0:=by unfold mayV whoB;rw[if_pos hf,hn,decide_eq_true hw.1,decide_eq_true hw.2];rfl
 rw[passS,if_pos this]
theorem PrOk.claim (h:PrOk code n c p) (hn:n≤4) (h0:0≤a.who) (h1:a.who<p.nodes.length) (hc:c≤100):PrOk code n c (claimA p a).1∧p.fence.epoch≤(claimA p a).1.fence.epoch∧(claimA p a).1.gate.out=p.gate.out∧(claimA p a).1.log=p.log:=by
 have hl:=h.ln
 unfold claimA
 by_cases k1:(claimS p.fence a.who a.n).2.2=0
 ·rw[if_neg (fun q=>q k1)]
  have gq:claimG p.gate a.who a.n=(⟨(claimS p.fence a.who a.n).1,p.gate.out⟩,(claimS p.fence a.who a.n).2.1,0):=by
   unfold claimG;rw[if_pos (h.gc hc),h.fg,if_pos k1]
  have hm:=claimS_ok k1
  obtain⟨m1,m2,m3⟩:=mayV_ok hm
  have es:claimS p.fence a.who a.n=if p.fence.epoch<a.n then(⟨a.n,a.who⟩,true,0)else(p.fence,p.fence.epoch==a.n&&p.fence.owner==a.who,0):=by rw[claimS,if_pos hm]
  by_cases k2:(claimS p.fence a.who a.n).2.1=false
  ·rw[if_pos k2]
   have ef:(claimS p.fence a.who a.n).1=p.fence:=by
    rw[es]at k2 ⊢
    split
    ·rename_i q;rw[if_pos q]at k2;cases k2
    ·rfl
   dsimp only
   rw[ef]
   exact⟨h,Int.le_refl _,rfl,rfl⟩
  ·rw[if_neg k2,gq,if_neg k2]
   dsimp only
   have k3:(claimS p.fence a.who a.n).2.1=true:=by simpa using k2
   have ef:(claimS p.fence a.who a.n).1=⟨a.n,a.who⟩∧p.fence.epoch≤a.n∧(p.fence.epoch=a.n→p.fence.owner=a.who):=by
    rw[es]at k3 ⊢
    split
    ·exact⟨rfl,by omega,by omega⟩
    ·rename_i q
     rw[if_neg q]at k3
     simp at k3
     exact⟨fence_eq k3.1 k3.2,by omega,fun _=>k3.2⟩
   obtain⟨ef,ef2,ef3⟩:=ef
   rw[ef]
   refine⟨⟨by show((p.nodes.set _ _).length:Int)=n;rw[List.length_set];exact h.ln,h.lg,h.ll,h.ls,fun x q=> ?_,h.sd,rfl, ?_,h.ge,h.gl,h.gs,fun i hi=> ?_,fun i j hi hj hij h2=> ?_⟩,ef2,rfl,rfl⟩
   ·rcases List.mem_or_eq_of_mem_set q with q|q
    ·exact h.nd x q
    ·subst q
     have:=h.at h0 h1
     exact⟨this.1,Int.le_refl _,Int.natCast_nonneg _⟩
   ·show chB ⟨a.n,a.who⟩=true
    unfold chB
    rw[show epB (Fence.mk a.n a.who).epoch=true from m3,show whoB (Fence.mk a.n a.who).owner=true from m2]
    simp
   ·have hi':i<p.nodes.length:=by have q:i<(p.nodes.set a.who.toNat _).length:=hi;rwa [List.length_set]at q
    show((p.nodes.set a.who.toNat _).getD i Dat.d0).epoch=0∨(epB ((p.nodes.set a.who.toNat _).getD i Dat.d0).epoch=true∧((p.nodes.set a.who.toNat _).getD i Dat.d0).epoch≤a.n∧(((p.nodes.set a.who.toNat _).getD i Dat.d0).epoch=a.n→a.who=i))
    rw[getD_setN]
    by_cases q:a.who.toNat=i∧i<p.nodes.length
    ·rw[if_pos q]
     exact .inr ⟨m3,Int.le_refl _,fun _=>by omega⟩
    ·rw[if_neg q]
     rcases h.ep i hi' with e|⟨e1,e2,e3⟩
     ·exact .inl e
     ·refine .inr ⟨e1,by omega,fun e4=> ?_⟩
      have e5:p.fence.epoch=a.n:=by omega
      rw[←ef3 e5]
      exact e3 (by omega)
   ·have hi':i<p.nodes.length:=by have q:i<(p.nodes.set a.who.toNat _).length:=hi;rwa [List.length_set]at q
    have hj':j<p.nodes.length:=by have q:j<(p.nodes.set a.who.toNat _).length:=hj;rwa [List.length_set]at q
    have A:∀k:Nat,k<p.nodes.length→¬a.who.toNat=k→(p.nodes.getD k Dat.d0).epoch=a.n→False:=fun k hk hka hke=>by
     have m3':=m3
     unfold epB at m3'
     simp at m3'
     rcases h.ep k hk with e|⟨e1,e2,e3⟩
     ·omega
     ·have e5:p.fence.epoch=a.n:=by omega
      have:=ef3 e5
      have:=e3 (by omega)
      omega
    have h2':¬((p.nodes.set a.who.toNat ⟨a.n,(getN p a.who).vm,(getN p a.who).read,(getN p a.who).outs,0⟩).getD i Dat.d0).epoch=0:=h2
    show((p.nodes.set a.who.toNat ⟨a.n,(getN p a.who).vm,(getN p a.who).read,(getN p a.who).outs,0⟩).getD i Dat.d0).epoch≠((p.nodes.set a.who.toNat ⟨a.n,(getN p a.who).vm,(getN p a.who).read,(getN p a.who).outs,0⟩).getD j Dat.d0).epoch
    rw[getD_setN]at h2' ⊢
    rw[getD_setN]
    by_cases qi:a.who.toNat=i∧i<p.nodes.length
    ·rw[if_pos qi,if_neg (by omega)]
     exact fun e=>A j hj' (by omega) e.symm
    ·rw[if_neg qi]at h2' ⊢
     by_cases qj:a.who.toNat=j∧j<p.nodes.length
     ·rw[if_pos qj]
      exact fun e=>A i hi' (by omega) e
     ·rw[if_neg qj]
      exact h.dj i j hi' hj' hij h2'
 ·rw[if_pos k1]
  exact⟨h,Int.le_refl _,rfl,rfl⟩
theorem pre_get {α:Type}{l m:List α}{k:Nat}{x:α}(h:l<+:m) (hk:k<l.length):l.getD k x=m.getD k x:=by
 obtain⟨t,rfl⟩:=h
 rw[List.getD_eq_getElem?_getD,List.getD_eq_getElem?_getD,List.getElem?_append_left hk]
theorem pre_snoc {α:Type}{l m:List α}{x:α}(h:l<+:m) (hk:l.length<m.length):l++[m.getD l.length x]<+:m:=by
 obtain⟨t,rfl⟩:=h
 cases t with
 |nil=>simp at hk
 |cons y t=>refine⟨t, ?_⟩;simp[List.getD_eq_getElem?_getD]
theorem map_get {l:List Emit}{k:Nat}(hk:k<l.length):(l.map textV).getD k Dat.d0=textV (l.getD k Dat.d0):=by
 rw[List.getD_eq_getElem?_getD,List.getD_eq_getElem?_getD,List.getElem?_map,List.getElem?_eq_getElem hk];rfl
theorem PrOk.pass (h:PrOk code n c p) (hn:n≤4) (h0:0≤a.who) (h1:a.who<p.nodes.length) (k1:¬(getN p a.who).epoch=0):
  epB (getN p a.who).epoch=true∧passS p.fence a.who (getN p a.who).epoch=(p.fence.epoch==(getN p a.who).epoch&&p.fence.owner==a.who,0):=by
 have hl:=h.ln
 rcases h.ep a.who.toNat (by omega)with e|⟨e1,-,-⟩
 ·exact absurd e k1
 ·exact⟨e1,pass_may h.fc ⟨h0,by omega⟩ e1⟩
theorem PrOk.pre (h:PrOk code n c p) (hx:NOk code p.log c x) (hl:p.gate.out.length≤x.outs.length):p.gate.out<+:x.outs.map textV:=by
 obtain⟨f,v,o,r,g1,g2,g3⟩:=h.ge
 obtain⟨⟨f',q1,q2⟩,-,-⟩:=hx
 rcases at_comp g2 q2 with e|e
 ·exact g3.trans (e.map _)
 ·exact List.prefix_of_prefix_length_le g3 (e.map _) (by rw[List.length_map];exact hl)
theorem PrOk.same (h:PrOk code n c p) (hx:NOk code p.log c x) {k:Nat}(h1:k<p.gate.out.length) (h2:k<x.outs.length):p.gate.out.getD k Dat.d0=textV (x.outs.getD k Dat.d0):=by
 obtain⟨f,v,o,r,g1,g2,g3⟩:=h.ge
 obtain⟨⟨f',q1,q2⟩,-,-⟩:=hx
 have hl:=g3.length_le
 rw[List.length_map]at hl
 rw[pre_get g3 h1,map_get (by omega)]
 congr 1
 rcases at_comp g2 q2 with e|e
 ·exact pre_get e (by omega)
 ·exact(pre_get e h2).symm
theorem PrOk.wrong (h:PrOk code n c p) (hn:n≤4) (h0:0≤a.who) (h1:a.who<p.nodes.length) (k1:¬(getN p a.who).epoch=0) (k2:¬(getN p a.who).sent=(getN p a.who).outs.length) (hc:c<100):
  (handG p.gate (giveA p a)).2.2≠8∧(handG p.gate (giveA p a)).2.2≠1∧
  (p.fence=⟨(getN p a.who).epoch,a.who⟩→(getN p a.who).sent≤p.gate.out.length→longB (giveA p a).text=false→(handG p.gate (giveA p a)).2.2=0):=by
 obtain⟨b1,b2⟩:=h.pass hn h0 h1 k1
 have N:=h.at h0 h1
 have hs:=N.2
 have E:handE p.gate (giveA p a)=wrongG p.gate (giveA p a):=by unfold handE;rw[if_pos (h.gc (by omega))]
 have X:(handG p.gate (giveA p a)).2.2=wrongG p.gate (giveA p a):=by
  unfold handG
  rw[E]
  split
  ·rename_i q;rw[q];split<;>rfl
  ·rfl
 have S:(giveA p a).num<p.gate.out.length→p.gate.out.getD (giveA p a).num.toNat Dat.d0=(giveA p a).text:=fun q=>by
  have q':(getN p a.who).sent<p.gate.out.length:=q
  exact h.same N (by show(getN p a.who).sent.toNat<_;omega) (by show(getN p a.who).sent.toNat<_;omega)
 have P:passS p.gate.fence (giveA p a).who (giveA p a).epoch=(p.fence.epoch==(getN p a.who).epoch&&p.fence.owner==a.who,0):=by rw[h.fg];exact b2
 have hnum:¬(giveA p a).num<0:=by show¬(getN p a.who).sent<0;omega
 rw[X]
 unfold wrongG
 rw[P,if_pos rfl,if_neg hnum]
 refine⟨?_, ?_,fun q1 q2 q3=> ?_⟩
 ·split
  ·split
   ·decide
   ·split
    ·decide
    ·split
     ·rename_i q;exact absurd (S q.1) q.2
     ·split<;>decide
  ·decide
 ·split
  ·split
   ·decide
   ·split
    ·decide
    ·split
     ·decide
     ·split<;>decide
  ·decide
 ·have hg:=h.gl
  have q2':(giveA p a).num≤p.gate.out.length:=q2
  rw[q1,q3]
  dsimp only
  rw[if_pos (by simp),if_neg (by decide),if_neg (by omega),if_neg (fun q=>q.2 (S q.1)),if_neg (by omega)]
theorem PrOk.send (h:PrOk code n c p) (hn:n≤4) (h0:0≤a.who) (h1:a.who<p.nodes.length) (hc:c<100):
  PrOk code n (c+1) (sendA p a).1∧p.gate.out<+:(sendA p a).1.gate.out∧(sendA p a).1.fence=p.fence∧(sendA p a).1.log=p.log∧(sendA p a).2≠8∧(sendA p a).2≠1∧
  ((sendA p a).2=0→(sendA p a).1.fence=⟨(getN (sendA p a).1 a.who).epoch,a.who⟩):=by
 have N:=h.at h0 h1
 unfold sendA
 by_cases k1:(getN p a.who).epoch=0
 ·rw[if_pos k1];exact⟨h.up (by omega),List.prefix_refl _,rfl,rfl,(show(9:Int)≠8 by decide),(show(9:Int)≠1 by decide),fun q=>by cases q⟩
 rw[if_neg k1]
 by_cases k2:(getN p a.who).sent=(getN p a.who).outs.length
 ·rw[if_pos k2];exact⟨h.up (by omega),List.prefix_refl _,rfl,rfl,(show(7:Int)≠8 by decide),(show(7:Int)≠1 by decide),fun q=>by cases q⟩
 rw[if_neg k2]
 obtain⟨w1,w2,-⟩:=h.wrong hn h0 h1 k1 k2 hc
 obtain⟨b1,b2⟩:=h.pass hn h0 h1 k1
 by_cases k3:(handG p.gate (giveA p a)).2.2=0
 ·rw[if_neg (fun q=>q k3)]
  obtain⟨g1,g2,g3⟩:=handG_ok k3
  obtain⟨g4,g5,g6,g7,g8,g9⟩:=wrongG_ok g2
  have hs:=N.2
  have P:passS p.gate.fence (giveA p a).who (giveA p a).epoch=(p.fence.epoch==(getN p a.who).epoch&&p.fence.owner==a.who,0):=by rw[h.fg];exact b2
  rw[P]at g4
  have g4:(p.fence.epoch==(getN p a.who).epoch&&p.fence.owner==a.who)=true:=(Prod.mk.inj g4).1
  have hf:p.fence=⟨(getN p a.who).epoch,a.who⟩:=by
   simp at g4
   exact fence_eq g4.1 g4.2
  have Y:PrOk code n (c+1) (putN p a.who ⟨(getN p a.who).epoch,(getN p a.who).vm,(getN p a.who).read,(getN p a.who).outs,(getN p a.who).sent+1⟩):=
   (h.up (by omega)).put h0 h1 (nok_le ⟨N.1,by show 0≤(getN p a.who).sent+1;omega,by show(getN p a.who).sent+1≤((getN p a.who).outs.length:Int);omega⟩ (by omega)) (.inr rfl)
  have eN:getN (putN p a.who ⟨(getN p a.who).epoch,(getN p a.who).vm,(getN p a.who).read,(getN p a.who).outs,(getN p a.who).sent+1⟩) a.who=⟨(getN p a.who).epoch,(getN p a.who).vm,(getN p a.who).read,(getN p a.who).outs,(getN p a.who).sent+1⟩:=by
   show(p.nodes.set a.who.toNat _).getD _ _=_
   rw[getD_setN,if_pos ⟨rfl,by omega⟩]
  rcases g3 with⟨g3,g10⟩|⟨g3,g10⟩
  ·rw[g10]
   refine⟨Y,List.prefix_refl _,rfl,rfl,(show(0:Int)≠8 by decide),(show(0:Int)≠1 by decide),fun _=> ?_⟩
   show p.fence=⟨(getN (putN p a.who ⟨(getN p a.who).epoch,(getN p a.who).vm,(getN p a.who).read,(getN p a.who).outs,(getN p a.who).sent+1⟩) a.who).epoch,a.who⟩
   rw[eN];exact hf
  ·rw[g10]
   have g3':(getN p a.who).sent=p.gate.out.length:=g3
   have hp:p.gate.out++[textV ((getN p a.who).outs.getD (getN p a.who).sent.toNat Dat.d0)]<+:(getN p a.who).outs.map textV:=by
    have:=pre_snoc (x:=Dat.d0) (h.pre N (by omega)) (by rw[List.length_map];omega)
    rw[map_get (by omega)]at this
    rwa [show(getN p a.who).sent.toNat=p.gate.out.length by omega]
   refine⟨⟨Y.ln,Y.lg,Y.ll,Y.ls,Y.nd,Y.sd,h.fg,h.fc, ?_, ?_, ?_,Y.ep,Y.dj⟩,List.prefix_append ..,rfl,rfl,(show(0:Int)≠8 by decide),(show(0:Int)≠1 by decide),fun _=> ?_⟩
   ·obtain⟨⟨f',q1,q2⟩,-,-⟩:=N
    exact⟨f',_,_,_,by omega,q2,hp⟩
   ·show(p.gate.out++[_]).length≤c+1
    rw[List.length_append];have:=h.gl;simp only[List.length_singleton];omega
   ·show(p.gate.out++[_]).any longB=false
    rw[List.any_append,h.gs]
    have:longB (textV ((getN p a.who).outs.getD (getN p a.who).sent.toNat Dat.d0))=false:=decide_eq_false (by have:(textV ((getN p a.who).outs.getD (getN p a.who).sent.toNat Dat.d0)).size≤1000:=g5;omega)
    show(false||(List.any [textV ((getN p a.who).outs.getD (getN p a.who).sent.toNat Dat.d0)] longB))=false
    rw[List.any_cons,this];rfl
   ·show p.fence=⟨(getN (putN p a.who ⟨(getN p a.who).epoch,(getN p a.who).vm,(getN p a.who).read,(getN p a.who).outs,(getN p a.who).sent+1⟩) a.who).epoch,a.who⟩
    rw[eN];exact hf
 ·rw[if_pos k3]
  refine⟨?_, ?_, ?_, ?_,w1,w2,fun q=>absurd q k3⟩
  ·dsimp only
   split
   ·exact(h.up (by omega)).put h0 h1 (nok_le ⟨N.1,N.2⟩ (by omega)) (.inl rfl)
   ·exact h.up (by omega)
  ·dsimp only;split<;>exact List.prefix_refl _
  ·dsimp only;split<;>rfl
  ·dsimp only;split<;>rfl
theorem PrOk.errN (h:PrOk code n c p) (hc:checkP code=0) (hx:NOk code p.log c x) (hcc:c≤100):errV code x.vm (inA p x) 50=0:=by
 obtain⟨⟨f,-,q⟩,-⟩:=hx
 have hl:=h.ll
 refine at_err hc h.lg (by omega) (fun y hy=>h.lg y ?_) ?_ q
 ·exact List.mem_of_mem_drop (List.mem_of_mem_take hy)
 ·unfold inA;rw[List.length_take];omega
theorem wrk_of (he:errV code x.vm (inA p x) 50=0):wrkA code p x=(vmOf (runM code 50 (mac0 x.vm (inA p x))).1,(runM code 50 (mac0 x.vm (inA p x))).1.out,((inA p x).length:Int)-((runM code 50 (mac0 x.vm (inA p x))).1.inp.length:Int),(runM code 50 (mac0 x.vm (inA p x))).2,0):=by
 unfold wrkA
 exact runV_of he
theorem wrk_ok (he:errV code x.vm (inA p x) 50=0) (h:At code p.log f x.vm x.outs x.read):At code p.log (f+(runM code 50 (mac0 x.vm (inA p x))).2.toNat) (wrkA code p x).1 (x.outs++(wrkA code p x).2.1) (x.read+(wrkA code p x).2.2.1):=by
 rw[wrk_of he]
 exact at_work h
theorem PrOk.work (h:PrOk code n c p) (hc:checkP code=0) (hn:n≤4) (h0:0≤a.who) (h1:a.who<p.nodes.length) (hcc:c<100):
  PrOk code n (c+1) (workA code p a).1∧(workA code p a).1.gate=p.gate∧(workA code p a).1.fence=p.fence∧(workA code p a).1.log=p.log∧
  ((workA code p a).2=0→(workA code p a).1.fence=⟨(getN (workA code p a).1 a.who).epoch,a.who⟩):=by
 have N:=h.at h0 h1
 unfold workA
 by_cases k1:(getN p a.who).epoch=0
 ·rw[if_pos k1];exact⟨h.up (by omega),rfl,rfl,rfl,fun q=>by cases q⟩
 rw[if_neg k1]
 obtain⟨b1,b2⟩:=h.pass hn h0 h1 k1
 by_cases k2:(passS p.fence a.who (getN p a.who).epoch).1=false
 ·rw[if_pos k2]
  exact⟨(h.up (by omega)).put h0 h1 (nok_le ⟨N.1,N.2⟩ (by omega)) (.inl rfl),rfl,rfl,rfl,fun q=>by cases q⟩
 rw[if_neg k2]
 have he:=h.errN hc N (by omega)
 rw[if_neg (by rw[wrk_of he];exact fun q=>q rfl)]
 have hb:=run_bd (p:=code) 50 (mac0 (getN p a.who).vm (inA p (getN p a.who)))
 refine⟨(h.up (Nat.le_succ _)).put h0 h1 ?_ (.inr rfl),rfl,rfl,rfl,fun _=> ?_⟩
 ·obtain⟨⟨f,q1,q2⟩,s1,s2⟩:=N
  refine⟨⟨_, ?_,wrk_ok he q2⟩,s1, ?_⟩
  ·omega
  ·show(getN p a.who).sent≤(((getN p a.who).outs++_).length:Nat)
   rw[List.length_append];omega
 ·have eN:(getN (putN p a.who ⟨(getN p a.who).epoch,(wrkA code p (getN p a.who)).1,(getN p a.who).read+(wrkA code p (getN p a.who)).2.2.1,(getN p a.who).outs++(wrkA code p (getN p a.who)).2.1,(getN p a.who).sent⟩) a.who).epoch=(getN p a.who).epoch:=by
   show((p.nodes.set a.who.toNat _).getD _ _).epoch=_
   rw[getD_setN,if_pos ⟨rfl,by omega⟩]
  dsimp only
  rw[eN]
  rw[b2]at k2
  have k2:(p.fence.epoch==(getN p a.who).epoch&&p.fence.owner==a.who)=true:=by simpa using k2
  simp at k2
  exact fence_eq k2.1 k2.2
structure ActR (code:List Ins) (p p':Pair) (a:PairAct) (e:Int):Prop where
 g:p.gate.out<+:p'.gate.out
 f:p.fence.epoch≤p'.fence.epoch
 l:p.log<+:p'.log
 e8:a.kind=4→e≠8∧e≠1
 ok:(a.kind=3∨a.kind=4)→e=0→p'.fence=⟨(getN p' a.who).epoch,a.who⟩∧0≤a.who∧a.who<p'.nodes.length
theorem PrOk.act (h:PrOk code n c p) (hc:checkP code=0) (hn:n≤4) (hcc:c<100):PrOk code n (c+1) (actA code p a).1∧ActR code p (actA code p a).1 a (actA code p a).2:=by
 unfold actA
 have idR:∀e:Int,e≠0→e≠8→(a.kind=4→e≠1)→ActR code p p a e:=fun e h1 h2 h3=>⟨List.prefix_refl _,Int.le_refl _,List.prefix_refl _,fun q=>⟨h2,h3 q⟩,fun _ q=>absurd q h1⟩
 by_cases c1:a.kind=1
 ·rw[if_pos c1]
  unfold inpA
  by_cases k:numB a.n=true
  ·rw[if_pos k]
   refine⟨⟨h.ln,fun x q=> ?_, ?_,by have:=h.ls;show p.saved.length≤c+1;omega,fun x q=>nok_up (h.nd x q) (by omega) _,fun x q=>nok_up (h.sd x q) (by omega) _,h.fg,h.fc, ?_,by have:=h.gl;show p.gate.out.length≤c+1;omega,h.gs,h.ep,h.dj⟩,
    ⟨List.prefix_refl _,Int.le_refl _,List.prefix_append ..,fun q=>by omega,fun q=>by omega⟩⟩
   ·rcases List.mem_append.1 q with q|q
    ·exact h.lg x q
    ·rw[List.mem_singleton.1 q];exact k
   ·show(p.log++[a.n]).length≤c+1
    rw[List.length_append];have:=h.ll;simp only[List.length_singleton];omega
   ·obtain⟨f,v,o,r,g1,g2,g3⟩:=h.ge
    exact⟨f,v,o,r,by omega,at_more g2 _,g3⟩
  ·rw[if_neg k];exact⟨h.up (by omega),idR 4 (by decide) (by decide) fun _=>by decide⟩
 rw[if_neg c1]
 by_cases c2:a.kind<1∨7<a.kind
 ·rw[if_pos c2];exact⟨h.up (by omega),idR 1 (by decide) (by decide) fun _=>by omega⟩
 rw[if_neg c2]
 by_cases c3:a.who<0∨(p.nodes.length:Int)≤a.who
 ·rw[if_pos c3];exact⟨h.up (by omega),idR 7 (by decide) (by decide) fun _=>by decide⟩
 rw[if_neg c3]
 have h0:0≤a.who:=by omega
 have h1:a.who<p.nodes.length:=by omega
 have N:=h.at h0 h1
 by_cases c4:a.kind=2
 ·rw[if_pos c4]
  obtain⟨x1,x2,x3,x4⟩:=h.claim hn h0 h1 (by omega)
  exact⟨x1.up (by omega),⟨x3▸List.prefix_refl _,x2,x4▸List.prefix_refl _,fun q=>by omega,fun q=>by omega⟩⟩
 rw[if_neg c4]
 by_cases c5:a.kind=3
 ·rw[if_pos c5]
  obtain⟨x1,x2,x3,x4,x5⟩:=h.work (a:=a) hc hn h0 h1 hcc
  exact⟨x1,⟨x2▸List.prefix_refl _,x3▸Int.le_refl _,x4▸List.prefix_refl _,fun q=>by omega,fun _ q=>⟨x5 q,h0,by have:=x1.ln;have:=h.ln;omega⟩⟩⟩
 rw[if_neg c5]
 by_cases c6:a.kind=4
 ·rw[if_pos c6]
  obtain⟨x1,x2,x3,x4,x5,x6,x7⟩:=h.send (a:=a) hn h0 h1 hcc
  exact⟨x1,⟨x2,x3▸Int.le_refl _,x4▸List.prefix_refl _,fun q=>⟨x5,x6⟩,fun _ q=>⟨x7 q,h0,by have:=x1.ln;have:=h.ln;omega⟩⟩⟩
 rw[if_neg c6]
 by_cases c7:a.kind=6
 ·rw[if_pos c7]
  unfold loadA
  by_cases k1:(getN p a.who).epoch=0
  ·rw[if_neg (fun q=>q k1)]
   by_cases k2:a.n<0∨(p.saved.length:Int)≤a.n
   ·rw[if_pos k2];exact⟨h.up (by omega),idR 7 (by decide) (by decide) fun _=>by decide⟩
   ·rw[if_neg k2]
    refine⟨(h.up (by omega)).put h0 h1 (nok_still (nok_le (h.sd _ (getD_memN (by omega))) (by omega))) (.inl rfl),⟨List.prefix_refl _,Int.le_refl _,List.prefix_refl _,fun q=>by omega,fun q=>by omega⟩⟩
  ·rw[if_pos k1];exact⟨h.up (by omega),idR 9 (by decide) (by decide) fun _=>by decide⟩
 rw[if_neg c7]
 by_cases c8:a.kind=5
 ·rw[if_pos c8]
  refine⟨⟨h.ln,h.lg,by have:=h.ll;show p.log.length≤c+1;omega, ?_,fun x q=>nok_le (h.nd x q) (by omega),fun x q=> ?_,h.fg,h.fc, ?_,by have:=h.gl;show p.gate.out.length≤c+1;omega,h.gs,h.ep,h.dj⟩,⟨List.prefix_refl _,Int.le_refl _,List.prefix_refl _,fun q=>by omega,fun q=>by omega⟩⟩
  ·show(p.saved++[_]).length≤c+1
   rw[List.length_append];have:=h.ls;simp only[List.length_singleton];omega
  ·rcases List.mem_append.1 q with q|q
   ·exact nok_le (h.sd x q) (by omega)
   ·rw[List.mem_singleton.1 q];exact nok_still (nok_le N (by omega))
  ·obtain⟨f,v,o,r,g1,g2,g3⟩:=h.ge
   exact⟨f,v,o,r,by omega,g2,g3⟩
 ·rw[if_neg c8]
  exact⟨(h.up (by omega)).put h0 h1 nok_nd0 (.inl rfl),⟨List.prefix_refl _,Int.le_refl _,List.prefix_refl _,fun q=>by omega,fun q=>by omega⟩⟩
theorem p0_ok (h0:1≤n):PrOk code n 0 (p0 n):=by
 have e:∀i:Nat,((List.replicate n.toNat nd0).getD i Dat.d0).epoch=0:=fun i=>by
  rw[List.getD_eq_getElem?_getD,List.getElem?_replicate]
  split<;>rfl
 refine⟨by show((List.replicate n.toNat nd0).length:Int)=n;rw[List.length_replicate];omega,fun x q=>absurd q (List.not_mem_nil),Nat.le_refl _,Nat.le_refl _,fun x q=> ?_,fun x q=>absurd q (List.not_mem_nil),rfl,(show chB ⟨0,0⟩=true by decide),⟨0,v0,[],0,Nat.le_refl _,⟨rfl,rfl,rfl,rfl⟩,List.prefix_refl _⟩,Nat.le_refl _,rfl,fun i _=> .inl (e i),fun i j _ _ _ q=>absurd (e i) q⟩
 rw[List.eq_of_mem_replicate q];exact nok_nd0
theorem run_prok (hc:checkP code=0) (hn:n≤4):∀{l:List PairAct}{c:Nat}{p:Pair},PrOk code n c p→c+l.length≤100→PrOk code n (c+l.length) (runA code p l)∧p.gate.out<+:(runA code p l).gate.out∧p.fence.epoch≤(runA code p l).fence.epoch∧p.log<+:(runA code p l).log
 |[],c,p,h,_=>⟨h,List.prefix_refl _,Int.le_refl _,List.prefix_refl _⟩
 |a::r,c,p,h,hl=>by
  rw[List.length_cons]at hl
  obtain⟨q,k⟩:=h.act (a:=a) hc hn (by omega)
  obtain⟨y1,y2,y3,y4⟩:=run_prok hc hn (l:=r) q (by omega)
  refine⟨?_,k.g.trans y2,Int.le_trans k.f y3,k.l.trans y4⟩
  rw[List.length_cons,show c+(r.length+1)=c+1+r.length by omega]
  exact y1
end Go.Proofs.YtiaiifcgbjlfoaaGreatDoor
