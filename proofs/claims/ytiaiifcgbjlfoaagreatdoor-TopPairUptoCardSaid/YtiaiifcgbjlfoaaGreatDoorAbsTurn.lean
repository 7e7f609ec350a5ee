/- A row that is turned in place. -/
import Derived.Test.YtiaiifcgbjlfoaaGreatDoorAbsG4
import Derived.Sort.Row
import Derived.Sort.Grow
set_option linter.all false
namespace Go.Abs
open Go
variable [Kd]
inductive AllS {α:Type}(x:Th α) (R:α→α→Prop) (p:α→Prop):Prop where|mk (h:∀r,R (x ()) r→p r)
class Conc (α:Type) [Dat α] where
 conc:α→List Value
 hlen:∀x,(conc x).length=Dat.sz α
 one:∀x,∀v∈conc x,v.oneCell'=true
 to:∀(w:World) (M:Nat→Prop) (x:α) (j:Nat) (a:AV) (v:Value),(Dat.enc fun _=>x)[j]? =some a→RepC w M a v→(conc x)[j]? =some v
 fro:∀(w:World) (M:Nat→Prop) (x:α) (j:Nat) (a:AV) (v:Value),(Dat.enc fun _=>x)[j]? =some a→(conc x)[j]? =some v→RepC w M a v
instance concI:Conc Int where
 conc x:=[.int .i64 x]
 hlen _:=rfl
 one x v hv:=by simp at hv;subst hv;rfl
 to w M x j a v ha hr:=by
  cases j with
  |zero=>simp[Dat.enc,Leaf.av]at ha;subst ha;cases hr;rfl
  |succ j=>simp[Dat.enc]at ha
 fro w M x j a v ha hr:=by
  cases j with
  |zero=>simp[Dat.enc,Leaf.av]at ha hr;subst ha hr;exact .i _ _
  |succ j=>simp[Dat.enc]at ha
def turnCon (α:Type) [Dat α] (R:List α→List α→Prop) (restOk:List AV→Bool):Con:=fun A H K=>match A with
 | .own b n::rest=>match restOk rest,nth .dead H b with
   |true,.vec e sz m f=>Ob (fun _=>sz=Dat.sz α∧n ()=m ()∧(∀i,i<n ()→Dat.ok α (f fun _=>i))∧n ()<4611686018427387904)
    (AllS (fun _=>slV (α:=α) (.sl sz n f)) R fun d'=>K (.tup []) (H.set b (vecO e fun _=>d')) [])
   |_,_=>Bad 500
 |_=>Bad 501
structure Turns (α:Type) [Dat α] [Conc α] (w w':World) (blk:Nat) (d:List α):Prop where
 os:w'.os=w.os
 tape:w'.tape=w.tape
 out:w'.output=w.output
 size:w.heap.size≤w'.heap.size
 other:∀k,k<w.heap.size→k≠blk→w'.heap[k]? =w.heap[k]?
 row:∀cur t fr,w.heap[blk]? =some (.cells cur t fr)→∃cur',w'.heap[blk]? =some (.cells cur' t fr)∧cur'.size=cur.size∧∀i j,i<d.length→j<Dat.sz α→i*Dat.sz α+j<cur.size→cur'.getD (i*Dat.sz α+j) undef=(Conc.conc (d.getD i Dat.d0)).getD j undef
 stay:∀cur t fr cur' t' fr',w.heap[blk]? =some (.cells cur t fr)→w'.heap[blk]? =some (.cells cur' t' fr')→∀k,d.length*Dat.sz α≤k→k<cur.size→cur'.getD k undef=cur.getD k undef
def RowIs (α:Type) [Dat α] [Conc α] (w:World) (blk:Nat) (d:List α):Prop:=∃cur t,w.heap[blk]? =some (.cells cur t (0,0))∧d.length*Dat.sz α≤cur.size∧∀i j,i<d.length→j<Dat.sz α→cur.getD (i*Dat.sz α+j) undef=(Conc.conc (d.getD i Dat.d0)).getD j undef
section
variable {P:Program}{α:Type} [Dat α] [Conc α]
theorem turnCon_ok {f:FuncId}{R:List α→List α→Prop}{restOk:List AV→Bool}(hR:∀d d',R d d'→d'.length=d.length) (hR0:R [] [])
  (hN:∀(rest:List AV) (vs:Array Value) (w:World) (M:Nat→Prop) (β:Nat→Option Nat) (cp:Nat→Nat),restOk rest=true→RepL w M β cp rest vs.toList→∀p cap,Calls P f (#[.slice p 0 cap]++vs) w fun e w'=>e= .returned (.tuple #[])∧w'=w)
  (hT:∀(rest:List AV) (vs:Array Value) (w:World) (M:Nat→Prop) (β:Nat→Option Nat) (cp:Nat→Nat),restOk rest=true→RepL w M β cp rest vs.toList→∀(blk cap:Nat) (d:List α),RowIs α w blk d→d.length<4611686018427387904→
    Calls P f (#[.slice (some ⟨blk,0,none⟩) d.length cap]++vs) w fun e w'=>e= .returned (.tuple #[])∧∃d',R d d'∧Turns α w w' blk d')
  {A:List AV}{H:Hp}{K:Kont}(hv:turnCon α R restOk A H K):FnOk P f A H K:=by
 intro w M β cp vs hh hA
 unfold turnCon at hv
 split at hv
 ·rename_i b n rest
  split at hv
  ·rename_i e sz m g hrest hb
   cases hv with
   |mk hob hK=>
   obtain⟨hsz,hnm,hok,hlt⟩:=hob
   cases hK with
   |mk hK=>
   subst hsz
   replace hK:∀r,R (lst (n ()) fun i=>(Dat.dec (g fun _=>i):α)) r→K (.tup []) (H.set b (vecO e fun _=>r)) []:=hK
   obtain⟨v0,vs',hvs⟩:∃v0 vs',vs.toList=v0::vs':=by
    cases h:vs.toList with
    |nil=>have:=hA.1;rw[h]at this;simp at this
    |cons a r=>exact⟨a,r,rfl⟩
   have hve:vs= #[v0]++vs'.toArray:=by apply Array.toList_inj.1;simp[hvs]
   have h0:Rep w M β cp (.own b n) v0:=by have:=hA.2 0 _ rfl;rw[hvs]at this;simpa using this
   have hr:RepL w M β cp rest vs':=⟨by have:=hA.1;rw[hvs]at this;simpa using this,fun j x hj=>by have:=hA.2 (j+1) x (by simpa using hj);rw[hvs]at this;simpa using this⟩
   have hbs:=nth_some hb rfl
   have hobj:=hh.obj b _ hbs
   have hbl:b<H.length:=(List.getElem?_eq_some_iff.1 hbs).1
   subst hve
   have hget:∀(O:AObj) c x,(H.set b O)[c]? =some x→(c=b∧x=O)∨(c≠b∧H[c]? =some x):=by
    intro O c x hc
    rw[List.getElem?_set]at hc
    split at hc
    ·first
      |exact .inl ⟨by omega,by cases hc;rfl⟩
      |(rw[if_pos (by omega)]at hc;exact .inl ⟨by omega,by cases hc;rfl⟩)
    ·exact .inr ⟨by omega,hc⟩
   by_cases hn0:n ()=0
   ·
    have hv0:∃p c,v0= .slice p 0 c:=by
     rcases rep_own h0 with⟨_,rfl⟩|⟨g0,_,_,rfl⟩
     ·exact⟨_,_,rfl⟩
     ·exact⟨_,_,by rw[hn0]⟩
    obtain⟨p,c,rfl⟩:=hv0
    refine(hN rest vs'.toArray w M β cp hrest (by simpa using hr) p c).mono ?_
    rintro e' w' ⟨rfl,rfl⟩
    have hl:(lst (n ()) fun i=>(Dat.dec (g fun _=>i):α))=[]:=by rw[hn0];rfl
    rw[hl]at hK
    have hvo:∀γ,β b=γ→ObjRel w' M β cp b (vecO (α:=α) e fun _=>[]):=by
     intro γ hγ
     rcases hobj with⟨h1,h2⟩|⟨g0,cur,h1,h2,h3,h4,h5,h6,h7,h8⟩
     ·exact .inl ⟨h1,rfl⟩
     ·exact .inr ⟨g0,cur,h1,h2,h3,h4,⟨fun k hk=>by simp at hk,fun i j _ hc hj=>h5.sp i j (by omega) hc hj⟩,Nat.zero_le _,h7,fun i hi=>by simp at hi,fun i j x hi=>by simp at hi⟩
    obtain⟨s1,s2⟩:=hh.set1 (w':=w') (M':=M) (O:=vecO (α:=α) e fun _=>[]) hbs rfl (fun _ _ hM=>⟨rfl,hM⟩) (hvo _ rfl) (fun g k _ hk=>by rw[hk.eq (by intro _ _ _ _ _ h;cases h)];exact .self _) (fun c x g k _ _ _ _ _=>⟨rfl,id⟩) hh.dom.1
    exact⟨_,_,_,[],M,β,cp,rfl,hK [] hR0,s1,⟨fun _ _ hM=>⟨rfl,hM⟩,fun _ _ _=>⟨rfl,rfl⟩,Ext.refl _ _ _,fun g' hg'=> .inl (s2 g' hg')⟩,.c (.tup [] #[] rfl fun j x hj=>by simp at hj)⟩
   ·obtain⟨g0,hg0,hn1,rfl⟩:∃g,β b=some g∧n ()≤cp b∧v0= .slice (some ⟨g,0,none⟩) (n ()) (cp b):=by
     rcases rep_own h0 with⟨h1,_⟩|⟨g,h1,h2,h3⟩
     ·exact absurd h1 hn0
     ·exact⟨g,h1,h2,h3⟩
    obtain⟨cur,hMg,hcell,hcs,hone,hmc,hml,hgl,hgr⟩:∃cur,M g0∧w.heap[g0]? =some (.cells cur e (0,0))∧cur.size=cp b*Dat.sz α∧OneSp cur e (Dat.sz α) (m ()) (cp b)∧m ()≤cp b∧cp b≤maxLen∧
      (∀i:Nat,i<m ()→(g fun _=>i).length=Dat.sz α)∧∀(i j:Nat) (x:AV),i<m ()→(g fun _=>i)[j]? =some x→RepC w M x (cur.getD (i*Dat.sz α+j) undef):=by
     rcases hobj with⟨h1,h2⟩|⟨g',cur,h1,h2,h3,h4,h5,h6,h7,h8,h9⟩
     ·rw[hg0]at h1;cases h1
     ·rw[hg0]at h1;cases h1;exact⟨cur,h2,h3,h4,h5,h6,h7,h8,h9⟩
    generalize hd:(lst (n ()) fun i=>(Dat.dec (g fun _=>i):α))=d at hK
    have hdl:d.length=n ():=by rw[←hd,lst_len]
    have hdg:∀i,i<n ()→d.getD i Dat.d0=Dat.dec (g fun _=>i):=fun i hi=>by rw[←hd];exact lst_get hi
    have hrow:RowIs α w g0 d:=by
     refine⟨cur,e,hcell,by rw[hdl,hcs];exact Nat.mul_le_mul_right _ hn1,fun i j hi hj=> ?_⟩
     rw[hdl]at hi
     have hL:RepL w M (fun _=>none) (fun _=>0) (g fun _=>i) ((List.range (Dat.sz α)).map fun j=>cur.getD (i*Dat.sz α+j) undef):=⟨by simp[hgl i (by omega)],fun j x hj=>by
      have hjl:=(List.getElem?_eq_some_iff.1 hj).1
      rw[hgl i (by omega)]at hjl
      have:=hgr i j x (by omega) hj
      rw[List.getD_eq_getElem?_getD,List.getElem?_map,List.getElem?_range hjl]
      exact .c this⟩
     have hL2:=leL_sound 0 _ _ _ hL (Dat.hle _ (hok i hi))
     have hel:(Dat.enc fun _=>(Dat.dec (g fun _=>i):α)).length=Dat.sz α:=Dat.hlen _
     obtain⟨a,ha⟩:∃a,(Dat.enc fun _=>(Dat.dec (g fun _=>i):α))[j]? =some a:=⟨_,List.getElem?_eq_getElem (by omega)⟩
     have h1:=hL2.2 j a ha
     have h2:=closed_rep h1 (closedL_get (Dat.hclosed _) ha)
     have h3:=Conc.to w M _ j a _ ha h2
     rw[hdg i hi]
     rw[List.getD_eq_getElem?_getD,h3]
     rw[List.getD_eq_getElem?_getD,List.getElem?_map,List.getElem?_range hj]
     rfl
    have hcall:=hT rest vs'.toArray w M β cp hrest (by simpa using hr) g0 (cp b) d hrow (by omega)
    rw[hdl]at hcall
    refine hcall.mono ?_
    rintro e' w' ⟨rfl,d',hRd,hTu⟩
    have hd'l:d'.length=n ():=(hR d d' hRd).trans hdl
    obtain⟨cur',hc1,hc2,hc3⟩:=hTu.row _ _ _ hcell
    have hkeep:∀k,k<w.heap.size→¬M k→w'.heap[k]? =w.heap[k]? ∧¬M k:=fun k hk hM=>⟨hTu.other k hk (by rintro rfl;exact hM hMg),hM⟩
    have hle:n ()*Dat.sz α≤cur.size:=by rw[hcs];exact Nat.mul_le_mul_right _ hn1
    have hbd:∀i j,i<n ()→j<Dat.sz α→i*Dat.sz α+j<cur.size:=by
     intro i j hi hj
     have:=Nat.mul_le_mul_right (Dat.sz α) (show i+1≤n () by omega)
     rw[Nat.succ_mul]at this
     omega
    have hvo:ObjRel w' M β cp b (vecO (α:=α) e fun _=>d'):=by
     refine .inr ⟨g0,cur',hg0,hMg,hc1,by rw[hc2,hcs],⟨fun k hk=> ?_,fun i j hi hc hj=> ?_⟩,by show d'.length≤_;omega,hml,fun i hi=>Dat.hlen _,fun i j x hi hj=> ?_⟩
     ·have hk:k<d'.length*Dat.sz α:=hk
      rw[hd'l]at hk
      have hs0:0<Dat.sz α:=by
       rcases Nat.eq_zero_or_pos (Dat.sz α)with h|h
       ·rw[h]at hk;simp at hk
       ·exact h
      have e1:k/Dat.sz α*Dat.sz α+k%Dat.sz α=k:=by rw[Nat.mul_comm];exact Nat.div_add_mod k _
      have h1:k/Dat.sz α<n ():=Nat.div_lt_of_lt_mul (by rw[Nat.mul_comm];exact hk)
      have h2:=Nat.mod_lt k hs0
      rw[←e1,hc3 _ _ (by omega) h2 (hbd _ _ h1 h2),List.getD_eq_getElem?_getD,List.getElem?_eq_getElem (by rw[Conc.hlen];exact h2)]
      exact Conc.one _ _ (List.getElem_mem _)
     ·have hi:d'.length≤i:=hi
      have h1:(i+1)*Dat.sz α≤cp b*Dat.sz α:=Nat.mul_le_mul_right _ hc
      have h2:d'.length*Dat.sz α≤i*Dat.sz α:=Nat.mul_le_mul_right _ hi
      rw[Nat.succ_mul]at h1
      rw[hTu.stay _ _ _ _ _ _ hcell hc1 _ (by omega) (by omega)]
      exact hone.sp i j (by omega) hc hj
     ·have hi:i<d'.length:=hi
      have hj':j<Dat.sz α:=by
       have:=(List.getElem?_eq_some_iff.1 hj).1
       rwa [Dat.hlen]at this
      show RepC w' M x (cur'.getD (i*Dat.sz α+j) undef)
      rw[hc3 i j hi hj' (hbd i j (by omega) hj')]
      refine Conc.fro w' M (d'.getD i Dat.d0) j x _ hj ?_
      generalize d'.getD i Dat.d0=y
      have hl:j<(Conc.conc y).length:=by rw[Conc.hlen];exact hj'
      rw[List.getD_eq_getElem?_getD,List.getElem?_eq_getElem hl]
      rfl
    obtain⟨s1,s2⟩:=hh.set1 (w':=w') (M':=M) (O:=vecO e fun _=>d') hbs rfl hkeep hvo (fun g k _ hk=>by rw[hk.eq (by intro _ _ _ _ _ h;cases h)];exact .self _)
     (fun c x g k hne hc hlx hg hk=>⟨hTu.other k (hh.foot hc hlx hg hk).2 (hh.ne hne hc hbs hlx rfl hg hg0 hk),id⟩) (fun k hk=>Nat.lt_of_lt_of_le (hh.dom.1 k hk) hTu.size)
    exact⟨_,_,_,[],M,β,cp,rfl,hK d' hRd,s1,⟨hkeep,fun _ _ _=>⟨rfl,rfl⟩,⟨hTu.os,hTu.tape,hTu.out,hTu.size,fun k hk hB=>hTu.other k hk (by rintro rfl;exact hB ⟨b,_,_,hbs,rfl,hg0,.self _⟩),fun _ _ _ h=>h,fun _ h=> .inl h⟩,fun g' hg'=> .inl (s2 g' hg')⟩,.c (.tup [] #[] rfl fun j x hj=>by simp at hj)⟩
  ·cases hv
 ·cases hv
end
section
open Go.Sort
variable {P:Program}{α:Type} [Dat α] [Conc α] [Inhabited α]
theorem arr_ht {β:Type} [Inhabited β] (a:Array β) (d:β) {i:Nat}(h:i<a.size):a[i]! =a.toList.getD i d:=by
 rw[getElem!_pos a i h,List.getD_eq_getElem?_getD,List.getElem?_eq_getElem (by simpa using h)]
 rfl
theorem turns_mod {w:World}{blk:Nat}{F:Array Value}{os:Array Obj}{m:Nat}{d:List α}(hb:blk<w.heap.size) (hs:F.size=d.length*Dat.sz α)
  (hF:∀i j,i<d.length→j<Dat.sz α→F[i*Dat.sz α+j]! =(Conc.conc (d.getD i Dat.d0)).getD j undef):
  Turns α w (grow (putRow id (Go.Sort.ahead w m) blk 0 F) os) blk d:=by
 have hh:∀k,k<w.heap.size→(grow (putRow id (Go.Sort.ahead w m) blk 0 F) os).heap[k]? =(w.heap.modify blk (onCells (putCells id 0 F)))[k]? :=by
  intro k hk
  show((w.heap.modify blk (onCells (putCells id 0 F)))++os)[k]? =_
  rw[Array.getElem?_append_left (by simpa using hk)]
 refine⟨rfl,rfl,rfl, ?_,fun k hk hne=> ?_,fun cur t fr hc=> ?_,fun cur t fr cur' t' fr' hc hc' k h1 h2=> ?_⟩
 ·show _≤((w.heap.modify blk (onCells (putCells id 0 F)))++os).size
  simp
 ·rw[hh k hk,Array.getElem?_modify,if_neg (fun e=>hne e.symm)]
 ·refine⟨putCells id 0 F cur, ?_,by simp[putCells],fun i j hi hj hlt=> ?_⟩
  ·rw[hh blk hb,Array.getElem?_modify,if_pos rfl,hc];rfl
  ·have hl:i*Dat.sz α+j<F.size:=by
    rw[hs]
    have:=Nat.mul_le_mul_right (Dat.sz α) (show i+1≤d.length by omega)
    rw[Nat.succ_mul]at this
    omega
   rw[Array.getD_eq_getD_getElem?]
   unfold putCells
   rw[Array.getElem?_mapIdx,Array.getElem?_eq_getElem hlt,Option.map_some,if_pos ⟨Nat.zero_le _,by omega⟩,Nat.sub_zero,Option.getD_some]
   exact hF i j hi hj
 ·rw[hh blk hb,Array.getElem?_modify,if_pos rfl,hc]at hc'
  cases hc'
  rw[Array.getD_eq_getD_getElem?,Array.getD_eq_getD_getElem?]
  unfold putCells
  rw[Array.getElem?_mapIdx,Array.getElem?_eq_getElem h2,Option.map_some,if_neg (by omega)]
end
end Go.Abs
