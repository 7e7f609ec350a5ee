/- Contracts of functions that are handed no object of their caller's, and how they are called. -/
import Derived.Test.YtiaiifcgbjlfoaaGreatDoorAbsG5
set_option linter.all false
namespace Go.Abs
open Go
variable [Kd]
mutual
def AV.shift (n:Nat):AV→AV
 | .own b k=> .own (b+n) k
 | .vw b sz p k=> .vw (b+n) sz p k
 | .nn b k=> .nn (b+n) k
 | .ept b sz i o=> .ept (b+n) sz i o
 | .ptr b o=> .ptr (b+n) o
 | .mr b=> .mr (b+n)
 | .agg l=> .agg (qCW n l)
 | .tup l=> .tup (qCW n l)
 | .fn f l=> .fn f (qCW n l)
 | .fm _ _=> .any
 | .ifc t x=> .ifc t (x.shift n)
 | .ite c x y=> .ite c (x.shift n) (y.shift n)
 |x=>x
def qCW (n:Nat):List AV→List AV
 |[]=>[]
 |x::r=>x.shift n::qCW n r
end
def AObj.shift (n:Nat):AObj→AObj
 | .blk l=> .blk (qCW n l)
 | .nst e sz m F op=> .nst e sz m F (opMap (qCW n) op)
 |o=>o
def qCb (n:Nat):Hp→Hp
 |[]=>[]
 |o::r=>o.shift n::qCb n r
mutual
def qCk:AV→Bool
 | .sl _ _ _| .rp _| .fm _ _=>false
 | .agg l| .tup l| .fn _ l=>qD0 l
 | .ifc _ x=>qCk x
 | .ite _ x y=>match qCk x with|true=>qCk y|false=>false
 |_=>true
def qD0:List AV→Bool
 |[]=>true
 |x::r=>match qCk x with|true=>qD0 r|false=>false
end
def qNI:AObj→Prop
 | .dead=>True
 | .blk l=>qD0 l=true
 | .vec _ _ n f=>AllN n fun i=>qD0 (f fun _=>i)=true
 | .fz _ n f=>AllN n fun i=>qD0 (f fun _=>i)=true
 | .mp _ _=>True
 | .nst _ _ _ _ _=>Bad 250
def qNJ:Hp→Prop
 |[]=>True
 |o::r=>Both (qNI o) (qNJ r)
def ptC:List AV→AV
 |[]=> .any
 |l=> .rp l
mutual
def qRM:NC→AV
 | .c x=>x
 | .sl _ sz n f=>match Nat.blt 0 sz with
   |true=> .sl sz n f
   |false=> .any
 | .pt l=>ptC (qFh l)
 | .ite c x y=> .ite c (qRM x) (qRM y)
def qFh:List NC→List AV
 |[]=>[]
 |x::r=>qRM x::qFh r
end
def lower (h:Hp):AV→Option (List (Th Prop)×List Nat×AV)
 | .own b n=>match nth .dead h b with
   | .vec _ sz m f=>match Nat.blt 0 sz with
     |true=>some ([fun _=>n ()≤m ()],[b],.sl sz n f)
     |false=>none
   | .nst _ sz m F none=>match Nat.blt 0 sz with
     |true=>some ([fun _=>n ()≤m ()],[b],.sl sz n fun i=>qFh (F i))
     |false=>none
   |_=>none
 | .vw b sz' p n=>match nth .dead h b with
   | .vec _ sz m f=>match Nat.blt 0 sz,Nat.beq sz' sz with
     |true,true=>some ([fun _=>p ()+n ()≤m ()],[b],.sl sz n fun k=>f fun _=>k ()+p ())
     |_,_=>none
   |_=>none
 | .agg l=>match lowerL h l with
   |some (q,d,l')=>some (q,d,.agg l')
   |none=>none
 |x=>some ([],[],x)
where lowerL (h:Hp):List AV→Option (List (Th Prop)×List Nat×List AV)
 |[]=>some ([],[],[])
 |x::r=>match lower h x,lowerL h r with
  |some (q,d,y),some (q',d',l)=>some (q++q',d++d',y::l)
  |_,_=>none
def obs:List (Th Prop)→Prop→Prop
 |[],p=>p
 |q::r,p=>Ob q (obs r p)
abbrev PC:=List AV→(AV→Hp→Prop)→Prop
def qLm (low:Hp→List AV→Option (List (Th Prop)×List Nat×List AV)) (pc:PC):Con:=fun A H K=>
 match low H A with
 |some (q,d,A')=>obs q (match qL A' with
  |true=>pc A' fun r H'=>match d with
   |[]=>K (r.shift (len H)) (H++qCb (len H) H') []
   |_::_=>Both (qCk r=true) (Both (qNJ H') (K (r.shift (len H)) (H++qCb (len H) H') []))
  |false=>Bad 200)
 |none=>Bad 201
def qH (pc:PC):Con:=fun A H K=>
 match lower.lowerL H A with
 |some (q,d,A')=>obs q (match qL A' with
  |true=>pc A' fun r H'=>match d with
   |[]=>K (r.shift (len H)) (H++qCb (len H) H') []
   |_::_=>Both (qCk r=true) (Both (qNJ H') (K (r.shift (len H)) (H++qCb (len H) H') []))
  |false=>Bad 200)
 |none=>Bad 201
def qBf (P:Program) (f:FuncId) (pc:PC):Prop:=∀A PK,pc A PK→qO P f A [] fun r H _=>PK r H
section
variable {P:Program}{w w':World}{M M':Nat→Prop}{β β':Nat→Option Nat}{cp cp':Nat→Nat}{h:Hp}
mutual
theorem qCs {n:Nat}{β2:Nat→Option Nat}{cp2:Nat→Nat}(hβ:∀b,β b≠none→β2 (b+n)=β b∧cp2 (b+n)=cp b):∀(x:AV) (v:Value),Rep w M β cp x v→Rep w M β2 cp2 (x.shift n) v
 | .any,v,_=> .c (.any v)
 | .bc p,v,hr=>by cases hr with|c h=>exact .c h
 | .b p,v,hr=>by cases hr with|c h=>exact .c h
 | .i k n,v,hr=>by cases hr with|c h=>exact .c h
 | .s x,v,hr=>by cases hr with|c h=>exact .c h
 | .nil,v,hr=>by cases hr with|c h=>exact .c h
 | .con x,v,hr=>by cases hr with|c h=>exact .c h
 | .sl sz n f,v,hr=>by cases hr with|c h=>exact .c h
 | .rp l,v,hr=>by cases hr with|c h=>exact .c h
 | .agg l,v,hr=>by
   obtain⟨cs,rfl,hL,ho⟩:=qBs hr
   have:=qBS hβ l _ hL
   exact .agg _ cs (by simpa using this.1) (fun v hv=>ho v (by simpa using hv)) fun j x hj=>by rw[qG];exact this.2 j x hj
 | .tup l,v,hr=>by
   obtain⟨cs,rfl,hL⟩:=qBG hr
   have:=qBS hβ l _ hL
   exact .tup _ cs (by simpa using this.1) fun j x hj=>by rw[qG];exact this.2 j x hj
 | .fm _ _,v,hr=> .c (.any v)
 | .fn f l,v,hr=>by
   obtain⟨cs,rfl,hL⟩:=qDQ hr
   have:=qBS hβ l _ hL
   exact .fn f _ cs (by simpa using this.1) fun j x hj=>by rw[qG];exact this.2 j x hj
 | .ifc t x,v,hr=>by
   obtain⟨u,rfl,h⟩:=qCO hr
   exact .ifc t _ u (qCs hβ x u h)
 | .ptr c o,v,hr=>by
   obtain⟨g,hg,rfl⟩:=qA7 hr
   exact .ptr _ o g (by rw[(hβ c (by simp[hg])).1];exact hg)
 | .mr c,v,hr=>by
   obtain⟨g,hg,rfl⟩:=qE2 hr
   exact .mr _ g (by rw[(hβ c (by simp[hg])).1];exact hg)
 | .ept c sz i o,v,hr=>by
   obtain⟨g,hg,rfl⟩:=qBH hr
   exact .ept _ sz i o g (by rw[(hβ c (by simp[hg])).1];exact hg)
 | .own c m,v,hr=>by
   rcases qW hr with⟨h0,rfl⟩|⟨g,hg,hn,rfl⟩
   ·exact .own0 _ m h0
   ·have h1:=hβ c (by simp[hg])
    rw[←h1.2]
    exact .own _ m g (by rw[h1.1];exact hg) (by rw[h1.2];exact hn)
 | .nn c m,v,hr=>by
   obtain⟨g,hg,hn,rfl⟩:=qBK hr
   have h1:=hβ c (by simp[hg])
   rw[←h1.2]
   exact .nn _ m g (by rw[h1.1];exact hg) (by rw[h1.2];exact hn)
 | .vw c sz p m,v,hr=>by
   rcases qB8 hr with⟨h0,a,c',hc',rfl⟩|⟨g,hg,hn,rfl⟩
   ·exact .vw0 _ sz p m a c' h0 hc'
   ·have h1:=hβ c (by simp[hg])
    rw[←h1.2]
    exact .vw _ sz p m g (by rw[h1.1];exact hg) (by rw[h1.2];exact hn)
 | .ite c x y,v,hr=>by
   have key:(c ()=true→Rep w M β cp x v)∧(c ()=false→Rep w M β cp y v):=by
    cases hr with
    |c h=>cases h with|ite _ _ _ _ h1 h2=>exact⟨fun h=> .c (h1 h),fun h=> .c (h2 h)⟩
    |ite _ _ _ _ h1 h2=>exact⟨h1,h2⟩
   exact .ite c _ _ v (fun hc=>qCs hβ x v (key.1 hc)) (fun hc=>qCs hβ y v (key.2 hc))
theorem qBS {n:Nat}{β2:Nat→Option Nat}{cp2:Nat→Nat}(hβ:∀b,β b≠none→β2 (b+n)=β b∧cp2 (b+n)=cp b):∀(l:List AV) (vs:List Value),qAs w M β cp l vs→qAs w M β2 cp2 (qCW n l) vs
 |[],vs,hr=>⟨hr.1,fun j x hj=>by simp[qCW]at hj⟩
 |x::l,vs,hr=>by
  match vs,hr with
  |[],hr=>exact absurd hr.1 (by simp)
  |u::vs,hr=>
   have hx:=qCs hβ x u (by have:=hr.2 0 x rfl;simpa using this)
   have:=qBS hβ l vs ⟨by have:=hr.1;simp at this;omega,fun j x hj=>by have:=hr.2 (j+1) x (by simpa using hj);simpa using this⟩
   refine⟨by have:=this.1;simp[qCW];omega,fun j z hj=> ?_⟩
   cases j with
   |zero=>simp[qCW]at hj;subst hj;simpa using hx
   |succ j=>have:=this.2 j z (by simpa[qCW]using hj);simpa using this
end
theorem qAD:∀{l:List AV},qD0 l=true→∀{j:Nat}{y:AV},l[j]? =some y→qCk y=true
 |[],_,j,y,h=>by simp at h
 |x::r,hc,j,y,hj=>by
  simp only[qD0]at hc
  split at hc
  ·rename_i h1
   cases j with
   |zero=>simp at hj;subst hj;exact h1
   |succ j=>exact qAD hc (by simpa using hj)
  ·cases hc
theorem qBD {x:AV}{v:Value}(hr:RepC w M x v):qCk x=true→RepC w M' x v:=by
 induction hr with
 |any v=>exact fun _=> .any v
 |bc b=>exact fun _=> .bc b
 |b x=>exact fun _=> .b x
 |i k n=>exact fun _=> .i k n
 |s x=>exact fun _=> .s x
 |nil=>exact fun _=> .nil
 |ite c x y v h1 h2 ih1 ih2=>
  intro hc
  simp only[qCk]at hc
  split at hc
  ·rename_i q;exact .ite c x y v (fun h=>ih1 h q) (fun h=>ih2 h hc)
  ·cases hc
 |con x hx=>exact fun _=> .con x hx
 |agg l cs hl ho h ih=>exact fun hc=> .agg l cs hl ho fun j x hj=>ih j x hj (qAD (by simpa[qCk]using hc) hj)
 |tup l cs hl h ih=>exact fun hc=> .tup l cs hl fun j x hj=>ih j x hj (qAD (by simpa[qCk]using hc) hj)
 |fn f l cs hl h ih=>exact fun hc=> .fn f l cs hl fun j x hj=>ih j x hj (qAD (by simpa[qCk]using hc) hj)
 |ifc t x v h ih=>exact fun hc=> .ifc t x v (ih (by simpa[qCk]using hc))
 |sl0 sz n f a c hn hc=>intro hc;simp[qCk]at hc
 |sl sz n f a c u hM hsz hn hc hlen hcell ho h ih=>intro hc;simp[qCk]at hc
 |rp l a u hM hl hcell ho h ih=>intro hc;simp[qCk]at hc
theorem qHD {x:AV}{v:Value}(hr:Rep w M β cp x v):qCk x=true→Rep w M' β cp x v:=by
 induction hr with
 |c h=>exact fun hc=> .c (qBD h hc)
 |ite c x y v h1 h2 ih1 ih2=>
  intro hc
  simp only[qCk]at hc
  split at hc
  ·rename_i q;exact .ite c x y v (fun h=>ih1 h q) (fun h=>ih2 h hc)
  ·cases hc
 |agg l cs hl ho h ih=>exact fun hc=> .agg l cs hl ho fun j x hj=>ih j x hj (qAD (by simpa[qCk]using hc) hj)
 |tup l cs hl h ih=>exact fun hc=> .tup l cs hl fun j x hj=>ih j x hj (qAD (by simpa[qCk]using hc) hj)
 |fn f l cs hl h ih=>exact fun hc=> .fn f l cs hl fun j x hj=>ih j x hj (qAD (by simpa[qCk]using hc) hj)
 |ifc t x v h ih=>exact fun hc=> .ifc t x v (ih (by simpa[qCk]using hc))
 |ptr b o g h=>exact fun _=> .ptr b o g h
 |mr b g h=>exact fun _=> .mr b g h
 |fm ks vs g es clk u hM hc hn hl he h ih=>intro hc';simp[qCk]at hc'
 |ept b sz i o g h=>exact fun _=> .ept b sz i o g h
 |own0 b n hn=>exact fun _=> .own0 b n hn
 |own b n g h hn=>exact fun _=> .own b n g h hn
 |nn b n g h hn=>exact fun _=> .nn b n g h hn
 |vw0 b sz p n a c hn hc=>exact fun _=> .vw0 b sz p n a c hn hc
 |vw b sz p n g h hn=>exact fun _=> .vw b sz p n g h hn
theorem qGR {n:Nat}:∀(H:Hp) (c:Nat),(qCb n H)[c]? =(H[c]?).map (·.shift n)
 |[],_=>by simp[qCb]
 |o::r,0=>by simp[qCb]
 |o::r,c+1=>by simp[qCb,qGR r c]
theorem qGS {n:Nat}:∀(H:Hp),(qCb n H).length=H.length
 |[]=>rfl
 |o::r=>by simp[qCb,qGS r]
theorem qI5:∀{H:Hp},qNJ H→∀{c:Nat}{o:AObj},H[c]? =some o→qNI o
 |[],_,c,o,h=>by simp at h
 |x::r,hc,c,o,ho=>by
  cases hc with
  |mk h1 h2=>
   cases c with
   |zero=>simp at ho;subst ho;exact h1
   |succ c=>exact qI5 h2 (by simpa using ho)
def qF6 (w:World) (h:Hp) (β:Nat→Option Nat) (d:List Nat) (k:Nat):Prop:=∃b,b∈d∧∃g,β b=some g∧Foot w g (nth .dead h b) k
theorem qKj:∀{q:List (Th Prop)}{p:Prop},obs q p→(∀x∈q,x ())∧p
 |[],p,h=>⟨by simp,h⟩
 |x::q,p,h=>by
  cases h with
  |mk h1 h2=>
   have:=qKj h2
   exact⟨by intro y hy;rcases List.mem_cons.1 hy with rfl|hy;exact h1;exact this.1 y hy,this.2⟩
theorem qF7:∀(l:List NC) (j:Nat),(qFh l)[j]? =(l[j]?).map qRM
 |[],j=>by simp[qFh]
 |x::r,0=>by simp[qFh]
 |x::r,j+1=>by simp[qFh,qF7 r j]
theorem qF8:∀(l:List NC),(qFh l).length=l.length
 |[]=>rfl
 |x::r=>by simp[qFh,qF8 r]
theorem qP1 {x:NC}{v:Value}(hr:OwnV w M x v):(∀k,M' k→M k)→(∀k,VFoot w x v k→¬M' k)→RepC w M' (qRM x) v:=by
 induction hr with
 |c x v h=>exact fun hM _=>h.keep fun k _ hk=>⟨rfl,fun h=>hk (hM k h)⟩
 |nil e sz n f hn=>
  intro hM hF
  unfold qRM
  split
  ·exact .sl0 sz n f none 0 hn (Nat.zero_le _)
  ·exact .any _
 |sl e sz n f g c cur hg hc hs ho hn hm hl h=>
  intro hM hF
  unfold qRM
  split
  ·rename_i q
   have h0:0<sz:=qQ.1 q
   have hlt:∀i j,i<n ()→j<sz→i*sz+j<n ()*sz:=by
    intro i j hi hj
    have:=Nat.mul_le_mul_right sz (show i+1≤n () by omega)
    rw[Nat.succ_mul]at this
    omega
   have hle2:n ()*sz≤cur.size:=by rw[hs];exact Nat.mul_le_mul_right _ hn
   refine .sl sz n f ⟨g,0,none⟩ c (fun i j=>cur.getD (i*sz+j) undef) (hF g (.sl e sz n f ⟨g,0,none⟩ (n ()) c)) h0 hn hm hl (fun i j hi hj=> ?_) (fun i j hi hj=>ho.one _ (hlt i j hi hj)) fun i j x hi hj=>(h i j x hi hj).keep fun k _ hk=>⟨rfl,fun h=>hk (hM k h)⟩
   have:=hlt i j hi hj
   have h3:i*sz+j<cur.size:=by omega
   rw[addr_add,Nat.zero_add,cell_of_row hc h3]
   simp[h3]
  ·exact .any _
 |pt l g cur t hg hc h1 hl h hd hne ih=>
  intro hM hF
  have hgM:¬M' g:=hF g (.pt l ⟨g,0,none⟩)
  unfold qRM
  have e:∀l0,qFh l=l0→RepC w M' (ptC l0) (.pointer (some ⟨g,0,none⟩)):=by
   intro l0 e0
   have hln:l0.length=l.length:=by rw[←e0,qF8]
   cases l0 with
   |nil=>exact .any _
   |cons y r=>
    refine .rp (y::r) ⟨g,0,none⟩ (fun j=>cur.getD j undef) hgM (by simp) (fun j hj=> ?_) (fun j hj=> ?_) fun j x hj=> ?_
    ·have h3:j<cur.size:=by omega
     rw[addr_add,Nat.zero_add,cell_of_row hc h3]
     simp[h3]
    ·have h3:j<cur.size:=by omega
     have:cur.getD j undef=cur[j]:=by simp[h3]
     rw[this]
     exact h1 _ (Array.getElem_mem _)
    ·rw[←e0,qF7]at hj
     cases hz:l[j]? with
     |none=>rw[hz]at hj;cases hj
     |some z=>
      rw[hz]at hj
      cases hj
      exact ih j z hz hM fun k hk=>hF k (.inn l ⟨g,0,none⟩ cur t (0,0) j z k hc hz hk)
  exact e _ rfl
 |ite c x y v h1 h2 ih1 ih2=>
  intro hM hF
  exact .ite c _ _ v (fun hc=>ih1 hc hM fun k hk=>hF k (.ite1 c x y v k hc hk)) (fun hc=>ih2 hc hM fun k hk=>hF k (.ite2 c x y v k hc hk))
theorem qAc {x y:AV}{q:List (Th Prop)}{d D:List Nat}{v:Value}(hl:lower h x=some (q,d,y)) (hs:lower h x=some ([],[],x)) (hr:Rep w M β cp x v):Rep w (fun k=>M k∧¬qF6 w h β D k) β cp y v:=by
 rw[hs]at hl
 simp only[Option.some.injEq,Prod.mk.injEq]at hl
 obtain⟨rfl,rfl,rfl⟩:=hl
 exact hr.keep (fun k _ hM=>⟨rfl,fun h=>hM h.1⟩) fun _ _=>⟨rfl,rfl⟩
mutual
theorem qD1 (hh:HeapRel w M β cp h):∀(x:AV) (q:List (Th Prop)) (d:List Nat) (y:AV),lower h x=some (q,d,y)→(∀p∈q,p ())→∀(D:List Nat),(∀b∈d,b∈D)→∀(v:Value),Rep w M β cp x v→
  Rep w (fun k=>M k∧¬qF6 w h β D k) β cp y v
 | .own b n,q,d,y,hl,hq,D,hD,v,hr=>by
   simp only[lower]at hl
   split at hl
   ·rename_i et sz m f hb
    split at hl
    case h_2=>cases hl
    rename_i qs
    have hs0:0<sz:=qQ.1 qs
    simp only[Option.some.injEq,Prod.mk.injEq]at hl
    obtain⟨rfl,rfl,rfl⟩:=hl
    have hnm:n ()≤m ():=hq (fun _=>n ()≤m ()) (by simp)
    have hbD:b∈D:=hD b (by simp)
    rcases qW hr with⟨h0,rfl⟩|⟨g,hg,hn,rfl⟩
    ·exact .c (.sl0 sz n f none 0 h0 (by unfold maxLen;omega))
    ·rcases hh.obj b _ (qJ hb rfl)with⟨e1,_⟩|⟨g',cur,e1,e2,e3,e4,e5,e6,e7,e8,e9⟩
     ·rw[hg]at e1;cases e1
     ·rw[hg]at e1;cases e1
      by_cases h0:n ()=0
      ·rw[h0];exact .c (.sl0 sz n f _ _ h0 e7)
      ·have hk:∀k,k<w.heap.size→¬M k→w.heap[k]? =w.heap[k]? ∧¬(M k∧¬qF6 w h β D k):=fun k _ hM=>⟨rfl,fun h=>hM h.1⟩
       ·have hlt:∀i j,i<n ()→j<sz→i*sz+j<n ()*sz:=by
         intro i j hi hj
         have:=Nat.mul_le_mul_right sz (show i+1≤n () by omega)
         rw[Nat.succ_mul]at this
         omega
        have hle:n ()*sz≤m ()*sz:=Nat.mul_le_mul_right _ hnm
        have hle2:n ()*sz≤cur.size:=by rw[e4];exact Nat.mul_le_mul_right _ (by omega)
        refine .c (.sl sz n f ⟨g,0,none⟩ (cp b) (fun i j=>cur.getD (i*sz+j) undef) (fun h=>h.2 ⟨b,hbD,g,hg,.self _⟩) hs0 hn e7 (fun i hi=>e8 i (by omega)) (fun i j hi hj=> ?_) (fun i j hi hj=>e5.one _ (by have:=hlt i j hi hj;omega)) fun i j x hi hj=>(e9 i j x (by omega) hj).keep hk)
        have:=hlt i j hi hj
        have h3:i*sz+j<cur.size:=by omega
        rw[addr_add,Nat.zero_add,cell_of_row e3 h3]
        simp[h3]
   ·rename_i et sz m F hb
    split at hl
    case h_2=>cases hl
    rename_i qs
    have hs0:0<sz:=qQ.1 qs
    simp only[Option.some.injEq,Prod.mk.injEq]at hl
    obtain⟨rfl,rfl,rfl⟩:=hl
    have hnm:n ()≤m ():=hq (fun _=>n ()≤m ()) (by simp)
    have hbD:b∈D:=hD b (by simp)
    rcases qW hr with⟨h0,rfl⟩|⟨g,hg,hn,rfl⟩
    ·exact .c (.sl0 sz n _ none 0 h0 (by unfold maxLen;omega))
    ·rcases hh.obj b _ (qJ hb rfl)with⟨e1,_⟩|⟨g',cur,e1,r⟩
     ·rw[hg]at e1;cases e1
     ·rw[hg]at e1;cases e1
      by_cases h0:n ()=0
      ·rw[h0];exact .c (.sl0 sz n _ _ _ h0 r.max)
      ·have hlt:∀i j,i<n ()→j<sz→i*sz+j<n ()*sz:=by
        intro i j hi hj
        have:=Nat.mul_le_mul_right sz (show i+1≤n () by omega)
        rw[Nat.succ_mul]at this
        omega
       have hle:n ()*sz≤m ()*sz:=Nat.mul_le_mul_right _ hnm
       have hle2:m ()*sz≤cur.size:=by rw[r.size];exact Nat.mul_le_mul_right _ r.le
       have e3:=r.cell
       have hL:∀k,Foot w g (.nst et sz m F none) k→qF6 w h β D k:=fun k hk=>⟨b,hbD,g,hg,by rw[hb];exact hk⟩
       refine .c (.sl sz n _ ⟨g,0,none⟩ (cp b) (fun i j=>cur.getD (i*sz+j) undef) (fun h=>h.2 (hL g (.self _))) hs0 hn r.max (fun i hi=>by rw[qF8];exact r.len i (by omega) id) (fun i j hi hj=> ?_) (fun i j hi hj=>r.ones.one _ (by have:=hlt i j hi hj;omega)) fun i j x hi hj=> ?_)
       ·have:=hlt i j hi hj
        have h3:i*sz+j<cur.size:=by omega
        rw[addr_add,Nat.zero_add,cell_of_row e3 h3]
        simp[h3]
       ·rw[qF7]at hj
        cases hz:(F fun _=>i)[j]? with
        |none=>rw[hz]at hj;cases hj
        |some z=>
         rw[hz]at hj
         cases hj
         exact qP1 (r.own i j z (by omega) id hz) (fun k hk=>hk.1) fun k hk h=>h.2 (hL k (.inn _ _ _ _ _ cur i j z k e3 (by omega) id hz hk))
   ·cases hl
 | .vw b sz' p n,q,d,y,hl,hq,D,hD,v,hr=>by
   simp only[lower]at hl
   split at hl
   ·rename_i et sz m f hb
    split at hl
    case h_2=>cases hl
    rename_i qs qz
    have hs0:0<sz:=qQ.1 qs
    have qz:=qC.1 qz
    subst qz
    simp only[Option.some.injEq,Prod.mk.injEq]at hl
    obtain⟨rfl,rfl,rfl⟩:=hl
    have hnm:p ()+n ()≤m ():=hq (fun _=>p ()+n ()≤m ()) (by simp)
    have hbD:b∈D:=hD b (by simp)
    rcases qB8 hr with⟨h0,a,c,hc,rfl⟩|⟨g,hg,hn,rfl⟩
    ·exact .c (.sl0 _ n _ a c h0 hc)
    ·rcases hh.obj b _ (qJ hb rfl)with⟨e1,_⟩|⟨g',cur,e1,e2,e3,e4,e5,e6,e7,e8,e9⟩
     ·rw[hg]at e1;cases e1
     ·rw[hg]at e1;cases e1
      by_cases h0:n ()=0
      ·rw[h0];exact .c (.sl0 _ n _ _ _ h0 (by omega))
      ·have hk:∀k,k<w.heap.size→¬M k→w.heap[k]? =w.heap[k]? ∧¬(M k∧¬qF6 w h β D k):=fun k _ hM=>⟨rfl,fun h=>hM h.1⟩
       have hlt:∀i j,i<n ()→j<sz'→(i+p ())*sz'+j<(p ()+n ())*sz':=by
        intro i j hi hj
        have:=Nat.mul_le_mul_right sz' (show i+p ()+1≤p ()+n () by omega)
        rw[Nat.succ_mul]at this
        omega
       have hle:(p ()+n ())*sz'≤m ()*sz':=Nat.mul_le_mul_right _ hnm
       have hle2:(p ()+n ())*sz'≤cur.size:=by rw[e4];exact Nat.mul_le_mul_right _ (by omega)
       refine .c (.sl sz' n (fun k=>f fun _=>k ()+p ()) ⟨g,p ()*sz',none⟩ (cp b-p ()) (fun i j=>cur.getD ((i+p ())*sz'+j) undef) (fun h=>h.2 ⟨b,hbD,g,hg,.self _⟩) hs0 (by omega) (by omega) (fun i hi=>e8 (i+p ()) (by omega)) (fun i j hi hj=> ?_) (fun i j hi hj=>e5.one _ (by have:=hlt i j hi hj;omega)) fun i j x hi hj=>(e9 (i+p ()) j x (by omega) hj).keep hk)
       have:=hlt i j hi hj
       have h3:(i+p ())*sz'+j<cur.size:=by omega
       rw[addr_add,show p ()*sz'+(i*sz'+j)=(i+p ())*sz'+j by rw[Nat.add_mul];omega,cell_of_row e3 h3]
       simp[h3]
   ·cases hl
 | .agg l,q,d,y,hl,hq,D,hD,v,hr=>by
   simp only[lower]at hl
   split at hl
   ·rename_i q' d' l' hl'
    simp only[Option.some.injEq,Prod.mk.injEq]at hl
    obtain⟨rfl,rfl,rfl⟩:=hl
    obtain⟨cs,rfl,hL,ho⟩:=qBs hr
    have:=qBa hh l q' d' l' hl' hq D hD _ hL
    exact .agg _ cs (by simpa using this.1) (fun v hv=>ho v (by simpa using hv)) fun j x hj=>by rw[qG];exact this.2 j x hj
   ·cases hl
 | .any,q,d,y,hl,hq,D,hD,v,hr=>qAc hl (by rfl) hr
 | .bc _,q,d,y,hl,hq,D,hD,v,hr=>qAc hl (by rfl) hr
 | .b _,q,d,y,hl,hq,D,hD,v,hr=>qAc hl (by rfl) hr
 | .i _ _,q,d,y,hl,hq,D,hD,v,hr=>qAc hl (by rfl) hr
 | .s _,q,d,y,hl,hq,D,hD,v,hr=>qAc hl (by rfl) hr
 | .nil,q,d,y,hl,hq,D,hD,v,hr=>qAc hl (by rfl) hr
 | .con _,q,d,y,hl,hq,D,hD,v,hr=>qAc hl (by rfl) hr
 | .tup _,q,d,y,hl,hq,D,hD,v,hr=>qAc hl (by rfl) hr
 | .ifc _ _,q,d,y,hl,hq,D,hD,v,hr=>qAc hl (by rfl) hr
 | .ptr _ _,q,d,y,hl,hq,D,hD,v,hr=>qAc hl (by rfl) hr
 | .mr _,q,d,y,hl,hq,D,hD,v,hr=>qAc hl (by rfl) hr
 | .fm _ _,q,d,y,hl,hq,D,hD,v,hr=>qAc hl (by rfl) hr
 | .ept _ _ _ _,q,d,y,hl,hq,D,hD,v,hr=>qAc hl (by rfl) hr
 | .nn _ _,q,d,y,hl,hq,D,hD,v,hr=>qAc hl (by rfl) hr
 | .sl _ _ _,q,d,y,hl,hq,D,hD,v,hr=>qAc hl (by rfl) hr
 | .rp _,q,d,y,hl,hq,D,hD,v,hr=>qAc hl (by rfl) hr
 | .fn _ _,q,d,y,hl,hq,D,hD,v,hr=>qAc hl (by rfl) hr
 | .ite _ _ _,q,d,y,hl,hq,D,hD,v,hr=>qAc hl (by rfl) hr
theorem qBa (hh:HeapRel w M β cp h):∀(l:List AV) (q:List (Th Prop)) (d:List Nat) (l':List AV),lower.lowerL h l=some (q,d,l')→(∀p∈q,p ())→∀(D:List Nat),(∀b∈d,b∈D)→∀(vs:List Value),qAs w M β cp l vs→
  qAs w (fun k=>M k∧¬qF6 w h β D k) β cp l' vs
 |[],q,d,l',hl,hq,D,hD,vs,hr=>by
  simp only[lower.lowerL,Option.some.injEq,Prod.mk.injEq]at hl
  obtain⟨rfl,rfl,rfl⟩:=hl
  exact⟨hr.1,fun j x hj=>by simp at hj⟩
 |x::l,q,d,l',hl,hq,D,hD,vs,hr=>by
  simp only[lower.lowerL]at hl
  split at hl
  ·rename_i q1 d1 y q2 d2 l2 h1 h2
   simp only[Option.some.injEq,Prod.mk.injEq]at hl
   obtain⟨rfl,rfl,rfl⟩:=hl
   match vs,hr with
   |[],hr=>exact absurd hr.1 (by simp)
   |u::vs,hr=>
    have hx:=qD1 hh x q1 d1 y h1 (fun p hp=>hq p (by simp[hp])) D (fun b hb=>hD b (by simp[hb])) u (by have:=hr.2 0 x rfl;simpa using this)
    have:=qBa hh l q2 d2 l2 h2 (fun p hp=>hq p (by simp[hp])) D (fun b hb=>hD b (by simp[hb])) vs ⟨by have:=hr.1;simp at this;omega,fun j x hj=>by have:=hr.2 (j+1) x (by simpa using hj);simpa using this⟩
    refine⟨by have:=this.1;simp;omega,fun j z hj=> ?_⟩
    cases j with
    |zero=>simp at hj;subst hj;simpa using hx
    |succ j=>have:=this.2 j z (by simpa using hj);simpa using this
  ·cases hl
end
theorem qGT {h:Hp}:∀(l:List AV) (q:List (Th Prop)) (d:List Nat) (l':List AV),lower.lowerL h l=some (q,d,l')→l'.length=l.length
 |[],q,d,l',hl=>by simp only[lower.lowerL,Option.some.injEq,Prod.mk.injEq]at hl;obtain⟨_,_,rfl⟩:=hl;rfl
 |x::r,q,d,l',hl=>by
  simp only[lower.lowerL]at hl
  split at hl
  ·rename_i q1 d1 y q2 d2 l2 h1 h2
   simp only[Option.some.injEq,Prod.mk.injEq]at hl
   obtain⟨_,_,rfl⟩:=hl
   simp[qGT r _ _ _ h2]
  ·cases hl
def qDn (h:Hp):AV→Option (List (Th Prop)×List Nat×AV)
 | .ptr b 0=>match nth .dead h b with
   | .blk cs=>match lower.lowerL h cs with
     |some (q,d,cs')=>match qL cs',Nat.blt 0 (len cs')with
      |true,true=>some (q,b::d,.rp cs')
      |_,_=>none
     |none=>none
   |_=>none
 |x=>match closed x with
  |true=>some ([],[],x)
  |false=>none
theorem qI6 (hh:HeapRel w M β cp h) {x y:AV}{q:List (Th Prop)}{d:List Nat}(hl:qDn h x=some (q,d,y)) (hq:∀p∈q,p ()) {D:List Nat}(hD:∀b∈d,b∈D) {v:Value}(hr:Rep w M β cp x v):
  RepC w (fun k=>M k∧¬qF6 w h β D k) y v:=by
 unfold qDn at hl
 split at hl
 ·rename_i b
  split at hl
  ·rename_i cs hb
   split at hl
   ·rename_i q' d' cs' hlow
    split at hl
    ·rename_i hcl hlt
     simp only[Option.some.injEq,Prod.mk.injEq]at hl
     obtain⟨rfl,rfl,rfl⟩:=hl
     obtain⟨g,hg,rfl⟩:=qA7 hr
     obtain⟨g',cur,t,e1,e2,e3,e4,e5⟩:=hh.obj b _ (qJ hb rfl)
     rw[hg]at e1;cases e1
     have hL:=qBa hh cs _ _ _ hlow hq D (fun b hb=>hD b (by simp[hb])) _ e4
     have hlen:=qGT _ _ _ _ hlow
     have hsz:cs'.length=cur.size:=by have:=e4.1;simp at this;omega
     have h0:0<cs'.length:=by rw[←qK];exact qQ.1 hlt
     refine .rp cs' ⟨g,0,none⟩ (fun j=>cur.getD j undef) (fun h=>h.2 ⟨b,hD b (by simp),g,hg,.self _⟩) h0 (fun j hj=> ?_) (fun j hj=> ?_) fun j x hj=> ?_
     ·rw[addr_add,Nat.zero_add,cell_of_row e3 (by omega)]
      simp[show j<cur.size by omega]
     ·have hj2:j<cur.size:=by omega
      have:cur.getD j undef=cur[j]:=by simp[hj2]
      rw[this]
      exact e5.one _ (Array.getElem_mem _)
     ·have h1:=qR (hL.2 j x hj) (qT hcl hj)
      rw[qG]
      exact h1
    ·cases hl
   ·cases hl
  ·cases hl
 ·split at hl
  ·rename_i hc
   simp only[Option.some.injEq,Prod.mk.injEq]at hl
   obtain⟨rfl,rfl,rfl⟩:=hl
   exact(qR hr hc).keep fun k _ hM=>⟨rfl,fun h=>hM h.1⟩
  ·cases hl
theorem qEE {m g k:Nat}{x:AObj}(hk:Foot w g (x.shift m) k):Foot w g x k:=by
 cases x with
 |nst e sz n F op=>exact qBQ hk
 |_=>cases hk;exact .self _
theorem qKk {low:Hp→List AV→Option (List (Th Prop)×List Nat×List AV)}(hlow:∀(w:World) (M:Nat→Prop) (β:Nat→Option Nat) (cp:Nat→Nat) (h:Hp) (A:List AV) (q:List (Th Prop)) (d:List Nat) (A':List AV) (vs:List Value),HeapRel w M β cp h→low h A=some (q,d,A')→(∀p∈q,p ())→qAs w M β cp A vs→qAs w (fun k=>M k∧¬qF6 w h β d k) β cp A' vs)
  {f:FuncId}{pc:PC}(hp:qBf P f pc) {A:List AV}{H:Hp}{K:qBm}(hv:qLm low pc A H K):qO P f A H K:=by
 intro w M β cp vs hh hA
 unfold qLm at hv
 split at hv
 ·rename_i q d A' hl
  obtain⟨hq,hv⟩:=qKj hv
  split at hv
  ·rename_i hcl
   have hA':=hlow w M β cp H A q d A' _ hh hl hq hA
   have hA2:qAs w (fun k=>M k∧¬qF6 w H β d k) (fun _=>none) (fun _=>0) A' vs.toList:=⟨hA'.1,fun j x hj=> .c (qR (hA'.2 j x hj) (qT hcl hj))⟩
   refine(hp A' _ hv w (fun k=>M k∧¬qF6 w H β d k) (fun _=>none) (fun _=>0) vs ⟨fun _ _=>rfl,fun b o hb=>by simp at hb,fun b b' o o' g g' k hb=>by simp at hb,hh.dom.less fun k hk=>hk.1⟩ hA2).mono ?_
   rintro e w' ⟨v,r,H',kl,M',β',cp',rfl,hK,hh',hak,hrep⟩
   have hsame:∀k,k<w.heap.size→w'.heap[k]? =w.heap[k]? :=fun k hk=>hak.ext.block k hk (by rintro⟨b,o,g,hb,_⟩;simp at hb)
   have hfresh:∀g,qAL w' β' H' g→w.heap.size≤g:=fun g hg=>(hak.own g hg).elim (by rintro⟨b,o,g,hb,_⟩;simp at hb) id
   let M2:Nat→Prop:=fun k=>M' k∨M k
   let β2:Nat→Option Nat:=fun b=>if b<H.length then β b else β' (b-H.length)
   let cp2:Nat→Nat:=fun b=>if b<H.length then cp b else cp' (b-H.length)
   have hkeep:∀k,k<w.heap.size→¬M k→w'.heap[k]? =w.heap[k]? ∧¬M2 k:=by
    intro k hk hM
    have:=hak.keep k hk (fun h=>hM h.1)
    exact⟨this.1,fun h=>h.elim this.2 hM⟩
   have hbk:∀b,β b≠none→β2 b=β b∧cp2 b=cp b:=by
    intro b hb
    have:b<H.length:=by
     rcases Nat.lt_or_ge b H.length with h1|h1
     ·exact h1
     ·exact absurd (hh.out b h1) hb
    simp[β2,cp2,this]
   have hsh:∀b,β' b≠none→β2 (b+H.length)=β' b∧cp2 (b+H.length)=cp' b:=by
    intro b hb
    have:¬b+H.length<H.length:=by omega
    simp[β2,cp2,this]
   have hup:(d=[]→∀k,M k→M' k):=by
    rintro rfl k hk
    refine hak.ext.sub k (hh.dom.1 k hk) (by rintro⟨b,o,g,hb,_⟩;simp at hb) ⟨hk, ?_⟩
    rintro⟨b,hb,_⟩
    cases hb
   have hM2:d=[]→∀k,M2 k→M' k:=fun hd k hk=>hk.elim id (hup hd k)
   obtain⟨hK2,hsl⟩:K (r.shift (len H)) (H++qCb (len H) H') []∧(d=[]∨qCk r=true∧qNJ H'):=by
    cases d with
    |nil=>exact⟨hK,.inl rfl⟩
    |cons _ _=>cases hK with|mk h1 h2=>cases h2 with|mk h2 h3=>exact⟨h3,.inr ⟨h1,h2⟩⟩
   rw[qK]at hK2
   have upC:∀x v,(d=[]∨qCk x=true)→RepC w' M' x v→RepC w' M2 x v:=by
    intro x v hx hr
    rcases hx with hd|hx
    ·exact hr.keep fun k _ hM=>⟨rfl,fun h=>hM (hM2 hd k h)⟩
    ·exact qBD hr hx
   have up:∀x v,(d=[]∨qCk x=true)→Rep w' M' β' cp' x v→Rep w' M2 β2 cp2 (x.shift H.length) v:=by
    intro x v hx hr
    refine qCs (β:=β') (cp:=cp') hsh x v ?_
    rcases hx with hd|hx
    ·exact hr.keep (fun k _ hM=>⟨rfl,fun h=>hM (hM2 hd k h)⟩) fun _ _=>⟨rfl,rfl⟩
    ·exact qHD hr hx
   have hget:∀b o,(H++qCb H.length H')[b]? =some o→(b<H.length∧H[b]? =some o)∨(H.length≤b∧∃o',H'[b-H.length]? =some o'∧o=o'.shift H.length):=by
    intro b o hb
    rw[List.getElem?_append]at hb
    split at hb
    ·rename_i h1;exact .inl ⟨h1,hb⟩
    ·rename_i h1
     rw[qGR,Option.map_eq_some_iff]at hb
     obtain⟨o',h2,rfl⟩:=hb
     exact .inr ⟨by omega,o',h2,rfl⟩
   have hlive:∀o:AObj,(o.shift H.length).live=o.live:=fun o=>by cases o<;>rfl
   refine⟨v,_,_,[],M2,β2,cp2,rfl,hK2,⟨fun b hb=> ?_,fun b o hb=> ?_,fun b b' o o' g1 g2 k hb hb' hl1 hl2 hg hg' hk1 hk2=> ?_,hh.dom.go hkeep fun k hk=>hk.elim (hh'.dom.1 k) fun h1=>Nat.lt_of_lt_of_le (hh.dom.1 k h1) hak.ext.size⟩,⟨hkeep,fun b _ hb=>hbk b hb,⟨hak.ext.os,hak.ext.tape,hak.ext.output,hak.ext.size,fun k hk _=>hsame k hk,fun k _ _ hk=> .inr hk,fun k hk=> ?_⟩, ?_⟩,up r v (hsl.imp id And.left) hrep⟩
   ·rw[List.length_append,qGS]at hb
    have:¬b<H.length:=by omega
    simp only[β2,this,if_false]
    exact hh'.out _ (by omega)
   ·rcases hget b o hb with⟨h1,h2⟩|⟨h1,o',h2,rfl⟩
    ·by_cases ho:o.live=true
     ·exact(hh.obj b o h2).keep hkeep hbk (fun h0=>by simp[β2,h1,h0]) fun g k hg hk=>⟨hsame k (hh.foot h2 ho hg hk).2,.inr⟩
     ·cases o<;>first|trivial|exact absurd rfl ho
    ·have h3:¬b<H.length:=by omega
     have e1:β2 b=β' (b-H.length):=by simp[β2,h3]
     have e2:cp2 b=cp' (b-H.length):=by simp[cp2,h3]
     have ho:=hh'.obj _ _ h2
     have hns:d=[]∨qNI o':=hsl.imp id fun h=>qI5 h.2 h2
     cases o' with
     |dead=>trivial
     |blk cs=>
      obtain⟨g,cur,t,o1,o2,o3,o4,o5⟩:=ho
      refine⟨g,cur,t,e1.trans o1,.inl o2,o3, ?_,⟨o5.1,by rw[e2];exact o5.2⟩⟩
      refine qBS (β:=β') (cp:=cp') hsh cs _ ⟨o4.1,fun j x hj=> ?_⟩
      have hx:d=[]∨qCk x=true:=hns.imp id fun h=>qAD h hj
      rcases hx with hd|hx
      ·exact(o4.2 j x hj).keep (fun k _ hM=>⟨rfl,fun h=>hM (hM2 hd k h)⟩) fun _ _=>⟨rfl,rfl⟩
      ·exact qHD (o4.2 j x hj) hx
     |vec e sz n f=>
      rcases ho with⟨o1,o2⟩|⟨g,cur,o1,o2,o3,o4,o5,o6,o7,o8,o9⟩
      ·exact .inl ⟨e1.trans o1,o2⟩
      ·refine .inr ⟨g,cur,e1.trans o1,.inl o2,o3,by rw[e2];exact o4,by rw[e2];exact o5,by rw[e2];exact o6,by rw[e2];exact o7,o8,fun i j x hi hj=>upC x _ ?_ (o9 i j x hi hj)⟩
       exact hns.imp id fun h=>by cases h with|mk h=>exact qAD (h i hi) hj
     |fz q n f=>
      obtain⟨g,cur,t,fr,o1,o2,o3,o4,o5,o6,o7⟩:=ho
      refine⟨g,cur,t,fr,e1.trans o1,.inl o2,o3,o4,⟨o5.1,by rw[e2];exact o5.2⟩,o6,fun i j x hi hj=>upC x _ ?_ (o7 i j x hi hj)⟩
      exact hns.imp id fun h=>by cases h with|mk h=>exact qAD (h i hi) hj
     |mp T l=>
      obtain⟨g,es,clk,o1,o2,o3,o4⟩:=ho
      exact⟨g,es,clk,e1.trans o1,.inl o2,o3,o4⟩
     |nst e sz n F op=>
      rcases hns with hd|hns
      ·rcases ho with⟨o1,o2,o3⟩|⟨g,cur,o1,r⟩
       ·exact .inl ⟨e1.trans o1,o2,by rw[o3];rfl⟩
       ·refine .inr ⟨g,cur,e1.trans o1, ?_⟩
        rw[e2]
        exact(r.keep (β':=β') (cp':=cp') (fun k _ hM=>⟨rfl,fun h=>hM (hM2 hd k h)⟩) (fun _ _=>⟨rfl,rfl⟩) (fun k _=>⟨rfl,.inl⟩)).1.opMap _ (qBS hsh)
      ·cases hns
   ·have c1:∀b o g,(H++qCb H.length H')[b]? =some o→o.live=true→β2 b=some g→Foot w' g o k→(b<H.length∧H[b]? =some o∧β b=some g∧Foot w g o k∧k<w.heap.size)∨(H.length≤b∧∃o',H'[b-H.length]? =some o'∧o'.live=true∧β' (b-H.length)=some g∧Foot w' g o' k∧w.heap.size≤k):=by
     intro b o g hb hl hg hk
     rcases hget b o hb with⟨h1,h2⟩|⟨h1,o',h2,rfl⟩
     ·have hg:β b=some g:=by simpa[β2,h1]using hg
      have hk:=qAP (hh.obj b o h2) hkeep hg (fun k hk=>⟨hsame k (hh.foot h2 hl hg hk).2,.inr⟩) hk
      exact .inl ⟨h1,h2,hg,hk,(hh.foot h2 hl hg hk).2⟩
     ·have h3:¬b<H.length:=by omega
      have hg:β' (b-H.length)=some g:=by simpa[β2,h3]using hg
      have hl':o'.live=true:=by rw[←hlive o'];exact hl
      exact .inr ⟨h1,o',h2,hl',hg,qEE hk,hfresh k ⟨_,o',g,h2,hl',hg,qEE hk⟩⟩
    rcases c1 b o g1 hb hl1 hg hk1 with⟨a1,a2,a3,a4,a5⟩|⟨a1,o1,a2,a3,a4,a5,a6⟩<;>rcases c1 b' o' g2 hb' hl2 hg' hk2 with⟨b1,b2,b3,b4,b5⟩|⟨b1,o2,b2,b3,b4,b5,b6⟩
    ·exact hh.inj2 b b' o o' g1 g2 k a2 b2 hl1 hl2 a3 b3 a4 b4
    ·omega
    ·omega
    ·have:=hh'.inj2 _ _ o1 o2 g1 g2 k a2 b2 a3 b3 a4 b4 a5 b5
     omega
   ·rcases hk with hk|hk
    ·exact(hak.ext.new k hk).imp (fun h=>h.1) id
    ·exact .inl hk
   ·rintro k ⟨b,o,g,hb,hl,hg,hk⟩
    rcases hget b o hb with⟨h1,h2⟩|⟨h1,o',h2,rfl⟩
    ·have hg:β b=some g:=by simpa[β2,h1]using hg
     exact .inl ⟨b,o,g,h2,hl,hg,qAP (hh.obj b o h2) hkeep hg (fun k hk=>⟨hsame k (hh.foot h2 hl hg hk).2,.inr⟩) hk⟩
    ·have h3:¬b<H.length:=by omega
     exact .inr (hfresh k ⟨_,o',g,h2,by rw[←hlive o'];exact hl,by simpa[β2,h3]using hg,qEE hk⟩)
  ·cases hv
 ·cases hv
theorem qE {f:FuncId}{pc:PC}(hp:qBf P f pc) {A:List AV}{H:Hp}{K:qBm}(hv:qH pc A H K):qO P f A H K:=
 qKk (low:=lower.lowerL) (fun _ _ _ _ _ _ _ d _ _ hh hl hq hA=>qBa hh _ _ _ _ hl hq d (fun _ h=>h) _ hA) hp hv
def qJV (P:Program) (f:FuncId) (A:List AV) (r:AV):Prop:=
 ∀(w:World) (M:Nat→Prop) (vs:Array Value),Dom w M→qAs w M (fun _=>none) (fun _=>0) A vs.toList→
  Calls P f vs w fun e w'=>∃v,e= .returned v∧(w'.os=w.os∧w'.tape=w.tape∧w'.output=w.output∧w.heap.size≤w'.heap.size∧∀k,k<w.heap.size→w'.heap[k]? =w.heap[k]?)∧RepC w' (fun k=>k<w.heap.size) r v
theorem qLn {f:FuncId}{nid:Nat}{A0 A:List AV}{r:AV}{vs:Array Value}{q:List (Th Prop)}{l:List Nat}(hf:qJV P f A r) (hh:HeapRel w M β cp h) (hargs:qAs w M β cp A0 vs.toList) (hl:lower.lowerL h A0=some (q,l,A)) (hq:∀x∈q,x ()) (hcl:qL A=true):
  Calls P f vs w fun e w'=>∃v,e= .returned v∧After w M β cp h w' M β cp (Chg.no.on nid h)∧Rep w' M β cp r v:=by
 have hA':=qBa hh _ q l A hl hq l (fun _ h=>h) _ hargs
 have hA2:qAs w (fun k=>M k∧¬qF6 w h β l k) (fun _=>none) (fun _=>0) A vs.toList:=⟨hA'.1,fun j x hj=> .c (qR (hA'.2 j x hj) (qT hcl hj))⟩
 refine(hf w (fun k=>M k∧¬qF6 w h β l k) vs (hh.dom.less fun k hk=>hk.1) hA2).mono ?_
 rintro e w' ⟨v,rfl,⟨x1,x2,x3,x4,x5⟩,hr⟩
 have hkeep:∀k,k<w.heap.size→¬M k→w'.heap[k]? =w.heap[k]? ∧¬M k:=fun k hk hM=>⟨x5 k hk,hM⟩
 obtain⟨s1,s2⟩:=hh.grow x4 x5
 exact⟨v,rfl,⟨s1,hkeep,fun _ _=>⟨rfl,rfl⟩,⟨x1,x2,x3,x4,fun k hk _=>x5 k hk,fun _ _ _ h=>h,fun _ h=> .inl h⟩,fun k hk=> .inl (s2 k hk),fun _ h1 h2=>absurd h1 h2⟩,.c (hr.keep fun k _ hM=>⟨rfl,fun h=>hM (hh.dom.1 k h)⟩)⟩
def qDE (d:List AV→Option (Th Prop×AV)):Con:=fun A H K=>match lower.lowerL H A with
 |some (q,_,A')=>obs q (match qL A',d A' with
  |true,some (p,r)=>Ob p (K r H [])
  |_,_=>Bad 210)
 |none=>Bad 211
theorem qAY {f:FuncId}{d:List AV→Option (Th Prop×AV)}(hd:∀A p r,d A=some (p,r)→p ()→qJV P f A r) {A:List AV}{H:Hp}{K:qBm}(hv:qDE d A H K):qO P f A H K:=by
 intro w M β cp vs hh hA
 unfold qDE at hv
 split at hv
 ·rename_i q l A' hl
  obtain⟨hq,hv⟩:=qKj hv
  split at hv
  ·rename_i p r hcl hdA
   cases hv with
   |mk h1 h2=>
    refine(qLn (nid:=0) (hd A' p r hdA h1) hh hA hl hq hcl).mono ?_
    rintro e w' ⟨v,rfl,haf,hrep⟩
    exact⟨v,r,H,[],M,β,cp,rfl,h2,haf.heap,AK.of_after haf,hrep⟩
  ·cases hv
 ·cases hv
end
end Go.Abs
namespace Go.Abs
open Go
variable [Kd]
abbrev Det:=List AV→Option (Th Prop×AV)
def qM (d:Det):PC:=fun A K=>match d A with
 |some (p,r)=>Ob p (K r [])
 |none=>Bad 300
abbrev qUK:=List AV→Option (Th Prop×AV×AObj)
def qGU (d:qUK):PC:=fun A K=>match d A with
 |some (p,r,o)=>Ob p (K r [o])
 |none=>Bad 300
abbrev qXZ:=Th Nat→AObj→List AV→Option (Th Prop×Th Nat×AObj)
inductive Dt where
 |c (d:Det)
 |n (d:qUK)
 |f (d:Det)
 |o (d:qXZ)
def qNK:List AV→Option (Nat×Th Nat×List AV)
 | .own b n::r=>some (b,n,r)
 |_=>none
def qX0 (d:qXZ) (h:Hp) (nid:Nat) (A:List AV):Res:=match qNK A with
 |some (b,n,rest)=>match nth .dead h b with
  | .vec e sz m f=>match qL rest,d n (.vec e sz m f) rest with
    |true,some (p,N,O)=>match O with
     | .vec e' sz' m' f'=> .ob p (.own nid N) (.mv b (.vec e' sz' m' f'))
     |_=> .bad 321
    |_,_=> .bad 322
  |_=> .bad 323
 |none=> .bad 324
def qNL:List (Th Prop)→Th Prop→Th Prop
 |[],p=>p
 |q::r,p=>fun _=>q ()∧qNL r p ()
def qUL (E:Env) (c:Call) (s:Tm) (h:Hp) (nid:Nat):Res:=
 match c.argTypes.toList,c.args.toList with
 |[t,t'],[x,y]=>match Nat.beq t t',E.ty t with
  |true,.slice e sz bytes _=>match src sz h (ev s y)with
   |some (q,m,g)=>match ev s x with
    | .own b n=>match nth .dead h b with
      | .vec e' sz' k f=>match Nat.beq e e',Nat.beq sz sz' with
        |true,true=>match E.fr e with
         |false=> .ob (fun _=>n ()≤k ()∧q ()∧(n ()+m ())*bytes≤140737488355328∧n ()+m ()≤9223372036854775807∧k ()≤n ())
          (.own nid fun _=>n ()+m ()) (.mv b (.vec e sz (fun _=>n ()+m ()) fun j=>qBB sz (fun _=>decide (j ()<n ())) (f j) (g fun _=>j ()-n ())))
         |true=> .ob (fun _=>n ()≤k ()∧q ()∧(n ()+m ())*bytes≤140737488355328∧n ()+m ()≤9223372036854775807)
          (.own nid fun _=>n ()+m ()) (.mv b (.vec e sz (fun _=>n ()+m ()) fun j=>qBB sz (fun _=>decide (j ()<n ())) (f j) (g fun _=>j ()-n ())))
        |_,_=> .bad 90
      |_=> .bad 91
    | .nil=> .ob (fun _=>q ()∧m ()*bytes≤140737488355328∧m ()≤9223372036854775807) (.own nid m) (.new (.vec e sz m g))
    |_=> .bad 92
   |none=> .bad 93
  |_,_=> .bad 94
 |_,_=> .bad 95
mutual
def ids:AV→List Nat
 | .own b _| .nn b _| .vw b _ _ _| .ept b _ _ _| .ptr b _| .mr b=>[b]
 | .agg l| .tup l| .fn _ l| .fm _ l=>qDo l
 | .ifc _ x=>ids x
 | .ite _ x y=>ids x++ids y
 |_=>[]
def qDo:List AV→List Nat
 |[]=>[]
 |x::r=>ids x++qDo r
end
def qUx (h:Hp) (x:AV):Option (List (Th Prop)×List Nat×AV):=match qDn h x with
 |some r=>some r
 |none=>lower h x
def qI7 (h:Hp):List AV→Option (List (Th Prop)×List Nat×List AV)
 |[]=>some ([],[],[])
 |x::r=>match qUx h x,qI7 h r with
  |some (q,d,y),some (q',d',l)=>some (q++q',d++d',y::l)
  |_,_=>none
def qKl (h:Hp) (C:List AV):List AV→Option (List (Th Prop)×List Nat×List AV)
 |[]=>qI7 h C
 |x::r=>match lower h x,qKl h C r with
  |some (q,d,y),some (q',d',l)=>some (q++q',d++d',y::l)
  |_,_=>none
def qCJ (h:Hp):List Nat→List Nat
 |[]=>[]
 |b::r=>match nth .dead h b with
  | .blk cs=>qDo cs++qCJ h r
  |_=>qCJ h r
def qXG (d:Det) (h:Hp) (A0 C:List AV):Res:=match qKl h C A0 with
 |some (q,l,A)=>match qL A,d A with
  |true,some (p,r)=>match closed r,l,qCk r with
   |true,[],_=> .ob (qNL q p) r .no
   |true,_,true=> .ob (qNL q p) r .no
   |_,_,_=> .bad 331
  |_,_=> .bad 332
 |none=> .bad 333
def qX1 (E:Env) (det:FuncId→Option Dt):AV→Option (FuncId×Det×List AV)
 | .fn f l=>match det f,E.bd f with
   |some (.c d),false=>some (f,d,l)
   |_,_=>none
 |_=>none
def qCK (E:Env) (det:FuncId→Option Dt) (o:Oper) (s:Tm) (h:Hp) (nid:Nat):Res:=
 match step E o s h nid with
 | .ok v c=> .ok v c
 | .ob p v c=> .ob p v c
 | .bad n=>match o.op with
   | .call c=>match c.callee with
     | .value (.func f)=>match det f with
       |some (.c d)=>match lower.lowerL h (c.args.toList.map (ev s))with
        |some (q,l,A)=>match qL A,d A with
         |true,some (p,r)=>match closed r,l,qCk r with
          |true,[],_=> .ob (qNL q p) r .no
          |true,_,true=> .ob (qNL q p) r .no
          |_,_,_=> .bad 301
         |_,_=> .bad 302
        |none=> .bad 303
       |some (.f d)=>match lower.lowerL h (c.args.toList.map (ev s))with
        |some (q,_,A)=>match qL A,d A with
         |true,some (p,r)=> .ob (qNL q p) r .no
         |_,_=> .bad 308
        |none=> .bad 309
       |some (.n d)=>match lower.lowerL h (c.args.toList.map (ev s))with
        |some (q,l,A)=>match qL A,d A with
         |true,some (p,r,.vec e sz n f)=>match l,qCk r with
          |[],_=> .ob (qNL q p) (r.shift nid) (.new (.vec e sz n f))
          |_,true=> .ob (qNL q fun _=>p ()∧∀i,i<n ()→qD0 (f fun _=>i)=true) (r.shift nid) (.new (.vec e sz n f))
          |_,_=> .bad 305
         |_,_=> .bad 306
        |none=> .bad 307
       |some (.o d)=>qX0 d h nid (c.args.toList.map (ev s))
       |none=> .bad 304
     | .builtin .append=>match qFP E c s h with
       |some (b,q,n,O)=> .ob q (.nn nid n) (.mv b O)
       |none=>qUL E c s h nid
     | .builtin .copy=>qGI E c s h
     | .value (.tmp t)=>match qX1 E det (lk s t)with
       |some (_,d,l)=>qXG d h (c.args.toList.map (ev s)) l
       |none=> .bad n
     |_=> .bad n
   |_=> .bad n
structure TrE where
 o:Oper
 v:AV
 c:Chg
 nid:Nat
 rs:List Nat
 rh:List Nat
def Chg.wr (c:Chg) (nid:Nat):List (Nat×AObj):=match c with
 | .no=>[]
 | .new o=>[(nid,o)]
 | .upd b o=>[(b,o)]
 | .mv b o=>[(nid,o),(b,.dead)]
def qI8 (b:Nat):List (Nat×AObj)→Option AObj
 |[]=>none
 |(c,o)::r=>match Nat.beq c b with|true=>some o|false=>qI8 b r
def qP2:List (Nat×AObj)→List Nat
 |[]=>[]
 |(c,_)::r=>c::qP2 r
def qEF (o:Oper):List Operand→List Nat
 |[]=>[]
 | .tmp t::r=>t::qEF o r
 |_::r=>qEF o r
def qD2 (all:List (Option Tmp)) (o:Oper):List Nat:=match o.guard with
 |none=>[]
 |some (j,_)=>match nth none all j with
  |some d=>[d]
  |none=>[]
def slotsOf (all:List (Option Tmp)) (o:Oper):List Nat:=qD2 all o++qEF o o.op.operands.toList
def qCX (s:Tm):List Operand→List Nat
 |[]=>[]
 |x::r=>ids (ev s x)++qCX s r
def qP3 (s:Tm) (h:Hp) (o:Oper):List Nat:=match o.op with
 | .move _=>[]
 | .call c=>match c.callee with
   | .builtin .len=>[]
   | .value (.tmp t)=>qCX s o.op.operands.toList++qCJ h (ids (lk s t))
   |_=>qCX s o.op.operands.toList
 |_=>qCX s o.op.operands.toList
def qCB (det:FuncId→Option Dt):Op→Bool
 | .alloc _| .box _ _| .buildSlice _ _ _| .makeSlice _ _ _=>true
 | .call c=>match c.callee with
   | .builtin .append=>true
   | .value (.func f)=>match det f with
     |some (.n _)=>true
     |some (.o _)=>true
     |_=>false
   |_=>false
 |_=>false
def qB7 (det:FuncId→Option Dt) (N:Nat) (o:Oper) (h:Hp):Nat:=match qCB det o.op with|true=>len h|false=>N
def qHE (det:FuncId→Option Dt) (o:Op) (h:Hp):Chg→Bool
 | .new _=>qCB det o
 | .no=>match qCB det o with|true=>false|false=>true
 | .upd b _=>match qCB det o with|true=>false|false=>Nat.blt b (len h)
 | .mv b _=>match qCB det o with|true=>Nat.blt b (len h)|false=>false
def qNM (d:Nat):List (Nat×Bool)→Option Bool
 |[]=>none
 |(i,y)::r=>match Nat.beq i d with|true=>some y|false=>qNM d r
def qEG (o:Option Tmp):List (Nat×Bool)→List (Nat×Bool)
 |[]=>[]
 |(i,y)::r=>match o with
  |none=>(i,y)::r
  |some d=>match Nat.beq i d with|true=>qEG o r|false=>(i,y)::qEG o r
def wrL (e:TrE):List Nat:=qP2 (e.c.wr e.nid)
structure Fp where
 dst:Option Nat
 rs:List Nat
 wr:List Nat
 rh:List Nat
 mv:Option (Nat×Nat)
def qUM (nid:Nat):Chg→Option (Nat×Nat)
 | .mv b _=>some (nid,b)
 |_=>none
def qIz (e:TrE):Fp:=⟨e.o.dst,e.rs,wrL e,e.rh,qUM e.nid e.c⟩
def qSP (s:Tm) (m:List (Nat×Bool)) (op:Op) (v:AV):AV:=match op with
 | .pick (.tmp d) x y=>match lk s d with
   | .b _=>match qNM d m with
     |some true=>ev s x
     |some false=>ev s y
     |none=>v
   |_=>v
 |_=>v
def qD3 (E:Env) (det:FuncId→Option Dt) (nt N:Nat) (all:List (Option Tmp)):List Oper→List (Nat×Bool)→Tm→Hp→List Fp→(Tm→Hp→List Fp→Prop)→Prop
 |[],_,s,h,tr,K=>K s h tr
 |o::r,m,s,h,tr,K=>
  let go (m:List (Nat×Bool)) (v:AV) (c:Chg):Prop:=match qHE det o.op h c,put nt o.dst (qSP s m o.op v) s with
   |true,some s'=>qD3 E det nt N all r (qEG o.dst m) s' (c.on (qB7 det N o h) h) (tr++[⟨o.dst,slotsOf all o,qP2 (c.wr (qB7 det N o h)),qP3 s h o,qUM (qB7 det N o h) c⟩]) K
   |_,_=>Bad 310
  let run (m:List (Nat×Bool)):Prop:=match qCK E det o s h (qB7 det N o h)with
   | .ok v c=>go m v c
   | .ob p v c=>Ob p (go m v c)
   | .bad n=>Bad n
  let skip (m:List (Nat×Bool)):Prop:=match put nt o.dst (.tup []) s with
   |some s'=>qD3 E det nt N all r (qEG o.dst m) s' h (tr++[⟨o.dst,slotsOf all o,[],[],none⟩]) K
   |none=>Bad 313
  match o.guard with
  |none=>run m
  |some (j,b)=>match nth none all j with
   |none=>Bad 311
   |some d=>match lk s d with
    | .bc x=>match x,b with
      |true,true=>run m
      |false,false=>run m
      |_,_=>skip m
    | .b x=>match qNM d m with
      |some y=>match y,b with
       |true,true=>run m
       |false,false=>run m
       |_,_=>skip m
      |none=>match b with
       |true=>splitB x (fun _=>run ((d,true)::m)) fun _=>skip ((d,false)::m)
       |false=>splitB x (fun _=>skip ((d,true)::m)) fun _=>run ((d,false)::m)
    | .tup []=>skip m
    |_=>Bad 312
def qFi:List Nat→List Nat→Bool
 |[],_=>false
 |x::r,l=>match qBL x l with|true=>true|false=>qFi r l
def qPL:Option Nat→List Nat
 |none=>[]
 |some x=>[x]
def qKm (x y:Fp):Bool:=
 match qFi (qPL x.dst) (y.rs++qPL y.dst),qFi (qPL y.dst) x.rs,qFi x.wr (y.rh++y.wr),qFi y.wr x.rh with
 |false,false,false,false=>false
 |_,_,_,_=>true
def qBj (e:Edge):Bool:=match e.ground with
 | .textOnly _=>false
 | .gcOnly _=>false
 |_=>true
def uni:List Nat→List Nat→List Nat
 |[],l=>l
 |x::r,l=>match qBL x l with
  |true=>uni r l
  |false=>uni r (x::l)
def qNN (j:Nat) (acc:List (List Nat)):List Edge→Option (List Nat)
 |[]=>some []
 |e::r=>match qNN j acc r with
  |none=>none
  |some l=>match qBj e with
   |false=>some l
   |true=>match Nat.blt e.on j with
    |true=>some (uni (e.on::nth [] acc e.on) l)
    |false=>none
def qP4:Nat→List (List Nat)→List Oper→Option (List (List Nat))
 |_,acc,[]=>some acc
 |j,acc,o::r=>match qNN j acc o.after.toList with
  |none=>none
  |some l=>qP4 (j+1) (acc++[l]) r
def qGV (bef:List Nat) (y:Fp):Nat→List Fp→Bool
 |_,[]=>true
 |i,x::r=>match qKm x y with
  |false=>qGV bef y (i+1) r
  |true=>match qBL i bef with
   |true=>qGV bef y (i+1) r
   |false=>false
def qMy (bef:List (List Nat)) (done:List Fp):List Fp→Bool
 |[]=>true
 |y::r=>match qGV (nth [] bef (len done)) y 0 done with
  |true=>qMy bef (done++[y]) r
  |false=>false
mutual
def mvA (n b:Nat):AV→AV
 | .own c k=>match Nat.beq c n with|true=> .own b k|false=>match Nat.beq c b with|true=> .any|false=> .own c k
 | .nn c k=>match Nat.beq c n with|true=> .nn b k|false=>match Nat.beq c b with|true=> .any|false=> .nn c k
 | .vw c sz p k=>match Nat.beq c n with|true=> .vw b sz p k|false=>match Nat.beq c b with|true=> .any|false=> .vw c sz p k
 | .ept c sz x o=>match Nat.beq c n with|true=> .ept b sz x o|false=>match Nat.beq c b with|true=> .any|false=> .ept c sz x o
 | .ptr c o=>match Nat.beq c n with|true=> .ptr b o|false=>match Nat.beq c b with|true=> .any|false=> .ptr c o
 | .mr c=>match Nat.beq c n with|true=> .mr b|false=>match Nat.beq c b with|true=> .any|false=> .mr c
 | .agg l=> .agg (mvL n b l)
 | .tup l=> .tup (mvL n b l)
 | .fn f l=> .fn f (mvL n b l)
 | .fm _ _=> .any
 | .ifc t x=> .ifc t (mvA n b x)
 | .ite c x y=> .ite c (mvA n b x) (mvA n b y)
 |x=>x
def mvL (n b:Nat):List AV→List AV
 |[]=>[]
 |x::r=>mvA n b x::mvL n b r
end
def mvO (n b:Nat):AObj→AObj
 | .blk cs=> .blk (mvL n b cs)
 | .nst e sz m F op=> .nst e sz m F (opMap (mvL n b) op)
 |o=>o
def qRN (n b:Nat) (O:AObj):Nat→Hp→Hp
 |_,[]=>[]
 |i,o::r=>(match Nat.beq i n with|true=> .dead|false=>match Nat.beq i b with|true=>O|false=>mvO n b o)::qRN n b O (i+1) r
def qXH (n b:Nat) (h:Hp):Hp:=qRN n b (mvO n b (nth .dead h n)) 0 h
def mvT (n b:Nat):Tm→Tm
 |[]=>[]
 |(i,v)::r=>(i,mvA n b v)::mvT n b r
def settle:List Fp→Tm→Hp→List Nat→Option (Tm×Hp×List Nat)
 |[],s,h,kl=>some (s,h,kl)
 |e::r,s,h,kl=>match settle r s h kl with
  |none=>none
  |some (s,h,kl)=>match e.mv with
   |none=>some (s,h,kl)
   |some (n,b)=>match Nat.beq n b,Nat.blt b (len h)with
    |false,true=>some (mvT n b s,qXH n b h,b::kl)
    |_,_=>none
def qNO (ops:List Oper) (tr:List Fp):Bool:=
 match qP4 0 [] ops with
 |none=>false
 |some bef=>qMy bef [] tr
section
variable {P:Program}{E:Env}{det:FuncId→Option Dt}{w:World}{M:Nat→Prop}{β:Nat→Option Nat}{cp:Nat→Nat}{h:Hp}{o:Oper}{a:Act}{s:Tm}{nid:Nat}
def qXI (P:Program) (f:FuncId):Dt→Prop
 | .c d=>qBf P f (qM d)
 | .n d=>qBf P f (qGU d)
 | .f d=>∀A p r,d A=some (p,r)→p ()→qJV P f A r
 | .o d=>∀n e sz m g rest p N O,qL rest=true→d n (.vec e sz m g) rest=some (p,N,O)→p ()→qO P f (.own 0 n::rest) [.vec e sz m g] fun r H _=>r= .own 0 N∧H=[O]
def qBk (P:Program) (det:FuncId→Option Dt):Prop:=∀f d,det f=some d→Enters P f∧qXI P f d
theorem qBN:∀{q:List (Th Prop)}{p:Th Prop},qNL q p ()→(∀x∈q,x ())∧p ()
 |[],p,h=>⟨by simp,h⟩
 |x::q,p,h=>by
  have:=qBN (q:=q) (p:=p) h.2
  exact⟨by intro y hy;rcases List.mem_cons.1 hy with rfl|hy;exact h.1;exact this.1 y hy,this.2⟩
theorem qHF {h:Hp}{nid:Nat}{x:AObj}(hn:nid≤h.length):(qBe h nid x)[nid]? =some x:=by
 unfold qBe
 rw[qK]
 split
 ·rename_i hl;have:=qQ.1 hl;simp[this]
 ·rename_i hl
  have:nid=h.length:=by
   have:¬nid<h.length:=fun hlt=>by rw[qQ.2 hlt]at hl;cases hl
   omega
  simp[this]
theorem qP5 {b g e sz:Nat}{k:Th Nat}{f:Th Nat→List AV}{cur cur':Array Value}(hh:HeapRel w M β cp h) (hn:nid≤h.length) (hd:β nid=none) (hb:h[b]? =some (.vec e sz k f)) (hg:β b=some g) (hM:M g) (hcell:w.heap[g]? =some (.cells cur e (0,0))) (hsz:cur'.size=cur.size)
  {N:Th Nat}{F:Th Nat→List AV}(ho:OneSp cur' e sz (N ()) (cp b)) (hNc:N ()≤cp b) (hcs:cur.size=cp b*sz) (hcm:cp b≤maxLen) (hl:∀i:Nat,i<N ()→(F fun _=>i).length=sz)
  (hF:∀(i j:Nat) (x:AV),i<N ()→(F fun _=>i)[j]? =some x→RepC w M x (cur'.getD (i*sz+j) undef)):After w M β cp h (w.setRow g cur') M (qZ β nid (some g)) (qAk cp nid (cp b)) (qBe (h.set b .dead) nid (.vec e sz N F)):=by
 obtain⟨f1,f2,f3,f4,f5,f6⟩:=qAQ (w:=w) (cur':=cur') hcell
 have hk:∀k,k<w.heap.size→¬M k→(w.setRow g cur').heap[k]? =w.heap[k]? ∧¬M k:=fun k hk hk'=>⟨f6 k (by rintro rfl;exact hk' hM),hk'⟩
 have hbn:b≠nid:=by rintro rfl;rw[hd]at hg;cases hg
 have hbk:∀c,β c≠none→(qZ β nid (some g)) c=β c∧(qAk cp nid (cp b)) c=cp c:=fun c hc=>by
  have:c≠nid:=by rintro rfl;exact hc hd
  simp[qZ,qAk,this]
 have hns:nid≤(h.set b .dead).length:=by simpa using hn
 have hget:∀c o',(qBe (h.set b .dead) nid (AObj.vec e sz N F))[c]? =some o'→(c=nid∧o'= .vec e sz N F)∨(c≠nid∧((c=b∧o'= .dead)∨(c≠b∧h[c]? =some o'))):=by
  intro c o' hc
  rcases qBx hns hc with h1|⟨h1,h2⟩
  ·exact .inl h1
  ·refine .inr ⟨h1, ?_⟩
   rw[List.getElem?_set]at h2
   split at h2
   ·split at h2
    ·exact .inl ⟨by omega,by cases h2;rfl⟩
    ·cases h2
   ·exact .inr ⟨by omega,h2⟩
 obtain⟨p1,p2⟩:=hh.put (w':=w.setRow g cur') (M':=M) (β':=qZ β nid (some g)) (cp':=qAk cp nid (cp b)) (h':=qBe (h.set b .dead) nid (.vec e sz N F)) (nid:=nid) (O:= .vec e sz N F) (Kp:=fun c=>c≠b)
  (fun c o' hc=>(hget c o' hc).imp id fun h=>⟨h.1,h.2.imp And.right id⟩) (fun c hc=>by simp[qZ,qAk,hc])
  (fun c hc=>by
    have:=qDa (o:=AObj.vec e sz N F) hns
    simp only[List.length_set]at this
    omega) hd hk
  (.inr ⟨g,cur',by simp[qZ],hM,f5,by simp only[qAk,if_true];rw[hsz,hcs],by simp only[qAk,if_true];exact ho,by simp only[qAk,if_true];exact hNc,by simp only[qAk,if_true];exact hcm,hl,fun i j x hi hj=>(hF i j x hi hj).keep hk⟩)
  (fun g k _ _ hk=>hk.eq nofun) (fun c y g0 k hne hy hly hg0 hkf=>⟨f6 k (hh.ne hne hy hb hly rfl hg0 hg hkf),id⟩)
  (fun g0 hg0 _ c y g1 hne hy hly hg1 hkf=>by
    have hg0:g=g0:=by simpa[qZ]using hg0
    exact hh.ne hne hy hb hly rfl hg1 hg hkf hg0.symm) (fun k hk=>by rw[f4];exact hh.dom.1 k hk)
 refine⟨p1,hk,hbk,⟨f1,f2,f3,by omega,fun k _ hB=>f6 k (by rintro rfl;exact hB ⟨b,_,_,hb,rfl,hg,.self _⟩),fun _ _ _ h=>h,fun _ h=> .inl h⟩,fun k hk=>(p2 k hk).elim (fun q=> .inl ?_) .inl,fun c h1 h2=> ?_⟩
 ·have e:g=k:=by simpa[qZ]using q.1
  subst e
  exact⟨b,_,g,hb,rfl,hg,.self _⟩
 ·have hcn:c=nid:=by
   by_cases hne:c=nid
   ·exact hne
   ·simp only[qZ,hne,if_false]at h2;exact absurd h1 h2
  subst hcn
  refine⟨.vec e sz N F, ?_,rfl⟩
  unfold qBe
  rw[qK]
  split
  ·rename_i hl;have:=qQ.1 hl;rw[List.length_set]at this;simp[this]
  ·rename_i hl
   have hln:c=(h.set b .dead).length:=by
    have:¬c<(h.set b .dead).length:=fun hlt=>by rw[qQ.2 hlt]at hl;cases hl
    omega
   rw[hln]
   exact List.getElem?_concat_length
theorem qNP {fr on:Bool}{A B C D k:Prop}{v:AV}{c:Chg}{Q:AV→Chg→Prop}(hf:on= !fr) (h:(A∧B∧C∧D)→(on=false∨k)→Q v c):
  Res.Sound (match (generalizing:=false) fr with|false=> .ob (fun _=>A∧B∧C∧D∧k) v c|true=> .ob (fun _=>A∧B∧C∧D) v c) Q:=by
 cases fr with
 |false=>exact fun⟨a,b,c,d,e⟩=>h ⟨a,b,c,d⟩ (.inr e)
 |true=>exact fun q=>h q (.inl hf)
theorem qMz (hE:EnvOk P E) {c:Call}(ho:o.op= .call c) (hcal:c.callee= .builtin .append) (hh:HeapRel w M β cp h) (hn:nid≤h.length) (hd:β nid=none) (hx:∀x,Rep w M β cp (ev s x) (a.eval x))
  (hz:∀t e sz b z,E.ty t= .slice e sz b z→z.length=sz):(qUL E c s h nid).Sound (Good P o a w M β cp h nid):=by
 unfold qUL
 split
 ·rename_i t t' x y hta ha
  split
  ·rename_i e sz bytes z q0 hT
   have q0:=qC.1 q0
   subst q0
   have hTy:=hE.ty t
   rw[hT]at hTy
   have hzl:=hz t e sz bytes z hT
   have hargs:c.args= #[x,y]:=Array.toList_inj.1 ha
   have hats:c.argTypes= #[t,t]:=Array.toList_inj.1 hta
   have run:∀v' w',(Builtin.append_ #[t,t] o.type #[a.eval x,a.eval y]).run P w= .ok v' w'→(execOp a.eval o).run P w= .ok (.value v') w':=by
    intro v' w' hv'
    simp[execOp,ho,resolve,hcal,invoke,builtin,hargs,hats,hv']
   split
   ·rename_i q m g hsrc
    have hx0:=hx x
    split
    ·rename_i b n hX
     rw[hX]at hx0
     split
     ·rename_i e' sz' k f hb
      split
      ·rename_i q1 q2
       have q1:=qC.1 q1
       have q2:=qC.1 q2
       subst q1 q2
       refine qNP (hE.fr e) fun⟨hnk,hq,hby,hmx⟩ hkn=> ?_
       obtain⟨ao,c',news,ey,hnl,hnc,hn1,hglen,hgrep⟩:=qCq hTy.2.1 hh (hx y) hsrc hq
       have hb:=qJ hb rfl
       have hobj:=hh.obj b _ hb
       obtain⟨xs,hown,hx1,hxrep⟩:∃xs,w.ownsRow 0 e sz (a.eval x) (n ()) xs∧(∀u∈xs,u.oneCell'=true)∧∀(i j:Nat) (z:AV),i<n ()→(f fun _=>i)[j]? =some z→RepC w M z (xs.getD (i*sz+j) undef):=by
        rcases qW hx0 with⟨h0,hv0⟩|⟨g0,hg0,hn0,hv0⟩
        ·refine⟨[],⟨by simp[h0],.inl ⟨hv0,h0⟩⟩,by simp,fun i j z hi=>by omega⟩
        ·rcases hobj with⟨e1,_⟩|⟨g',cur,e1,e2,e3,e4,e5,e6,e7,e8,e9⟩
         ·rw[hg0]at e1;cases e1
         ·rw[hg0]at e1;cases e1
          have hle:n ()*sz≤cur.size:=by rw[e4];exact Nat.mul_le_mul_right _ (by omega)
          have hle2:n ()*sz≤k ()*sz:=Nat.mul_le_mul_right _ hnk
          refine⟨cur.toList.take (n ()*sz),⟨by simp;omega,.inr ⟨g0,cp b,cur,hv0,Nat.zero_le _,e3,by omega,e7,e4,rfl⟩⟩,fun u hu=> ?_,fun i j z hi hj=> ?_⟩
          ·obtain⟨j,hj,rfl⟩:=List.mem_iff_getElem.1 hu
           have hj2:j<n ()*sz:=by simp at hj;omega
           have:=e5.one j (by omega)
           simpa[show j<cur.size by omega]using this
          ·have hjs:j<sz:=by rw[←e8 i (by omega)];exact(List.getElem?_eq_some_iff.1 hj).1
           have hlt:i*sz+j<n ()*sz:=by
            have:=Nat.mul_le_mul_right sz (show i+1≤n () by omega)
            rw[Nat.succ_mul]at this
            omega
           have:=e9 i j z (by omega) hj
           rw[List.getD_eq_getElem?_getD,List.getElem?_take,if_pos hlt,←List.getD_eq_getElem?_getD,←qG]
           exact this
       have hsp0:SpZ w (a.eval x) e sz (n ()):=by
        intro g1 cap1 cur1 hv1 hg1 i j q1 q2 q3
        rcases qW hx0 with⟨_,hv0⟩|⟨g0,hg0,hn0,hv0⟩
        ·rw[hv0]at hv1;cases hv1
        ·rw[hv0]at hv1
         cases hv1
         rcases hobj with⟨e1,_⟩|⟨g',cur,e1,e2,e3,e4,e5,e6,e7,e8,e9⟩
         ·rw[hg0]at e1;cases e1
         ·rw[hg0]at e1;cases e1
          rw[hg1]at e3;cases e3
          exact hkn.elim (fun h5 h6=>by rw[h5]at h6;cases h6) fun hkn=>e5.sp i j (by omega) q2 q3
       obtain⟨v',w',r1,r2,r3,r4,r5⟩:=qA3 (P:=P) (ty:=o.type) (c:=c') hTy hzl hown hnl hnc hn1 (by unfold maxLen;omega) hby hsp0
       have hvb:∀g0,(a.eval x).ownBlock=some g0→β b=some g0:=by
        intro g0 hg0
        rcases qW hx0 with⟨_,hv0⟩|⟨g1,hg1,_,hv0⟩
        ·rw[hv0]at hg0;cases hg0
        ·rw[hv0]at hg0;cases hg0;exact hg1
       have hkeep:∀k,k<w.heap.size→¬M k→w'.heap[k]? =w.heap[k]? ∧¬(M k∨v'.ownBlock=some k):=by
        intro k hk hM
        refine⟨r3.block k hk fun e=>hM (qFW hh hb rfl (hvb k e.symm)).2,fun h=> ?_⟩
        rcases h with h|h
        ·exact hM h
        ·rcases r4 with r4|r4
         ·exact hM (qFW hh hb rfl (hvb k (by rw[←r4];exact h))).2
         ·rw[r4]at h;cases h;omega
       obtain⟨cap,hcap⟩:=capOf v'
       have hβ':∀c,c≠nid→(qZ β nid v'.ownBlock) c=β c∧(qAk cp nid cap) c=cp c:=fun c hc=>by simp[qZ,qAk,hc]
       have hbk:∀c,β c≠none→(qZ β nid v'.ownBlock) c=β c∧(qAk cp nid cap) c=cp c:=fun c hc=>hβ' c (fun e=>hc (by rw[e];exact hd))
       have hnew:∀g0,v'.ownBlock=some g0→β b=some g0∨w.heap.size≤g0:=by
        intro g0 hg0
        rcases r4 with r4|r4
        ·exact .inl (hvb g0 (by rw[←r4];exact hg0))
        ·rw[r4]at hg0;cases hg0;exact .inr (Nat.le_refl _)
       have hobj':=qDi (M':=fun k=>M k∨v'.ownBlock=some k) (β':=qZ β nid v'.ownBlock) (cp':=qAk cp nid cap) (b:=nid) r2 (fun k hk=> .inr hk) (by simp[qZ]) (fun ad n c hv=>by simp[qAk,hcap ad n c hv])
        (by intro u hu;rcases List.mem_append.1 hu with hu|hu;exact hx1 u hu;exact hn1 u hu)
        (F:=fun j=>qBB sz (fun _=>decide (j ()<n ())) (f j) (g fun _=>j ()-n ())) (fun i hi=>qCa _ _ _ _)
        (fun i j z hi hj=>by
          obtain⟨hjs,rfl⟩:=qBz _ _ _ _ _ _ hj
          have hxl:xs.length=n ()*sz:=hown.1
          refine qBy _ _ (fun hc=> ?_) (fun hc=> ?_)
          ·have hi2:i<n ():=by simpa using hc
           have hlt:i*sz+j<xs.length:=by
            have:=Nat.mul_le_mul_right sz (show i+1≤n () by omega)
            rw[Nat.succ_mul]at this
            omega
           rw[List.getD_eq_getElem?_getD (l:=xs++news),List.getElem?_append_left hlt,←List.getD_eq_getElem?_getD]
           rw[List.getD_eq_getElem?_getD]
           cases hf:(f fun _=>i)[j]? with
           |none=>exact .any _
           |some z=>exact(hxrep i j z hi2 hf).keep hkeep
          ·have hi2:¬i<n ():=by simpa using hc
           have e1:i*sz+j-xs.length=(i-n ())*sz+j:=by rw[hxl,Nat.sub_mul];have:=Nat.mul_le_mul_right sz (show n ()≤i by omega);omega
           have hge:xs.length≤i*sz+j:=by rw[hxl];have:=Nat.mul_le_mul_right sz (show n ()≤i by omega);omega
           rw[List.getD_eq_getElem?_getD (l:=xs++news),List.getElem?_append_right hge,e1,←List.getD_eq_getElem?_getD]
           rw[List.getD_eq_getElem?_getD]
           cases hf:(g fun _=>i-n ())[j]? with
           |none=>exact .any _
           |some z=>exact(hgrep (i-n ()) j z (by omega) hf).keep hkeep) (n:=fun _=>n ()+m ()) rfl r5
       generalize hO:(AObj.vec e sz (fun _=>n ()+m ()) fun j=>qBB sz (fun _=>decide (j ()<n ())) (f j) (g fun _=>j ()-n ()))=O at hobj'
       have hOl:O.live=true:=by rw[←hO];rfl
       have hns:nid≤(h.set b .dead).length:=by simpa using hn
       have hget:∀c o',(qBe (h.set b .dead) nid O)[c]? =some o'→(c=nid∧o'=O)∨(c≠nid∧((c=b∧o'= .dead)∨(c≠b∧h[c]? =some o'))):=by
        intro c o' hc
        rcases qBx hns hc with h1|⟨h1,h2⟩
        ·exact .inl h1
        ·refine .inr ⟨h1, ?_⟩
         rw[List.getElem?_set]at h2
         split at h2
         ·split at h2
          ·exact .inl ⟨by omega,by cases h2;rfl⟩
          ·cases h2
         ·exact .inr ⟨by omega,h2⟩
       refine⟨.value v',v',w',fun k=>M k∨v'.ownBlock=some k,qZ β nid v'.ownBlock,qAk cp nid cap,run v' w' (by rw[ey];exact r1),.inl rfl, ?_,hobj'.2⟩
       show After w M β cp h w' _ _ _ (qBe (h.set b .dead) nid O)
       obtain⟨p1,p2⟩:=hh.put (w':=w') (M':=fun k=>M k∨v'.ownBlock=some k) (β':=qZ β nid v'.ownBlock) (cp':=qAk cp nid cap) (h':=qBe (h.set b .dead) nid O) (nid:=nid) (O:=O) (Kp:=fun c=>c≠b)
        (fun c o' hc=>(hget c o' hc).imp id fun h=>⟨h.1,h.2.imp And.right id⟩) hβ'
        (fun c hc=>by
          have:=qDa (o:=O) hns
          simp only[List.length_set]at this
          omega) hd hkeep hobj'.1 (fun g k _ _ hk=>by rw[←hO]at hk;exact hk.eq nofun)
        (fun c y g0 k hne hy hly hg0 hkf=>⟨r3.block k (hh.foot hy hly hg0 hkf).2 fun e=>hh.ne hne hy hb hly rfl hg0 (hvb k e.symm) hkf rfl,.inl⟩)
        (fun g0 hg0 _ c y g1 hne hy hly hg1 hkf=>by
          have h2:v'.ownBlock=some g0:=by simpa[qZ]using hg0
          rcases hnew g0 h2 with h3|h3
          ·exact hh.ne hne hy hb hly rfl hg1 h3 hkf rfl
          ·have:=(hh.foot hy hly hg1 hkf).2;omega) (fun k hk=>hk.elim (fun h1=>Nat.lt_of_lt_of_le (hh.dom.1 k h1) r3.size) fun h1=>qLi r2 h1)
       refine⟨p1,hkeep,hbk,⟨r3.os,r3.tape,r3.output,r3.size,fun k hk hB=> ?_,fun k _ _ hk=> .inl hk,fun k hk=> ?_⟩,fun k hk=>(p2 k hk).elim (fun q=> ?_) .inl,fun c h1 h2=> ?_⟩
       ·exact r3.block k hk fun e=>hB ⟨b,_,k,hb,rfl,hvb k e.symm,.self _⟩
       ·rcases hk with hk|hk
        ·exact .inl hk
        ·rcases hnew k hk with h1|h1
         ·exact .inl (qFW hh hb rfl h1).2
         ·exact .inr h1
       ·rcases hnew k (by simpa[qZ]using q.1)with h1|h1
        ·exact .inl ⟨b,_,k,hb,rfl,h1,.self _⟩
        ·exact .inr h1
       ·have hc:c=nid:=by
         by_cases hc:c=nid
         ·exact hc
         ·rw[(hβ' c hc).1]at h2;exact absurd h1 h2
        subst hc
        exact⟨O,qHF hns,hOl⟩
      ·trivial
     ·trivial
    ·rename_i hX
     rw[hX]at hx0
     have hv0:=qAJ hx0
     rintro⟨hq,hby,hmx⟩
     obtain⟨ao,c',news,ey,hnl,hnc,hn1,hglen,hgrep⟩:=qCq hTy.2.1 hh (hx y) hsrc hq
     have hown:w.ownsRow 0 e sz (a.eval x) 0 []:=⟨by simp,.inl ⟨hv0,rfl⟩⟩
     obtain⟨v',w',r1,r2,r3,r4,r5⟩:=qA3 (P:=P) (ty:=o.type) (c:=c') hTy hzl hown hnl hnc hn1 (by unfold maxLen;omega) (by simpa using hby) (by rw[hv0];intro g0 c0 q0 hv;cases hv)
     rw[hv0]at r3 r4
     have hkeep:∀k,k<w.heap.size→¬M k→w'.heap[k]? =w.heap[k]? ∧¬(M k∨v'.ownBlock=some k):=by
      intro k hk hM
      refine⟨r3.block k hk (by simp[Value.ownBlock]),fun h=> ?_⟩
      rcases h with h|h
      ·exact hM h
      ·rcases r4 with r4|r4
       ·rw[r4]at h;cases h
       ·rw[r4]at h;cases h;omega
     have hsame:∀k,k<w.heap.size→w'.heap[k]? =w.heap[k]? :=fun k hk=>r3.block k hk (by simp[Value.ownBlock])
     obtain⟨cap,hcap⟩:=capOf v'
     have hβ':∀c,c≠nid→(qZ β nid v'.ownBlock) c=β c∧(qAk cp nid cap) c=cp c:=fun c hc=>by simp[qZ,qAk,hc]
     have hbk:∀c,β c≠none→(qZ β nid v'.ownBlock) c=β c∧(qAk cp nid cap) c=cp c:=fun c hc=>hβ' c (fun e=>hc (by rw[e];exact hd))
     have hnew:∀g0,v'.ownBlock=some g0→w.heap.size≤g0:=by
      intro g0 hg0
      rcases r4 with r4|r4
      ·rw[r4]at hg0;cases hg0
      ·rw[r4]at hg0;cases hg0;exact Nat.le_refl _
     have hobj':=qDi (M':=fun k=>M k∨v'.ownBlock=some k) (β':=qZ β nid v'.ownBlock) (cp':=qAk cp nid cap) (b:=nid) r2 (fun k hk=> .inr hk) (by simp[qZ]) (fun ad n c hv=>by simp[qAk,hcap ad n c hv])
      (by intro u hu;exact hn1 u (by simpa using hu)) (F:=g) (fun i hi=>hglen i (by omega))
      (fun i j z hi hj=>by have:=(hgrep i j z (by omega) hj).keep hkeep;simpa using this) (n:=m) (by omega) r5
     refine⟨.value v',v',w',fun k=>M k∨v'.ownBlock=some k,qZ β nid v'.ownBlock,qAk cp nid cap,run v' w' (by rw[ey];exact r1),.inl rfl, ?_,hobj'.2⟩
     show After w M β cp h w' _ _ _ (qBe h nid _)
     obtain⟨p1,p2⟩:=hh.put (w':=w') (M':=fun k=>M k∨v'.ownBlock=some k) (β':=qZ β nid v'.ownBlock) (cp':=qAk cp nid cap) (h':=qBe h nid (.vec e sz m g)) (nid:=nid) (O:= .vec e sz m g) (Kp:=fun _=>True)
      (fun c o' hc=>(qBx hn hc).imp id fun h=>⟨h.1,.inr ⟨trivial,h.2⟩⟩) hβ'
      (fun c hc=>by
        have:=qDa (o:=AObj.vec e sz m g) hn
        omega) hd hkeep hobj'.1 (fun g k _ _ hk=>hk.eq nofun)
      (fun c y g0 k _ hy hly hg0 hkf=>⟨hsame k (hh.foot hy hly hg0 hkf).2,.inl⟩)
      (fun g0 hg0 _ c y g1 _ hy hly hg1 hkf=>by
        have h2:v'.ownBlock=some g0:=by simpa[qZ]using hg0
        have h3:=hnew g0 h2
        have:=(hh.foot hy hly hg1 hkf).2
        omega) (fun k hk=>hk.elim (fun h1=>Nat.lt_of_lt_of_le (hh.dom.1 k h1) r3.size) fun h1=>qLi r2 h1)
     refine⟨p1,hkeep,hbk,⟨r3.os,r3.tape,r3.output,r3.size,fun k hk _=>hsame k hk,fun k _ _ hk=> .inl hk,fun k hk=>hk.elim .inl fun h1=> .inr (hnew k h1)⟩,fun k hk=>(p2 k hk).elim (fun q=> .inr (hnew k (by simpa[qZ]using q.1))) .inl,fun c h1 h2=> ?_⟩
     ·have hc:c=nid:=by
       by_cases hc:c=nid
       ·exact hc
       ·rw[(hβ' c hc).1]at h2;exact absurd h1 h2
      subst hc
      exact⟨_,qHF hn,rfl⟩
    ·trivial
   ·trivial
  ·trivial
 ·trivial
theorem qKn {f:FuncId}{d:qUK}(hpc:qBf P f (qGU d)) (hh:HeapRel w M β cp h) (hn:nid≤h.length) (hd:β nid=none) {A0 A:List AV}{vs:Array Value}(hargs:qAs w M β cp A0 vs.toList) {q:List (Th Prop)}{l:List Nat}
  (hl:lower.lowerL h A0=some (q,l,A)) (hq:∀x∈q,x ()) (hcl:qL A=true) {p:Th Prop}{r:AV}{e:TypeId}{sz:Nat}{n:Th Nat}{g:Th Nat→List AV}(hdA:d A=some (p,r,.vec e sz n g)) (hp:p ())
  (hls:l=[]∨(qCk r=true∧∀i,i<n ()→qD0 (g fun _=>i)=true)):
  Calls P f vs w fun x w'=>∃v M2 β2 cp2,x= .returned v∧After w M β cp h w' M2 β2 cp2 (qBe h nid (.vec e sz n g))∧Rep w' M2 β2 cp2 (r.shift nid) v:=by
 have hA':=qBa hh _ q l A hl hq l (fun _ h=>h) _ hargs
 have hA2:qAs w (fun k=>M k∧¬qF6 w h β l k) (fun _=>none) (fun _=>0) A vs.toList:=⟨hA'.1,fun j x hj=> .c (qR (hA'.2 j x hj) (qT hcl hj))⟩
 have hpc':=hpc A (fun r' H'=>r'=r∧H'=[.vec e sz n g]) (by unfold qGU;rw[hdA];exact .mk hp ⟨rfl,rfl⟩)
 refine(hpc' w (fun k=>M k∧¬qF6 w h β l k) (fun _=>none) (fun _=>0) _ ⟨fun _ _=>rfl,fun b o hb=>by simp at hb,fun b b' o o' g g' k hb=>by simp at hb,hh.dom.less fun k hk=>hk.1⟩ hA2).mono ?_
 rintro x w' ⟨v,r',H',kl,M',β',cp',rfl,⟨rfl,rfl⟩,hh',hak,hrep⟩
 have hsame:∀k,k<w.heap.size→w'.heap[k]? =w.heap[k]? :=fun k hk=>hak.ext.block k hk (by rintro⟨b,o,g,hb,_⟩;simp at hb)
 have hout:∀b,β' b≠none→b=0:=fun b hb=>by
  rcases Nat.eq_zero_or_pos b with h0|h0
  ·exact h0
  ·exact absurd (hh'.out b (show 1≤b from h0)) hb
 have hfresh:∀g,β' 0=some g→w.heap.size≤g:=fun g hg=>(hak.own g ⟨0,_,g,rfl,rfl,hg,.self _⟩).elim (by rintro⟨b,o,g,hb,_⟩;simp at hb) id
 have hkeep:∀k,k<w.heap.size→¬M k→w'.heap[k]? =w.heap[k]? ∧¬(M' k∨M k):=fun k hk hM=>by
  have:=hak.keep k hk (fun h=>hM h.1)
  exact⟨this.1,fun h=>h.elim this.2 hM⟩
 have hbk:∀b,β b≠none→qZ β nid (β' 0) b=β b∧qAk cp nid (cp' 0) b=cp b:=by
  intro b hb
  have:b≠nid:=by rintro rfl;exact hb hd
  simp[qZ,qAk,this]
 have hsh:∀b,β' b≠none→qZ β nid (β' 0) (b+nid)=β' b∧qAk cp nid (cp' 0) (b+nid)=cp' b:=by
  intro b hb
  obtain rfl:=hout b hb
  simp[qZ,qAk]
 have hM2:l=[]→∀k,(M' k∨M k)→M' k:=by
  rintro rfl k hk
  refine hk.elim id fun hk=>hak.ext.sub k (hh.dom.1 k hk) (by rintro⟨b,o,g,hb,_⟩;simp at hb) ⟨hk, ?_⟩
  rintro⟨b,hb,_⟩
  cases hb
 have upC:∀x v,(l=[]∨qCk x=true)→RepC w' M' x v→RepC w' (fun k=>M' k∨M k) x v:=by
  intro x v hx hr
  rcases hx with hd|hx
  ·exact hr.keep fun k _ hM=>⟨rfl,fun h=>hM (hM2 hd k h)⟩
  ·exact qBD hr hx
 have hob:qAo w' (fun k=>M' k∨M k) (qZ β nid (β' 0)) (qAk cp nid (cp' 0)) nid (.vec e sz n g):=by
  have e1:qZ β nid (β' 0) nid=β' 0:=by simp[qZ]
  have e2:qAk cp nid (cp' 0) nid=cp' 0:=by simp[qAk]
  rcases hh'.obj 0 _ rfl with⟨o1,o2⟩|⟨g',cur,o1,o2,o3,o4,o5,o6,o7,o8,o9⟩
  ·exact .inl ⟨e1.trans o1,o2⟩
  ·refine .inr ⟨g',cur,e1.trans o1,.inl o2,o3,by rw[e2];exact o4,by rw[e2];exact o5,by rw[e2];exact o6,by rw[e2];exact o7,o8,fun i j x hi hj=>upC x _ ?_ (o9 i j x hi hj)⟩
   exact hls.imp id fun h=>qAD (h.2 i hi) hj
 obtain⟨p1,p2⟩:=hh.put (w':=w') (M':=fun k=>M' k∨M k) (β':=qZ β nid (β' 0)) (cp':=qAk cp nid (cp' 0)) (h':=qBe h nid (.vec e sz n g)) (nid:=nid) (O:= .vec e sz n g) (Kp:=fun _=>True)
  (fun c o' hc=>(qBx hn hc).imp id fun h=>⟨h.1,.inr ⟨trivial,h.2⟩⟩) (fun c hc=>by simp[qZ,qAk,hc])
  (fun c hc=>by
    have:=qDa (o:=AObj.vec e sz n g) hn
    omega) hd hkeep hob (fun g k _ _ hk=>hk.eq nofun)
  (fun c y g0 k _ hy hly hg0 hkf=>⟨hsame k (hh.foot hy hly hg0 hkf).2,.inr⟩)
  (fun g0 hg0 _ c y g1 _ hy hly hg1 hkf=>by
    have h3:=hfresh g0 (by simpa[qZ]using hg0)
    have:=(hh.foot hy hly hg1 hkf).2
    omega) (fun k hk=>hk.elim (hh'.dom.1 k) fun h1=>Nat.lt_of_lt_of_le (hh.dom.1 k h1) hak.ext.size)
 refine⟨v,fun k=>M' k∨M k,qZ β nid (β' 0),qAk cp nid (cp' 0),rfl,⟨p1,hkeep,hbk,
  ⟨hak.ext.os,hak.ext.tape,hak.ext.output,hak.ext.size,fun k hk _=>hsame k hk,fun k _ _ hk=> .inr hk,fun k hk=>hk.elim (fun h=>(hak.ext.new k h).imp And.left id) .inl⟩,fun k hk=>(p2 k hk).elim (fun q=> .inr (hfresh k (by simpa[qZ]using q.1))) .inl,fun b h1 h2=> ?_⟩, ?_⟩
 ·have hbn:b=nid:=by
   by_cases hne:b=nid
   ·exact hne
   ·simp only[qZ,hne,if_false]at h2;exact absurd h1 h2
  subst hbn
  exact⟨_,qHF hn,rfl⟩
 ·refine qCs (β:=β') (cp:=cp') hsh _ v ?_
  rcases hls with hl|hl
  ·exact hrep.keep (fun k _ hM=>⟨rfl,fun h=>hM (hM2 hl k h)⟩) fun _ _=>⟨rfl,rfl⟩
  ·exact qHD hrep hl.1
theorem qKo {f:FuncId}{b e sz e' sz':Nat}{n m m' N:Th Nat}{g g':Th Nat→List AV}{rest:List AV}{vs:Array Value}
  (hF:qO P f (.own 0 n::rest) [.vec e sz m g] fun r H _=>r= .own 0 N∧H=[.vec e' sz' m' g']) (hh:HeapRel w M β cp h) (hn:nid≤h.length) (hd:β nid=none) (hcl:qL rest=true)
  (hb:h[b]? =some (.vec e sz m g)) (hA:qAs w M β cp (.own b n::rest) vs.toList):
  Calls P f vs w fun x w'=>∃v M2 β2 cp2,x= .returned v∧After w M β cp h w' M2 β2 cp2 (qBe (h.set b .dead) nid (.vec e' sz' m' g'))∧Rep w' M2 β2 cp2 (.own nid N) v:=by
 have hobj:=hh.obj b _ hb
 have h1obj:HeapRel w M (fun c=>if c=0 then β b else none) (fun _=>cp b) [.vec e sz m g]:=by
  refine⟨fun c hc=> ?_,fun c o hc=> ?_,fun c c' o o' _ _ _ hc hc' _ _ _ _ _ _=> ?_,hh.dom⟩
  ·have:c≠0:=by simp at hc;omega
   simp[this]
  ·cases c with
   |succ c=>simp at hc
   |zero=>
    simp at hc
    subst hc
    rcases hobj with⟨h1,h2⟩|⟨g0,cur,h1,h2,h3,h4,h5,h6,h7,h8,h9⟩
    ·exact .inl ⟨by simpa using h1,h2⟩
    ·exact .inr ⟨g0,cur,by simpa using h1,h2,h3,h4,h5,h6,h7,h8,h9⟩
  ·have e1:c=0:=by have:=(List.getElem?_eq_some_iff.1 hc).1;simp at this;omega
   have e2:c'=0:=by have:=(List.getElem?_eq_some_iff.1 hc').1;simp at this;omega
   omega
 have h1args:qAs w M (fun c=>if c=0 then β b else none) (fun _=>cp b) (.own 0 n::rest) vs.toList:=by
  refine⟨by have:=hA.1;simpa using this,fun j x hj=> ?_⟩
  cases j with
  |zero=>
   simp at hj
   subst hj
   rcases qW (hA.2 0 _ rfl)with⟨h0,hv0⟩|⟨g0,hg0,hn0,hv0⟩
   ·rw[hv0];exact .own0 0 _ h0
   ·rw[hv0];exact .own (cp:=fun _=>cp b) 0 _ g0 (by simpa using hg0) hn0
  |succ j=>exact .c (qR (hA.2 (j+1) x (by simpa using hj)) (qT hcl (by simpa using hj)))
 refine(hF w M _ _ vs h1obj h1args).mono ?_
 rintro ex w' ⟨v,r,H',kl,M',β',cp',rfl,⟨rfl,rfl⟩,hh',hak,hrep⟩
 have hbl:b<h.length:=(List.getElem?_eq_some_iff.1 hb).1
 have hns:nid≤(h.set b .dead).length:=by simpa using hn
 have hbk:∀c,β c≠none→qZ β nid (β' 0) c=β c∧qAk cp nid (cp' 0) c=cp c:=fun c hc=>by
  have:c≠nid:=by rintro rfl;exact hc hd
  simp[qZ,qAk,this]
 have hget:∀c o',(qBe (h.set b .dead) nid (AObj.vec e' sz' m' g'))[c]? =some o'→(c=nid∧o'= .vec e' sz' m' g')∨(c≠nid∧((c=b∧o'= .dead)∨(c≠b∧h[c]? =some o'))):=by
  intro c o' hc
  rcases qBx hns hc with h1|⟨h1,h2⟩
  ·exact .inl h1
  ·refine .inr ⟨h1, ?_⟩
   rw[List.getElem?_set]at h2
   split at h2
   ·exact .inl ⟨by omega,by cases h2;rfl⟩
   ·exact .inr ⟨by omega,h2⟩
 have hblk0:∀k,qAL w (fun c=>if c=0 then β b else none) [.vec e sz m g] k→β b=some k:=by
  rintro k ⟨c',o,g0,hc',hl',hg',hk⟩
  have e1:c'=0:=by have:=(List.getElem?_eq_some_iff.1 hc').1;simp at this;omega
  subst e1
  simp at hc'
  subst hc'
  rw[hk.eq nofun]
  simpa using hg'
 have hother:∀c (x:AObj) g0 k,c≠b→h[c]? =some x→x.live=true→β c=some g0→Foot w g0 x k→w'.heap[k]? =w.heap[k]? :=fun c x g0 k hc hx hl hg0 hk=>
  hak.ext.block k (hh.foot hx hl hg0 hk).2 fun hB=>hh.ne hc hx hb hl rfl hg0 (hblk0 k hB) hk rfl
 have hsub:∀c (x:AObj) g0 k,c≠b→h[c]? =some x→x.live=true→β c=some g0→Foot w g0 x k→M k→M' k:=fun c x g0 k hc hx hl hg0 hk=>
  hak.ext.sub k (hh.foot hx hl hg0 hk).2 fun hB=>hh.ne hc hx hb hl rfl hg0 (hblk0 k hB) hk rfl
 have hnew:∀g0,β' 0=some g0→β b=some g0∨w.heap.size≤g0:=fun g0 hg0=>(hak.own g0 ⟨0,_,g0,rfl,rfl,hg0,.self _⟩).imp (hblk0 g0) id
 obtain⟨p1,p2⟩:=hh.put (w':=w') (M':=M') (β':=qZ β nid (β' 0)) (cp':=qAk cp nid (cp' 0)) (h':=qBe (h.set b .dead) nid (.vec e' sz' m' g')) (nid:=nid) (O:= .vec e' sz' m' g') (Kp:=fun c=>c≠b)
  (fun c o' hc=>(hget c o' hc).imp id fun h=>⟨h.1,h.2.imp And.right id⟩) (fun c hc=>by simp[qZ,qAk,hc])
  (fun c hc=>by
    have:=qDa (o:=AObj.vec e' sz' m' g') hns
    simp only[List.length_set]at this
    omega) hd hak.keep
  (by
    rcases hh'.obj 0 _ rfl with⟨h1,h2⟩|⟨g0,cur,h1,h2,h3,h4,h5,h6,h7,h8,h9⟩
    ·exact .inl ⟨by simp only[qZ,if_true];exact h1,h2⟩
    ·exact .inr ⟨g0,cur,by simp only[qZ,if_true];exact h1,h2,h3,by simp only[qAk,if_true];exact h4,by simp only[qAk,if_true];exact h5,by simp only[qAk,if_true];exact h6,by simp only[qAk,if_true];exact h7,h8,h9⟩)
  (fun g k _ _ hk=>hk.eq nofun) (fun c y g0 k hne hy hly hg0 hkf=>⟨hother c y g0 k hne hy hly hg0 hkf,hsub c y g0 k hne hy hly hg0 hkf⟩)
  (fun g0 hg0 _ c y g1 hne hy hly hg1 hkf=>by
    rcases hnew g0 (by simpa[qZ]using hg0)with h3|h3
    ·exact hh.ne hne hy hb hly rfl hg1 h3 hkf rfl
    ·have:=(hh.foot hy hly hg1 hkf).2;omega) hh'.dom.1
 refine⟨v,M',qZ β nid (β' 0),qAk cp nid (cp' 0),rfl,⟨p1,hak.keep,hbk,⟨hak.ext.os,hak.ext.tape,hak.ext.output,hak.ext.size,fun k hk hB=>hak.ext.block k hk fun hB2=>hB ⟨b,_,k,hb,rfl,hblk0 k hB2,.self _⟩,fun k hk hB=>hak.ext.sub k hk fun hB2=>hB ⟨b,_,k,hb,rfl,hblk0 k hB2,.self _⟩,hak.ext.new⟩,fun k hk=>(p2 k hk).elim (fun q=> ?_) .inl,fun c h1 h2=> ?_⟩, ?_⟩
 ·rcases hnew k (by simpa[qZ]using q.1)with hx|hx
  ·exact .inl ⟨b,_,k,hb,rfl,hx,.self _⟩
  ·exact .inr hx
 ·have hcn:c=nid:=by
   by_cases hne:c=nid
   ·exact hne
   ·simp only[qZ,hne,if_false]at h2;exact absurd h1 h2
  subst hcn
  exact⟨_,qHF hns,rfl⟩
 ·rcases qW hrep with⟨h0,rfl⟩|⟨g0,hg0,hn0,rfl⟩
  ·exact .own0 nid _ h0
  ·have:=Rep.own (w:=w') (M:=M') (β:=qZ β nid (β' 0)) (cp:=qAk cp nid (cp' 0)) nid N g0 (by simp only[qZ,if_true];exact hg0) (by simp only[qAk,if_true];exact hn0)
   simpa[qAk]using this
def qKp (P:Program) (o:Oper) (a:Act) (w:World) (M:Nat→Prop) (β:Nat→Option Nat) (cp:Nat→Nat) (h:Hp) (nid:Nat) (v:AV) (c:Chg):Prop:=
 ∀(next:Act→World→Prop) (Q:Exit→Act→World→Prop),(∀v' w' M' β' cp',After w M β cp h w' M' β' cp' (c.on nid h)→Rep w' M' β' cp' v v'→next (a.put o.dst v') w')→o.wp P a w next Q
theorem qP6 (hh:HeapRel w M β cp h) {x y:AV}{q:List (Th Prop)}{d:List Nat}(hl:qUx h x=some (q,d,y)) (hq:∀p∈q,p ()) {D:List Nat}(hD:∀b∈d,b∈D) {v:Value}(hr:Rep w M β cp x v):
  Rep w (fun k=>M k∧¬qF6 w h β D k) β cp y v:=by
 unfold qUx at hl
 split at hl
 ·rename_i r hc
  cases hl
  exact .c (qI6 hh hc hq hD hr)
 ·exact qD1 hh _ _ _ _ hl hq D hD _ hr
theorem qI9 (hh:HeapRel w M β cp h) {D:List Nat}:∀(l:List AV) (q:List (Th Prop)) (d:List Nat) (l':List AV),qI7 h l=some (q,d,l')→(∀p∈q,p ())→(∀b∈d,b∈D)→∀(vs:List Value),qAs w M β cp l vs→
  qAs w (fun k=>M k∧¬qF6 w h β D k) β cp l' vs
 |[],q,d,l',hl,hq,hD,vs,hr=>by
  simp only[qI7,Option.some.injEq,Prod.mk.injEq]at hl
  obtain⟨rfl,rfl,rfl⟩:=hl
  exact⟨hr.1,fun j x hj=>by simp at hj⟩
 |x::l,q,d,l',hl,hq,hD,vs,hr=>by
  simp only[qI7]at hl
  split at hl
  ·rename_i q1 d1 y q2 d2 l2 h1 h2
   simp only[Option.some.injEq,Prod.mk.injEq]at hl
   obtain⟨rfl,rfl,rfl⟩:=hl
   match vs,hr with
   |[],hr=>exact absurd hr.1 (by simp)
   |u::vs,hr=>
    have hx:=qP6 hh h1 (fun p hp=>hq p (by simp[hp])) (fun b hb=>hD b (by simp[hb])) (v:=u) (by have:=hr.2 0 x rfl;simpa using this)
    have:=qI9 hh l _ _ _ h2 (fun p hp=>hq p (by simp[hp])) (fun b hb=>hD b (by simp[hb])) vs ⟨by have:=hr.1;simp at this;omega,fun j x hj=>by have:=hr.2 (j+1) x (by simpa using hj);simpa using this⟩
    refine⟨by have:=this.1;simp;omega,fun j z hj=> ?_⟩
    cases j with
    |zero=>simp at hj;subst hj;simpa using hx
    |succ j=>have:=this.2 j z (by simpa using hj);simpa using this
  ·cases hl
theorem qJa (hh:HeapRel w M β cp h) {D:List Nat}{C:List AV}:∀(l:List AV) (q:List (Th Prop)) (d:List Nat) (l':List AV),qKl h C l=some (q,d,l')→(∀p∈q,p ())→(∀b∈d,b∈D)→∀(vs:List Value),qAs w M β cp (l++C) vs→
  qAs w (fun k=>M k∧¬qF6 w h β D k) β cp l' vs
 |[],q,d,l',hl,hq,hD,vs,hr=>qI9 hh C q d l' hl hq hD vs hr
 |x::l,q,d,l',hl,hq,hD,vs,hr=>by
  simp only[qKl]at hl
  split at hl
  ·rename_i q1 d1 y q2 d2 l2 h1 h2
   simp only[Option.some.injEq,Prod.mk.injEq]at hl
   obtain⟨rfl,rfl,rfl⟩:=hl
   match vs,hr with
   |[],hr=>exact absurd hr.1 (by simp)
   |u::vs,hr=>
    have hx:=qD1 hh _ _ _ _ h1 (fun p hp=>hq p (by simp[hp])) D (fun b hb=>hD b (by simp[hb])) u (by have:=hr.2 0 x rfl;simpa using this)
    have:=qJa hh l _ _ _ h2 (fun p hp=>hq p (by simp[hp])) (fun b hb=>hD b (by simp[hb])) vs ⟨by have:=hr.1;simp at this;simpa using this,fun j x hj=>by have:=hr.2 (j+1) x (by simpa using hj);simpa using this⟩
    refine⟨by have:=this.1;simp;omega,fun j z hj=> ?_⟩
    cases j with
    |zero=>simp at hj;subst hj;simpa using hx
    |succ j=>have:=this.2 j z (by simpa using hj);simpa using this
  ·cases hl
theorem qMA {f:FuncId}{d:Det}{A0 C:List AV}{vs:Array Value}(hpc:qBf P f (qM d)) (hh:HeapRel w M β cp h) (hargs:qAs w M β cp (A0++C) vs.toList) (hr:(execOp a.eval o).run P w= .ok (.enter f vs) w):
  (qXG d h A0 C).Sound (qKp P o a w M β cp h nid):=by
 unfold qXG
 split
 ·rename_i q l A hl
  split
  ·rename_i p r hcl hdA
   have key:(l=[]∨qCk r=true)→closed r=true→qNL q p ()→qKp P o a w M β cp h nid r .no:=by
    intro hls hcr hqp next Q hnext
    obtain⟨hq,hp⟩:=qBN hqp
    unfold Oper.wp
    rw[hr,Oper.upon_enter]
    have hA':=qJa hh (D:=l) A0 q l A hl hq (fun _ h=>h) _ hargs
    have hA2:qAs w (fun k=>M k∧¬qF6 w h β l k) (fun _=>none) (fun _=>0) A vs.toList:=⟨hA'.1,fun j x hj=> .c (qR (hA'.2 j x hj) (qT hcl hj))⟩
    have hpc':=hpc A (fun r' H'=>r'=r∧H'=[]) (by unfold qM;rw[hdA];exact .mk hp ⟨rfl,rfl⟩)
    refine(hpc' w (fun k=>M k∧¬qF6 w h β l k) (fun _=>none) (fun _=>0) _ ⟨fun _ _=>rfl,fun b o hb=>by simp at hb,fun b b' o o' g g' k hb=>by simp at hb,hh.dom.less fun k hk=>hk.1⟩ hA2).mono ?_
    rintro e w' ⟨v,r',H',kl,M',β',cp',rfl,⟨rfl,rfl⟩,hh',hak,hrep⟩
    have hsame:∀k,k<w.heap.size→w'.heap[k]? =w.heap[k]? :=fun k hk=>hak.ext.block k hk (by rintro⟨b,o,g,hb,_⟩;simp at hb)
    have hkeep:∀k,k<w.heap.size→¬M k→w'.heap[k]? =w.heap[k]? ∧¬M k:=fun k hk hM=>⟨hsame k hk,hM⟩
    have hrC:=qR hrep hcr
    obtain⟨s1,s2⟩:=hh.grow hak.ext.size hsame
    refine hnext v w' M β cp ⟨s1,hkeep,fun _ _=>⟨rfl,rfl⟩,⟨hak.ext.os,hak.ext.tape,hak.ext.output,hak.ext.size,fun k hk _=>hsame k hk,fun _ _ _ h=>h,fun _ h=> .inl h⟩,fun k hk=> .inl (s2 k hk),fun _ h1 h2=>absurd h1 h2⟩ (.c ?_)
    ·rcases hls with rfl|hns
     ·exact hrC.keep fun k _ hM=>⟨rfl,fun h=>hM (hak.ext.sub k (hh.dom.1 k h) (by rintro⟨b,o,g,hb,_⟩;simp at hb) ⟨h,by rintro⟨b,hb,_⟩;cases hb⟩)⟩
     ·exact qBD hrC hns
   split
   ·exact fun hqp=>key (.inl rfl) ‹closed _=true› hqp
   ·exact fun hqp=>key (.inr ‹qCk _=true›) ‹closed _=true› hqp
   ·trivial
  ·trivial
 ·trivial
theorem qKq (hE:EnvOk P E) (hZ:Zl E) (hD:qBk P det) (hh:HeapRel w M β cp h) (hn:nid≤h.length) (hd:β nid=none) (ht:∀t,Rep w M β cp (lk s t) (a.tmps.getD t undef)):
  (qCK E det o s h nid).Sound (qKp P o a w M β cp h nid):=by
 have hx:=fun x=>qGG (a:=a) ht x
 have hs:=qGH (o:=o) (nid:=nid) hE hh hn hd hx
 have good:∀v c,Good P o a w M β cp h nid v c→qKp P o a w M β cp h nid v c:=by
  rintro v c ⟨n,v',w',M',β',cp',hr,hnv,haf,hrep⟩ next Q hnext
  unfold Oper.wp
  rw[hr]
  rcases hnv with rfl|⟨rfl,rfl⟩
  ·exact hnext _ _ _ _ _ haf hrep
  ·exact hnext _ _ _ _ _ haf hrep
 unfold qCK
 split
 ·rename_i v c he;rw[he]at hs;exact good v c hs
 ·rename_i p v c he;rw[he]at hs;exact fun hp=>good v c (hs hp)
 ·split
  ·rename_i c ho
   split
   ·rename_i f hc
    split
    ·rename_i d hdf
     split
     ·rename_i q l A hl
      split
      ·rename_i p r hcl hdA
       obtain⟨hent,hpc⟩:=hD f _ hdf
       have hargs:qAs w M β cp (c.args.toList.map (ev s)) (c.args.map a.eval).toList:=⟨by simp,fun j x hj=>by
        simp only[List.getElem?_map,Option.map_eq_some_iff]at hj
        obtain⟨y,hy,rfl⟩:=hj
        have:(c.args.map a.eval).toList[j]? =some (a.eval y):=by rw[Array.toList_map,List.getElem?_map,hy];rfl
        rw[List.getD_eq_getElem?_getD,this]
        exact hx y⟩
       have key:(l=[]∨qCk r=true)→closed r=true→qNL q p ()→qKp P o a w M β cp h nid r .no:=by
        intro hls hcr hqp next Q hnext
        obtain⟨hq,hp⟩:=qBN hqp
        have hr:(execOp a.eval o).run P w= .ok (.enter f (c.args.map a.eval)) w:=by
         simp[execOp,ho,resolve,hc,Act.eval,Deferred.ofValue,invoke,qAv hent]
        unfold Oper.wp
        rw[hr,Oper.upon_enter]
        have hA':=qBa hh _ q l A hl hq l (fun _ h=>h) _ hargs
        have hA2:qAs w (fun k=>M k∧¬qF6 w h β l k) (fun _=>none) (fun _=>0) A (c.args.map a.eval).toList:=⟨hA'.1,fun j x hj=> .c (qR (hA'.2 j x hj) (qT hcl hj))⟩
        have hpc':=hpc A (fun r' H'=>r'=r∧H'=[]) (by unfold qM;rw[hdA];exact .mk hp ⟨rfl,rfl⟩)
        refine(hpc' w (fun k=>M k∧¬qF6 w h β l k) (fun _=>none) (fun _=>0) _ ⟨fun _ _=>rfl,fun b o hb=>by simp at hb,fun b b' o o' g g' k hb=>by simp at hb,hh.dom.less fun k hk=>hk.1⟩ hA2).mono ?_
        rintro e w' ⟨v,r',H',kl,M',β',cp',rfl,⟨rfl,rfl⟩,hh',hak,hrep⟩
        have hsame:∀k,k<w.heap.size→w'.heap[k]? =w.heap[k]? :=fun k hk=>hak.ext.block k hk (by rintro⟨b,o,g,hb,_⟩;simp at hb)
        have hkeep:∀k,k<w.heap.size→¬M k→w'.heap[k]? =w.heap[k]? ∧¬M k:=fun k hk hM=>⟨hsame k hk,hM⟩
        have hrC:=qR hrep hcr
        obtain⟨s1,s2⟩:=hh.grow hak.ext.size hsame
        refine hnext v w' M β cp ⟨s1,hkeep,fun _ _=>⟨rfl,rfl⟩,⟨hak.ext.os,hak.ext.tape,hak.ext.output,hak.ext.size,fun k hk _=>hsame k hk,fun _ _ _ h=>h,fun _ h=> .inl h⟩,fun k hk=> .inl (s2 k hk),fun _ h1 h2=>absurd h1 h2⟩ (.c ?_)
        ·rcases hls with rfl|hns
         ·exact hrC.keep fun k _ hM=>⟨rfl,fun h=>hM (hak.ext.sub k (hh.dom.1 k h) (by rintro⟨b,o,g,hb,_⟩;simp at hb) ⟨h,by rintro⟨b,hb,_⟩;cases hb⟩)⟩
         ·exact qBD hrC hns
       split
       ·exact fun hqp=>key (.inl rfl) ‹closed _=true› hqp
       ·exact fun hqp=>key (.inr ‹qCk _=true›) ‹closed _=true› hqp
       ·trivial
      ·trivial
     ·trivial
    ·rename_i d hdf
     split
     ·rename_i q l A hl
      split
      ·rename_i p r hcl hdA
       obtain⟨hent,hpc⟩:=hD f _ hdf
       have hargs:qAs w M β cp (c.args.toList.map (ev s)) (c.args.map a.eval).toList:=⟨by simp,fun j x hj=>by
        simp only[List.getElem?_map,Option.map_eq_some_iff]at hj
        obtain⟨y,hy,rfl⟩:=hj
        have:(c.args.map a.eval).toList[j]? =some (a.eval y):=by rw[Array.toList_map,List.getElem?_map,hy];rfl
        rw[List.getD_eq_getElem?_getD,this]
        exact hx y⟩
       intro hqp next Q hnext
       obtain⟨hq,hp⟩:=qBN hqp
       have hr:(execOp a.eval o).run P w= .ok (.enter f (c.args.map a.eval)) w:=by
        simp[execOp,ho,resolve,hc,Act.eval,Deferred.ofValue,invoke,qAv hent]
       unfold Oper.wp
       rw[hr,Oper.upon_enter]
       refine(qLn (nid:=nid) (hpc A p r hdA hp) hh hargs hl hq hcl).mono ?_
       rintro x w' ⟨v,rfl,haf,hrep⟩
       exact hnext v w' M β cp haf hrep
      ·trivial
     ·trivial
    ·rename_i d hdf
     split
     ·rename_i q l A hl
      split
      ·rename_i p r e sz n g hcl hdA
       obtain⟨hent,hpc⟩:=hD f _ hdf
       have hargs:qAs w M β cp (c.args.toList.map (ev s)) (c.args.map a.eval).toList:=⟨by simp,fun j x hj=>by
        simp only[List.getElem?_map,Option.map_eq_some_iff]at hj
        obtain⟨y,hy,rfl⟩:=hj
        have:(c.args.map a.eval).toList[j]? =some (a.eval y):=by rw[Array.toList_map,List.getElem?_map,hy];rfl
        rw[List.getD_eq_getElem?_getD,this]
        exact hx y⟩
       have key:(l=[]∨(qCk r=true∧∀i,i<n ()→qD0 (g fun _=>i)=true))→(∀x∈q,x ())→p ()→qKp P o a w M β cp h nid (r.shift nid) (.new (.vec e sz n g)):=by
        intro hls hq hp next Q hnext
        have hr:(execOp a.eval o).run P w= .ok (.enter f (c.args.map a.eval)) w:=by
         simp[execOp,ho,resolve,hc,Act.eval,Deferred.ofValue,invoke,qAv hent]
        unfold Oper.wp
        rw[hr,Oper.upon_enter]
        refine(qKn (f:=f) (d:=d) hpc hh hn hd hargs hl hq hcl hdA hp hls).mono ?_
        rintro x w' ⟨v,M2,β2,cp2,rfl,haf,hrep⟩
        exact hnext v w' M2 β2 cp2 haf hrep
       split
       ·exact fun hqp=>key (.inl rfl) (qBN hqp).1 (qBN hqp).2
       ·exact fun hqp=>key (.inr ⟨‹qCk _=true›,(qBN hqp).2.2⟩) (qBN hqp).1 (qBN hqp).2.1
       ·trivial
      ·trivial
     ·trivial
    ·rename_i d hdf
     obtain⟨hent,hpc⟩:=hD f _ hdf
     have hargs:qAs w M β cp (c.args.toList.map (ev s)) (c.args.map a.eval).toList:=⟨by simp,fun j x hj=>by
      simp only[List.getElem?_map,Option.map_eq_some_iff]at hj
      obtain⟨y,hy,rfl⟩:=hj
      have:(c.args.map a.eval).toList[j]? =some (a.eval y):=by rw[Array.toList_map,List.getElem?_map,hy];rfl
      rw[List.getD_eq_getElem?_getD,this]
      exact hx y⟩
     unfold qX0
     split
     ·rename_i b n rest hoa
      split
      ·rename_i e sz m g hb0
       split
       ·rename_i p N O hcl hdA
        split
        ·rename_i e' sz' m' g'
         intro hp next Q hnext
         have hA:qAs w M β cp (.own b n::rest) (c.args.map a.eval).toList:=by
          generalize c.args.toList.map (ev s)=A0 at hargs hoa
          unfold qNK at hoa
          split at hoa
          ·cases hoa;exact hargs
          ·cases hoa
         have hr:(execOp a.eval o).run P w= .ok (.enter f (c.args.map a.eval)) w:=by
          simp[execOp,ho,resolve,hc,Act.eval,Deferred.ofValue,invoke,qAv hent]
         unfold Oper.wp
         rw[hr,Oper.upon_enter]
         refine(qKo (f:=f) (hpc n e sz m g rest p N _ hcl hdA hp) hh hn hd hcl (qJ hb0 rfl) hA).mono ?_
         rintro x w' ⟨v,M2,β2,cp2,rfl,haf,hrep⟩
         exact hnext v w' M2 β2 cp2 haf hrep
        ·trivial
       ·trivial
      ·trivial
     ·trivial
    ·trivial
   ·rename_i hcal
    split
    ·rename_i b q n O ha
     intro hq
     obtain⟨g,cur,cur',e,sz,k,f,F,a1,rfl,a3,a4,a5,a6,a7,a8,a9,a10,a11,a12,a13,a14⟩:=qI4 hE ‹_› hcal hh hx ha hq
     have h2:=qP5 hh hn hd a1 a3 a4 a5 a6 a7 a8 a9 a10 a11 a12
     refine good _ _ ⟨_,_,_,M,_,_,a14,.inl rfl,h2, ?_⟩
     have:=Rep.nn (w:=w.setRow g cur') (M:=M) (β:=qZ β nid (some g)) (cp:=qAk cp nid (cp b)) nid n g (by simp[qZ]) (by simp only[qAk,if_true];omega)
     simpa[qAk]using this
    ·have ha:=qMz (o:=o) (nid:=nid) hE ‹_› hcal hh hn hd hx hZ.zl
     revert ha
     generalize qUL E _ s h nid=R
     intro ha
     cases R with
     |bad n=>trivial
     |ok v c=>exact good v c ha
     |ob p v c=>exact fun hp=>good v c (ha hp)
   ·rename_i hcal
    have ha:=qFZ (o:=o) (nid:=nid) hE ‹_› hcal hh hx
    revert ha
    generalize qGI E _ s h=R
    intro ha
    cases R with
    |bad n=>trivial
    |ok v c=>exact good v c ha
    |ob p v c=>exact fun hp=>good v c (ha hp)
   ·rename_i t hcal
    split
    ·rename_i f d l hfn
     have hargs:qAs w M β cp (c.args.toList.map (ev s)) (c.args.map a.eval).toList:=⟨by simp,fun j x hj=>by
      simp only[List.getElem?_map,Option.map_eq_some_iff]at hj
      obtain⟨y,hy,rfl⟩:=hj
      have:(c.args.map a.eval).toList[j]? =some (a.eval y):=by rw[Array.toList_map,List.getElem?_map,hy];rfl
      rw[List.getD_eq_getElem?_getD,this]
      exact hx y⟩
     have hv:=ht t
     generalize lk s t=X at hv hfn
     unfold qX1 at hfn
     split at hfn
     ·rename_i f0 l0
      split at hfn
      ·rename_i d0 hdf hbd
       cases hfn
       obtain⟨hent,hpc⟩:=hD f _ hdf
       obtain⟨cs,he2,hl1,hcs⟩:=qDQ hv
       have he2:a.tmps.getD t undef= .func (.func f) #[] cs:=he2.trans (by rw[fnV,hE.bd,hbd])
       have hargs2:qAs w M β cp (c.args.toList.map (ev s)++l) ((c.args.map a.eval)++cs).toList:=⟨by have:=hargs.1;simp at hl1 ⊢;omega,fun j x hj=>by
        rw[List.getElem?_append]at hj
        rw[Array.toList_append,List.getD_eq_getElem?_getD,List.getElem?_append]
        split at hj
        ·rename_i hlt
         rw[if_pos (by simpa using hlt),←List.getD_eq_getElem?_getD]
         exact hargs.2 j x hj
        ·rename_i hge
         rw[if_neg (by simpa using hge),←List.getD_eq_getElem?_getD]
         have:=hcs _ x hj
         simpa using this⟩
       have hr:(execOp a.eval o).run P w= .ok (.enter f ((c.args.map a.eval)++cs)) w:=by
        simp[execOp,ho,resolve,hcal,Act.eval,he2,Deferred.ofValue,invoke,qAv hent]
       exact qMA hpc hh hargs2 hr
      ·cases hfn
     ·cases hfn
    ·trivial
   ·trivial
  ·trivial
theorem qJb {sz:Nat}{h h':Hp}{Y:AV}(hb:∀b∈ids Y,nth .dead h b=nth .dead h' b):src sz h Y=src sz h' Y:=by
 cases Y<;>simp only[src]
 all_goals rw[hb _ (by simp[ids])]
theorem qMB {T:Ty}{h h':Hp}{X:AV}(hb:∀b∈ids X,nth .dead h b=nth .dead h' b):qIF T h X=qIF T h' X:=by
 cases X<;>simp only[qIF]
 all_goals rw[hb _ (by simp[ids])]
theorem qKr {T:Ty}{h h':Hp}{X V:AV}(hb:∀b∈ids X,nth .dead h b=nth .dead h' b):qGF T h X V=qGF T h' X V:=by
 cases X<;>simp only[qGF]
 all_goals rw[hb _ (by simp[ids])]
mutual
theorem qKs {h h':Hp}:∀(X:AV),(∀b∈ids X,nth .dead h b=nth .dead h' b)→lower h X=lower h' X
 | .own b n,hb=>by simp only[lower];rw[hb b (by simp[ids])]
 | .vw b _ _ _,hb=>by simp only[lower];rw[hb b (by simp[ids])]
 | .agg l,hb=>by simp only[lower];rw[qAR l (fun b h=>hb b (by simpa[ids]using h))]
 | .any,_=>rfl
 | .bc _,_=>rfl
 | .b _,_=>rfl
 | .i _ _,_=>rfl
 | .s _,_=>rfl
 | .nil,_=>rfl
 | .con _,_=>rfl
 | .tup _,_=>rfl
 | .ptr _ _,_=>rfl
 | .mr _,_=>rfl
 | .fm _ _,_=>rfl
 | .ept _ _ _ _,_=>rfl
 | .nn _ _,_=>rfl
 | .sl _ _ _,_=>rfl
 | .rp _,_=>rfl
 | .fn _ _,_=>rfl
 | .ifc _ _,_=>rfl
 | .ite _ _ _,_=>rfl
theorem qAR {h h':Hp}:∀(l:List AV),(∀b∈qDo l,nth .dead h b=nth .dead h' b)→lower.lowerL h l=lower.lowerL h' l
 |[],_=>rfl
 |x::l,hb=>by
  simp only[lower.lowerL]
  rw[qKs x (fun b h=>hb b (by simp[qDo,h])),qAR l (fun b h=>hb b (by simp[qDo,h]))]
end
theorem qA4 {s:Tm}{b:Nat}{x:Operand}:∀{l:List Operand},x∈l→b∈ids (ev s x)→b∈qCX s l
 |[],hx,_=>by simp at hx
 |y::l,hx,hb=>by
  rcases List.mem_cons.1 hx with rfl|hx
  ·simp[qCX,hb]
  ·simp[qCX,qA4 hx hb]
theorem qCt {s:Tm}{b:Nat}:∀{l:List Operand},b∈qDo (l.map (ev s))→b∈qCX s l
 |[],h=>by simp[qDo]at h
 |x::l,h=>by
  simp only[List.map_cons,qDo,List.mem_append]at h
  simp only[qCX,List.mem_append]
  exact h.imp id qCt
theorem qMC {s s':Tm}{h h':Hp}(hs:∀x∈o.op.operands.toList,ev s' x=ev s x) (hb:∀b∈qCX s o.op.operands.toList,nth .dead h' b=nth .dead h b):step E o s' h' nid=step E o s h nid:=by
 cases ho:o.op<;>simp only[step,ho]
 case move x=>rw[hs x (by simp[ho,Op.operands])]
 case assign x=>rw[hs x (by simp[ho,Op.operands])]
 case pick c x y=>rw[hs c (by simp[ho,Op.operands]),hs x (by simp[ho,Op.operands]),hs y (by simp[ho,Op.operands])]
 case box t x=>rw[hs x (by simp[ho,Op.operands])]
 case build t ps=>
  have:(ps.toList.map fun p=>(p.1,ev s' p.2))=ps.toList.map fun p=>(p.1,ev s p.2):=List.map_congr_left fun p hp=>by
   rw[hs p.2 (by simp only[ho,Op.operands];exact List.mem_map.2 ⟨p,hp,rfl⟩)]
  rw[this]
 case buildSlice t n ps=>
  have:(ps.toList.map fun p=>(p.1,ev s' p.2))=ps.toList.map fun p=>(p.1,ev s p.2):=List.map_congr_left fun p hp=>by
   rw[hs p.2 (by simp only[ho,Op.operands];exact List.mem_map.2 ⟨p,hp,rfl⟩)]
  split
  ·split
   ·rfl
   ·rename_i x hps
    rw[hs x (by simp[ho,Op.operands,hps])]
   ·rw[this]
  ·rfl
 case load t x=>rw[hs x (by simp[ho,Op.operands])];exact qMB fun b h=>hb b (qA4 (x:=x) (by simp[ho,Op.operands]) h)
 case store t x y=>
  rw[hs x (by simp[ho,Op.operands]),hs y (by simp[ho,Op.operands])]
  exact qKr fun b h=>hb b (qA4 (x:=x) (by simp[ho,Op.operands]) h)
 case nilCheck x=>rw[hs x (by simp[ho,Op.operands])]
 case binOp op t x y t'=>rw[hs x (by simp[ho,Op.operands]),hs y (by simp[ho,Op.operands])]
 case unOp op t x=>rw[hs x (by simp[ho,Op.operands])]
 case convert t t' x=>
  rw[hs x (by simp[ho,Op.operands])]
  split
  ·rfl
  ·rfl
  ·split
   ·have hb':∀b∈ids (ev s x),nth .dead h' b=nth .dead h b:=fun b h=>hb b (qA4 (x:=x) (by simp[ho,Op.operands]) h)
    revert hb'
    generalize ev s x=X
    intro hb'
    unfold qK9
    cases X
    case own b n=>dsimp only;rw[hb' b (by simp[ids])]
    case nn b n=>dsimp only;rw[hb' b (by simp[ids])]
    all_goals rfl
   ·rfl
  ·rfl
  ·rfl
 case makeSlice t x y=>rw[hs x (by simp[ho,Op.operands]),hs y (by simp[ho,Op.operands])]
 case fieldAddr t x k=>rw[hs x (by simp[ho,Op.operands])]
 case indexAddr t x y=>
  rw[hs x (by simp[ho,Op.operands]),hs y (by simp[ho,Op.operands])]
  split
  ·have hb':∀b∈ids (ev s x),nth .dead h' b=nth .dead h b:=fun b h=>hb b (qA4 (x:=x) (by simp[ho,Op.operands]) h)
   revert hb'
   generalize ev s x=X
   generalize ev s y=Y
   intro hb'
   cases X
   case own b n=>cases Y<;>first|rfl|(dsimp only;rw[hb' b (by simp[ids])])
   case nn b n=>cases Y<;>first|rfl|(dsimp only;rw[hb' b (by simp[ids])])
   all_goals (cases Y<;>rfl)
  all_goals rfl
 case typeAssert x xt t ok=>rw[hs x (by simp[ho,Op.operands])]
 case makeInterface t x=>rw[hs x (by simp[ho,Op.operands])]
 case lookup t x i ok=>
  rw[hs x (by simp[ho,Op.operands]),hs i (by simp[ho,Op.operands])]
  have hb':∀b∈ids (ev s x),nth .dead h' b=nth .dead h b:=fun b h=>hb b (qA4 (x:=x) (by simp[ho,Op.operands]) h)
  revert hb'
  generalize ev s x=X
  intro hb'
  unfold qJZ
  cases E.ma t<;>cases X<;>first|rfl|(dsimp only;rw[hb' _ (by simp[ids])])
 case mapUpdate t x i y=>
  rw[hs x (by simp[ho,Op.operands]),hs i (by simp[ho,Op.operands]),hs y (by simp[ho,Op.operands])]
  have hb':∀b∈ids (ev s x),nth .dead h' b=nth .dead h b:=fun b h=>hb b (qA4 (x:=x) (by simp[ho,Op.operands]) h)
  revert hb'
  generalize ev s x=X
  generalize ev s y=Y
  intro hb'
  unfold qEr
  cases E.ma t<;>cases X<;>cases Y<;>first|rfl|(rename_i k _;cases k<;>first|rfl|(dsimp only;rw[hb' _ (by simp[ids])]))
 case extract x k=>rw[hs x (by simp[ho,Op.operands])]
 case index t x y=>rw[hs x (by simp[ho,Op.operands]),hs y (by simp[ho,Op.operands])]
 case slice t x lo hi mx=>
  have e:∀y:Option Operand,(∀z,y=some z→z∈o.op.operands.toList)→evO s' y=evO s y:=by
   intro y hy
   cases y with
   |none=>rfl
   |some z=>simp only[evO];rw[hs z (hy z rfl)]
  rw[hs x (by simp[ho,Op.operands]),e lo (by rintro z rfl;simp[ho,Op.operands]),e hi (by rintro z rfl;simp[ho,Op.operands])]
  cases mx with
  |none=>
   have hb':∀b∈ids (ev s x),nth .dead h' b=nth .dead h b:=fun b h=>hb b (qA4 (x:=x) (by simp[ho,Op.operands]) h)
   have er:rowsOf h' (ev s x)=rowsOf h (ev s x):=by
    revert hb'
    generalize ev s x=X
    intro hb'
    cases X
    case nn b n=>simp only[rowsOf];rw[hb' b (by simp[ids])]
    all_goals rfl
   dsimp only
   rw[er]
  |some z=>dsimp only;rw[hs z (by simp[ho,Op.operands])]
 case call c=>
  have hc:∀y∈c.args.toList,ev s' y=ev s y:=fun y hy=>hs y (by simp[ho,Op.operands,Call.operands];right;simpa using hy)
  split
  ·split
   ·rename_i t x _ hx;rw[hc x (by simp[hx])]
   ·rfl
  ·split
   ·split
    ·split
     ·rename_i x y z hx;rw[hc x (by simp[hx]),hc y (by simp[hx]),hc z (by simp[hx])]
     ·rfl
    ·rfl
   ·rfl
  ·split
   ·rename_i x y hx;rw[hc x (by simp[hx]),hc y (by simp[hx])]
   ·rfl
  ·split
   ·rename_i x y hx;rw[hc x (by simp[hx]),hc y (by simp[hx])]
   ·rfl
  ·rfl
theorem qFa {h h':Hp}(x:AV) (hb:∀b∈ids x,nth .dead h' b=nth .dead h b):lower h' x=lower h x:=by
 have:=qAR (h:=h') (h':=h) [x] (fun b hm=>hb b (by simpa[qDo]using hm))
 simp only[lower.lowerL]at this
 revert this
 cases lower h' x with
 |none=>cases lower h x with
  |none=>intro;rfl
  |some r=>obtain⟨q,d,y⟩:=r;intro e;cases e
 |some r=>
  obtain⟨q,d,y⟩:=r
  cases lower h x with
  |none=>intro e;cases e
  |some r'=>obtain⟨q',d',y'⟩:=r';intro e;simp at e;obtain⟨rfl,rfl,rfl⟩:=e;rfl
theorem qMD {h h':Hp}(x:AV) (hb:∀b∈ids x,nth .dead h' b=nth .dead h b) (hb2:∀b∈qCJ h (ids x),nth .dead h' b=nth .dead h b):qUx h' x=qUx h x:=by
 have e1:=qFa x hb
 have e2:qDn h' x=qDn h x:=by
  unfold qDn
  split
  ·rename_i b
   rw[hb b (by simp[ids])]
   split
   ·rename_i cs hcs
    rw[qAR (h:=h') (h':=h) cs fun c hc=>hb2 c (by simp[ids,qCJ,hcs,hc])]
   ·rfl
  ·rfl
 unfold qUx
 rw[e1,e2]
theorem qEH {h:Hp}:∀{l m:List Nat}{b:Nat},b∈qCJ h l∨b∈qCJ h m→b∈qCJ h (l++m)
 |[],m,b,hb=>by rcases hb with hb|hb;cases hb;exact hb
 |c::l,m,b,hb=>by
  have ih:=qEH (h:=h) (l:=l) (m:=m) (b:=b)
  simp only[List.cons_append,qCJ]at hb ⊢
  split at hb
  ·rw[List.mem_append]at hb ⊢
   rcases hb with(hb|hb)|hb
   ·exact .inl hb
   ·exact .inr (ih (.inl hb))
   ·exact .inr (ih (.inr hb))
  ·exact ih hb
theorem qF9 {h h':Hp}:∀(l:List AV),(∀b∈qDo l,nth .dead h' b=nth .dead h b)→(∀b∈qCJ h (qDo l),nth .dead h' b=nth .dead h b)→qI7 h' l=qI7 h l
 |[],_,_=>rfl
 |x::r,hb,hb2=>by
  simp only[qI7]
  rw[qMD x (fun b hm=>hb b (by simp[qDo,hm])) (fun b hm=>hb2 b (by simp only[qDo];exact qEH (.inl hm))),qF9 r (fun b hm=>hb b (by simp[qDo,hm])) (fun b hm=>hb2 b (by simp only[qDo];exact qEH (.inr hm)))]
theorem qGa {h h':Hp}{C:List AV}(hC:∀b∈qDo C,nth .dead h' b=nth .dead h b) (hC2:∀b∈qCJ h (qDo C),nth .dead h' b=nth .dead h b):∀(l:List AV),(∀b∈qDo l,nth .dead h' b=nth .dead h b)→qKl h' C l=qKl h C l
 |[],_=>qF9 C hC hC2
 |x::r,hb=>by
  simp only[qKl]
  rw[qFa x (fun b hm=>hb b (by simp[qDo,hm])),qGa hC hC2 r (fun b hm=>hb b (by simp[qDo,hm]))]
theorem qKt {s s':Tm}{h h':Hp}(hs:∀x∈o.op.operands.toList,ev s' x=ev s x) (hb:∀b∈qCX s o.op.operands.toList,nth .dead h' b=nth .dead h b) (hb2:∀c t,o.op= .call c→c.callee= .value (.tmp t)→∀b∈qCJ h (ids (lk s t)),nth .dead h' b=nth .dead h b):qCK E det o s' h' nid=qCK E det o s h nid:=by
 unfold qCK
 rw[qMC hs hb]
 split
 ·rfl
 ·rfl
 ·split
  ·rename_i c ho
   split
   ·rename_i f hcal
    have hc:c.args.toList.map (ev s')=c.args.toList.map (ev s):=List.map_congr_left fun y hy=>hs y (by simp[ho,Op.operands,Call.operands];right;simpa using hy)
    rw[hc]
    split
    ·rw[qAR (h:=h') (h':=h) _ fun b hm=>hb b (by
      have:=qCt hm
      have e:o.op.operands.toList= .func f::c.args.toList:=by simp[ho,Op.operands,Call.operands,hcal]
      rw[e]
      simp[qCX,ev,ids,qDo,this])]
    ·rw[qAR (h:=h') (h':=h) _ fun b hm=>hb b (by
      have:=qCt hm
      have e:o.op.operands.toList= .func f::c.args.toList:=by simp[ho,Op.operands,Call.operands,hcal]
      rw[e]
      simp[qCX,ev,ids,qDo,this])]
    ·rw[qAR (h:=h') (h':=h) _ fun b hm=>hb b (by
      have:=qCt hm
      have e:o.op.operands.toList= .func f::c.args.toList:=by simp[ho,Op.operands,Call.operands,hcal]
      rw[e]
      simp[qCX,ev,ids,qDo,this])]
    ·unfold qX0
     split
     ·rename_i b n rest hoa
      have hbm:b∈qDo (c.args.toList.map (ev s)):=by
       generalize c.args.toList.map (ev s)=A0 at hoa
       unfold qNK at hoa
       split at hoa
       ·cases hoa;simp[qDo,ids]
       ·cases hoa
      rw[hb b (by
       have:=qCt hbm
       have e:o.op.operands.toList= .func f::c.args.toList:=by simp[ho,Op.operands,Call.operands,hcal]
       rw[e]
       simp[qCX,ev,ids,qDo,this])]
     ·rfl
    ·rfl
   ·rename_i hcal
    have hc:∀y∈c.args.toList,ev s' y=ev s y:=fun y hy=>hs y (by simp[ho,Op.operands,Call.operands];right;simpa using hy)
    have hi:∀y∈c.args.toList,∀b∈ids (ev s y),nth .dead h' b=nth .dead h b:=fun y hy b hm=>hb b (qA4 (x:=y) (by simp[ho,Op.operands,Call.operands];right;simpa using hy) hm)
    have er:qFP E c s' h'=qFP E c s h:=by
     unfold qFP
     split
     ·rename_i t t' x y _ hxy
      rw[hc x (by simp[hxy]),hc y (by simp[hxy])]
      have ix:=hi x (by simp[hxy])
      revert ix
      generalize ev s x=X
      intro ix
      split
      ·rw[ix _ (by simp[ids])]
      ·rfl
     ·rfl
    rw[er]
    split
    ·rfl
    unfold qUL
    split
    ·rename_i t t' x y _ hxy
     have ex:=hc x (by simp[hxy])
     have ey:=hc y (by simp[hxy])
     have ix:=hi x (by simp[hxy])
     have iy:=hi y (by simp[hxy])
     rw[ex,ey]
     split
     ·rw[qJb iy]
      split
      ·revert ix
       generalize ev s x=X
       intro ix
       cases X<;>first|rfl|(dsimp only;rw[ix _ (by simp[ids])])
      ·rfl
     ·rfl
    ·rfl
   ·rename_i hcal
    have hc:∀y∈c.args.toList,ev s' y=ev s y:=fun y hy=>hs y (by simp[ho,Op.operands,Call.operands];right;simpa using hy)
    have hi:∀y∈c.args.toList,∀b∈ids (ev s y),nth .dead h' b=nth .dead h b:=fun y hy b hm=>hb b (qA4 (x:=y) (by simp[ho,Op.operands,Call.operands];right;simpa using hy) hm)
    unfold qGI
    split
    ·rename_i t t' x y _ hxy
     have ex:=hc x (by simp[hxy])
     have ey:=hc y (by simp[hxy])
     have ix:=hi x (by simp[hxy])
     have iy:=hi y (by simp[hxy])
     rw[ex,ey]
     split
     ·rw[qJb iy]
      revert ix
      generalize ev s x=X
      intro ix
      split
      ·rename_i b p n hd
       have hbi:b∈ids X:=by
        unfold qXC at hd
        split at hd
        ·simp only[Option.some.injEq,Prod.mk.injEq]at hd
         obtain⟨rfl,_,_⟩:=hd
         simp[ids]
        ·split at hd
         ·simp only[Option.some.injEq,Prod.mk.injEq]at hd
          obtain⟨rfl,_,_⟩:=hd
          simp[ids]
         ·cases hd
        ·cases hd
       rw[ix _ hbi]
      ·rfl
     ·rfl
    ·rfl
   ·rename_i t hcal
    have hc:c.args.toList.map (ev s')=c.args.toList.map (ev s):=List.map_congr_left fun y hy=>hs y (by simp[ho,Op.operands,Call.operands];right;simpa using hy)
    have et:lk s' t=lk s t:=hs (.tmp t) (by simp[ho,Op.operands,Call.operands,hcal])
    rw[hc,et]
    split
    ·rename_i f d l hfn
     have hidl:ids (lk s t)=qDo l:=by
      unfold qX1 at hfn
      split at hfn
      ·rename_i f0 l0 hq
       split at hfn
       ·cases hfn;rw[hq];simp[ids]
       ·cases hfn
      ·cases hfn
     have e:o.op.operands.toList= .tmp t::c.args.toList:=by simp[ho,Op.operands,Call.operands,hcal]
     unfold qXG
     rw[qGa (h:=h) (h':=h') (C:=l) (fun b hm=>hb b (by rw[e];simp[qCX,ev,hidl,hm])) (fun b hm=>hb2 c t ho hcal b (by rw[hidl];exact hm)) _ fun b hm=>hb b (by
      rw[e]
      have:=qCt hm
      simp[qCX,this])]
    ·rfl
   ·rfl
  ·rfl
theorem qJc {s s':Tm}{h h':Hp}(hs:∀x∈o.op.operands.toList,ev s' x=ev s x) (hb:∀b∈qP3 s h o,nth .dead h' b=nth .dead h b):qCK E det o s' h' nid=qCK E det o s h nid:=by
 by_cases hm:∃x,o.op= .move x
 ·obtain⟨x,hx⟩:=hm
  have e:=hs x (by simp[hx,Op.operands])
  simp only[qCK,step,hx,e]
 ·by_cases hl:∃c,o.op= .call c∧c.callee= .builtin .len
  ·obtain⟨c,hx,hc⟩:=hl
   have he:∀y∈c.args.toList,ev s' y=ev s y:=fun y hy=>hs y (by simp[hx,Op.operands,Call.operands];right;simpa using hy)
   have e:step E o s' h' nid=step E o s h nid:=by
    simp only[step,hx,hc]
    split
    ·rename_i t x _ hy;rw[he x (by simp[hy])]
    ·rfl
   simp only[qCK,e,hx,hc]
  ·refine qKt hs (fun b h1=>hb b ?_) fun c t ho hc b h1=>hb b ?_
   ·unfold qP3
    split
    ·rename_i x hx;exact absurd ⟨x,hx⟩ hm
    ·rename_i c hx
     split
     ·rename_i hc;exact absurd ⟨c,hx,hc⟩ hl
     ·exact List.mem_append_left _ h1
     ·exact h1
    ·exact h1
   ·simp only[qP3,ho,hc]
    exact List.mem_append_right _ h1
end
end Go.Abs
namespace Go.Abs
open Go
variable [Kd]
def qBc {α:Type}(base:α) (W:Nat→Option α) (X:Nat→Bool):Nat→α
 |0=>base
 |n+1=>match W n with
  |some v=>if X n=true then v else qBc base W X n
  |none=>qBc base W X n
section
variable {α:Type}{base:α}{W:Nat→Option α}{X Y:Nat→Bool}
theorem qA8:∀{n:Nat},(∀k,k<n→W k≠none→X k=Y k)→qBc base W X n=qBc base W Y n
 |0,_=>rfl
 |n+1,h=>by
  have ih:=qA8 (n:=n) fun k hk=>h k (by omega)
  simp only[qBc]
  split
  ·rename_i v hv
   rw[ih,h n (by omega) (by rw[hv];simp)]
  ·exact ih
theorem qCY {m:Nat}:∀{n:Nat},m≤n→(∀k,m≤k→k<n→W k≠none→X k=false)→qBc base W X n=qBc base W X m
 |0,h,_=>by have:m=0:=by omega
            subst this;rfl
 |n+1,h,hk=>by
  by_cases he:m=n+1
  ·subst he;rfl
  ·have ih:=qCY (n:=n) (by omega) fun k h1 h2=>hk k h1 (by omega)
   simp only[qBc]
   split
   ·rename_i v hv
    rw[hk n (by omega) (by omega) (by rw[hv];simp)]
    simpa using ih
   ·exact ih
theorem qLo {n i:Nat}{v:α}(hi:i<n) (hv:W i=some v) (hX:X i=true) (hk:∀k,i<k→k<n→W k≠none→X k=false):qBc base W X n=v:=by
 rw[qCY (m:=i+1) (by omega) fun k h1 h2=>hk k (by omega) h2]
 simp[qBc,hv,hX]
theorem qME {n:Nat}:qBc base W X n=base∨∃k,k<n∧X k=true∧W k=some (qBc base W X n):=by
 induction n with
 |zero=>exact .inl rfl
 |succ n ih=>
  simp only[qBc]
  split
  ·rename_i v hv
   split
   ·rename_i hX;exact .inr ⟨n,by omega,hX,hv⟩
   ·exact ih.imp id fun⟨k,h1,h2⟩=>⟨k,by omega,h2⟩
  ·exact ih.imp id fun⟨k,h1,h2⟩=>⟨k,by omega,h2⟩
theorem qB3:∀{n:Nat},qBc base W (fun _=>true) (n+1)=qBc (qBc base W (fun _=>true) 1) (fun k=>W (k+1)) (fun _=>true) n
 |0=>rfl
 |n+1=>by
  have ih:=qB3 (n:=n)
  rw[qBc,ih]
  rfl
end
inductive Res.Yields (r:Res) (v:AV) (c:Chg):Prop where
 |ok (h:r= .ok v c)
 |ob (p:Th Prop) (h:r= .ob p v c) (hp:p ())
def Want (all:List (Option Tmp)) (s:Tm) (o:Oper) (ran:Bool):Prop:=match o.guard with
 |none=>ran=true
 |some (j,b)=>∃d,nth none all j=some d∧((∃x,lk s d= .bc x∧ran=(x==b))∨(∃x,lk s d= .b x∧ran=(x ()==b))∨(lk s d= .tup []∧ran=false))
def qYm (x y:AV):Prop:=∀(w:World) (M:Nat→Prop) (β:Nat→Option Nat) (cp:Nat→Nat) (v:Value),Rep w M β cp x v→Rep w M β cp y v
structure Ent (E:Env) (det:FuncId→Option Dt) (N:Nat) (all:List (Option Tmp)) (o:Oper) (s:Tm) (h:Hp) (e:TrE):Prop where
 eo:e.o=o
 rs:e.rs=slotsOf all o
 run:(Want all s o true∧(∃v0,(qCK E det o s h (qB7 det N o h)).Yields v0 e.c∧qYm v0 e.v)∧e.nid=qB7 det N o h∧e.rh=qP3 s h o∧qHE det o.op h e.c=true)∨(Want all s o false∧e.v= .tup []∧e.c= .no)
inductive Run (E:Env) (det:FuncId→Option Dt) (nt N:Nat) (all:List (Option Tmp)):List Oper→Tm→Hp→List TrE→Tm→Hp→Prop where
 |nil (s:Tm) (h:Hp):Run E det nt N all [] s h [] s h
 |cons {o:Oper}{r:List Oper}{s s' s1:Tm}{h h1:Hp}{e:TrE}{tr:List TrE}(he:Ent E det N all o s h e) (hp:put nt o.dst e.v s=some s') (hr:Run E det nt N all r s' (e.c.on e.nid h) tr s1 h1):Run E det nt N all (o::r) s h (e::tr) s1 h1
section
variable {P:Program}{E:Env}{det:FuncId→Option Dt}{nt N:Nat}{all:List (Option Tmp)}{K:Tm→Hp→List Fp→Prop}
def MOk (m:List (Nat×Bool)) (s:Tm):Prop:=∀d y x,qNM d m=some y→lk s d= .b x→x ()=y
theorem qGb {d d':Nat}{y:Bool}:∀{m:List (Nat×Bool)},qNM d (qEG (some d') m)=some y→d≠d'∧qNM d m=some y
 |[],h=>by simp[qEG,qNM]at h
 |(i,z)::r,h=>by
  simp only[qEG]at h
  split at h
  ·rename_i q
   have q:=qC.1 q
   obtain⟨h1,h2⟩:=qGb h
   refine⟨h1, ?_⟩
   simp only[qNM]
   split
   ·rename_i q2
    have q2:=qC.1 q2
    exact absurd (q2.symm.trans q) h1
   ·exact h2
  ·rename_i q
   simp only[qNM]at h ⊢
   split at h
   ·rename_i q2
    have q2:=qC.1 q2
    subst q2
    exact⟨fun e=>(by subst e;rw[qC.2 rfl]at q;cases q),h⟩
   ·exact qGb h
theorem MOk.put {nt:Nat}{o:Option Tmp}{v:AV}{m:List (Nat×Bool)}{s s':Tm}(hm:MOk m s) (hp:put nt o v s=some s'):MOk (qEG o m) s':=by
 unfold Abs.put at hp
 split at hp
 ·cases hp
  intro d y x h1 h2
  refine hm d y x ?_ h2
  cases m<;>simpa[qEG]using h1
 ·rename_i d'
  split at hp
  ·cases hp
   intro d y x h1 h2
   obtain⟨h3,h4⟩:=qGb h1
   refine hm d y x h4 ?_
   simp only[lk]at h2
   split at h2
   ·rename_i q;exact absurd (qC.1 q).symm h3
   ·exact h2
  ·cases hp
theorem MOk.cons {m:List (Nat×Bool)}{s:Tm}{d:Nat}{x:Th Bool}{y:Bool}(hm:MOk m s) (hl:lk s d= .b x) (hx:x ()=y):MOk ((d,y)::m) s:=by
 intro d2 y2 x2 h1 h2
 simp only[qNM]at h1
 split at h1
 ·rename_i q
  have q:=qC.1 q
  subst q
  cases h1
  rw[hl]at h2
  cases h2
  exact hx
 ·exact hm d2 y2 x2 h1 h2
theorem qLp {w:World}{M:Nat→Prop}{β:Nat→Option Nat}{cp:Nat→Nat}{c:Th Bool}{v:Value}(X Y:AV) (hr:Rep w M β cp (AV.pick c X Y) v):(c ()=true→Rep w M β cp X v)∧(c ()=false→Rep w M β cp Y v):=by
 unfold AV.pick at hr
 split at hr
 ·rw[qAB hr];exact⟨fun h=>by rw[h];exact .c (.i _ _),fun h=>by rw[h];exact .c (.i _ _)⟩
 ·rw[qAB hr];exact⟨fun h=>by rw[h];exact .c (.i _ _),fun h=>by rw[h];exact .c (.i _ _)⟩
 ·rw[qAB hr];exact⟨fun h=>by rw[h];exact .c (.i _ _),fun h=>by rw[h];exact .c (.i _ _)⟩
 ·rw[qAB hr];exact⟨fun h=>by rw[h];exact .c (.i _ _),fun h=>by rw[h];exact .c (.i _ _)⟩
 ·rw[qAB hr];exact⟨fun h=>by rw[h];exact .c (.i _ _),fun h=>by rw[h];exact .c (.i _ _)⟩
 ·rw[qBU hr];exact⟨fun h=>by rw[h];exact .c (.b _),fun h=>by rw[h];exact .c (.b _)⟩
 ·rw[qBU hr];exact⟨fun h=>by rw[h];exact .c (.bc _),fun h=>by rw[h];exact .c (.b _)⟩
 ·rw[qBU hr];exact⟨fun h=>by rw[h];exact .c (.b _),fun h=>by rw[h];exact .c (.bc _)⟩
 ·rw[qBU hr];exact⟨fun h=>by rw[h];exact .c (.bc _),fun h=>by rw[h];exact .c (.bc _)⟩
 ·rw[qBV hr];exact⟨fun h=>by rw[h];exact .c (.s _),fun h=>by rw[h];exact .c (.s _)⟩
 ·cases hr with
  |c h=>cases h with|ite _ _ _ _ h1 h2=>exact⟨fun h=> .c (h1 h),fun h=> .c (h2 h)⟩
  |ite _ _ _ _ h1 h2=>exact⟨h1,h2⟩
theorem qNQ {m:List (Nat×Bool)}{s:Tm}{o:Oper}{h:Hp}{nid:Nat}{v:AV}{c:Chg}(hm:MOk m s) (hy:(qCK E det o s h nid).Yields v c):qYm v (qSP s m o.op v):=by
 unfold qSP
 split
 ·rename_i d x y ho
  split
  ·rename_i b hl
   have hv:v=AV.pick b (ev s x) (ev s y):=by
    have e:qCK E det o s h nid= .ok (AV.pick b (ev s x) (ev s y)) .no:=by simp[qCK,step,ho,ev,hl]
    cases hy with
    |ok h1=>rw[e]at h1;cases h1;rfl
    |ob p h1=>rw[e]at h1;cases h1
   subst hv
   split
   ·rename_i hf;exact fun w M β cp u hr=>(qLp _ _ hr).1 (hm _ _ _ hf hl)
   ·rename_i hf;exact fun w M β cp u hr=>(qLp _ _ hr).2 (hm _ _ _ hf hl)
   ·exact fun _ _ _ _ _ hr=>hr
  ·exact fun _ _ _ _ _ hr=>hr
 ·exact fun _ _ _ _ _ hr=>hr
theorem qEI:∀(ops:List Oper) (m:List (Nat×Bool)) (s:Tm) (h:Hp) (tr:List Fp),MOk m s→qD3 E det nt N all ops m s h tr K→∃tr' s' h',Run E det nt N all ops s h tr' s' h'∧K s' h' (tr++tr'.map qIz)
 |[],m,s,h,tr,_,hv=>⟨[],s,h,.nil s h,by rw[List.map_nil,List.append_nil];exact hv⟩
 |o::r,m,s,h,tr,hm,hv=>by
  unfold qD3 at hv
  dsimp only at hv
  have go:∀m v c,MOk m s→Want all s o true→(qCK E det o s h (qB7 det N o h)).Yields v c→(match qHE det o.op h c,put nt o.dst (qSP s m o.op v) s with
   |true,some s'=>qD3 E det nt N all r (qEG o.dst m) s' (c.on (qB7 det N o h) h) (tr++[⟨o.dst,slotsOf all o,qP2 (c.wr (qB7 det N o h)),qP3 s h o,qUM (qB7 det N o h) c⟩]) K
   |_,_=>Bad 310)→∃tr' s' h',Run E det nt N all (o::r) s h tr' s' h'∧K s' h' (tr++tr'.map qIz):=by
   intro m v c hm hw hy hv
   split at hv
   ·rename_i s' hc hp
    obtain⟨tr',s1,h1,hr,hK⟩:=qEI r _ _ _ _ (hm.put hp) hv
    refine⟨⟨o,qSP s m o.op v,c,qB7 det N o h,slotsOf all o,qP3 s h o⟩::tr',s1,h1,.cons ⟨rfl,rfl,.inl ⟨hw,⟨v,hy,qNQ hm hy⟩,rfl,rfl,hc⟩⟩ hp hr, ?_⟩
    rw[List.append_assoc]at hK
    exact hK
   ·cases hv
  have run:∀m,MOk m s→Want all s o true→(match qCK E det o s h (qB7 det N o h)with
   | .ok v c=>match qHE det o.op h c,put nt o.dst (qSP s m o.op v) s with
     |true,some s'=>qD3 E det nt N all r (qEG o.dst m) s' (c.on (qB7 det N o h) h) (tr++[⟨o.dst,slotsOf all o,qP2 (c.wr (qB7 det N o h)),qP3 s h o,qUM (qB7 det N o h) c⟩]) K
     |_,_=>Bad 310
   | .ob p v c=>Ob p (match qHE det o.op h c,put nt o.dst (qSP s m o.op v) s with
     |true,some s'=>qD3 E det nt N all r (qEG o.dst m) s' (c.on (qB7 det N o h) h) (tr++[⟨o.dst,slotsOf all o,qP2 (c.wr (qB7 det N o h)),qP3 s h o,qUM (qB7 det N o h) c⟩]) K
     |_,_=>Bad 310)
   | .bad n=>Bad n)→∃tr' s' h',Run E det nt N all (o::r) s h tr' s' h'∧K s' h' (tr++tr'.map qIz):=by
   intro m hm hw hv
   split at hv
   ·rename_i v c hs;exact go m v c hm hw (.ok hs) hv
   ·rename_i p v c hs
    cases hv with|mk h1 h2=>exact go m v c hm hw (.ob p hs h1) h2
   ·cases hv
  have skip:∀m,MOk m s→Want all s o false→(match put nt o.dst (.tup []) s with
   |some s'=>qD3 E det nt N all r (qEG o.dst m) s' h (tr++[⟨o.dst,slotsOf all o,[],[],none⟩]) K
   |none=>Bad 313)→∃tr' s' h',Run E det nt N all (o::r) s h tr' s' h'∧K s' h' (tr++tr'.map qIz):=by
   intro m hm hw hv
   split at hv
   ·rename_i s' hp
    obtain⟨tr',s1,h1,hr,hK⟩:=qEI r _ _ _ _ (hm.put hp) hv
    refine⟨⟨o,.tup [],.no,N,slotsOf all o,[]⟩::tr',s1,h1,.cons (e:=⟨o,.tup [],.no,N,slotsOf all o,[]⟩) ⟨rfl,rfl,.inr ⟨hw,rfl,rfl⟩⟩ hp hr, ?_⟩
    rw[List.append_assoc]at hK
    exact hK
   ·cases hv
  split at hv
  ·rename_i hg;exact run m hm (by simp[Want,hg]) hv
  ·rename_i j b hg
   split at hv
   ·cases hv
   ·rename_i d hd
    split at hv
    ·rename_i x hl
     split at hv
     ·exact run m hm (by simp only[Want,hg];exact⟨d,hd,.inl ⟨_,hl,rfl⟩⟩) hv
     ·exact run m hm (by simp only[Want,hg];exact⟨d,hd,.inl ⟨_,hl,rfl⟩⟩) hv
     ·rename_i n1 n2
      refine skip m hm ?_ hv
      simp only[Want,hg]
      refine⟨d,hd,.inl ⟨_,hl, ?_⟩⟩
      cases x<;>cases b<;>first|rfl|exact(n1 rfl rfl).elim|exact(n2 rfl rfl).elim
    ·rename_i x hl
     have wt:∀y,y=(x ()==b)→Want all s o y:=fun y hy=>by simp only[Want,hg];exact⟨d,hd,.inr (.inl ⟨_,hl,hy⟩)⟩
     split at hv
     ·rename_i y hy
      have hx:=hm d y x hy hl
      split at hv
      ·exact run m hm (wt _ (by rw[hx];rfl)) hv
      ·exact run m hm (wt _ (by rw[hx];rfl)) hv
      ·rename_i n1 n2
       refine skip m hm (wt _ ?_) hv
       rw[hx]
       cases y<;>cases b<;>first|rfl|exact(n1 rfl rfl).elim|exact(n2 rfl rfl).elim
     ·split at hv
      ·cases hv with
       |mk h1 h2=>
        cases h1 with
        |mk h1=>
         cases h2 with
         |mk h2=>
          cases hb:x ()with
          |true=>exact run _ (hm.cons hl hb) (wt _ (by rw[hb];rfl)) (h1 hb).out
          |false=>exact skip _ (hm.cons hl hb) (wt _ (by rw[hb];rfl)) (h2 hb).out
      ·cases hv with
       |mk h1 h2=>
        cases h1 with
        |mk h1=>
         cases h2 with
         |mk h2=>
          cases hb:x ()with
          |true=>exact skip _ (hm.cons hl hb) (wt _ (by rw[hb];rfl)) (h1 hb).out
          |false=>exact run _ (hm.cons hl hb) (wt _ (by rw[hb];rfl)) (h2 hb).out
    ·rename_i hl
     exact skip m hm (by simp only[Want,hg];exact⟨d,hd,.inr (.inr ⟨hl,by trivial⟩)⟩) hv
    ·cases hv
def wS (tr:List TrE) (t k:Nat):Option AV:=match tr[k]? with
 |some e=>if e.o.dst=some t then some e.v else none
 |none=>none
def wH (tr:List TrE) (b k:Nat):Option AObj:=match tr[k]? with
 |some e=>qI8 b (e.c.wr e.nid)
 |none=>none
theorem qRO {s s':Tm}{d:Option Tmp}{v:AV}(hp:put nt d v s=some s') (t:Nat):lk s' t=if d=some t then v else lk s t:=by
 unfold put at hp
 split at hp
 ·cases hp;simp
 ·rename_i d
  split at hp
  ·cases hp
   simp only[lk]
   split
   ·rename_i q;simp[qC.1 q]
   ·rename_i q
    have q:d≠t:=fun e=>by rw[qC.2 e]at q;cases q
    simp[q]
  ·cases hp
theorem qCZ {h:Hp}{b c:Nat}{o:AObj}(hb:b<h.length):nth .dead (h.set b o) c=if b=c then o else nth .dead h c:=by
 rw[qAt,qAt,List.getD_eq_getElem?_getD,List.getD_eq_getElem?_getD,List.getElem?_set]
 split
 ·rename_i e;subst e;simp[hb]
 ·rfl
theorem qHG {h:Hp}{c:Nat}{o:AObj}:nth .dead (h++[o]) c=if h.length=c then o else nth .dead h c:=by
 rw[qAt,qAt,List.getD_eq_getElem?_getD,List.getD_eq_getElem?_getD]
 split
 ·rename_i e;subst e;simp
 ·rename_i e
  rcases Nat.lt_or_ge c h.length with h1|h1
  ·rw[List.getElem?_append_left h1]
  ·rw[List.getElem?_eq_none (by simp;omega),List.getElem?_eq_none h1]
theorem qD4 {o:Oper}{h:Hp}(hn:qCB det o.op=true):qB7 det N o h=h.length:=by
 unfold qB7;rw[hn];exact qK h
theorem qNR {o:Oper}{h:Hp}(hn:qCB det o.op=false):qB7 det N o h=N:=by
 unfold qB7;rw[hn]
theorem qLq {h:Hp}{n c:Nat}{o:AObj}(hn:n≤h.length):nth .dead (qBe h n o) c=if n=c then o else nth .dead h c:=by
 unfold qBe
 rw[qK]
 split
 ·rename_i q;exact qCZ (qQ.1 q)
 ·rename_i q
  have:n=h.length:=by
   have:¬n<h.length:=fun hlt=>by rw[qQ.2 hlt]at q;cases q
   omega
  rw[this];exact qHG
theorem qCc {b c:Nat}{o:AObj}:qI8 b [(c,o)]=if c=b then some o else none:=by
 simp only[qI8]
 split
 ·rename_i q;rw[if_pos (qC.1 q)]
 ·rename_i q;rw[if_neg fun e=>by rw[qC.2 e]at q;cases q]
theorem qD5 {b c d:Nat}{o x:AObj}:qI8 b [(c,o),(d,x)]=if c=b then some o else if d=b then some x else none:=by
 simp only[qI8]
 split
 ·rename_i q;rw[if_pos (qC.1 q)]
 ·rename_i q
  rw[if_neg fun e=>by rw[qC.2 e]at q;cases q]
  exact qCc
theorem qLr {c:Chg}{nid:Nat}{h:Hp}(h1:∀x,c= .new x→nid≤h.length) (h2:∀b x,c= .upd b x→b<h.length) (h3:∀b x,c= .mv b x→nid≤h.length∧b<h.length) (b:Nat):
  nth .dead (c.on nid h) b=(qI8 b (c.wr nid)).getD (nth .dead h b):=by
 cases c with
 |no=>rfl
 |new x=>simp only[Chg.on,Chg.wr];rw[qLq (h1 x rfl),qCc];split<;>rfl
 |upd c x=>simp only[Chg.on,Chg.wr];rw[qCZ (h2 c x rfl),qCc];split<;>rfl
 |mv c x=>
  have:=h3 c x rfl
  simp only[Chg.on,Chg.wr]
  rw[qLq (by simpa using this.1),qD5,qCZ this.2]
  split
  ·rfl
  ·split<;>rfl
theorem Ent.on {o:Oper}{s:Tm}{h:Hp}{e:TrE}(he:Ent E det N all o s h e):
  (∀b,nth .dead (e.c.on e.nid h) b=(qI8 b (e.c.wr e.nid)).getD (nth .dead h b))∧
  h.length≤(e.c.on e.nid h).length∧(e.c.on e.nid h).length≤h.length+1∧(∀b,qI8 b (e.c.wr e.nid)≠none→b<(e.c.on e.nid h).length):=by
 rcases he.run with⟨_,_,h3,_,h5⟩|⟨_,_,h3⟩
 ·have hp:∀(h:Hp) (x:AObj),(qBe h h.length x).length=h.length+1:=by
   intro h x
   unfold qBe;rw[qK]
   split
   ·rename_i q;have:=qQ.1 q;omega
   ·simp
  cases hc:e.c with
  |no=>exact⟨fun b=>rfl,Nat.le_refl _,by show h.length≤_;omega,fun b hx=>absurd rfl hx⟩
  |new x=>
   rw[hc]at h5
   have h5:qCB det o.op=true:=h5
   have e1:e.nid=h.length:=h3.trans (qD4 h5)
   refine⟨qLr (fun _ _=>by omega) (fun _ _ q=>by cases q) (fun _ _ q=>by cases q),by simp only[Chg.on,e1,hp];omega,by simp only[Chg.on,e1,hp];omega,fun b hy=> ?_⟩
   simp only[Chg.wr]at hy
   rw[qCc]at hy
   simp only[Chg.on,e1,hp]
   split at hy
   ·omega
   ·exact absurd rfl hy
  |upd b x=>
   rw[hc]at h5
   simp only[qHE]at h5
   split at h5
   ·cases h5
   ·have hb:=qQ.1 h5
    rw[qK]at hb
    refine⟨qLr (fun _ q=>by cases q) (fun _ _ q=>by cases q;exact hb) (fun _ _ q=>by cases q),by simp[Chg.on],by simp[Chg.on],fun c hy=> ?_⟩
    simp only[Chg.wr]at hy
    rw[qCc]at hy
    simp only[Chg.on,List.length_set]
    split at hy
    ·omega
    ·exact absurd rfl hy
  |mv b x=>
   rw[hc]at h5
   simp only[qHE]at h5
   split at h5
   ·rename_i hnew
    have hb:=qQ.1 h5
    rw[qK]at hb
    have e1:e.nid=(h.set b .dead).length:=by rw[List.length_set];exact h3.trans (qD4 hnew)
    have hl:(Chg.on (.mv b x) e.nid h).length=h.length+1:=by simp only[Chg.on];rw[e1,hp];simp
    refine⟨qLr (fun _ q=>by cases q) (fun _ _ q=>by cases q) (fun _ _ q=>by cases q;simp at e1;exact⟨by omega,hb⟩),by omega,by omega,fun c hy=> ?_⟩
    simp only[Chg.wr]at hy
    rw[qD5]at hy
    simp at e1
    rw[hl]
    split at hy
    ·omega
    ·split at hy
     ·omega
     ·exact absurd rfl hy
   ·cases h5
 ·rw[h3];exact⟨fun b=>rfl,Nat.le_refl _,by show h.length≤_;omega,fun b hx=>absurd rfl hx⟩
theorem qNS {e:TrE}{tr:List TrE}{t k:Nat}:wS (e::tr) t (k+1)=wS tr t k:=by simp[wS]
theorem qHH {e:TrE}{tr:List TrE}{b k:Nat}:wH (e::tr) b (k+1)=wH tr b k:=by simp[wH]
theorem qNT {o:Oper}{s s':Tm}{h:Hp}{e:TrE}{tr:List TrE}(he:Ent E det N all o s h e) (hp:put nt o.dst e.v s=some s') (t:Nat):qBc (lk s t) (wS (e::tr) t) (fun _=>true) 1=lk s' t:=by
 rw[qRO hp]
 simp only[qBc,wS,List.getElem?_cons_zero,he.eo]
 split<;>rename_i q<;>split at q<;>simp_all
theorem qNU {o:Oper}{s:Tm}{h:Hp}{e:TrE}{tr:List TrE}(he:Ent E det N all o s h e) (b:Nat):qBc (nth .dead h b) (wH (e::tr) b) (fun _=>true) 1=nth .dead (e.c.on e.nid h) b:=by
 rw[he.on.1 b]
 simp only[qBc,wH,List.getElem?_cons_zero]
 cases qI8 b (e.c.wr e.nid)with
 |none=>rfl
 |some p=>simp
theorem Run.get:∀{ops:List Oper}{s s1:Tm}{h h1:Hp}{tr:List TrE},Run E det nt N all ops s h tr s1 h1→∀i o,ops[i]? =some o→
  ∃e s' h',tr[i]? =some e∧Ent E det N all o s' h' e∧(∀t,lk s' t=qBc (lk s t) (wS tr t) (fun _=>true) i)∧(∀b,nth .dead h' b=qBc (nth .dead h b) (wH tr b) (fun _=>true) i)∧
   h.length≤h'.length∧h'.length≤h.length+i∧(∀k b,k<i→wH tr b k≠none→b<h'.length)∧∃s'',put nt o.dst e.v s'=some s'':=by
 intro ops s s1 h h1 tr hr
 induction hr with
 |nil s h=>intro i o hi;simp at hi
 | @cons o r s s' s1 h h1 e tr he hp hr ih=>
   intro i o' hi
   cases i with
   |zero=>
    simp only[List.getElem?_cons_zero,Option.some.injEq]at hi
    subst hi
    exact⟨e,s,h,rfl,he,fun t=>rfl,fun b=>rfl,Nat.le_refl _,Nat.le_refl _,fun k b hk=>by omega,s',hp⟩
   |succ i=>
    obtain⟨e',s2,h2,r1,r2,r3,r4,r5,r6,r7,r8⟩:=ih i o' (by simpa using hi)
    obtain⟨q1,q2,q3,q4⟩:=he.on
    refine⟨e',s2,h2,by simpa using r1,r2,fun t=> ?_,fun b=> ?_,by omega,by omega,fun k b hk hw=> ?_,r8⟩
    ·rw[qB3,qNT he hp,r3]
     simp only[qNS]
    ·rw[qB3,qNU he,r4]
     simp only[qHH]
    ·cases k with
     |zero=>
      simp only[wH,List.getElem?_cons_zero]at hw
      have:=q4 b hw
      omega
     |succ k=>exact r7 k b (by omega) (by simpa[qHH]using hw)
theorem Run.fin:∀{ops:List Oper}{s s1:Tm}{h h1:Hp}{tr:List TrE},Run E det nt N all ops s h tr s1 h1→
  tr.length=ops.length∧(∀t,lk s1 t=qBc (lk s t) (wS tr t) (fun _=>true) ops.length)∧(∀b,nth .dead h1 b=qBc (nth .dead h b) (wH tr b) (fun _=>true) ops.length)∧
   h.length≤h1.length∧h1.length≤h.length+ops.length∧(∀k b,wH tr b k≠none→b<h1.length):=by
 intro ops s s1 h h1 tr hr
 induction hr with
 |nil s h=>exact⟨rfl,fun _=>rfl,fun _=>rfl,Nat.le_refl _,Nat.le_refl _,fun k b hk=>by simp[wH]at hk⟩
 | @cons o r s s' s1 h h1 e tr he hp hr ih=>
   obtain⟨r1,r3,r4,r5,r6,r7⟩:=ih
   obtain⟨q1,q2,q3,q4⟩:=he.on
   refine⟨by simpa using r1,fun t=> ?_,fun b=> ?_,by omega,by simp;omega,fun k b hw=> ?_⟩
   ·rw[List.length_cons,qB3,qNT he hp,r3]
    simp only[qNS]
   ·rw[List.length_cons,qB3,qNU he,r4]
    simp only[qHH]
   ·cases k with
    |zero=>
     simp only[wH,List.getElem?_cons_zero]at hw
     have:=q4 b hw
     omega
    |succ k=>exact r7 k b (by simpa[qHH]using hw)
end
end Go.Abs
namespace Go.Abs
open Go
variable [Kd]
theorem qFq {b:Nat}:∀{l:List Nat},qBL b l=true↔b∈l
 |[]=>by simp[qBL]
 |x::l=>by
  rw[qB0,Bool.or_eq_true,decide_eq_true_iff,qFq (l:=l),List.mem_cons]
  exact⟨fun h=>h.imp Eq.symm id,fun h=>h.imp Eq.symm id⟩
theorem qBE:∀{l m:List Nat},qFi l m=true↔∃a,a∈l∧a∈m
 |[],m=>by simp[qFi]
 |x::l,m=>by
  simp only[qFi]
  split
  ·rename_i q
   exact⟨fun _=>⟨x,by simp,qFq.1 q⟩,fun _=>rfl⟩
  ·rename_i q
   rw[qBE (l:=l)]
   constructor
   ·rintro⟨a,h1,h2⟩;exact⟨a,by simp[h1],h2⟩
   ·rintro⟨a,h1,h2⟩
    rcases List.mem_cons.1 h1 with rfl|h1
    ·rw[qFq.2 h2]at q;cases q
    ·exact⟨a,h1,h2⟩
theorem qCC {x y:TrE}(h:qFi (qPL x.o.dst) (y.rs++qPL y.o.dst)=true∨qFi (qPL y.o.dst) x.rs=true∨qFi (wrL x) (y.rh++wrL y)=true∨qFi (wrL y) x.rh=true):qKm (qIz x) (qIz y)=true:=by
 unfold qKm
 simp only[qIz]
 split
 ·rename_i h1 h2 h3 h4;simp[h1,h2,h3,h4]at h
 ·rfl
theorem qLs {b:Nat}:∀{l:List (Nat×AObj)},qI8 b l≠none→b∈qP2 l
 |[],h=>absurd rfl h
 |(c,o)::r,h=>by
  simp only[qI8]at h
  split at h
  ·rename_i q;simp[qP2,qC.1 q]
  ·simp only[qP2,List.mem_cons];exact .inr (qLs h)
theorem qEJ {x:TrE}{b:Nat}(h:qI8 b (x.c.wr x.nid)≠none):b∈wrL x:=qLs h
theorem qGW {bef:List Nat}{y:Fp}:∀{l:List Fp}{i:Nat},qGV bef y i l=true→∀k x,l[k]? =some x→qKm x y=true→i+k∈bef
 |[],i,_,k,x,hx,_=>by simp at hx
 |z::l,i,h,k,x,hx,hc=>by
  simp only[qGV]at h
  cases k with
  |zero=>
   simp only[List.getElem?_cons_zero,Option.some.injEq]at hx
   subst hx
   rw[hc]at h
   dsimp only at h
   split at h
   ·rename_i q;exact qFq.1 q
   ·cases h
  |succ k=>
   have hr:qGV bef y (i+1) l=true:=by
    split at h
    ·exact h
    ·split at h
     ·exact h
     ·cases h
   have:=qGW hr k x (by simpa using hx) hc
   rw[show i+(k+1)=i+1+k by omega]
   exact this
theorem qGc {bef:List (List Nat)}:∀{l done:List Fp},qMy bef done l=true→∀j y,l[j]? =some y→∀k x,(done++l)[k]? =some x→k<done.length+j→qKm x y=true→k∈nth [] bef (done.length+j)
 |[],done,_,j,y,hy,_,_,_,_,_=>by simp at hy
 |z::l,done,h,j,y,hy,k,x,hx,hk,hc=>by
  simp only[qMy]at h
  split at h
  ·rename_i q
   rw[qK]at q
   cases j with
   |zero=>
    simp only[List.getElem?_cons_zero,Option.some.injEq]at hy
    subst hy
    have:=qGW q k x (by rw[List.getElem?_append_left (by simpa using hk)]at hx;exact hx) hc
    simpa using this
   |succ j=>
    have:=qGc h j y (by simpa using hy) k x (by simpa using hx) (by simp;omega) hc
    simp only[List.length_append,List.length_singleton]at this
    rw[show done.length+(j+1)=done.length+1+j by omega]
    exact this
  ·cases h
theorem qKu {k:Nat}:∀{a l:List Nat},k∈uni a l→k∈a∨k∈l
 |[],l,h=> .inr h
 |x::r,l,h=>by
  simp only[uni]at h
  split at h
  ·exact(qKu h).imp (fun h=>by simp[h]) id
  ·rcases qKu h with h|h
   ·exact .inl (by simp[h])
   ·rcases List.mem_cons.1 h with rfl|h
    ·exact .inl (by simp)
    ·exact .inr h
theorem qJd {j:Nat}{acc:List (List Nat)}:∀{es:List Edge}{l:List Nat},qNN j acc es=some l→
  (∀k,k∈l→∃e∈es,qBj e=true∧(e.on=k∨k∈nth [] acc e.on))∧∀e∈es,qBj e=true→e.on<j
 |[],l,h=>by simp only[qNN,Option.some.injEq]at h;subst h;simp
 |e::es,l,h=>by
  simp only[qNN]at h
  split at h
  ·cases h
  ·rename_i l' hl
   obtain⟨i1,i2⟩:=qJd hl
   split at h
   ·rename_i hb
    cases h
    refine⟨fun k hk=> ?_,fun e' he' hb'=> ?_⟩
    ·obtain⟨e',h1,h2⟩:=i1 k hk;exact⟨e',by simp[h1],h2⟩
    ·rcases List.mem_cons.1 he' with rfl|he'
     ·rw[hb]at hb';cases hb'
     ·exact i2 e' he' hb'
   ·rename_i hb
    split at h
    ·rename_i q
     have q:=qQ.1 q
     cases h
     refine⟨fun k hk=> ?_,fun e' he' hb'=> ?_⟩
     ·rcases qKu hk with hk|hk
      ·rcases List.mem_cons.1 hk with rfl|hk
       ·exact⟨e,by simp,hb,.inl rfl⟩
       ·exact⟨e,by simp,hb,.inr hk⟩
      ·obtain⟨e',h1,h2⟩:=i1 k hk;exact⟨e',by simp[h1],h2⟩
     ·rcases List.mem_cons.1 he' with rfl|he'
      ·exact q
      ·exact i2 e' he' hb'
    ·cases h
theorem qHI:∀{ops:List Oper}{j:Nat}{acc bef:List (List Nat)},qP4 j acc ops=some bef→acc.length=j→
  (∀i,i<j→nth [] bef i=nth [] acc i)∧∀i o,ops[i]? =some o→
    (∀k,k∈nth [] bef (j+i)→∃e∈o.after,qBj e=true∧(e.on=k∨k∈nth [] bef e.on))∧∀e∈o.after,qBj e=true→e.on<j+i
 |[],j,acc,bef,h,hl=>by simp only[qP4,Option.some.injEq]at h;subst h;simp
 |o::ops,j,acc,bef,h,hl=>by
  simp only[qP4]at h
  split at h
  ·cases h
  ·rename_i l hp
   obtain⟨p1,p2⟩:=qJd hp
   obtain⟨b1,b2⟩:=qHI h (by simp[hl])
   have b1':∀i,i<j→nth [] bef i=nth [] acc i:=fun i hi=>by
    rw[b1 i (by omega),qAt,qAt,List.getD_eq_getElem?_getD,List.getD_eq_getElem?_getD,List.getElem?_append_left (by omega)]
   refine⟨b1',fun i o' hi=> ?_⟩
   cases i with
   |zero=>
    simp only[List.getElem?_cons_zero,Option.some.injEq]at hi
    subst hi
    have e1:nth [] bef (j+0)=l:=by
     rw[b1 (j+0) (by omega),qAt,List.getD_eq_getElem?_getD,List.getElem?_append_right (by omega)]
     simp[hl]
    refine⟨fun k hk=> ?_,fun e he hb=>p2 e (by simpa using he) hb⟩
    rw[e1]at hk
    obtain⟨e,h1,h2,h3⟩:=p1 k hk
    exact⟨e,by simpa using h1,h2,h3.imp id fun h=>by rw[b1' _ (p2 e h1 h2)];exact h⟩
   |succ i=>
    have:=b2 i o' (by simpa using hi)
    rw[show j+(i+1)=j+1+i by omega]
    exact this
theorem qCu (e:Edge):Region.binds .any e=qBj e:=by
 unfold Region.binds qBj
 cases e.ground<;>rfl
section
variable {P:Program}{E:Env}{det:FuncId→Option Dt}{w:World}{M:Nat→Prop}{β:Nat→Option Nat}{cp:Nat→Nat}{h:Hp}{o:Oper}{a:Act}{s:Tm}{N:Nat}
theorem qGd {t:Nat}:∀{l:List Operand},Operand.tmp t∈l→t∈qEF o l
 |[],h=>by simp at h
 |x::l,h=>by
  rcases List.mem_cons.1 h with rfl|h
  ·simp[qEF]
  ·have:=qGd h
   cases x<;>simp[qEF,this]
theorem qP7 {s s':Tm}{x:Operand}(hx:∀t,x= .tmp t→lk s' t=lk s t):ev s' x=ev s x:=by
 cases x with
 |tmp t=>exact hx t rfl
 |_=>rfl
theorem qGX {all:List (Option Tmp)}{s s':Tm}{r:Bool}(h:∀t,t∈qD2 all o→lk s' t=lk s t) (hw:Want all s o r):Want all s' o r:=by
 unfold Want at*
 split
 ·rename_i hg;rw[hg]at hw;exact hw
 ·rename_i j b hg
  rw[hg]at hw
  obtain⟨d,hd,h1⟩:=hw
  refine⟨d,hd, ?_⟩
  rw[h d (by simp[qD2,hg,hd])]
  exact h1
theorem qGY {ops:Array Oper}{r:Bool}(ht:∀t,Rep w M β cp (lk s t) (a.tmps.getD t undef)) (hw:Want (ops.toList.map (·.dst)) s o r):Region.wanted o (yielded ops a.tmps)=r:=by
 unfold Want at hw
 split at hw
 ·rename_i hg;subst hw;simp[Region.wanted,hg]
 ·rename_i j b hg
  obtain⟨d,hd,h1⟩:=hw
  have hdj:(ops[j]?).bind (·.dst)=some d:=by
   rw[qAt,List.getD_eq_getElem?_getD,List.getElem?_map]at hd
   rw[←Array.getElem?_toList]
   cases hoj:ops.toList[j]? with
   |none=>rw[hoj]at hd;simp at hd
   |some x=>rw[hoj]at hd;simpa using hd
  have hw:∀x:Bool,a.tmps.getD d undef= .bool x→Region.wanted o (yielded ops a.tmps)=(x==b):=by
   intro x hx
   have hlt:d<a.tmps.size:=by
    rcases Nat.lt_or_ge d a.tmps.size with h1|h1
    ·exact h1
    ·simp[Array.getD_eq_getD_getElem?,Array.getElem?_eq_none h1,undef]at hx
   have:a.tmps[d]? =some (.bool x):=by
    rw[Array.getElem?_eq_getElem hlt]
    simpa[Array.getD,hlt]using hx
   simp[Region.wanted,hg,yielded,hdj,this]
  have hd1:=ht d
  rcases h1 with⟨x,hl,rfl⟩|⟨x,hl,rfl⟩|⟨hl,rfl⟩
  ·rw[hl]at hd1;exact hw x (qAN hd1)
  ·rw[hl]at hd1;exact hw _ (qBU hd1)
  ·rw[hl]at hd1
   obtain⟨cs,he,hL⟩:=qBG hd1
   simp only[Region.wanted,hg,yielded,hdj,Option.bind_some]
   cases hx:a.tmps[d]? with
   |none=>rfl
   |some v=>
    have:a.tmps.getD d undef=v:=by simp[Array.getD_eq_getD_getElem?,hx]
    rw[he]at this
    subst this
    rfl
structure Sim (w0:World) (M0:Nat→Prop) (β0:Nat→Option Nat) (cp0:Nat→Nat) (h0:Hp) (nt:Nat) (kl:List Nat) (bef:List (List Nat)) (tr:List TrE) (sB:Tm) (hB:Hp) (ops:Array Oper) (listed:Array Bool) (a:Act) (w:World):Prop where
 sz:listed.size=ops.size
 cl:∀j,listed.getD j false=true→∀k,k∈nth [] bef j→listed.getD k false=true
 ex:∃M β cp s h,HeapRel w M β cp h∧(∀t,Rep w M β cp (lk s t) (a.tmps.getD t undef))∧AK w0 M0 β0 cp0 h0 w M β cp h kl∧
  (∀t,lk s t=qBc (lk sB t) (wS tr t) (fun k=>listed.getD k false) ops.size)∧(∀b,nth .dead h b=qBc (nth .dead hB b) (wH tr b) (fun k=>listed.getD k false) ops.size)∧
  h.length=hB.length+ops.size∧∀b,β b≠none→b<hB.length∨∃k,listed.getD k false=true∧wH tr b k≠none
 nt:a.tmps.size=nt
 df:a.defers=[]
variable {w0:World}{M0:Nat→Prop}{β0:Nat→Option Nat}{cp0:Nat→Nat}{h0:Hp}{nt:Nat}{kl:List Nat}{bef:List (List Nat)}{tr:List TrE}{sB s1:Tm}{hB h1:Hp}{ops:Array Oper}{listed:Array Bool}{Q:Exit→Act→World→Prop}
theorem qP8 {t k:Nat}(h:wS tr t k≠none):∃e,tr[k]? =some e∧e.o.dst=some t:=by
 unfold wS at h
 split at h
 ·rename_i e he
  split at h
  ·rename_i hd;exact⟨e,he,hd⟩
  ·exact absurd rfl h
 ·exact absurd rfl h
theorem qNV {b k:Nat}(h:wH tr b k≠none):∃e,tr[k]? =some e∧qI8 b (e.c.wr e.nid)≠none:=by
 unfold wH at h
 split at h
 ·rename_i e he;exact⟨e,he,h⟩
 ·exact absurd rfl h
theorem qCD {listed:Array Bool}{i k:Nat}(hi:i<listed.size):(listed.setIfInBounds i true).getD k false=(decide (k=i)||listed.getD k false):=by
 by_cases h:k=i
 ·subst h;simp[Array.getD_eq_getD_getElem?,hi]
 ·rw[Array.getD_eq_getD_getElem?,Array.getD_eq_getD_getElem?,Array.getElem?_setIfInBounds_ne (Ne.symm h)];simp[h]
theorem qP9 (hE:EnvOk P E) (hZ:Zl E) (hD:qBk P det) (hr:Run E det nt (hB.length+ops.size) (ops.toList.map (·.dst)) ops.toList sB hB tr s1 h1) (hbef:qP4 0 [] ops.toList=some bef) (hok:qMy bef [] (tr.map qIz)=true)
  (hs:Sim w0 M0 β0 cp0 h0 nt kl bef tr sB hB ops listed a w) {i:Nat}(hi:i∈Region.ready .any ops listed) {K:Act→World→Prop}
  (hK:∀a w,Sim w0 M0 β0 cp0 h0 nt kl bef tr sB hB ops (listed.setIfInBounds i true) a w→K a w):wpOp P ops Q i K a w:=by
 obtain⟨hi0,o,hoi,hedge⟩:=mem_ready.1 hi
 have hilt:i<ops.size:=(Array.getElem?_eq_some_iff.1 hoi).1
 have hisz:i<listed.size:=by rw[hs.sz];exact hilt
 have hif:listed.getD i false=false:=by simpa[Array.getD_eq_getD_getElem?,hisz]using hi0
 obtain⟨e,si,hsi,he,hent,hSi,hHi,hl1,hl2,hwr,s'',hpt⟩:=hr.get i o (by simpa using hoi)
 obtain⟨f1,f2,f3,f4,f5,f6⟩:=hr.fin
 obtain⟨-,hb2⟩:=qHI hbef rfl
 have hbi:=(hb2 i o (by simpa using hoi)).1
 rw[Nat.zero_add]at hbi
 have before:∀k x,tr[k]? =some x→k<i→qKm (qIz x) (qIz e)=true→listed.getD k false=true:=by
  intro k x hx hk hc
  have:=qGc hok i (qIz e) (by simp[he]) k (qIz x) (by simp[hx]) (by simpa using hk) hc
  simp only[List.length_nil,Nat.zero_add]at this
  obtain⟨d,h1,h2,h3⟩:=hbi k this
  have h4:=hedge d h1 (by rw[qCu];exact h2)
  rcases h3 with rfl|h3
  ·exact h4
  ·exact hs.cl _ h4 k h3
 have after:∀k x,tr[k]? =some x→i<k→qKm (qIz e) (qIz x)=true→listed.getD k false=false:=by
  intro k x hx hk hc
  have:=qGc hok k (qIz x) (by simp[hx]) i (qIz e) (by simp[he]) (by simpa using hk) hc
  simp only[List.length_nil,Nat.zero_add]at this
  cases hl:listed.getD k false with
  |false=>rfl
  |true=>rw[hs.cl k hl i this]at hif;cases hif
 obtain⟨M,β,cp,s,h,hh,ht,hak,hS,hH,hlen,hβ⟩:=hs.ex
 have readS:∀t,t∈e.rs→lk s t=lk si t:=by
  intro t ht
  rw[hS,hSi,qCY (m:=i) (by omega) fun k h1 h2 hw=> ?_]
  ·refine qA8 fun k hk hw=> ?_
   obtain⟨x,hx,hd⟩:=qP8 hw
   exact before k x hx hk (qCC (.inl (qBE.2 ⟨t,by simp[hd,qPL],by simp[ht]⟩)))
  ·by_cases hki:k=i
   ·subst hki;exact hif
   ·obtain⟨x,hx,hd⟩:=qP8 hw
    exact after k x hx (by omega) (qCC (.inr (.inl (qBE.2 ⟨t,by simp[hd,qPL],ht⟩))))
 have readH:∀b,b∈e.rh→nth .dead h b=nth .dead hsi b:=by
  intro b hb
  rw[hH,hHi,qCY (m:=i) (by omega) fun k h1 h2 hw=> ?_]
  ·refine qA8 fun k hk hw=> ?_
   obtain⟨x,hx,hd⟩:=qNV hw
   exact before k x hx hk (qCC (.inr (.inr (.inl (qBE.2 ⟨b,qEJ hd,by simp[hb]⟩)))))
  ·by_cases hki:k=i
   ·subst hki;exact hif
   ·obtain⟨x,hx,hd⟩:=qNV hw
    exact after k x hx (by omega) (qCC (.inr (.inr (.inr (qBE.2 ⟨b,qEJ hd,hb⟩)))))
 have hgs:∀t,t∈qD2 (ops.toList.map (·.dst)) o→lk s t=lk si t:=fun t ht=>readS t (by rw[hent.rs];simp[slotsOf,ht])
 have X:(fun k=>(listed.setIfInBounds i true).getD k false)=fun k=>decide (k=i)||listed.getD k false:=funext fun k=>qCD hisz
 have nextS:∀s2,put nt o.dst e.v s=some s2→∀t,lk s2 t=qBc (lk sB t) (wS tr t) (fun k=>(listed.setIfInBounds i true).getD k false) ops.size:=by
  intro s2 hp t
  rw[qRO hp,X]
  split
  ·rename_i hd
   refine(qLo hilt (by simp[wS,he,hent.eo,hd]) (by simp) fun k h1 h2 hw=> ?_).symm
   obtain⟨x,hx,hd'⟩:=qP8 hw
   rw[after k x hx h1 (qCC (.inl (qBE.2 ⟨t,by simp[hent.eo,hd,qPL],by simp[hd',qPL]⟩)))]
   simp;omega
  ·rename_i hd
   rw[hS]
   refine qA8 fun k hk hw=> ?_
   by_cases hki:k=i
   ·subst hki
    obtain⟨x,hx,hd'⟩:=qP8 hw
    rw[he]at hx;cases hx
    rw[hent.eo]at hd'
    exact absurd hd' hd
   ·simp[hki]
 have hbwr:∀b,qI8 b (e.c.wr e.nid)≠none→b<h.length:=by
  intro b hx
  have h1:=f6 i b (by simpa[wH,he]using hx)
  simp only[Array.length_toList]at f5
  omega
 have hnidl:∀x,e.c= .new x∨(∃b,e.c= .mv b x)→e.nid<h.length:=by
  rintro x (hc|⟨b,hc⟩)
  ·exact hbwr e.nid (by rw[hc];simp only[Chg.wr];rw[qCc];simp)
  ·exact hbwr e.nid (by rw[hc];simp only[Chg.wr];rw[qD5];simp)
 have hupl:∀b x,e.c= .upd b x∨e.c= .mv b x→b<h.length:=by
  rintro b x (hc|hc)
  ·exact hbwr b (by rw[hc];simp only[Chg.wr];rw[qCc];simp)
  ·exact hbwr b (by rw[hc];simp only[Chg.wr];rw[qD5];split<;>simp)
 have nextH:∀b,nth .dead (e.c.on e.nid h) b=qBc (nth .dead hB b) (wH tr b) (fun k=>(listed.setIfInBounds i true).getD k false) ops.size:=by
  intro b
  rw[qLr (fun x q=>Nat.le_of_lt (hnidl x (.inl q))) (fun c x q=>hupl c x (.inl q)) (fun c x q=>⟨Nat.le_of_lt (hnidl x (.inr ⟨c,q⟩)),hupl c x (.inr q)⟩) b,X]
  cases hf:qI8 b (e.c.wr e.nid)with
  |none=>
   simp only[Option.getD_none]
   rw[hH]
   refine qA8 fun k hk hw=> ?_
   by_cases hki:k=i
   ·subst hki
    obtain⟨x,hx,hd'⟩:=qNV hw
    rw[he]at hx;cases hx
    exact absurd hf hd'
   ·simp[hki]
  |some x=>
   simp only[Option.getD_some]
   refine(qLo hilt (by simp[wH,he,hf]) (by simp) fun k h1 h2 hw=> ?_).symm
   obtain⟨y,hy,hd'⟩:=qNV hw
   rw[after k y hy h1 (qCC (.inr (.inr (.inl (qBE.2 ⟨b,qEJ (by rw[hf];simp),by simp[qEJ hd']⟩)))))]
   simp;omega
 have nextL:(e.c.on e.nid h).length=hB.length+ops.size:=by
  rw[←hlen]
  cases hc:e.c with
  |no=>rfl
  |new x=>
   have:=hnidl x (.inl hc)
   simp[Chg.on,qBe,qK,qQ.2 this]
  |upd b x=>simp[Chg.on]
  |mv b x=>
   have:=hnidl x (.inr ⟨b,hc⟩)
   simp[Chg.on,qBe,qK,qQ.2 this]
 have cl':∀j,(listed.setIfInBounds i true).getD j false=true→∀k,k∈nth [] bef j→(listed.setIfInBounds i true).getD k false=true:=by
  intro j hj k hk
  rw[qCD hisz]at hj ⊢
  simp only[Bool.or_eq_true,decide_eq_true_eq]at hj ⊢
  rcases hj with rfl|hj
  ·obtain⟨d,h1,h2,h3⟩:=hbi k hk
   have h4:=hedge d h1 (by rw[qCu];exact h2)
   rcases h3 with rfl|h3
   ·exact .inr h4
   ·exact .inr (hs.cl _ h4 k h3)
  ·exact .inr (hs.cl _ hj k hk)
 have β':∀b,β b≠none→b<hB.length∨∃k,(listed.setIfInBounds i true).getD k false=true∧wH tr b k≠none:=fun b hb=>(hβ b hb).imp id fun⟨k,h1,h2⟩=>⟨k,by rw[qCD hisz,h1];simp,h2⟩
 have hps:∃s2,put nt o.dst e.v s=some s2:=by
  unfold put at hpt ⊢
  split at hpt
  ·exact⟨_,rfl⟩
  ·split at hpt
   ·exact⟨_,rfl⟩
   ·cases hpt
 obtain⟨s2,hs2⟩:=hps
 unfold wpOp
 simp only[hoi]
 rcases hent.run with⟨hw,⟨v0,hy,hfine⟩,hnid,hrh,hck⟩|⟨hw,hv,hc⟩
 ·rw[qGY ht (qGX (fun t ht=>hgs t ht) hw),if_pos rfl]
  refine .inl ?_
  have hev:∀x∈o.op.operands.toList,ev s x=ev si x:=fun x hx=>qP7 fun t ht=>by
   subst ht
   exact readS t (by rw[hent.rs];simp[slotsOf,qGd hx])
  have hag:qCK E det o s h e.nid=qCK E det o si hsi e.nid:=qJc hev fun b hb=>readH b (by rw[hrh];exact hb)
  have hnl:e.nid≤h.length∧β e.nid=none:=by
   rw[hnid]
   cases hn:qCB det o.op with
   |false=>rw[qNR hn,←hlen];exact⟨Nat.le_refl _,hh.out _ (Nat.le_refl _)⟩
   |true=>
    rw[qD4 hn]
    refine⟨by omega, ?_⟩
    cases hb:β hsi.length with
    |none=>rfl
    |some g=>
     rcases hβ hsi.length (by rw[hb];simp)with h1|⟨k,h1,h2⟩
     ·omega
     ·rcases Nat.lt_trichotomy k i with h3|h3|h3
      ·have:=hwr k _ h3 h2;omega
      ·subst h3;rw[h1]at hif;cases hif
      ·obtain⟨y,hy',hd'⟩:=qNV h2
       have hwe:qI8 hsi.length (e.c.wr e.nid)≠none:=by
        have e1:e.nid=hsi.length:=by rw[hnid,qD4 hn]
        revert hck
        cases e.c with
        |no=>simp[qHE,hn]
        |upd _ _=>simp[qHE,hn]
        |new z=>intro _;simp only[Chg.wr];rw[qCc,if_pos e1];simp
        |mv _ z=>intro _;simp only[Chg.wr];rw[qD5,if_pos e1];simp
       rw[after k y hy' h3 (qCC (.inr (.inr (.inl (qBE.2 ⟨hsi.length,qEJ hwe,by simp[qEJ hd']⟩)))))]at h1
       cases h1
  have hsd:=qKq (o:=o) (a:=a) hE hZ hD hh hnl.1 hnl.2 ht
  rw[hag,hnid]at hsd
  have hgood:qKp P o a w M β cp h e.nid v0 e.c:=by
   rw[hnid]
   cases hy with
   |ok h1=>rw[h1]at hsd;exact hsd
   |ob p h1 hp=>rw[h1]at hsd;exact hsd hp
  refine hgood K Q fun v' w' M' β2 cp' haf hrep=>hK _ _ ?_
  obtain⟨p1,p2,p3⟩:=qCj (a:=a) hs2 hs.nt (fun t=>(ht t).keep haf.keep haf.bk) (hfine _ _ _ _ _ hrep)
  refine⟨by simp[hs.sz],cl',⟨M',β2,cp',s2,e.c.on e.nid h,haf.heap,p1,by simpa using hak.trans (AK.of_after haf),nextS s2 hs2,nextH,nextL,fun b hb=> ?_⟩,p2,p3.trans hs.df⟩
  cases hb0:β b with
  |some g=>exact β' b (by rw[hb0];simp)
  |none=>
   obtain⟨x,hx,hxl⟩:=haf.nn b hb0 hb
   have h1:nth .dead (e.c.on e.nid h) b=x:=by rw[qAt,List.getD_eq_getElem?_getD,hx];rfl
   rw[nextH]at h1
   rcases qME (base:=nth .dead hB b) (W:=wH tr b) (X:=fun k=>(listed.setIfInBounds i true).getD k false) (n:=ops.size)with h2|⟨k,h2,h3,h4⟩
   ·rw[h2]at h1
    refine .inl ?_
    rcases Nat.lt_or_ge b hB.length with h3|h3
    ·exact h3
    ·rw[qAt,List.getD_eq_getElem?_getD,List.getElem?_eq_none h3]at h1
     simp only[Option.getD_none]at h1
     rw[←h1]at hxl;cases hxl
   ·exact .inr ⟨k,h3,by rw[h4];simp⟩
 ·rw[qGY ht (qGX (fun t ht=>hgs t ht) hw)]
  simp only[Bool.false_eq_true,if_false]
  refine hK _ _ ?_
  rw[hv]at hs2
  obtain⟨p1,p2,p3⟩:=qCj (a:=a) (v':=undef) hs2 hs.nt ht (.tup [] #[] rfl fun j x hj=>by simp at hj)
  rw[hc]at nextH
  exact⟨by simp[hs.sz],cl',⟨M,β,cp,s2,h,hh,p1,hak,nextS s2 (by rw[hv];exact hs2),nextH,hlen,β'⟩,p2,p3.trans hs.df⟩
end
end Go.Abs
namespace Go.Abs
open Go
variable [Kd]
section
variable {P:Program}{E:Env}{det:FuncId→Option Dt}{w0:World}{M0:Nat→Prop}{β0:Nat→Option Nat}{cp0:Nat→Nat}{h0:Hp}{nt:Nat}{kl:List Nat}{bef:List (List Nat)}{tr:List TrE}{sB s1:Tm}{hB h1:Hp}{ops:Array Oper}{listed:Array Bool}{Q:Exit→Act→World→Prop}{w:World}{a:Act}
theorem qMF (hbef:qP4 0 [] ops.toList=some bef) (hr:Region.ready .any ops listed=[]) (hsz:listed.size=ops.size):∀n i,i<n→i<ops.size→listed.getD i false=true:=by
 intro n
 induction n with
 |zero=>intro i hi;omega
 |succ n ih=>
  intro i hi hlt
  by_cases hn:i<n
  ·exact ih i hn hlt
  ·cases hl:listed.getD i false with
   |true=>rfl
   |false=>
    have hoi:ops[i]? =some ops[i]:=Array.getElem?_eq_getElem hlt
    have hm:i∈Region.ready .any ops listed:=by
     refine mem_ready.2 ⟨by simpa[Array.getD_eq_getD_getElem?,hsz,hlt]using hl,ops[i],hoi,fun e he hb=> ?_⟩
     rw[qCu]at hb
     have:=((qHI hbef rfl).2 i ops[i] (by simpa using hoi)).2 e he hb
     exact ih e.on (by omega) (by omega)
    rw[hr]at hm;cases hm
theorem qNW (hr:Run E det nt (hB.length+ops.size) (ops.toList.map (·.dst)) ops.toList sB hB tr s1 h1) (hbef:qP4 0 [] ops.toList=some bef)
  (hs:Sim w0 M0 β0 cp0 h0 nt kl bef tr sB hB ops listed a w) (hnil:Region.ready .any ops listed=[]):St w0 M0 β0 cp0 h0 nt s1 h1 kl a w:=by
 obtain⟨f1,f2,f3,f4,f5,f6⟩:=hr.fin
 obtain⟨M,β,cp,s,h,hh,ht,hak,hS,hH,hlen,hβ⟩:=hs.ex
 have hall:=fun i (hi:i<ops.size)=>qMF hbef hnil hs.sz (i+1) i (by omega) hi
 simp only[Array.length_toList]at f1 f2 f3 f5
 have hS':∀t,lk s t=lk s1 t:=fun t=>by rw[hS,f2];exact qA8 fun k hk _=>hall k hk
 have hH':∀b,nth .dead h b=nth .dead h1 b:=fun t=>by rw[hH,f3];exact qA8 fun k hk _=>hall k hk
 have hget:∀(b:Nat) (o:AObj),h1[b]? =some o→h[b]? =some o:=by
  intro b o hb
  have hlt:b<h1.length:=(List.getElem?_eq_some_iff.1 hb).1
  have h2:=hH' b
  rw[qAt,qAt,List.getD_eq_getElem?_getD,List.getD_eq_getElem?_getD,hb,List.getElem?_eq_getElem (by omega)]at h2
  simp only[Option.getD_some]at h2
  rw[List.getElem?_eq_getElem (by omega),h2]
 refine⟨⟨M,β,cp,⟨fun b hb=> ?_,fun b o hb=>hh.obj b o (hget b o hb),fun b b' o o' g g' k hb hb'=>hh.inj2 b b' o o' g g' k (hget b o hb) (hget b' o' hb'),hh.dom⟩,fun t=>by rw[←hS'];exact ht t,⟨hak.keep,hak.bk,hak.ext,fun g hg=> ?_⟩⟩,hs.nt,hs.df⟩
 ·cases hb0:β b with
  |none=>rfl
  |some g=>
   rcases hβ b (by rw[hb0];simp)with h2|⟨k,_,h2⟩
   ·omega
   ·have:=f6 k b h2;omega
 ·obtain⟨b,o,g0,hb,hl⟩:=hg
  exact hak.own g ⟨b,o,g0,hget b o hb,hl⟩
def unl (ops:Array Oper) (listed:Array Bool):Nat:=((List.range ops.size).filter fun i=> !listed.getD i true).length
theorem filter_lt {p q:Nat→Bool}{i:Nat}(hpq:∀k,q k=true→p k=true) (hp:p i=true) (hq:q i=false):∀{l:List Nat},i∈l→(l.filter q).length<(l.filter p).length
 |[],h=>by simp at h
 |x::l,h=>by
  have hle:∀l:List Nat,(l.filter q).length≤(l.filter p).length:=by
   intro l
   induction l with
   |nil=>simp
   |cons y l ih=>
    simp only[List.filter_cons]
    split
    ·rename_i hy;rw[if_pos (hpq y hy)];simp;exact ih
    ·split
     ·simp;omega
     ·exact ih
  simp only[List.filter_cons]
  rcases List.mem_cons.1 h with rfl|h
  ·rw[if_pos hp,if_neg (by simp[hq])];simp;have:=hle l;omega
  ·have ih:=filter_lt hpq hp hq h
   split
   ·rename_i hx;rw[if_pos (hpq x hx)];simp;exact ih
   ·split
    ·simp;omega
    ·exact ih
theorem qSQ (hE:EnvOk P E) (hZ:Zl E) (hD:qBk P det) (hr:Run E det nt (hB.length+ops.size) (ops.toList.map (·.dst)) ops.toList sB hB tr s1 h1) (hbef:qP4 0 [] ops.toList=some bef) (hok:qMy bef [] (tr.map qIz)=true)
  (hQ:∀a w,St w0 M0 β0 cp0 h0 nt s1 h1 kl a w→Q .normal a w):∀(fuel:Nat) (listed:Array Bool) (a:Act) (w:World),unl ops listed≤fuel→Sim w0 M0 β0 cp0 h0 nt kl bef tr sB hB ops listed a w→wpAny P .any ops Q fuel listed a w:=by
 intro fuel
 induction fuel with
 |zero=>
  intro listed a w hu hs
  have hnil:Region.ready .any ops listed=[]:=by
   refine List.eq_nil_iff_forall_not_mem.2 fun i hi=> ?_
   obtain⟨h1,o,h2,_⟩:=mem_ready.1 hi
   have hlt:i<ops.size:=(Array.getElem?_eq_some_iff.1 h2).1
   have:i∈(List.range ops.size).filter fun i=> !listed.getD i true:=List.mem_filter.2 ⟨List.mem_range.2 hlt,by rw[h1];rfl⟩
   unfold unl at hu
   have h0:=List.eq_nil_of_length_eq_zero (Nat.le_zero.1 hu)
   rw[h0]at this
   cases this
  exact⟨hnil,hQ a w (qNW hr hbef hs hnil)⟩
 |succ fuel ih=>
  intro listed a w hu hs
  refine⟨fun hnil=>hQ a w (qNW hr hbef hs hnil),fun i hi=>qP9 hE hZ hD hr hbef hok hs hi fun a w hs'=>ih _ a w ?_ hs'⟩
  obtain⟨h1,o,h2,_⟩:=mem_ready.1 hi
  have hlt:i<ops.size:=(Array.getElem?_eq_some_iff.1 h2).1
  have hls:i<listed.size:=by rw[hs.sz];exact hlt
  have:=filter_lt (p:=fun i=> !listed.getD i true) (q:=fun k=> !(listed.setIfInBounds i true).getD k true) (i:=i) (fun k hk=>by
   by_cases hki:k=i
   ·subst hki;simp[Array.getD_eq_getD_getElem?,hls]at hk
   ·rw[getD_set_ne true (Ne.symm hki)]at hk;exact hk) (by rw[h1];rfl) (by simp[Array.getD_eq_getD_getElem?,hls]) (List.mem_range.2 hlt)
  unfold unl at hu ⊢
  omega
variable {M:Nat→Prop}{β:Nat→Option Nat}{cp:Nat→Nat}{h:Hp}{n b:Nat}{β2:Nat→Option Nat}{cp2:Nat→Nat}{s:Tm}
theorem qA5 {c d:Nat}(h:Nat.beq c d=false):c≠d:=fun e=>by rw[qC.2 e]at h;cases h
mutual
theorem qJe (h1:β2 b=β n∧cp2 b=cp n) (h2:∀c,c≠b→β2 c=β c∧cp2 c=cp c):∀(x:AV) (v:Value),Rep w M β cp x v→Rep w M β2 cp2 (mvA n b x) v
 | .any,v,_=> .c (.any v)
 | .bc p,v,hr=>by cases hr with|c h=>exact .c h
 | .b p,v,hr=>by cases hr with|c h=>exact .c h
 | .i k n,v,hr=>by cases hr with|c h=>exact .c h
 | .s x,v,hr=>by cases hr with|c h=>exact .c h
 | .nil,v,hr=>by cases hr with|c h=>exact .c h
 | .con x,v,hr=>by cases hr with|c h=>exact .c h
 | .sl sz n f,v,hr=>by cases hr with|c h=>exact .c h
 | .rp l,v,hr=>by cases hr with|c h=>exact .c h
 | .agg l,v,hr=>by
   obtain⟨cs,rfl,hL,ho⟩:=qBs hr
   have:=qEK h1 h2 l _ hL
   exact .agg _ cs (by simpa using this.1) (fun v hv=>ho v (by simpa using hv)) fun j x hj=>by rw[qG];exact this.2 j x hj
 | .tup l,v,hr=>by
   obtain⟨cs,rfl,hL⟩:=qBG hr
   have:=qEK h1 h2 l _ hL
   exact .tup _ cs (by simpa using this.1) fun j x hj=>by rw[qG];exact this.2 j x hj
 | .ifc t x,v,hr=>by
   obtain⟨u,rfl,h⟩:=qCO hr
   exact .ifc t _ u (qJe h1 h2 x u h)
 | .fm _ _,v,hr=> .c (.any v)
 | .fn f l,v,hr=>by
   obtain⟨cs,rfl,hL⟩:=qDQ hr
   have:=qEK h1 h2 l _ hL
   exact .fn f _ cs (by simpa using this.1) fun j x hj=>by rw[qG];exact this.2 j x hj
 | .ptr c o,v,hr=>by
   obtain⟨g,hg,rfl⟩:=qA7 hr
   simp only[mvA]
   split
   ·rename_i q;have q:=qC.1 q;subst q;exact .ptr b o g (h1.1.trans hg)
   ·split
    ·exact .c (.any _)
    ·rename_i q;exact .ptr c o g ((h2 c (qA5 q)).1.trans hg)
 | .mr c,v,hr=>by
   obtain⟨g,hg,rfl⟩:=qE2 hr
   simp only[mvA]
   split
   ·rename_i q;have q:=qC.1 q;subst q;exact .mr b g (h1.1.trans hg)
   ·split
    ·exact .c (.any _)
    ·rename_i q;exact .mr c g ((h2 c (qA5 q)).1.trans hg)
 | .ept c sz i o,v,hr=>by
   obtain⟨g,hg,rfl⟩:=qBH hr
   simp only[mvA]
   split
   ·rename_i q;have q:=qC.1 q;subst q;exact .ept b sz i o g (h1.1.trans hg)
   ·split
    ·exact .c (.any _)
    ·rename_i q;exact .ept c sz i o g ((h2 c (qA5 q)).1.trans hg)
 | .own c m,v,hr=>by
   simp only[mvA]
   rcases qW hr with⟨h0,rfl⟩|⟨g,hg,hn,rfl⟩
   ·split
    ·exact .own0 b m h0
    ·split
     ·exact .c (.any _)
     ·exact .own0 c m h0
   ·split
    ·rename_i q;have q:=qC.1 q;subst q
     rw[←h1.2]
     exact .own b m g (h1.1.trans hg) (by rw[h1.2];exact hn)
    ·split
     ·exact .c (.any _)
     ·rename_i q
      have q:=h2 c (qA5 q)
      rw[←q.2]
      exact .own c m g (q.1.trans hg) (by rw[q.2];exact hn)
 | .nn c m,v,hr=>by
   simp only[mvA]
   obtain⟨g,hg,hn,rfl⟩:=qBK hr
   split
   ·rename_i q;have q:=qC.1 q;subst q
    rw[←h1.2]
    exact .nn b m g (h1.1.trans hg) (by rw[h1.2];exact hn)
   ·split
    ·exact .c (.any _)
    ·rename_i q
     have q:=h2 c (qA5 q)
     rw[←q.2]
     exact .nn c m g (q.1.trans hg) (by rw[q.2];exact hn)
 | .vw c sz p m,v,hr=>by
   simp only[mvA]
   rcases qB8 hr with⟨h0,a,c',hc',rfl⟩|⟨g,hg,hn,rfl⟩
   ·split
    ·exact .vw0 b sz p m a c' h0 hc'
    ·split
     ·exact .c (.any _)
     ·exact .vw0 c sz p m a c' h0 hc'
   ·split
    ·rename_i q;have q:=qC.1 q;subst q
     rw[←h1.2]
     exact .vw b sz p m g (h1.1.trans hg) (by rw[h1.2];exact hn)
    ·split
     ·exact .c (.any _)
     ·rename_i q
      have q:=h2 c (qA5 q)
      rw[←q.2]
      exact .vw c sz p m g (q.1.trans hg) (by rw[q.2];exact hn)
 | .ite c x y,v,hr=>by
   have key:(c ()=true→Rep w M β cp x v)∧(c ()=false→Rep w M β cp y v):=by
    cases hr with
    |c h=>cases h with|ite _ _ _ _ h1 h2=>exact⟨fun h=> .c (h1 h),fun h=> .c (h2 h)⟩
    |ite _ _ _ _ h1 h2=>exact⟨h1,h2⟩
   exact .ite c _ _ v (fun hc=>qJe h1 h2 x v (key.1 hc)) (fun hc=>qJe h1 h2 y v (key.2 hc))
theorem qEK (h1:β2 b=β n∧cp2 b=cp n) (h2:∀c,c≠b→β2 c=β c∧cp2 c=cp c):∀(l:List AV) (vs:List Value),qAs w M β cp l vs→qAs w M β2 cp2 (mvL n b l) vs
 |[],vs,hr=>⟨hr.1,fun j x hj=>by simp[mvL]at hj⟩
 |x::l,vs,hr=>by
  match vs,hr with
  |[],hr=>exact absurd hr.1 (by simp)
  |u::vs,hr=>
   have hx:=qJe h1 h2 x u (by have:=hr.2 0 x rfl;simpa using this)
   have:=qEK h1 h2 l vs ⟨by have:=hr.1;simp at this;omega,fun j x hj=>by have:=hr.2 (j+1) x (by simpa using hj);simpa using this⟩
   refine⟨by have:=this.1;simp[mvL];omega,fun j z hj=> ?_⟩
   cases j with
   |zero=>simp[mvL]at hj;subst hj;simpa using hx
   |succ j=>have:=this.2 j z (by simpa[mvL]using hj);simpa using this
end
theorem qNX (h1:β2 b=β n∧cp2 b=cp n) (h2:∀c,c≠b→β2 c=β c∧cp2 c=cp c) {c c':Nat}(hc:β2 c'=β c∧cp2 c'=cp c) {x:AObj}(hr:qAo w M β cp c x):qAo w M β2 cp2 c' (mvO n b x):=by
 cases x with
 |dead=>trivial
 |blk cs=>
  obtain⟨g,cur,t,e1,e2,e3,e4,e5⟩:=hr
  exact⟨g,cur,t,hc.1.trans e1,e2,e3,qEK h1 h2 _ _ e4,⟨e5.1,by rw[hc.2];exact e5.2⟩⟩
 |vec e sz m f=>
  rcases hr with⟨e1,e2⟩|⟨g,cur,e1,e2,e3,e4,e5,e6,e7,e8⟩
  ·exact .inl ⟨hc.1.trans e1,e2⟩
  ·exact .inr ⟨g,cur,hc.1.trans e1,e2,e3,by rw[hc.2];exact e4,by rw[hc.2];exact e5,by rw[hc.2];exact e6,by rw[hc.2];exact e7,e8⟩
 |fz q m f=>
  obtain⟨g,cur,t,fr,e1,e2,e3,e4,e5,e6⟩:=hr
  exact⟨g,cur,t,fr,hc.1.trans e1,e2,e3,e4,⟨e5.1,by rw[hc.2];exact e5.2⟩,e6⟩
 |mp T l=>
  obtain⟨g,es,clk,e1,e2,e3,e4⟩:=hr
  exact⟨g,es,clk,hc.1.trans e1,e2,e3,e4⟩
 |nst e sz m F op=>
  rcases hr with⟨e1,e2,e3⟩|⟨g,cur,e1,r⟩
  ·exact .inl ⟨hc.1.trans e1,e2,by rw[e3];rfl⟩
  ·refine .inr ⟨g,cur,hc.1.trans e1, ?_⟩
   rw[hc.2]
   exact r.opMap _ (qEK h1 h2)
theorem qLt {g k:Nat}{x:AObj}(hk:Foot w g (mvO n b x) k):Foot w g x k:=by
 cases x with
 |nst e sz m F op=>exact qBQ hk
 |_=>cases hk;exact .self _
theorem qLu {x:AObj}:(mvO n b x).live=x.live:=by cases x<;>rfl
theorem qLv {O:AObj}:∀(h:Hp) (i:Nat),(qRN n b O i h).length=h.length
 |[],_=>rfl
 |o::r,i=>by simp[qRN,qLv r]
theorem qHJ {O:AObj}:∀(h:Hp) (i c:Nat) (o:AObj),(qRN n b O i h)[c]? =some o→∃x,h[c]? =some x∧((i+c=n∧o= .dead)∨(i+c≠n∧i+c=b∧o=O)∨(i+c≠n∧i+c≠b∧o=mvO n b x))
 |[],_,_,_,hc=>by simp[qRN]at hc
 |x::r,i,0,o,hc=>by
  simp only[qRN,List.getElem?_cons_zero,Option.some.injEq]at hc
  refine⟨x,rfl, ?_⟩
  split at hc
  ·rename_i q;exact .inl ⟨qC.1 q,hc.symm⟩
  ·rename_i q
   split at hc
   ·rename_i q2;exact .inr (.inl ⟨qA5 q,qC.1 q2,hc.symm⟩)
   ·rename_i q2;exact .inr (.inr ⟨qA5 q,qA5 q2,hc.symm⟩)
 |x::r,i,c+1,o,hc=>by
  simp only[qRN,List.getElem?_cons_succ]at hc
  obtain⟨y,hy,h1⟩:=qHJ r (i+1) c o hc
  exact⟨y,by simpa using hy,by rw[show i+(c+1)=i+1+c by omega];exact h1⟩
theorem qRP:∀(s:Tm) (t:Nat),lk (mvT n b s) t=mvA n b (lk s t)
 |[],t=>rfl
 |(i,v)::r,t=>by
  simp only[mvT,lk]
  split
  ·rfl
  ·exact qRP r t
theorem qX2 (hs:St w0 M0 β0 cp0 h0 nt s h kl a w) (hne:n≠b) (hb:b<h.length):St w0 M0 β0 cp0 h0 nt (mvT n b s) (qXH n b h) (b::kl) a w:=by
 obtain⟨⟨M,β,cp,hh,ht,hak⟩,hn,hd⟩:=hs
 have h1:qZ β b (β n) b=β n∧qAk cp b (cp n) b=cp n:=by simp[qZ,qAk]
 have h2:∀c,c≠b→qZ β b (β n) c=β c∧qAk cp b (cp n) c=cp c:=fun c hc=>by simp[qZ,qAk,hc]
 have hO:∀x,h[n]? =some x→nth .dead h n=x:=fun x hx=>by rw[qAt,List.getD_eq_getElem?_getD,hx];rfl
 have orig:∀c o g k,(qXH n b h)[c]? =some o→o.live=true→qZ β b (β n) c=some g→Foot w g o k→∃c' x,h[c']? =some x∧x.live=true∧β c'=some g∧Foot w g x k∧(c=b∧c'=n∨c≠b∧c≠n∧c'=c):=by
  intro c o g k hc hl hg hk
  obtain⟨x,hx,h3⟩:=qHJ _ _ _ _ hc
  simp only[Nat.zero_add]at h3
  rcases h3 with⟨_,rfl⟩|⟨e1,e2,rfl⟩|⟨e1,e2,rfl⟩
  ·cases hl
  ·subst e2
   rw[h1.1]at hg
   cases hx':h[n]? with
   |none=>rw[hh.out n (by rw[List.getElem?_eq_none_iff]at hx';exact hx')]at hg;cases hg
   |some y=>
    rw[qLu,hO y hx']at hl
    rw[hO y hx']at hk
    exact⟨n,y,hx',hl,hg,qLt hk,.inl ⟨rfl,rfl⟩⟩
  ·rw[(h2 c e2).1]at hg
   rw[qLu]at hl
   exact⟨c,x,hx,hl,hg,qLt hk,.inr ⟨e2,e1,rfl⟩⟩
 refine⟨⟨M,qZ β b (β n),qAk cp b (cp n),⟨fun c hc=> ?_,fun c o hc=> ?_,fun c c' o o' g g' k hc hc' hl hl' hg hg' hk hk'=> ?_,hh.dom⟩,fun t=>by rw[qRP];exact qJe h1 h2 _ _ (ht t),⟨hak.keep,fun c hc h00=> ?_,hak.ext, ?_⟩⟩,hn,hd⟩
 ·unfold qXH at hc
  rw[qLv]at hc
  rw[(h2 c (by omega)).1]
  exact hh.out c hc
 ·obtain⟨x,hx,h3⟩:=qHJ _ _ _ _ hc
  simp only[Nat.zero_add]at h3
  rcases h3 with⟨_,rfl⟩|⟨e1,e2,rfl⟩|⟨e1,e2,rfl⟩
  ·trivial
  ·subst e2
   cases hx':h[n]? with
   |none=>rw[qAt,List.getD_eq_getElem?_getD,hx'];trivial
   |some y=>rw[hO y hx'];exact qNX h1 h2 h1 (hh.obj n y hx')
  ·exact qNX h1 h2 (h2 c e2) (hh.obj c x hx)
 ·obtain⟨d,x,a1,a2,a3,a5,a4⟩:=orig c o g k hc hl hg hk
  obtain⟨d',x',b1,b2,b3,b5,b4⟩:=orig c' o' g' k hc' hl' hg' hk'
  have:=hh.inj2 d d' x x' g g' k a1 b1 a2 b2 a3 b3 a5 b5
  omega
 ·rw[qB0,Bool.or_eq_false_iff,decide_eq_false_iff_not]at hc
  have h3:=h2 c (fun e=>hc.1 e.symm)
  have h4:=hak.bk c hc.2 h00
  exact⟨h3.1.trans h4.1,h3.2.trans h4.2⟩
 ·rintro k ⟨c,o,g,hc,hl,hg,hk⟩
  obtain⟨d,x,a1,a2,a3,a5,_⟩:=orig c o g k hc hl hg hk
  exact hak.own k ⟨d,x,g,a1,a2,a3,a5⟩
theorem qJf:∀(tr:List Fp) (s:Tm) (h:Hp) (kl:List Nat) (r:Tm×Hp×List Nat),settle tr s h kl=some r→St w0 M0 β0 cp0 h0 nt s h kl a w→St w0 M0 β0 cp0 h0 nt r.1 r.2.1 r.2.2 a w
 |[],s,h,kl,r,hv,hs=>by simp only[settle,Option.some.injEq]at hv;subst hv;exact hs
 |e::tr,s,h,kl,r,hv,hs=>by
  simp only[settle]at hv
  split at hv
  ·cases hv
  ·rename_i s1 h1 kl1 he
   have hs1:=qJf tr s h kl _ he hs
   split at hv
   ·simp only[Option.some.injEq]at hv;subst hv;exact hs1
   ·split at hv
    ·rename_i q1 q2
     have q2:=qQ.1 q2
     rw[qK]at q2
     simp only[Option.some.injEq]at hv;subst hv
     exact qX2 hs1 (qA5 q1) q2
    ·cases hv
def qHK (E:Env) (det:FuncId→Option Dt):Drw:=fun nt ops s h kl K=>
 qD3 E det nt (len h+len ops) (ops.map (·.dst)) ops [] s h [] fun s h tr=>Chk (fun _=>qNO ops tr) (match settle tr s h kl with|some r=>K r.1 r.2.1 r.2.2|none=>Bad 314)
theorem qJg {w w':World}{M:Nat→Prop}{β:Nat→Option Nat}{cp:Nat→Nat}{h:Hp}(hw:w'.heap=w.heap) (hh:HeapRel w M β cp h):HeapRel w' M β cp h:=hh.same hw
theorem qAb (hE:EnvOk P E) (hZ:Zl E) (hD:qBk P det) (hm:P.follows .mixedOrders=true):qED P (qHK E det):=by
 intro w0 M0 β0 cp0 h0 nt id ops s h kl a w K Q hv hst hQ
 refine wp_region_any hm ?_
 unfold qHK at hv
 obtain⟨tr,s',h',hr,hK⟩:=qEI _ _ _ _ _ (fun d y x h=>by simp[qNM]at h) hv
 simp only[List.nil_append]at hK
 cases hK with
 |mk hok hK=>
  have hok:qNO ops.toList (tr.map qIz)=true:=hok
  unfold qNO at hok
  split at hok
  ·cases hok
  ·rename_i bef hbef
   rw[qK,qK,Array.length_toList]at hr
   refine qSQ hE hZ hD hr hbef hok (fun a w hst=>by
    split at hK
    ·rename_i r hr;exact hQ _ _ _ a w hK (qJf _ _ _ _ _ hr hst)
    ·cases hK) _ _ _ _ ?_ ?_ (w0:=w0) (M0:=M0) (β0:=β0) (cp0:=cp0) (h0:=h0) (kl:=kl)
   ·unfold unl
    exact Nat.le_trans (List.length_filter_le _ _) (by simp)
   ·obtain⟨⟨M,β,cp,hh,ht,hak⟩,hnt,hdf⟩:=hst
    have hX:∀k,(Array.replicate ops.size false).getD k false=false:=fun k=>by
     rw[Array.getD_eq_getD_getElem?,Array.getElem?_replicate];split<;>rfl
    have hW:∀{α:Type}(base:α) (W:Nat→Option α),qBc base W (fun k=>(Array.replicate ops.size false).getD k false) ops.size=base:=fun base W=>
     qCY (m:=0) (Nat.zero_le _) fun k _ _ _=>hX k
    have hdead:∀(b:Nat) (o:AObj),(h++List.replicate ops.size AObj.dead)[b]? =some o→o.live=true→h[b]? =some o:=by
     intro b o hb hl
     rcases Nat.lt_or_ge b h.length with h1|h1
     ·rwa [List.getElem?_append_left h1]at hb
     ·rw[List.getElem?_append_right h1,List.getElem?_replicate]at hb
      split at hb
      ·cases hb;cases hl
      ·cases hb
    have hh2:=qJg (w:=w) (w':={w with drawn:=w.drawn+1}) rfl hh
    have hk:∀k,k<w.heap.size→¬M k→({w with drawn:=w.drawn+1}:World).heap[k]? =w.heap[k]? ∧¬M k:=fun k _ hM=>⟨rfl,hM⟩
    refine⟨by simp,fun j hj=>(by rw[hX]at hj;cases hj),⟨M,β,cp,s,h++List.replicate ops.size .dead,⟨fun b hb=>hh2.out b (by simp at hb;omega),fun b o hb=> ?_,fun b b' o o' g g' k hb hb' hl hl'=>hh2.inj2 b b' o o' g g' k (hdead b o hb hl) (hdead b' o' hb' hl') hl hl',hh2.dom⟩,fun t=>(ht t).keep hk fun _ _=>⟨rfl,rfl⟩,⟨hak.keep,hak.bk,⟨hak.ext.os,hak.ext.tape,hak.ext.output,hak.ext.size,hak.ext.block,hak.ext.sub,hak.ext.new⟩,fun g hg=> ?_⟩,fun t=>(hW _ _).symm,fun b=> ?_,by simp,fun b hb=> ?_⟩,hnt,hdf⟩
    ·cases o with
     |dead=>trivial
     |blk cs=>exact hh2.obj b _ (hdead b _ hb rfl)
     |vec e sz n f=>exact hh2.obj b _ (hdead b _ hb rfl)
     |fz q n f=>exact hh2.obj b _ (hdead b _ hb rfl)
     |mp T l=>exact hh2.obj b _ (hdead b _ hb rfl)
     |nst e sz n F op=>exact hh2.obj b _ (hdead b _ hb rfl)
    ·obtain⟨b,o,g0,hb,hl,hg,hk⟩:=hg
     exact hak.own g ⟨b,o,g0,hdead b o hb hl,hl,hg,Foot.same (w:={w with drawn:=w.drawn+1}) (w':=w) rfl hk⟩
    ·rw[hW,qAt,qAt,List.getD_eq_getElem?_getD,List.getD_eq_getElem?_getD]
     rcases Nat.lt_or_ge b h.length with h1|h1
     ·rw[List.getElem?_append_left h1]
     ·rw[List.getElem?_append_right h1,List.getElem?_eq_none h1,List.getElem?_replicate]
      split<;>rfl
    ·refine .inl ?_
     rcases Nat.lt_or_ge b h.length with h1|h1
     ·exact h1
     ·exact absurd (hh.out b h1) hb
end
end Go.Abs
namespace Go.Abs
open Go
def qX3 (E:Env) (nt:Nat):List Oper→Tm→Hp→Option (Nat×Th Nat)
 |[],_,_=>none
 |o::r,s,h=>
  let cont:Option (Nat×Th Nat):=match o.guard with
   |none=>match step E o s h (len h)with
    | .ok v .no=>match put nt o.dst v s with|some s'=>qX3 E nt r s' h|none=>none
    | .ob _ v .no=>match put nt o.dst v s with|some s'=>qX3 E nt r s' h|none=>none
    |_=>none
   |some _=>none
  let look (x:Operand):Option (Nat×Th Nat):=match ev s x with
   | .ept b _ i _=>match nth .dead h b with
     | .nst _ _ _ _ none=>some (b,i)
     |_=>cont
   |_=>cont
  match o.op with
  | .load _ x=>look x
  | .store _ x _=>look x
  |_=>cont
def qXJ (E:Env) (nt:Nat) (ops:List Oper) (s:Tm):Nat→Hp→(Hp→Prop)→Prop
 |0,h,K=>K h
 |n+1,h,K=>match qX3 E nt ops s h with
  |some (b,i)=>qMr E b i h fun h=>qXJ E nt ops s n h K
  |none=>K h
def qUN (E:Env) (det:FuncId→Option Dt):Drw:=fun nt ops s h kl K=>qXJ E nt ops s 2 h fun h=>qHK E det nt ops s h kl K
variable [Kd]
section
variable {P:Program}{E:Env}{w:World}{h:Hp}{a:Act}{s:Tm}{det:FuncId→Option Dt}
variable {w0:World}{M0:Nat→Prop}{β0:Nat→Option Nat}{cp0:Nat→Nat}{h0:Hp}{nt:Nat}{kl:List Nat}
theorem St.opn {b:Nat}{i:Th Nat}{K:Hp→Prop}(hs:St w0 M0 β0 cp0 h0 nt s h kl a w) (hE:EnvOk P E) (hv:qMr E b i h K):∃h',K h'∧St w0 M0 β0 cp0 h0 nt s h' kl a w:=by
 obtain⟨⟨M,β,cp,hh,ht,hak⟩,hn,hd⟩:=hs
 obtain⟨h',β',cp',a1,a2,a3,a4⟩:=qDB hE.fr hv hh
 refine⟨h',a1,⟨M,β',cp',a2,fun t=>(ht t).keep (fun _ _ hM=>⟨rfl,hM⟩) a3,⟨hak.keep,fun c hc h0=> ?_,hak.ext,fun k hk=>hak.own k (a4 k hk)⟩⟩,hn,hd⟩
 have h1:=hak.bk c hc h0
 have h2:=a3 c (by rw[h1.1];exact h0)
 exact⟨h2.1.trans h1.1,h2.2.trans h1.2⟩
theorem qGZ (hE:EnvOk P E) {ops:List Oper}:∀(n:Nat) (h:Hp) (K:Hp→Prop),qXJ E nt ops s n h K→St w0 M0 β0 cp0 h0 nt s h kl a w→∃h',K h'∧St w0 M0 β0 cp0 h0 nt s h' kl a w
 |0,h,K,hv,hs=>⟨h,hv,hs⟩
 |n+1,h,K,hv,hs=>by
  simp only[qXJ]at hv
  split at hv
  ·obtain⟨h1,a1,a2⟩:=hs.opn hE hv
   exact qGZ hE n h1 K a1 a2
  ·exact⟨h,hv,hs⟩
theorem qD6 (hE:EnvOk P E) (hZ:Zl E) (hD:qBk P det) (hm:P.follows .mixedOrders=true):qED P (qUN E det):=by
 intro w0 M0 β0 cp0 h0 nt id ops s h kl a w K Q hv hst hQ
 obtain⟨h1,a1,a2⟩:=qGZ hE 2 h _ hv hst
 exact qAb hE hZ hD hm _ _ _ _ _ _ id ops s h1 kl a w K Q a1 a2 hQ
end
end Go.Abs
namespace Go.Abs
open Go
def qSR (E:Env) (con:FuncId→Con) (nt:Nat) (all:List Oper) (o:Oper) (s:Tm) (h:Hp) (kl:List Nat) (K:Tm→Hp→List Nat→Prop):Prop:=
 let run (s:Tm):Prop:=qJ9 E con o s h fun v h' kl'=>match put nt o.dst v (qCT kl' s)with
  |some s'=>K s' h' (kl'++kl)
  |none=>Bad 100
 let skip (s:Tm):Prop:=match put nt o.dst (.tup []) s with
  |some s'=>K s' h kl
  |none=>Bad 101
 match o.guard with
 |none=>run s
 |some (j,b)=>match nth none (all.map (·.dst)) j with
  |none=>Bad 102
  |some d=>match lk s d with
   | .bc x=>match x,b with
     |true,true=>run s
     |false,false=>run s
     |_,_=>skip s
   | .b x=>match b with
     |true=>splitB x (fun _=>run ((d,.bc true)::s)) fun _=>skip ((d,.bc false)::s)
     |false=>splitB x (fun _=>skip ((d,.bc true)::s)) fun _=>run ((d,.bc false)::s)
   | .tup []=>skip s
   |_=>Bad 103
def qG0 (L:List Bool):List Edge→Bool
 |[]=>true
 |e::r=>match qBj e with
  |false=>qG0 L r
  |true=>match nth false L e.on with
   |true=>qG0 L r
   |false=>false
def okR (L:List Bool) (i:Nat) (o:Oper):Bool:=match nth true L i with
 |true=>false
 |false=>qG0 L o.after.toList
def qQa (L:List Bool):Nat→List Oper→List (Nat×Oper)
 |_,[]=>[]
 |i,o::r=>match okR L i o with
  |true=>(i,o)::qQa L (Nat.succ i) r
  |false=>qQa L (Nat.succ i) r
def qXK (f:Nat→Oper→Prop):List (Nat×Oper)→Prop
 |[]=>True
 |(i,o)::r=>Both (f i o) (qXK f r)
def qUy:Nat→List Bool→List Bool
 |_,[]=>[]
 |0,_::r=>true::r
 |n+1,x::r=>x::qUy n r
variable [Kd]
section
variable {P:Program}{E:Env}{con:FuncId→Con}{nt:Nat}{w0:World}{M0:Nat→Prop}{β0:Nat→Option Nat}{cp0:Nat→Nat}{h0:Hp}
theorem qKv (hE:EnvOk P E) (hZ:Zl E) (hC:qY P con) {ops:Array Oper}{K:Tm→Hp→List Nat→Prop}{Q:Exit→Act→World→Prop}{R:Act→World→Prop}
  (hR:∀s h kl a w,K s h kl→St w0 M0 β0 cp0 h0 nt s h kl a w→R a w) {o:Oper}{i:Nat}(hoi:ops[i]? =some o) {s:Tm}{h:Hp}{kl:List Nat}{a:Act}{w:World}
  (hv:qSR E con nt ops.toList o s h kl K) (hst:St w0 M0 β0 cp0 h0 nt s h kl a w):wpOp P ops Q i R a w:=by
 unfold wpOp
 rw[hoi]
 dsimp only
 obtain⟨⟨M,β,cp,hh,ht,hak⟩,hnt,hdf⟩:=hst
 have run:∀s1:Tm,(∀t,Rep w M β cp (lk s1 t) (a.tmps.getD t undef))→(qJ9 E con o s1 h fun v h' kl'=>match put nt o.dst v (qCT kl' s1)with
  |some s'=>K s' h' (kl'++kl)
  |none=>Bad 100)→o.wp P a w R Q:=by
  intro s1 ht1 hv1
  refine qF1 hE hZ hC hh ht1 hv1 fun v' w' M' β' cp' v h' kl' hK hh' hak' hrep=> ?_
  split at hK
  ·rename_i s' qBe
   have ht2:∀t,Rep w' M' β' cp' (lk (qCT kl' s1) t) (a.tmps.getD t undef):=fun t=>by rw[qFT];exact hak'.rep (ht1 t)
   obtain⟨p1,p2,p3⟩:=qCj qBe hnt ht2 hrep
   exact hR s' h' (kl'++kl) _ w' hK ⟨⟨M',β',cp',hh',p1,hak.trans hak'⟩,p2,p3.trans hdf⟩
  ·cases hK
 have skip:∀s1:Tm,(∀t,Rep w M β cp (lk s1 t) (a.tmps.getD t undef))→(match put nt o.dst (.tup []) s1 with
  |some s'=>K s' h kl
  |none=>Bad 101)→R (a.put o.dst undef) w:=by
  intro s1 ht1 hv1
  split at hv1
  ·rename_i s' qBe
   obtain⟨p1,p2,p3⟩:=qCj qBe hnt ht1 (.tup [] #[] rfl fun j x hj=>by simp at hj)
   exact hR s' h kl _ w hv1 ⟨⟨M,β,cp,hh,p1,hak⟩,p2,p3.trans hdf⟩
  ·cases hv1
 unfold qSR at hv
 dsimp only at hv
 split at hv
 ·rename_i hg
  rw[if_pos (by simp[Region.wanted,hg])]
  exact .inl (run s ht hv)
 ·rename_i j b hg
  split at hv
  ·cases hv
  ·rename_i d hd
   have hdj:(ops[j]?).bind (·.dst)=some d:=by
    rw[qAt,List.getD_eq_getElem?_getD,List.getElem?_map]at hd
    rw[←Array.getElem?_toList]
    cases hoj:ops.toList[j]? with
    |none=>rw[hoj]at hd;simp at hd
    |some x=>rw[hoj]at hd;simpa using hd
   have hw:∀x:Bool,a.tmps.getD d undef= .bool x→Region.wanted o (yielded ops a.tmps)=(x==b):=by
    intro x hx
    have hlt:d<a.tmps.size:=by
     rcases Nat.lt_or_ge d a.tmps.size with h1|h1
     ·exact h1
     ·simp[Array.getD_eq_getD_getElem?,Array.getElem?_eq_none h1,undef]at hx
    have:a.tmps[d]? =some (.bool x):=by
     rw[Array.getElem?_eq_getElem hlt]
     simpa[Array.getD,hlt]using hx
    simp[Region.wanted,hg,yielded,hdj,this]
   have hd1:=ht d
   have wt:Region.wanted o (yielded ops a.tmps)=true→∀s1:Tm,(∀t,Rep w M β cp (lk s1 t) (a.tmps.getD t undef))→(qJ9 E con o s1 h fun v h' kl'=>match put nt o.dst v (qCT kl' s1)with
     |some s'=>K s' h' (kl'++kl)
     |none=>Bad 100)→(if Region.wanted o (yielded ops a.tmps)=true then o.wp P a w R Q∨(o.asks P a w∧LetsOut Q)else R (a.put o.dst undef) w):=by
    intro h1 s1 h2 h3
    rw[if_pos h1]
    exact .inl (run s1 h2 h3)
   have wf:Region.wanted o (yielded ops a.tmps)=false→∀s1:Tm,(∀t,Rep w M β cp (lk s1 t) (a.tmps.getD t undef))→(match put nt o.dst (.tup []) s1 with
     |some s'=>K s' h kl
     |none=>Bad 101)→(if Region.wanted o (yielded ops a.tmps)=true then o.wp P a w R Q∨(o.asks P a w∧LetsOut Q)else R (a.put o.dst undef) w):=by
    intro h1 s1 h2 h3
    rw[if_neg (by simp[h1])]
    exact skip s1 h2 h3
   split at hv
   ·rename_i x hl
    rw[hl]at hd1
    have hw:=hw x (qAN hd1)
    split at hv
    ·exact wt (by rw[hw];rfl) s ht hv
    ·exact wt (by rw[hw];rfl) s ht hv
    ·rename_i n1 n2
     refine wf ?_ s ht hv
     rw[hw]
     cases x<;>cases b<;>first|rfl|exact(n1 rfl rfl).elim|exact(n2 rfl rfl).elim
   ·rename_i x hl
    rw[hl]at hd1
    have hx:=qBU hd1
    have hw:=hw _ hx
    split at hv
    ·cases hv with
     |mk h1 h2=>
      cases h1 with
      |mk h1=>
       cases h2 with
       |mk h2=>
        cases hb:x ()with
        |true=>exact wt (by rw[hw,hb];rfl) _ (qDX ht (by rw[hx,hb];exact .c (.bc true))) (h1 hb).out
        |false=>exact wf (by rw[hw,hb];rfl) _ (qDX ht (by rw[hx,hb];exact .c (.bc false))) (h2 hb).out
    ·cases hv with
     |mk h1 h2=>
      cases h1 with
      |mk h1=>
       cases h2 with
       |mk h2=>
        cases hb:x ()with
        |true=>exact wf (by rw[hw,hb];rfl) _ (qDX ht (by rw[hx,hb];exact .c (.bc true))) (h1 hb).out
        |false=>exact wt (by rw[hw,hb];rfl) _ (qDX ht (by rw[hx,hb];exact .c (.bc false))) (h2 hb).out
   ·rename_i hl
    rw[hl]at hd1
    obtain⟨cs,he,hL⟩:=qBG hd1
    refine wf ?_ s ht hv
    simp only[Region.wanted,hg,yielded,hdj,Option.bind_some]
    cases hx:a.tmps[d]? with
    |none=>rfl
    |some v=>
     have:a.tmps.getD d undef=v:=by simp[Array.getD_eq_getD_getElem?,hx]
     rw[he]at this
     subst this
     rfl
   ·cases hv
theorem qKw:∀(i:Nat) (L:List Bool),qUy i L=L.set i true
 |_,[]=>by simp[qUy]
 |0,_::r=>rfl
 |n+1,x::r=>by simp[qUy,qKw n r]
theorem qEL {L:List Bool}:∀{es:List Edge},qG0 L es=true↔∀e∈es,qBj e=true→L.getD e.on false=true
 |[]=>by simp[qG0]
 |e::r=>by
  simp only[qG0]
  split
  ·rename_i hb
   rw[qEL]
   exact⟨fun h x hx h2=>by(rcases List.mem_cons.1 hx with rfl|hx;rw[hb]at h2;cases h2;exact h x hx h2),fun h x hx=>h x (List.mem_cons_of_mem _ hx)⟩
  ·rename_i hb
   split
   ·rename_i hn
    rw[qAt]at hn
    rw[qEL]
    exact⟨fun h x hx h2=>by(rcases List.mem_cons.1 hx with rfl|hx;exact hn;exact h x hx h2),fun h x hx=>h x (List.mem_cons_of_mem _ hx)⟩
   ·rename_i hn
    rw[qAt]at hn
    refine⟨fun h=>(by cases h),fun h=> ?_⟩
    have:=h e (List.mem_cons_self ..) hb
    rw[this]at hn;cases hn
theorem qD7 {L:List Bool}:∀{l:List Oper}{k i:Nat}{o:Oper},(i,o)∈qQa L k l↔∃j,i=k+j∧l[j]? =some o∧okR L i o=true
 |[],k,i,o=>by simp[qQa]
 |x::r,k,i,o=>by
  simp only[qQa]
  have ih:=qD7 (L:=L) (l:=r) (k:=Nat.succ k) (i:=i) (o:=o)
  have key:((i,o)∈qQa L (Nat.succ k) r∨(i=k∧o=x∧okR L k x=true))↔∃j,i=k+j∧(x::r)[j]? =some o∧okR L i o=true:=by
   rw[ih]
   constructor
   ·rintro(⟨j,rfl,h1,h2⟩|⟨rfl,rfl,h⟩)
    ·exact⟨j+1,by omega,by simpa using h1,h2⟩
    ·exact⟨0,rfl,rfl,h⟩
   ·rintro⟨j,rfl,h1,h2⟩
    cases j with
    |zero=>simp at h1;subst h1;exact .inr ⟨rfl,rfl,h2⟩
    |succ j=>exact .inl ⟨j,by omega,by simpa using h1,h2⟩
  split
  ·rename_i hk
   rw[←key,List.mem_cons]
   constructor
   ·rintro(h|h)
    ·cases h;exact .inr ⟨rfl,rfl,hk⟩
    ·exact .inl h
   ·rintro(h|⟨rfl,rfl,_⟩)
    ·exact .inr h
    ·exact .inl rfl
  ·rename_i hk
   rw[←key]
   exact⟨.inl,fun h=>by rcases h with h|⟨_,_,h⟩;exact h;rw[h]at hk;cases hk⟩
theorem qC0 {ops:Array Oper}{listed:Array Bool}{i:Nat}:i∈Region.ready .any ops listed↔∃o,(i,o)∈qQa listed.toList 0 ops.toList:=by
 rw[mem_ready]
 have e1:∀(k:Nat) (d:Bool),listed.getD k d=listed.toList.getD k d:=fun k d=>by
  rw[Array.getD_eq_getD_getElem?,List.getD_eq_getElem?_getD,Array.getElem?_toList]
 have e2:∀o:Oper,okR listed.toList i o=true↔listed.getD i true=false∧∀e∈o.after,Region.binds .any e=true→listed.getD e.on false=true:=by
  intro o
  unfold okR
  rw[qAt,e1]
  split
  ·rename_i h;rw[h];simp
  ·rename_i h
   rw[qEL,h]
   simp only[true_and,Array.mem_toList_iff,qCu,e1]
 constructor
 ·rintro⟨h1,o,h2,h3⟩
  exact⟨o,qD7.2 ⟨i,by omega,by rw[Array.getElem?_toList];exact h2,(e2 o).2 ⟨h1,h3⟩⟩⟩
 ·rintro⟨o,h⟩
  obtain⟨j,hj,h2,h3⟩:=qD7.1 h
  have hj:j=i:=by omega
  subst hj
  rw[Array.getElem?_toList]at h2
  obtain⟨h4,h5⟩:=(e2 o).1 h3
  exact⟨h4,o,h2,h5⟩
theorem qLw {f:Nat→Oper→Prop}:∀{l:List (Nat×Oper)},qXK f l→∀{i o},(i,o)∈l→f i o
 |[],_,_,_,h=>by cases h
 |(j,p)::r,h,i,o,hm=>by
  simp only[qXK]at h
  cases h with
  |mk h1 h2=>rcases List.mem_cons.1 hm with q|q
             ·cases q;exact h1
             ·exact qLw h2 q
end
end Go.Abs
namespace Go.Abs
open Go
def qLx (E:Env) (o:Oper) (s:Tm):Option AV:=match o.guard with
 |some _=>none
 |none=>match o.op with
  | .move x=>some (ev s x)
  | .nilCheck x=>match ev s x with
    | .ptr b p=>some (.ptr b p)
    | .ept b sz i p=>some (.ept b sz i p)
    |_=>none
  | .fieldAddr t x i=>match E.ty t with
    | .struct _ fs _ _=>match nth (0,0,0) fs i,Nat.blt i (len fs)with
      |(q,_,sz),true=>match Nat.blt 0 sz,ev s x with
       |true,.ptr b p=>some (.ptr b (p+q))
       |true,.ept b z j p=>some (.ept b z j (p+q))
       |_,_=>none
      |_,false=>none
    |_=>none
  |_=>none
def qD8 (i:Nat):List Edge→Bool
 |[]=>true
 |e::r=>match qBj e with
  |false=>qD8 i r
  |true=>match Nat.beq e.on i with
   |true=>false
   |false=>qD8 i r
def qFb (A:Array Oper) (i:Nat) (o:Oper):Nat→List Oper→Bool
 |_,[]=>true
 |j,x::r=>match Nat.beq i j with
  |true=>qFb A i o (Nat.succ j) r
  |false=>match qD8 i x.after.toList,qD8 j o.after.toList with
   |true,true=>match o.apart A x with
    |true=>qFb A i o (Nat.succ j) r
    |false=>false
   |_,_=>qFb A i o (Nat.succ j) r
def qQb (A:Array Oper):Nat→List Oper→List Bool
 |_,[]=>[]
 |i,o::r=>qFb A i o 0 A.toList::qQb A (Nat.succ i) r
def qJh:List Oper→Bool
 |[]=>true
 |o::r=>match o.op with
  | .select _ _=>false
  |_=>qJh r
def qJi (E:Env) (g:List Bool) (s:Tm):List (Nat×Oper)→Option (Nat×Oper×AV)
 |[]=>none
 |(i,o)::r=>match nth false g i with
  |true=>match qLx E o s with
   |some v=>some (i,o,v)
   |none=>qJi E g s r
  |false=>qJi E g s r
def qMG (E:Env) (con:FuncId→Con) (nt:Nat) (all:List Oper) (g:List Bool):Nat→List Bool→Tm→Hp→List Nat→(Tm→Hp→List Nat→Prop)→Prop
 |0,L,s,h,kl,K=>match qQa L 0 all with
  |[]=>K s h kl
  |_=>Bad 340
 |n+1,L,s,h,kl,K=>match qQa L 0 all with
  |[]=>K s h kl
  |(i,o)::r=>match qJi E g s ((i,o)::r)with
   |some (i,o,v)=>match put nt o.dst v s with
    |some s'=>qMG E con nt all g n (qUy i L) s' h kl K
    |none=>Bad 341
   |none=>qXK (fun i o=>qSR E con nt all o s h kl fun s h kl=>qMG E con nt all g n (qUy i L) s h kl K) ((i,o)::r)
def qRQ (E:Env) (con:FuncId→Con):Drw:=fun nt ops s h kl K=>match qJh ops with
 |true=>qMG E con nt ops (qQb ops.toArray 0 ops) (len ops) (ops.map fun _=>false) s h kl K
 |false=>Bad 342
variable [Kd]
section
variable {P:Program}{E:Env}{con:FuncId→Con}{nt:Nat}{w0:World}{M0:Nat→Prop}{β0:Nat→Option Nat}{cp0:Nat→Nat}{h0:Hp}
theorem qDp {i:Nat}:∀{es:List Edge},qD8 i es=true↔∀e∈es,qBj e=true→e.on≠i
 |[]=>by simp[qD8]
 |e::r=>by
  simp only[qD8]
  split
  ·rename_i hb
   rw[qDp]
   exact⟨fun h x hx h2=>by(rcases List.mem_cons.1 hx with rfl|hx;rw[hb]at h2;cases h2;exact h x hx h2),fun h x hx=>h x (List.mem_cons_of_mem _ hx)⟩
  ·rename_i hb
   split
   ·rename_i q
    have q:=qC.1 q
    exact⟨fun h=>(by cases h),fun h=>absurd q (h e (List.mem_cons_self ..) hb)⟩
   ·rename_i q
    have q:e.on≠i:=fun h=>by rw[qC.2 h]at q;cases q
    rw[qDp]
    exact⟨fun h x hx h2=>by(rcases List.mem_cons.1 hx with rfl|hx;exact q;exact h x hx h2),fun h x hx=>h x (List.mem_cons_of_mem _ hx)⟩
theorem qG1 {A:Array Oper}{i:Nat}{o:Oper}:∀{l:List Oper}{k:Nat},qFb A i o k l=true→∀j x,l[j]? =some x→k+j≠i→qD8 i x.after.toList=true→qD8 (k+j) o.after.toList=true→o.apart A x=true
 |[],_,_,j,x,hj,_,_,_=>by simp at hj
 |y::r,k,h,j,x,hj,hne,h1,h2=>by
  simp only[qFb]at h
  have tail:qFb A i o (Nat.succ k) r=true→∀j',j=j'+1→o.apart A x=true:=fun ht j' e=>by
   subst e
   exact qG1 ht j' x (by simpa using hj) (by omega) h1 (by rw[show Nat.succ k+j'=k+(j'+1) by omega];exact h2)
  split at h
  ·rename_i q
   have q:=qC.1 q
   cases j with
   |zero=>omega
   |succ j=>exact tail h j rfl
  ·split at h
   ·split at h
    ·rename_i q3
     cases j with
     |zero=>simp at hj;subst hj;exact q3
     |succ j=>exact tail h j rfl
    ·cases h
   ·rename_i q
    cases j with
    |zero=>simp at hj;subst hj;exact absurd h2 (fun h2=>q h1 h2)
    |succ j=>exact tail h j rfl
theorem qJj {A:Array Oper}:∀{l:List Oper}{k i:Nat}{o:Oper},nth false (qQb A k l) i=true→l[i]? =some o→qFb A (k+i) o 0 A.toList=true
 |[],_,i,_,_,h=>by simp at h
 |x::r,k,0,o,h,ho=>by simp at ho;subst ho;exact h
 |x::r,k,i+1,o,h,ho=>by
  have:=qJj (A:=A) (l:=r) (k:=Nat.succ k) (i:=i) (o:=o) h (by simpa using ho)
  rwa [show Nat.succ k+i=k+(i+1) by omega]at this
theorem qJk:∀{l:List Oper},qJh l=true→∀o∈l,∀cs b,o.op≠ .select cs b
 |[],_,o,ho,_,_=>by cases ho
 |x::r,h,o,ho,cs,b=>by
  simp only[qJh]at h
  split at h
  ·cases h
  ·rename_i q
   rcases List.mem_cons.1 ho with rfl|ho
   ·exact fun e=>q cs b e
   ·exact qJk h o ho cs b
theorem qEM {g:List Bool}{s:Tm}:∀{l:List (Nat×Oper)}{i:Nat}{o:Oper}{v:AV},qJi E g s l=some (i,o,v)→(i,o)∈l∧nth false g i=true∧qLx E o s=some v
 |[],_,_,_,h=>by cases h
 |(j,p)::r,i,o,v,h=>by
  simp only[qJi]at h
  split at h
  ·rename_i q1
   split at h
   ·rename_i q2
    simp only[Option.some.injEq,Prod.mk.injEq]at h
    obtain⟨rfl,rfl,rfl⟩:=h
    exact⟨List.mem_cons_self ..,q1,q2⟩
   ·have:=qEM h
    exact⟨List.mem_cons_of_mem _ this.1,this.2⟩
  ·have:=qEM h
   exact⟨List.mem_cons_of_mem _ this.1,this.2⟩
theorem qKx (hE:EnvOk P E) {ops:Array Oper}{o:Oper}{s:Tm}{v:AV}(hp:qLx E o s=some v) {w:World}{M:Nat→Prop}{β:Nat→Option Nat}{cp:Nat→Nat}{a:Act}(ht:∀t,Rep w M β cp (lk s t) (a.tmps.getD t undef)):
  ∃v',Yields P ops o v' a∧Rep w M β cp v v':=by
 have hx:=fun x=>qGG (a:=a) ht x
 unfold qLx at hp
 split at hp
 ·cases hp
 rename_i hg
 have hw:Region.wanted o (yielded ops a.tmps)=true:=by simp[Region.wanted,hg]
 split at hp
 ·rename_i x ho
  cases hp
  exact⟨_,.inl ⟨hw,fun w=>by simp[execOp,ho]⟩,hx x⟩
 ·rename_i x ho
  have h1:=hx x
  split at hp
  ·rename_i b p he
   cases hp
   rw[he]at h1
   obtain⟨g,hg,hv⟩:=qA7 h1
   exact⟨_,.inl ⟨hw,fun w=>by simp[execOp,ho,hv]⟩,.ptr b p g hg⟩
  ·rename_i b sz i p he
   cases hp
   rw[he]at h1
   obtain⟨g,hg,hv⟩:=qBH h1
   exact⟨_,.inl ⟨hw,fun w=>by simp[execOp,ho,hv]⟩,.ept b sz i p g hg⟩
  ·cases hp
 ·rename_i t x k ho
  split at hp
  ·rename_i flat fs sz z hT
   have hTy:=hE.ty t
   rw[hT]at hTy
   split at hp
   ·rename_i q tt n hf hk
    have hk:=qQ.1 hk
    rw[qK]at hk
    obtain⟨⟨fields,hu,hfs,_⟩,_⟩:=hTy
    have hkl:k<fields.size:=by rw[←hfs]at hk;simpa using hk
    have hfk:fields[k]? =some fields[k]:=Array.getElem?_eq_getElem hkl
    have hfe:(fields[k].offset,fields[k].type,P.cellsOf fields[k].type)=(q,tt,n):=by
     rw[←hf,qAt,List.getD_eq_getElem?_getD,←hfs,List.getElem?_map]
     simp[hkl]
    simp only[Prod.mk.injEq]at hfe
    obtain⟨e1,e2,e3⟩:=hfe
    have run:0<n→∀ad,a.eval x= .pointer (some ad)→∀w,(execOp a.eval o).run P w= .ok (.value (.pointer (some (ad.add q)))) w:=by
     intro hn ad he w
     have:=qDU (P:=P) (w:=w) (ad:=ad) (f:=fields[k]) (by omega)
     rw[e1]at this
     simp[execOp,ho,Instr.fieldAt,run_underlying hu,hfk,Instr.sureAddr,he,this]
    have h1:=hx x
    split at hp
    ·rename_i b p hn he
     cases hp
     rw[he]at h1
     obtain⟨g,hg,hv⟩:=qA7 h1
     exact⟨_,.inl ⟨hw,run (qQ.1 hn) _ hv⟩,by rw[addr_add];exact .ptr b _ g hg⟩
    ·rename_i b z j p hn he
     cases hp
     rw[he]at h1
     obtain⟨g,hg,hv⟩:=qBH h1
     exact⟨_,.inl ⟨hw,run (qQ.1 hn) _ hv⟩,by rw[addr_add,Nat.add_assoc];exact .ept b z j _ g hg⟩
    ·cases hp
   ·cases hp
  ·cases hp
 ·cases hp
theorem qKy (hE:EnvOk P E) (hZ:Zl E) (hC:qY P con) {ops:Array Oper}(hsel:qJh ops.toList=true) {K:Tm→Hp→List Nat→Prop}{Q:Exit→Act→World→Prop}(hP:∀c a w,¬Q (.panic c) a w)
  (hQ:∀s h kl a w,K s h kl→St w0 M0 β0 cp0 h0 nt s h kl a w→Q .normal a w):∀(n:Nat) (listed:Array Bool) (s:Tm) (h:Hp) (kl:List Nat) (a:Act) (w:World),
  qMG E con nt ops.toList (qQb ops 0 ops.toList) n listed.toList s h kl K→St w0 M0 β0 cp0 h0 nt s h kl a w→wpAny P .any ops Q n listed a w:=by
 intro n
 induction n with
 |zero=>
  intro listed s h kl a w hv hst
  unfold qMG at hv
  split at hv
  ·rename_i hr
   refine⟨List.eq_nil_iff_forall_not_mem.2 fun i hi=> ?_,hQ s h kl a w hv hst⟩
   obtain⟨o,ho⟩:=qC0.1 hi
   rw[hr]at ho;cases ho
  ·cases hv
 |succ n ih=>
  intro listed s h kl a w hv hst
  unfold qMG at hv
  split at hv
  ·rename_i hr
   refine⟨fun _=>hQ s h kl a w hv hst,fun i hi=> ?_⟩
   obtain⟨o,ho⟩:=qC0.1 hi
   rw[hr]at ho;cases ho
  ·rename_i i0 o0 r0 hr
   split at hv
   ·rename_i i o v hf
    obtain⟨f1,f2,f3⟩:=qEM hf
    rw[←hr]at f1
    have hri:i∈Region.ready .any ops listed:=qC0.2 ⟨o,f1⟩
    obtain⟨j,hj,hoj,_⟩:=qD7.1 f1
    have hj:j=i:=by omega
    subst hj
    have hg:=qJj f2 hoj
    rw[Nat.zero_add]at hg
    have hoi:ops[j]? =some o:=by rw[←Array.getElem?_toList];exact hoj
    split at hv
    ·rename_i s' qBe
     obtain⟨⟨M,β,cp,hh,ht,hak⟩,hnt,hdf⟩:=hst
     obtain⟨v',hy,hrep⟩:=qKx (P:=P) hE (ops:=ops) f3 ht
     obtain⟨p1,p2,p3⟩:=qCj qBe hnt ht hrep
     refine wpAny_first hoi (fun k x cs b hk=>qJk hsel x (by rw[Array.mem_toList_iff];exact Array.mem_of_getElem? hk) cs b) (fun c a w h=>absurd h (hP c _ w)) n listed a w ?_ hri hy ?_
     ·intro k ok hk hne hun hed
      refine qG1 hg k ok (by rw[Array.getElem?_toList];exact hk) (by omega) (qDp.2 fun e he hb=>hed e (by simpa using he) (by rw[qCu];exact hb)) (qDp.2 fun e he hb hon=> ?_)
      obtain⟨_,o',ho',hall⟩:=mem_ready.1 hri
      rw[hoi]at ho'
      cases ho'
      have h1:=hall e (by simpa using he) (by rw[qCu];exact hb)
      rw[hon,Nat.zero_add]at h1
      rw[Array.getD_eq_getD_getElem?]at h1 hun
      cases hq:listed[k]? with
      |none=>rw[hq]at h1;cases h1
      |some b=>rw[hq]at h1 hun;simp at h1 hun;rw[h1]at hun;cases hun
     ·refine ih (listed.setIfInBounds j true) s' h kl _ w ?_ ⟨⟨M,β,cp,hh,p1,hak⟩,p2,p3.trans hdf⟩
      rw[qKw]at hv
      rwa [Array.toList_setIfInBounds]
    ·cases hv
   ·refine⟨fun hnil=> ?_,fun i hi=> ?_⟩
    ·have:i0∈Region.ready .any ops listed:=qC0.2 ⟨o0,by rw[hr];exact List.mem_cons_self ..⟩
     rw[hnil]at this;cases this
    ·obtain⟨o,ho⟩:=qC0.1 hi
     obtain⟨j,hj,h2,_⟩:=qD7.1 ho
     have hj:j=i:=by omega
     subst hj
     rw[hr]at ho
     have h3:=qLw hv ho
     refine qKv hE hZ hC (fun s h kl a w hK hs=> ?_) (by rw[←Array.getElem?_toList];exact h2) h3 hst
     refine ih (listed.setIfInBounds j true) s h kl a w ?_ hs
     rw[qKw]at hK
     rwa [Array.toList_setIfInBounds]
theorem qNY (hE:EnvOk P E) (hZ:Zl E) (hC:qY P con) (hm:P.follows .mixedOrders=true):qED P (qRQ E con):=by
 intro w0 M0 β0 cp0 h0 nt id ops s h kl a w K Q hv hst hQ
 unfold qRQ at hv
 split at hv
 case h_2=>cases hv
 rename_i hsel
 refine Code.wp_mono (Q:=fun e a w=>match e with| .normal=>Q .normal a w|_=>False) (fun e a w h=>by cases e<;>first|exact h|exact h.elim) ?_
 refine wp_region_any hm ?_
 refine qKy (Q:=fun e a w=>match e with| .normal=>Q .normal a w|_=>False) hE hZ hC hsel (fun c a w h=>h) hQ ops.size (Array.replicate ops.size false) s h kl a _ ?_ ?_ (w0:=w0) (M0:=M0) (β0:=β0) (cp0:=cp0) (h0:=h0) (nt:=nt)
 ·rw[qK,Array.length_toList,Array.toArray_toList]at hv
  rwa [show(Array.replicate ops.size false).toList=ops.toList.map fun _=>false by rw[Array.toList_replicate,List.map_const',Array.length_toList]]
 ·obtain⟨⟨M,β,cp,hh,ht,hak⟩,hnt,hdf⟩:=hst
  have hh2:=qJg (w:=w) (w':={w with drawn:=w.drawn+1}) rfl hh
  have hk:∀k,k<w.heap.size→¬M k→({w with drawn:=w.drawn+1}:World).heap[k]? =w.heap[k]? ∧¬M k:=fun k _ hM=>⟨rfl,hM⟩
  exact⟨⟨M,β,cp,hh2,fun t=>(ht t).keep hk fun _ _=>⟨rfl,rfl⟩,⟨hak.keep,hak.bk,⟨hak.ext.os,hak.ext.tape,hak.ext.output,hak.ext.size,hak.ext.block,hak.ext.sub,hak.ext.new⟩,fun k hk=>hak.own k (qAL.same (w:={w with drawn:=w.drawn+1}) (w':=w) rfl hk)⟩⟩,hnt,hdf⟩
end
end Go.Abs
