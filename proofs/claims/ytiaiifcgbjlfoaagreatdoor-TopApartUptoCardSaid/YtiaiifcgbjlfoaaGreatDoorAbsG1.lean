/- An abstract interpreter over the model's Code: abstract values, abstract heaps, and what it means that they stand for values and worlds. No program in sight. -/
import Derived.Calls
import Derived.Orders
import Derived.Below
import Derived.Laws.AppendOwn
import Derived.Laws.NewBlocks
import Derived.Laws.CopyRow
import Derived.Laws.Entries
import Derived.Deep.Draws
import Derived.Laws.StructEq
import Derived.Laws.Strings
import Derived.MapKept
import Derived.Laws.Externs
import Derived.Laws.BytesString
import Derived.Lib.ConvBytes
set_option linter.all false
namespace Go.Abs
open Go
abbrev Th (α:Type):=Unit→α
inductive AV where
 |any
 |bc (b:Bool)
 |b (x:Th Bool)
 |i (k:IntKind) (n:Th Int)
 |s (x:Th ByteArray)
 |nil
 |con (x:Th Value)
 |agg (l:List AV)
 |tup (l:List AV)
 |ptr (b o:Nat)
 |ept (b sz:Nat) (i:Th Nat) (o:Nat)
 |own (b:Nat) (n:Th Nat)
 |vw (b sz:Nat) (o n:Th Nat)
 |nn (b:Nat) (n:Th Nat)
 |sl (sz:Nat) (n:Th Nat) (f:Th Nat→List AV)
 |rp (l:List AV)
 |fn (f:FuncId) (l:List AV)
 |ifc (t:TypeId) (x:AV)
 |mr (b:Nat)
 |fm (ks:List Int) (vs:List AV)
 |ite (c:Th Bool) (x y:AV)
 deriving Inhabited
inductive NC where
 |c (x:AV)
 |sl (e:TypeId) (sz:Nat) (n:Th Nat) (f:Th Nat→List AV)
 |pt (l:List NC)
 |ite (c:Th Bool) (x y:NC)
 deriving Inhabited
inductive AObj where
 |dead
 |blk (cs:List AV)
 |vec (e:TypeId) (sz:Nat) (n:Th Nat) (f:Th Nat→List AV)
 |fz (q:Option TypeId) (n:Th Nat) (f:Th Nat→List AV)
 |mp (ks:Nat) (l:Th (List (List Int×Int)))
 |nst (e:TypeId) (sz:Nat) (n:Th Nat) (f:Th Nat→List NC) (op:Option (Th Nat×List AV))
 deriving Inhabited
abbrev Tm:=List (Nat×AV)
abbrev Hp:=List AObj
class Kd where
 z:TypeId→List Value
 on:TypeId→Bool
 bd:FuncId→Bool
 tl:List Nat
 tb:World→Prop
 tk:∀w w':World,(∀g∈tl,w'.heap[g]? =w.heap[g]?)→tb w→tb w'
variable [Kd]
def fnV (f:FuncId) (cs:Array Value):Value:=match Kd.bd f with
 |true=> .func (.func f) cs #[]
 |false=> .func (.func f) #[] cs
theorem qJW (f:FuncId):fnV f #[]= .func (.func f) #[] #[]:=by unfold fnV;split<;>rfl
theorem qSA (f:FuncId) (cs:Array Value):(fnV f cs).oneCell'=true:=by unfold fnV;split<;>rfl
inductive RepC (w:World) (M:Nat→Prop):AV→Value→Prop where
 |any (v:Value):RepC w M .any v
 |bc (b:Bool):RepC w M (.bc b) (.bool b)
 |b (x:Th Bool):RepC w M (.b x) (.bool (x ()))
 |i (k:IntKind) (n:Th Int):RepC w M (.i k n) (.int k (n ()))
 |s (x:Th ByteArray):RepC w M (.s x) (.string (x ()))
 |nil:RepC w M .nil (.slice none 0 0)
 |ite (c:Th Bool) (x y:AV) (v:Value) (h1:c ()=true→RepC w M x v) (h2:c ()=false→RepC w M y v):RepC w M (.ite c x y) v
 |con (x:Th Value) (hx:(x ()).oneCell'=true):RepC w M (.con x) (x ())
 |agg (l:List AV) (cs:Array Value) (hl:cs.size=l.length) (ho:∀v∈cs,v.oneCell'=true) (h:∀(j:Nat) (x:AV),l[j]? =some x→RepC w M x (cs.getD j undef)):RepC w M (.agg l) (.agg cs)
 |tup (l:List AV) (cs:Array Value) (hl:cs.size=l.length) (h:∀(j:Nat) (x:AV),l[j]? =some x→RepC w M x (cs.getD j undef)):RepC w M (.tup l) (.tuple cs)
 |fn (f:FuncId) (l:List AV) (cs:Array Value) (hl:cs.size=l.length) (h:∀(j:Nat) (x:AV),l[j]? =some x→RepC w M x (cs.getD j undef)):RepC w M (.fn f l) (fnV f cs)
 |ifc (t:TypeId) (x:AV) (v:Value) (h:RepC w M x v):RepC w M (.ifc t x) (.iface t v)
 |sl0 (sz:Nat) (n:Th Nat) (f:Th Nat→List AV) (a:Option Addr) (c:Nat) (hn:n ()=0) (hc:c≤maxLen):RepC w M (.sl sz n f) (.slice a 0 c)
 |sl (sz:Nat) (n:Th Nat) (f:Th Nat→List AV) (a:Addr) (c:Nat) (u:Nat→Nat→Value) (hM:¬M a.block) (hsz:0<sz) (hn:n ()≤c) (hc:c≤maxLen)
  (hlen:∀i:Nat,i<n ()→(f fun _=>i).length=sz) (hcell:∀i j,i<n ()→j<sz→w.cell? (a.add (i*sz+j))=some (u i j)) (ho:∀i j,i<n ()→j<sz→(u i j).oneCell'=true)
  (h:∀(i j:Nat) (x:AV),i<n ()→(f fun _=>i)[j]? =some x→RepC w M x (u i j)):RepC w M (.sl sz n f) (.slice (some a) (n ()) c)
 |rp (l:List AV) (a:Addr) (u:Nat→Value) (hM:¬M a.block) (hl:0<l.length) (hcell:∀j,j<l.length→w.cell? (a.add j)=some (u j)) (ho:∀j,j<l.length→(u j).oneCell'=true)
  (h:∀(j:Nat) (x:AV),l[j]? =some x→RepC w M x (u j)):RepC w M (.rp l) (.pointer (some a))
inductive Rep (w:World) (M:Nat→Prop) (β:Nat→Option Nat) (cp:Nat→Nat):AV→Value→Prop where
 |c {x:AV}{v:Value}(h:RepC w M x v):Rep w M β cp x v
 |ite (c:Th Bool) (x y:AV) (v:Value) (h1:c ()=true→Rep w M β cp x v) (h2:c ()=false→Rep w M β cp y v):Rep w M β cp (.ite c x y) v
 |agg (l:List AV) (cs:Array Value) (hl:cs.size=l.length) (ho:∀v∈cs,v.oneCell'=true) (h:∀(j:Nat) (x:AV),l[j]? =some x→Rep w M β cp x (cs.getD j undef)):Rep w M β cp (.agg l) (.agg cs)
 |tup (l:List AV) (cs:Array Value) (hl:cs.size=l.length) (h:∀(j:Nat) (x:AV),l[j]? =some x→Rep w M β cp x (cs.getD j undef)):Rep w M β cp (.tup l) (.tuple cs)
 |ptr (b o g:Nat) (h:β b=some g):Rep w M β cp (.ptr b o) (.pointer (some ⟨g,o,none⟩))
 |mr (b g:Nat) (h:β b=some g):Rep w M β cp (.mr b) (.map (some g))
 |fm (ks:List Int) (vs:List AV) (g:Nat) (es:Array MapEntry) (clk:Nat) (u:Nat→Value) (hM:¬M g) (hc:w.heap[g]? =some (.map es clk)) (hn:es.size=ks.length) (hl:vs.length=ks.length)
  (he:∀(j:Nat) (k:Int),ks[j]? =some k→∃e,es[j]? =some e∧e.key= .int .i64 k∧e.val=u j) (h:∀(j:Nat) (x:AV),vs[j]? =some x→Rep w M β cp x (u j)):Rep w M β cp (.fm ks vs) (.map (some g))
 |ept (b sz:Nat) (i:Th Nat) (o g:Nat) (h:β b=some g):Rep w M β cp (.ept b sz i o) (.pointer (some ⟨g,i ()*sz+o,none⟩))
 |fn (f:FuncId) (l:List AV) (cs:Array Value) (hl:cs.size=l.length) (h:∀(j:Nat) (x:AV),l[j]? =some x→Rep w M β cp x (cs.getD j undef)):Rep w M β cp (.fn f l) (fnV f cs)
 |ifc (t:TypeId) (x:AV) (v:Value) (h:Rep w M β cp x v):Rep w M β cp (.ifc t x) (.iface t v)
 |own0 (b:Nat) (n:Th Nat) (hn:n ()=0):Rep w M β cp (.own b n) (.slice none 0 0)
 |vw0 (b sz:Nat) (o n:Th Nat) (a:Option Addr) (c:Nat) (hn:n ()=0) (hc:c≤maxLen):Rep w M β cp (.vw b sz o n) (.slice a 0 c)
 |nn (b:Nat) (n:Th Nat) (g:Nat) (h:β b=some g) (hn:n ()≤cp b):Rep w M β cp (.nn b n) (.slice (some ⟨g,0,none⟩) (n ()) (cp b))
 |vw (b sz:Nat) (o n:Th Nat) (g:Nat) (h:β b=some g) (hn:o ()+n ()≤cp b):Rep w M β cp (.vw b sz o n) (.slice (some ⟨g,o ()*sz,none⟩) (n ()) (cp b-o ()))
 |own (b:Nat) (n:Th Nat) (g:Nat) (h:β b=some g) (hn:n ()≤cp b):Rep w M β cp (.own b n) (.slice (some ⟨g,0,none⟩) (n ()) (cp b))
def qAs (w:World) (M:Nat→Prop) (β:Nat→Option Nat) (cp:Nat→Nat) (l:List AV) (vs:List Value):Prop:=
 vs.length=l.length∧∀(j:Nat) (x:AV),l[j]? =some x→Rep w M β cp x (vs.getD j undef)
def KdV (e:TypeId) (j:Nat) (v:Value):Prop:=Kd.on e=true→v=(Kd.z e).getD j undef
structure OneSp (cur:Array Value) (e:TypeId) (sz n c:Nat):Prop where
 one:∀k,k<n*sz→(cur.getD k undef).oneCell'=true
 sp:∀i j,n≤i→i<c→j<sz→KdV e j (cur.getD (i*sz+j) undef)
structure BlkOk (cur:Array Value) (c:Nat):Prop where
 one:∀v∈cur,v.oneCell'=true
 cm:c≤maxLen
def qFf (k:List Int):Value:= .agg (k.map (Value.int .i64)).toArray
def qXv (ks:Nat) (es:Array MapEntry) (l:List (List Int×Int)):Prop:=es.size=l.length∧∀(i:Nat) (k:List Int) (v:Int),l[i]? =some (k,v)→k.length=ks∧∃e,es[i]? =some e∧e.key=qFf k∧e.val= .int .i64 v
inductive VFoot (w:World):NC→Value→Nat→Prop where
 |sl (e:TypeId) (sz:Nat) (n:Th Nat) (f:Th Nat→List AV) (a:Addr) (m c:Nat):VFoot w (.sl e sz n f) (.slice (some a) m c) a.block
 |pt (l:List NC) (a:Addr):VFoot w (.pt l) (.pointer (some a)) a.block
 |inn (l:List NC) (a:Addr) (cur:Array Value) (t:TypeId) (fr:Nat×Nat) (j:Nat) (x:NC) (k:Nat) (h1:w.heap[a.block]? =some (.cells cur t fr)) (h2:l[j]? =some x) (h3:VFoot w x (cur.getD j undef) k):VFoot w (.pt l) (.pointer (some a)) k
 |ite1 (c:Th Bool) (x y:NC) (v:Value) (k:Nat) (hc:c ()=true) (h:VFoot w x v k):VFoot w (.ite c x y) v k
 |ite2 (c:Th Bool) (x y:NC) (v:Value) (k:Nat) (hc:c ()=false) (h:VFoot w y v k):VFoot w (.ite c x y) v k
inductive OwnV (w:World) (M:Nat→Prop):NC→Value→Prop where
 |c (x:AV) (v:Value) (h:RepC w M x v):OwnV w M (.c x) v
 |nil (e:TypeId) (sz:Nat) (n:Th Nat) (f:Th Nat→List AV) (hn:n ()=0):OwnV w M (.sl e sz n f) (.slice none 0 0)
 |sl (e:TypeId) (sz:Nat) (n:Th Nat) (f:Th Nat→List AV) (g c:Nat) (cur:Array Value) (hM:M g) (hc:w.heap[g]? =some (.cells cur e (0,0))) (hs:cur.size=c*sz) (ho:OneSp cur e sz (n ()) c) (hn:n ()≤c) (hm:c≤maxLen)
  (hl:∀i:Nat,i<n ()→(f fun _=>i).length=sz) (h:∀(i j:Nat) (x:AV),i<n ()→(f fun _=>i)[j]? =some x→RepC w M x (cur.getD (i*sz+j) undef)):OwnV w M (.sl e sz n f) (.slice (some ⟨g,0,none⟩) (n ()) c)
 |pt (l:List NC) (g:Nat) (cur:Array Value) (t:TypeId) (hM:M g) (hc:w.heap[g]? =some (.cells cur t (0,0))) (h1:∀v∈cur,v.oneCell'=true) (hl:cur.size=l.length) (h:∀(j:Nat) (x:NC),l[j]? =some x→OwnV w M x (cur.getD j undef))
  (hd:∀(j j':Nat) (x x':NC) (k:Nat),l[j]? =some x→l[j']? =some x'→VFoot w x (cur.getD j undef) k→VFoot w x' (cur.getD j' undef) k→j=j')
  (hne:∀(j:Nat) (x:NC) (k:Nat),l[j]? =some x→VFoot w x (cur.getD j undef) k→k≠g):OwnV w M (.pt l) (.pointer (some ⟨g,0,none⟩))
 |ite (c:Th Bool) (x y:NC) (v:Value) (h1:c ()=true→OwnV w M x v) (h2:c ()=false→OwnV w M y v):OwnV w M (.ite c x y) v
def opAt (op:Option (Th Nat×List AV)) (i:Nat):Prop:=match op with|none=>False|some (k,_)=>k ()=i
def opMap (f:List AV→List AV):Option (Th Nat×List AV)→Option (Th Nat×List AV)
 |none=>none
 |some (k,cs)=>some (k,f cs)
theorem qAA (f:List AV→List AV) (op:Option (Th Nat×List AV)) (i:Nat):opAt (opMap f op) i↔opAt op i:=by cases op<;>exact Iff.rfl
structure NstRel (w:World) (M:Nat→Prop) (β:Nat→Option Nat) (cp:Nat→Nat) (c:Nat) (e:TypeId) (sz n:Nat) (F:Th Nat→List NC) (op:Option (Th Nat×List AV)) (g:Nat) (cur:Array Value):Prop where
 hM:M g
 cell:w.heap[g]? =some (.cells cur e (0,0))
 size:cur.size=c*sz
 ones:OneSp cur e sz n c
 le:n≤c
 max:c≤maxLen
 len:∀i:Nat,i<n→¬opAt op i→(F fun _=>i).length=sz
 own:∀(i j:Nat) (x:NC),i<n→¬opAt op i→(F fun _=>i)[j]? =some x→OwnV w M x (cur.getD (i*sz+j) undef)
 dis:∀(i j i' j':Nat) (x x':NC) (k:Nat),i<n→i'<n→¬opAt op i→¬opAt op i'→(F fun _=>i)[j]? =some x→(F fun _=>i')[j']? =some x'→VFoot w x (cur.getD (i*sz+j) undef) k→VFoot w x' (cur.getD (i'*sz+j') undef) k→i=i'∧j=j'
 ne:∀(i j:Nat) (x:NC) (k:Nat),i<n→¬opAt op i→(F fun _=>i)[j]? =some x→VFoot w x (cur.getD (i*sz+j) undef) k→k≠g
 opn:∀k cs,op=some (k,cs)→k ()<n∧cs.length=sz∧∀(j:Nat) (x:AV),cs[j]? =some x→Rep w M β cp x (cur.getD (k ()*sz+j) undef)
theorem NstRel.opMap {w:World}{M:Nat→Prop}{β β':Nat→Option Nat}{cp cp':Nat→Nat}{c:Nat}{e:TypeId}{sz n:Nat}{F:Th Nat→List NC}{op:Option (Th Nat×List AV)}{g:Nat}{cur:Array Value}(r:NstRel w M β cp c e sz n F op g cur) (f:List AV→List AV)
  (hf:∀l vs,qAs w M β cp l vs→qAs w M β' cp' (f l) vs):NstRel w M β' cp' c e sz n F (Abs.opMap f op) g cur where
 hM:=r.hM
 cell:=r.cell
 size:=r.size
 ones:=r.ones
 le:=r.le
 max:=r.max
 len i hi ho:=r.len i hi fun h=>ho ((qAA f op i).2 h)
 own i j x hi ho hx:=r.own i j x hi (fun h=>ho ((qAA f op i).2 h)) hx
 dis i j i' j' x x' k hi hi' ho ho' hx hx' hk hk':=r.dis i j i' j' x x' k hi hi' (fun h=>ho ((qAA f op i).2 h)) (fun h=>ho' ((qAA f op i').2 h)) hx hx' hk hk'
 ne i j x k hi ho hx hk:=r.ne i j x k hi (fun h=>ho ((qAA f op i).2 h)) hx hk
 opn k cs ho:=by
  match op,ho with
  |some (k0,cs0),ho=>
   cases ho
   obtain⟨p1,p2,p3⟩:=r.opn k cs0 rfl
   have hL:qAs w M β cp cs0 ((List.range sz).map fun j=>cur.getD (k ()*sz+j) undef):=⟨by simp[p2],fun j x hj=>by
    have hjs:j<sz:=by rw[←p2];exact(List.getElem?_eq_some_iff.1 hj).1
    have:=p3 j x hj
    simpa[List.getD_eq_getElem?_getD,hjs]using this⟩
   have h2:=hf _ _ hL
   have h3:(f cs0).length=sz:=by have:=h2.1;simp at this;omega
   refine⟨p1,h3,fun j x hj=> ?_⟩
   have hjs:j<sz:=by rw[←h3];exact(List.getElem?_eq_some_iff.1 hj).1
   have h4:=h2.2 j x hj
   simpa[List.getD_eq_getElem?_getD,hjs]using h4
def qYA (q:Option TypeId) (cur:Array Value) (t:TypeId) (fr:Nat×Nat) (n:Nat):Prop:=match q with
 |none=>cur.size≤fr.1∧n≤cur.size
 |some T=>t=T∧fr=(0,0)∧cur.size=n
def eqO:Option TypeId→Option TypeId→Bool
 |none,none=>true
 |some a,some b=>Nat.beq a b
 |_,_=>false
theorem qSB {a b:Option TypeId}(h:eqO a b=true):a=b:=by
 match a,b with
 |none,none=>rfl
 |some a,some b=>exact congrArg some (Nat.eq_of_beq_eq_true h)
 |none,some _=>cases h
 |some _,none=>cases h
def qAo (w:World) (M:Nat→Prop) (β:Nat→Option Nat) (cp:Nat→Nat) (b:Nat):AObj→Prop
 | .dead=>True
 | .blk cs=>∃g cur t,β b=some g∧M g∧w.heap[g]? =some (.cells cur t (0,0))∧qAs w M β cp cs cur.toList∧BlkOk cur (cp b)
 | .vec e sz n f=>(β b=none∧n ()=0)∨∃g cur,β b=some g∧M g∧w.heap[g]? =some (.cells cur e (0,0))∧cur.size=cp b*sz∧OneSp cur e sz (n ()) (cp b)∧n ()≤cp b∧cp b≤maxLen∧
  (∀i:Nat,i<n ()→(f fun _=>i).length=sz)∧∀(i j:Nat) (x:AV),i<n ()→(f fun _=>i)[j]? =some x→RepC w M x (cur.getD (i*sz+j) undef)
 | .fz q n f=>∃g cur t fr,β b=some g∧M g∧w.heap[g]? =some (.cells cur t fr)∧qYA q cur t fr (n ())∧BlkOk cur (cp b)∧
  (∀i:Nat,i<n ()→(f fun _=>i).length=1)∧∀(i j:Nat) (x:AV),i<n ()→(f fun _=>i)[j]? =some x→RepC w M x (cur.getD (i+j) undef)
 | .mp ks l=>∃g es clk,β b=some g∧M g∧w.heap[g]? =some (.map es clk)∧qXv ks es (l ())
 | .nst e sz n F op=>(β b=none∧n ()=0∧op=none)∨∃g cur,β b=some g∧NstRel w M β cp (cp b) e sz (n ()) F op g cur
def AObj.live:AObj→Bool| .dead=>false|_=>true
inductive Foot (w:World) (g:Nat):AObj→Nat→Prop where
 |self (o:AObj):Foot w g o g
 |inn (e:TypeId) (sz:Nat) (n:Th Nat) (F:Th Nat→List NC) (op:Option (Th Nat×List AV)) (cur:Array Value) (i j:Nat) (x:NC) (k:Nat) (h1:w.heap[g]? =some (.cells cur e (0,0))) (hi:i<n ()) (ho:¬opAt op i) (hx:(F fun _=>i)[j]? =some x)
  (hk:VFoot w x (cur.getD (i*sz+j) undef) k):Foot w g (.nst e sz n F op) k
structure Dom (w:World) (M:Nat→Prop):Prop where
 lt:∀k,M k→k<w.heap.size
 fr:∀g∈Kd.tl,g<w.heap.size∧¬M g
 tb:Kd.tb w
theorem Dom.go {w w':World}{M M':Nat→Prop}(h:Dom w M) (hk:∀k,k<w.heap.size→¬M k→w'.heap[k]? =w.heap[k]? ∧¬M' k) (hl:∀k,M' k→k<w'.heap.size):Dom w' M' where
 lt:=hl
 fr g hg:=by
  obtain⟨h1,h2⟩:=h.fr g hg
  obtain⟨h3,h4⟩:=hk g h1 h2
  refine⟨?_,h4⟩
  rcases Nat.lt_or_ge g w'.heap.size with q|q
  ·exact q
  ·rw[Array.getElem?_eq_none q,Array.getElem?_eq_getElem h1]at h3;cases h3
 tb:=Kd.tk w w' (fun g hg=>(hk g (h.fr g hg).1 (h.fr g hg).2).1) h.tb
theorem Dom.less {w:World}{M M':Nat→Prop}(h:Dom w M) (hl:∀k,M' k→M k):Dom w M':=⟨fun k hk=>h.lt k (hl k hk),fun g hg=>⟨(h.fr g hg).1,fun q=>(h.fr g hg).2 (hl g q)⟩,h.tb⟩
structure HeapRel (w:World) (M:Nat→Prop) (β:Nat→Option Nat) (cp:Nat→Nat) (h:Hp):Prop where
 out:∀b,h.length≤b→β b=none
 obj:∀(b:Nat) (o:AObj),h[b]? =some o→qAo w M β cp b o
 inj2:∀(b b':Nat) (o o':AObj) (g g' k:Nat),h[b]? =some o→h[b']? =some o'→o.live=true→o'.live=true→β b=some g→β b'=some g'→Foot w g o k→Foot w g' o' k→b=b'
 dom:Dom w M
theorem HeapRel.inj {w:World}{M:Nat→Prop}{β:Nat→Option Nat}{cp:Nat→Nat}{h:Hp}(hh:HeapRel w M β cp h) (b b':Nat) (o o':AObj) (g:Nat) (h1:h[b]? =some o) (h2:h[b']? =some o') (h3:o.live=true) (h4:o'.live=true) (h5:β b=some g) (h6:β b'=some g):b=b':=
 hh.inj2 b b' o o' g g g h1 h2 h3 h4 h5 h6 (.self _) (.self _)
structure Ext (w0:World) (M0 B:Nat→Prop) (w:World) (M:Nat→Prop):Prop where
 os:w.os=w0.os
 tape:w.tape=w0.tape
 output:w.output=w0.output
 size:w0.heap.size≤w.heap.size
 block:∀k,k<w0.heap.size→¬B k→w.heap[k]? =w0.heap[k]?
 sub:∀k,k<w0.heap.size→¬B k→M0 k→M k
 new:∀k,M k→M0 k∨w0.heap.size≤k
theorem Ext.refl (w:World) (M B:Nat→Prop):Ext w M B w M:=⟨rfl,rfl,rfl,Nat.le_refl _,fun _ _ _=>rfl,fun _ _ _ h=>h,fun _ h=> .inl h⟩
theorem Ext.trans {w0 w1 w2:World}{M0 M1 M2 B B1:Nat→Prop}(h:Ext w0 M0 B w1 M1) (k:Ext w1 M1 B1 w2 M2) (hB:∀g,B1 g→B g∨w0.heap.size≤g):Ext w0 M0 B w2 M2 where
 os:=k.os.trans h.os
 tape:=k.tape.trans h.tape
 output:=k.output.trans h.output
 size:=Nat.le_trans h.size k.size
 block g hg hb:=(k.block g (Nat.lt_of_lt_of_le hg h.size) fun h1=>(hB g h1).elim hb (by omega)).trans (h.block g hg hb)
 sub g hg hb hM:=k.sub g (Nat.lt_of_lt_of_le hg h.size) (fun h1=>(hB g h1).elim hb (by omega)) (h.sub g hg hb hM)
 new g hg:=(k.new g hg).elim (fun h1=>h.new g h1) fun h1=> .inr (Nat.le_trans h.size h1)
theorem add_block (a:Addr) (n:Nat):(a.add n).block=a.block:=by unfold Addr.add;split<;>rfl
theorem block_lt {w:World}{a:Addr}{v:Value}(h:w.cell? a=some v):a.block<w.heap.size:=by
 unfold World.cell? at h
 rcases Nat.lt_or_ge a.block w.heap.size with h1|h1
 ·exact h1
 ·rw[Array.getElem?_eq_none h1]at h;cases h
theorem RepC.keep {w w':World}{M M':Nat→Prop}{x:AV}{v:Value}
  (hr:RepC w M x v) (hw:∀k,k<w.heap.size→¬M k→w'.heap[k]? =w.heap[k]? ∧¬M' k):RepC w' M' x v:=by
 have cell:∀(a:Addr) (v:Value),¬M a.block→w.cell? a=some v→w'.cell? a=some v∧¬M' a.block:=fun a v hM h=>
  have h1:=hw a.block (block_lt h) hM
  ⟨(World.cell?_of_block h1.1).trans h,h1.2⟩
 induction hr with
 |any v=>exact .any v
 |bc b=>exact .bc b
 |b x=>exact .b x
 |i k n=>exact .i k n
 |s x=>exact .s x
 |nil=>exact .nil
 |ite c x y v h1 h2 ih1 ih2=>exact .ite c x y v ih1 ih2
 |con x hx=>exact .con x hx
 |agg l cs hl ho h ih=>exact .agg l cs hl ho ih
 |tup l cs hl h ih=>exact .tup l cs hl ih
 |fn f l cs hl h ih=>exact .fn f l cs hl ih
 |ifc t x v h ih=>exact .ifc t x v ih
 |sl0 sz n f a c hn hc=>exact .sl0 sz n f a c hn hc
 |sl sz n f a c u hM hsz hn hc hlen hcell ho h ih=>
  by_cases h0:n ()=0
  ·rw[h0];exact .sl0 sz n f _ c h0 hc
  ·have h1:=cell _ _ (by rw[add_block];exact hM) (hcell 0 0 (by omega) (by omega))
   refine .sl sz n f a c u (by have:=h1.2;rwa [add_block]at this) hsz hn hc hlen (fun i j hi hj=> ?_) ho ih
   exact(cell _ _ (by rw[add_block];exact hM) (hcell i j hi hj)).1
 |rp l a u hM hl hcell ho h ih=>
  have h1:=cell _ _ (by rw[add_block];exact hM) (hcell 0 hl)
  exact .rp l a u (by have:=h1.2;rwa [add_block]at this) hl (fun j hj=>(cell _ _ (by rw[add_block];exact hM) (hcell j hj)).1) ho ih
theorem Rep.keep {w w':World}{M M':Nat→Prop}{β β':Nat→Option Nat}{cp cp':Nat→Nat}{x:AV}{v:Value}
  (hr:Rep w M β cp x v) (hw:∀k,k<w.heap.size→¬M k→w'.heap[k]? =w.heap[k]? ∧¬M' k) (hβ:∀b,β b≠none→β' b=β b∧cp' b=cp b):Rep w' M' β' cp' x v:=by
 induction hr with
 |c h=>exact .c (h.keep hw)
 |ite c x y v h1 h2 ih1 ih2=>exact .ite c x y v ih1 ih2
 |agg l cs hl ho h ih=>exact .agg l cs hl ho ih
 |tup l cs hl h ih=>exact .tup l cs hl ih
 |ptr b o g h=>exact .ptr b o g (by rw[(hβ b (by simp[h])).1];exact h)
 |mr b g h=>exact .mr b g (by rw[(hβ b (by simp[h])).1];exact h)
 |fm ks vs g es clk u hM hc hn hl he h ih=>
  have h1:=hw g (Array.getElem?_eq_some_iff.1 hc).1 hM
  exact .fm ks vs g es clk u h1.2 (h1.1.trans hc) hn hl he ih
 |ept b sz i o g h=>exact .ept b sz i o g (by rw[(hβ b (by simp[h])).1];exact h)
 |fn f l cs hl h ih=>exact .fn f l cs hl ih
 |ifc t x v h ih=>exact .ifc t x v ih
 |own0 b n hn=>exact .own0 b n hn
 |vw0 b sz o n a c hn hc=>exact .vw0 b sz o n a c hn hc
 |nn b n g h hn=>
  have h1:=hβ b (by simp[h])
  rw[←h1.2];exact .nn b n g (by rw[h1.1];exact h) (by rw[h1.2];exact hn)
 |vw b sz o n g h hn=>
  have h1:=hβ b (by simp[h])
  rw[←h1.2];exact .vw b sz o n g (by rw[h1.1];exact h) (by rw[h1.2];exact hn)
 |own b n g h hn=>
  have h1:=hβ b (by simp[h])
  rw[←h1.2];exact .own b n g (by rw[h1.1];exact h) (by rw[h1.2];exact hn)
theorem VFoot.own {w:World}{M:Nat→Prop}{x:NC}{v:Value}{k:Nat}(h:VFoot w x v k) (ho:OwnV w M x v):M k∧k<w.heap.size:=by
 induction h with
 |sl e sz n f a m c=>cases ho with|sl _ _ _ _ g c cur hM hc=>exact⟨hM,(Array.getElem?_eq_some_iff.1 hc).1⟩
 |pt l a=>cases ho with|pt _ g cur t hM hc=>exact⟨hM,(Array.getElem?_eq_some_iff.1 hc).1⟩
 |inn l a cur t fr j x k h1 h2 h3 ih=>
  cases ho with
  |pt _ g cur' t' hM hc h1' hl hh=>
   have e:cur=cur':=by
    have:=h1.symm.trans hc
    simp only[Option.some.injEq,Obj.cells.injEq]at this
    exact this.1
   subst e
   exact ih (hh j x h2)
 |ite1 c x y v k hc h ih=>cases ho with|ite _ _ _ _ o1 o2=>exact ih (o1 hc)
 |ite2 c x y v k hc h ih=>cases ho with|ite _ _ _ _ o1 o2=>exact ih (o2 hc)
theorem OwnV.keep {w w':World}{M M':Nat→Prop}{x:NC}{v:Value}(ho:OwnV w M x v) (hw:∀k,k<w.heap.size→¬M k→w'.heap[k]? =w.heap[k]? ∧¬M' k) (hf:∀k,VFoot w x v k→w'.heap[k]? =w.heap[k]? ∧(M k→M' k)):
  OwnV w' M' x v∧∀k,VFoot w' x v k→VFoot w x v k:=by
 induction ho with
 |c x v h=>exact⟨.c x v (h.keep hw),fun k hk=>by cases hk⟩
 |nil e sz n f hn=>exact⟨.nil e sz n f hn,fun k hk=>by cases hk⟩
 |sl e sz n f g c cur hM hc hs ho hn hm hl h=>
  have h1:=hf g (.sl e sz n f ⟨g,0,none⟩ _ _)
  exact⟨.sl e sz n f g c cur (h1.2 hM) (h1.1.trans hc) hs ho hn hm hl fun i j x hi hj=>(h i j x hi hj).keep hw,fun k hk=>by cases hk;exact .sl e sz n f ⟨g,0,none⟩ _ _⟩
 |pt l g cur t hM hc h1 hl h hd hne ih=>
  have hg:=hf g (.pt l ⟨g,0,none⟩)
  have hi:∀(j:Nat) (x:NC),l[j]? =some x→OwnV w' M' x (cur.getD j undef)∧∀k,VFoot w' x (cur.getD j undef) k→VFoot w x (cur.getD j undef) k:=
   fun j x hj=>ih j x hj fun k hk=>hf k (.inn l ⟨g,0,none⟩ cur t (0,0) j x k hc hj hk)
  refine⟨.pt l g cur t (hg.2 hM) (hg.1.trans hc) h1 hl (fun j x hj=>(hi j x hj).1) (fun j j' x x' k hj hj' hk hk'=>hd j j' x x' k hj hj' ((hi j x hj).2 k hk) ((hi j' x' hj').2 k hk')) (fun j x k hj hk=>hne j x k hj ((hi j x hj).2 k hk)),fun k hk=> ?_⟩
  cases hk with
  |pt=>exact .pt l ⟨g,0,none⟩
  |inn _ _ cur' t' fr j x k q1 q2 q3=>
   have q1:w'.heap[g]? =some (.cells cur' t' fr):=q1
   rw[hg.1,hc]at q1
   simp only[Option.some.injEq,Obj.cells.injEq]at q1
   obtain⟨rfl,rfl,rfl⟩:=q1
   exact .inn l ⟨g,0,none⟩ cur t (0,0) j x k hc q2 ((hi j x q2).2 k q3)
 |ite c x y v h1 h2 ih1 ih2=>
  refine⟨.ite c x y v (fun hc=>(ih1 hc fun k hk=>hf k (.ite1 c x y v k hc hk)).1) (fun hc=>(ih2 hc fun k hk=>hf k (.ite2 c x y v k hc hk)).1),fun k hk=> ?_⟩
  cases hk with
  |ite1 _ _ _ _ _ hc q=>exact .ite1 c x y v k hc ((ih1 hc fun k hk=>hf k (.ite1 c x y v k hc hk)).2 k q)
  |ite2 _ _ _ _ _ hc q=>exact .ite2 c x y v k hc ((ih2 hc fun k hk=>hf k (.ite2 c x y v k hc hk)).2 k q)
theorem Foot.eq {w:World}{g k:Nat}{o:AObj}(h:Foot w g o k) (hn:∀e sz n F op,o≠ .nst e sz n F op):k=g:=by
 cases h with
 |self=>rfl
 |inn e sz n F op=>exact absurd rfl (hn e sz n F op)
theorem qAs.keep {w w':World}{M M':Nat→Prop}{β β':Nat→Option Nat}{cp cp':Nat→Nat}{l:List AV}{vs:List Value}
  (hr:qAs w M β cp l vs) (hw:∀k,k<w.heap.size→¬M k→w'.heap[k]? =w.heap[k]? ∧¬M' k) (hβ:∀b,β b≠none→β' b=β b∧cp' b=cp b):qAs w' M' β' cp' l vs:=
 ⟨hr.1,fun j x hj=>(hr.2 j x hj).keep hw hβ⟩
mutual
def AV.kill (b:Nat):AV→AV
 | .own c n=>match Nat.beq c b with|true=> .any|false=> .own c n
 | .vw c sz x n=>match Nat.beq c b with|true=> .any|false=> .vw c sz x n
 | .nn c n=>match Nat.beq c b with|true=> .any|false=> .nn c n
 | .ept c sz x o=>match Nat.beq c b with|true=> .any|false=> .ept c sz x o
 | .ptr c o=>match Nat.beq c b with|true=> .any|false=> .ptr c o
 | .mr c=>match Nat.beq c b with|true=> .any|false=> .mr c
 | .agg l=> .agg (qFD b l)
 | .tup l=> .tup (qFD b l)
 | .fn f l=> .fn f (qFD b l)
 | .fm _ _=> .any
 | .ifc t x=> .ifc t (x.kill b)
 | .ite c x y=> .ite c (x.kill b) (y.kill b)
 |x=>x
def qFD (b:Nat):List AV→List AV
 |[]=>[]
 |x::r=>x.kill b::qFD b r
end
end Go.Abs
namespace Go.Abs
open Go
theorem qDy (z:Array Value) (n k:Nat) (hk:k<n*z.size):(Builtin.zeroCells z n).getD k undef=z.getD (k%z.size) undef:=by
 have h0:0<z.size:=by
  rcases Nat.eq_zero_or_pos z.size with h|h
  ·rw[h]at hk;simp at hk
  ·exact h
 have hm:=Nat.mod_lt k h0
 have hs:k<(Builtin.zeroCells z n).size:=by simp[Builtin.zeroCells];exact hk
 rw[Array.getD_eq_getD_getElem?,Array.getD_eq_getD_getElem?,Array.getElem?_eq_getElem hs,Array.getElem?_eq_getElem hm]
 simp[Builtin.zeroCells,getElem!_pos,hm]
def qEq (w:World) (v:Value) (e:TypeId) (size n:Nat) (Q:Nat→Value→Prop):Prop:=
 ∀g cap cur,v= .slice (some ⟨g,0,none⟩) n cap→w.heap[g]? =some (.cells cur e (0,0))→∀i j,n≤i→i<cap→j<size→Q j (cur.getD (i*size+j) undef)
section
variable {P:Program}(w:World)
theorem qFE {e:TypeId}{size n c:Nat}{Q:Nat→Value→Prop}{z:Array Value}{old:Array Value}(hzs:z.size=size) (ho:old.size=n*size) (hQ:∀j,j<size→Q j (z.getD j undef)):
  qEq (w.alloc (.cells (old++Builtin.zeroCells z (c-n)) e)) (.slice (some ⟨w.heap.size,0,none⟩) n c) e size n Q:=by
 intro g cap cur hv hg i j h0 h1 h2
 simp only[Value.slice.injEq,Option.some.injEq,Addr.mk.injEq,and_true,true_and]at hv
 obtain⟨rfl,rfl⟩:=hv
 rw[heap_alloc_new]at hg
 simp only[Option.some.injEq,Obj.cells.injEq,and_true]at hg
 subst hg
 have hle:n*size≤i*size:=Nat.mul_le_mul_right _ h0
 have hlt:i*size+size≤c*size:=by have:=Nat.mul_le_mul_right size (show i+1≤c by omega);rwa [Nat.succ_mul]at this
 have hk:i*size+j-n*size=(i-n)*size+j:=by rw[Nat.sub_mul];omega
 have hz0:=qDy z (c-n) ((i-n)*size+j) (by rw[hzs,Nat.sub_mul,Nat.sub_mul];omega)
 rw[hzs,Nat.mul_comm (i-n),Nat.mul_add_mod,Nat.mod_eq_of_lt h2,Nat.mul_comm size]at hz0
 rw[Array.getD_eq_getD_getElem?,Array.getElem?_append_right (by omega),ho,hk,←Array.getD_eq_getD_getElem?,hz0]
 exact hQ j h2
theorem qID (base:Nat) (t ty e:TypeId) (i:TypeInfo) (z:Value) (size bytes:Nat) (ht:P.underlying t=some (.slice e)) (hi:P.info? e=some i) (hz:i.zero=some z)
  (hsize:i.size=size) (hby:i.bytes=bytes) (hzs:z.cells.size=size)
  (v:Value) (n:Nat) (xs:List Value) (hown:w.ownsRow base e size v n xs)
  (a:Addr) (m c:Nat) (news:List Value) (hl:news.length=m*size) (hnews:∀j u,news[j]? =some u→w.cell? (a.add j)=some u) (h1:∀u∈news,u.oneCell'=true)
  (h63:n+m≤maxLen) (hbytes:(n+m)*bytes≤140737488355328) (Q:Nat→Value→Prop) (hQ:∀j,j<size→Q j (z.cells.getD j undef)) (hsp:qEq w v e size n Q)
  {v':Value}{w':World}(hrun:(Builtin.append_ #[t,t] ty #[v,.slice (some a) m c]).run P w= .ok v' w'):qEq w' v' e size (n+m) Q:=by
 subst hsize hby
 have hsmall:n+m≤9223372036854775807:=by simp only[maxLen]at h63;omega
 have done:∀{v1:Value}{w1:World},(Builtin.append_ #[t,t] ty #[v,.slice (some a) m c]).run P w= .ok v1 w1→qEq w1 v1 e i.size (n+m) Q→qEq w' v' e i.size (n+m) Q:=by
  intro v1 w1 hr hs
  rw[hr]at hrun
  cases hrun
  exact hs
 rcases hown.2 with⟨rfl,rfl⟩|⟨g,cap,cur,rfl,-,hg,hnc,hcm,hcs,htake⟩
 ·by_cases hm:m=0
  ·subst hm
   refine done (v1:= .slice none 0 0) (w1:=w) ?_ fun g cap cur hv=>by cases hv
   simp[Builtin.append_,run_underlying ht,sizeOf,typeInfo,hi,Builtin.lenOf,Builtin.firstCells,loadCells,loadCellsFrom]
  ·have hr:=run_append_nil (P:=P) w t ty e i z ht hi hz a m c news hl hnews (by omega) (by omega) (by have hb:=hbytes;simp only[Nat.zero_add]at hb;omega)
   refine done hr ?_
   rw[Nat.zero_add]
   exact qFE w.drew hzs (by rw[List.size_toArray,hl]) hQ
 ·by_cases hroom:n+m≤cap
  ·have hfit:n*i.size+news.length≤cur.size:=by rw[hl,hcs,←Nat.add_mul];exact Nat.mul_le_mul_right _ hroom
   refine done (run_append_room (P:=P) w t ty e i ht hi g n cap cur hg a m c news hl hnews h1 hroom hfit) ?_
   intro g' cap' cur' hv hg' i0 j0 h0 hi1 h2
   simp only[Value.slice.injEq,Option.some.injEq,Addr.mk.injEq,and_true,true_and]at hv
   obtain⟨rfl,rfl⟩:=hv
   rw[setRow_heap w g cur _ e _ hg]at hg'
   simp only[Option.some.injEq,Obj.cells.injEq,and_true]at hg'
   subst hg'
   have hle:(n+m)*i.size≤i0*i.size:=Nat.mul_le_mul_right _ h0
   rw[Nat.add_mul]at hle
   have hold:=hsp g cap cur rfl hg i0 j0 (by omega) hi1 h2
   have hll:(cur.toList.take (n*i.size)++news).length=n*i.size+m*i.size:=by
    rw[List.length_append,List.length_take,hl,Array.length_toList];omega
   have:(cur.toList.take (n*i.size)++news++cur.toList.drop (n*i.size+news.length)).toArray.getD (i0*i.size+j0) undef=cur.getD (i0*i.size+j0) undef:=by
    rw[Array.getD_eq_getD_getElem?,Array.getD_eq_getD_getElem?,List.getElem?_toArray,List.getElem?_append_right (by omega),hll,List.getElem?_drop,hl,Array.getElem?_toList]
    congr 2
    omega
   rw[this]
   exact hold
  ·have holds:∀j u,xs[j]? =some u→w.cell? ((⟨g,0,none⟩:Addr).add j)=some u:=hown.cells (g:=g) rfl
   refine done (run_append_grow (P:=P) w t ty e i z ht hi hz ⟨g,0,none⟩ n cap xs hown.1 holds a m c news hl hnews (by omega) (by omega) (growslice_fits (by omega) hbytes)) ?_
   exact qFE w.drew hzs (by rw[Array.size_append,List.size_toArray,List.size_toArray,hown.1,hl,Nat.add_mul]) hQ
end
end Go.Abs
namespace Go.Abs
open Go
inductive LK where
 |i|b|s
inductive Ty where
 |int (k:IntKind)
 |bool
 |str
 |slice (e:TypeId) (sz bytes:Nat) (z:List AV)
 |struct (flat:Option (List LK)) (fs:List (Nat×TypeId×Nat)) (sz:Nat) (z:List AV)
 |one
 |other
 deriving Inhabited
def qDP:Value→AV
 | .int k n=> .i k (fun _=>n)
 | .bool b=> .bc b
 | .string s=> .s (fun _=>s)
 | .slice a n c=>match a,n,c with
   |none,0,0=> .nil
   |_,_,_=> .any
 | .func f x y=>match f,x.toList,y.toList with
   | .func f,[],[]=> .fn f []
   |_,_,_=> .any
 | .pointer none=> .con fun _=> .pointer none
 |_=> .any
def lk:Tm→Nat→AV
 |[],_=> .any
 |(j,v)::r,i=>match Nat.beq j i with
  |true=>v
  |false=>lk r i
def ev (s:Tm):Operand→AV
 | .tmp t=>lk s t
 | .const v=>qDP v
 | .func f=> .fn f []
 |_=> .any
def evO (s:Tm):Option Operand→Option AV
 |some x=>some (ev s x)
 |none=>none
def nth {α:Type}(d:α):List α→Nat→α
 |[],_=>d
 |x::_,0=>x
 |_::r,n+1=>nth d r n
def qAI {α:Type}:Nat→List α→List α
 |0,l=>l
 |_+1,[]=>[]
 |n+1,_::r=>qAI n r
def takeN {α:Type}:Nat→List α→List α
 |0,_=>[]
 |_+1,[]=>[]
 |n+1,x::r=>x::takeN n r
def len {α:Type}:List α→Nat
 |[]=>0
 |_::r=>Nat.succ (len r)
def splice:Nat→List AV→List AV→List AV
 |0,[],cs=>cs
 |0,_::_,[]=>[]
 |0,v::vs,_::cs=>v::splice 0 vs cs
 |_+1,_,[]=>[]
 |n+1,vs,c::cs=>c::splice n vs cs
def AV.pick (c:Th Bool) (x y:AV):AV:=
 match x,y with
 | .i .i64 p,.i .i64 q=> .i .i64 fun _=>bif c ()then p ()else q ()
 | .i .u8 p,.i .u8 q=> .i .u8 fun _=>bif c ()then p ()else q ()
 | .i .i32 p,.i .i32 q=> .i .i32 fun _=>bif c ()then p ()else q ()
 | .i .u32 p,.i .u32 q=> .i .u32 fun _=>bif c ()then p ()else q ()
 | .i .u64 p,.i .u64 q=> .i .u64 fun _=>bif c ()then p ()else q ()
 | .b p,.b q=> .b fun _=>bif c ()then p ()else q ()
 | .bc p,.b q=> .b fun _=>bif c ()then p else q ()
 | .b p,.bc q=> .b fun _=>bif c ()then p ()else q
 | .bc p,.bc q=> .b fun _=>bif c ()then p else q
 | .s p,.s q=> .s fun _=>bif c ()then p ()else q ()
 |x,y=> .ite c x y
def qGx (c:Th Bool):List AV→List AV→List AV
 |x::l,y::m=>AV.pick c x y::qGx c l m
 |_,_=>[]
def cells:AV→Option (List AV)
 | .agg l=>some l
 | .any| .tup _| .ite _ _ _=>none
 |x=>some [x]
mutual
def closed:AV→Bool
 | .ptr _ _| .ept _ _ _ _| .own _ _| .vw _ _ _ _| .nn _ _| .mr _| .fm _ _=>false
 | .ite _ x y=>match closed x with|true=>closed y|false=>false
 | .agg l| .tup l| .fn _ l=>qL l
 | .ifc _ x=>closed x
 |_=>true
def qL:List AV→Bool
 |[]=>true
 |x::r=>match closed x with|true=>qL r|false=>false
end
inductive Chg where
 |no
 |new (o:AObj)
 |upd (b:Nat) (o:AObj)
 |mv (b:Nat) (o:AObj)
inductive Res where
 |bad (n:Nat)
 |ok (v:AV) (c:Chg)
 |ob (p:Th Prop) (v:AV) (c:Chg)
def qBe (h:Hp) (n:Nat) (o:AObj):Hp:=match Nat.blt n (len h)with|true=>h.set n o|false=>h++[o]
def Chg.on (c:Chg) (nid:Nat) (h:Hp):Hp:=match c with
 | .no=>h
 | .new o=>qBe h nid o
 | .upd b o=>h.set b o
 | .mv b o=>qBe (h.set b .dead) nid o
def InR (n:Int):Prop:= -9223372036854775808≤n∧n≤9223372036854775807
def qAu:List LK→List AV→List AV→Option (Th Bool)
 |[],[],[]=>some fun _=>true
 |k::ks,x::l,y::m=>
  match qAu ks l m with
  |none=>none
  |some r=>
   match k,x,y with
   | .i,.i .i64 p,.i .i64 q=>some fun _=>(p ()==q ())&&r ()
   | .b,.b p,.b q=>some fun _=>(p ()==q ())&&r ()
   | .b,.bc p,.b q=>some fun _=>(p==q ())&&r ()
   | .b,.b p,.bc q=>some fun _=>(p ()==q)&&r ()
   | .b,.bc p,.bc q=>some fun _=>(p==q)&&r ()
   | .s,.s p,.s q=>some fun _=>((p ()).toList==(q ()).toList)&&r ()
   |_,_,_=>none
 |_,_,_=>none
def asB:AV→Option (Th Bool)
 | .b p=>some p
 | .bc p=>some fun _=>p
 |_=>none
def kEq:IntKind→IntKind→Bool
 | .i64,.i64=>true
 | .i32,.i32=>true
 | .u64,.u64=>true
 | .u32,.u32=>true
 | .u8,.u8=>true
 |_,_=>false
def qUC (k:IntKind) (x y:Int):Int:=k.wrap (BitVec.ofInt k.bits x&&&BitVec.ofInt k.bits y).toNat
def bOr (k:IntKind) (x y:Int):Int:=k.wrap (BitVec.ofInt k.bits x|||BitVec.ofInt k.bits y).toNat
def qRC (k:IntKind) (x y:Int):Int:=k.wrap (BitVec.ofInt k.bits x^^^BitVec.ofInt k.bits y).toNat
def qHo (k:IntKind) (x y:Int):Int:=k.wrap (BitVec.ofInt k.bits x&&& ~~~BitVec.ofInt k.bits y).toNat
def qRD (k:IntKind) (x y:Int):Int:=k.wrap (x*2^min y.toNat k.bits)
def qNh (k:IntKind) (x y:Int):Int:=x.fdiv (2^min y.toNat k.bits)
def qSC (k:IntKind) (op:BinOp) (a b:Th Int):Res:=
 match op with
 | .add=> .ok (.i k fun _=>k.wrap (a ()+b ())) .no
 | .sub=> .ok (.i k fun _=>k.wrap (a ()-b ())) .no
 | .mul=> .ok (.i k fun _=>k.wrap (a ()*b ())) .no
 | .quo=> .ob (fun _=>b ()≠0) (.i k fun _=>k.wrap ((a ()).tdiv (b ()))) .no
 | .rem=> .ob (fun _=>b ()≠0) (.i k fun _=>(a ()).tmod (b ())) .no
 | .and=> .ok (.i k fun _=>qUC k (a ()) (b ())) .no
 | .or=> .ok (.i k fun _=>bOr k (a ()) (b ())) .no
 | .xor=> .ok (.i k fun _=>qRC k (a ()) (b ())) .no
 | .andNot=> .ok (.i k fun _=>qHo k (a ()) (b ())) .no
 | .lss=> .ok (.b fun _=>decide (a ()<b ())) .no
 | .leq=> .ok (.b fun _=>decide (a ()≤b ())) .no
 | .gtr=> .ok (.b fun _=>decide (b ()<a ())) .no
 | .geq=> .ok (.b fun _=>decide (b ()≤a ())) .no
 | .eql=> .ok (.b fun _=>a ()==b ()) .no
 | .neq=> .ok (.b fun _=> !(a ()==b ())) .no
 | .shl=> .ob (fun _=>0≤b ()) (.i k fun _=>qRD k (a ()) (b ())) .no
 | .shr=> .ob (fun _=>0≤b ()) (.i k fun _=>qNh k (a ()) (b ())) .no
def qXQ (T:Ty) (wr:Bool) (op:BinOp) (x y:AV):Res:=
 match x,y with
 | .i k a,.i k' b=>
   match kEq k k' with
   |true=>match k,wr,op with
    | .i64,false,.add=> .ob (fun _=>InR (a ()+b ())) (.i .i64 fun _=>a ()+b ()) .no
    | .i64,false,.sub=> .ob (fun _=>InR (a ()-b ())) (.i .i64 fun _=>a ()-b ()) .no
    | .i64,false,.mul=> .ob (fun _=>InR (a ()*b ())) (.i .i64 fun _=>a ()*b ()) .no
    | .i64,_,.quo=> .ob (fun _=>b ()≠0∧InR ((a ()).tdiv (b ()))) (.i .i64 fun _=>(a ()).tdiv (b ())) .no
    |k,_,op=>qSC k op a b
   |false=>match op with
    | .shl=> .ob (fun _=>0≤b ()) (.i k fun _=>qRD k (a ()) (b ())) .no
    | .shr=> .ob (fun _=>0≤b ()) (.i k fun _=>qNh k (a ()) (b ())) .no
    |_=> .bad 2
 | .s a,.s b=>
   match op with
   | .eql=> .ok (.b fun _=>(a ()).toList==(b ()).toList) .no
   | .neq=> .ok (.b fun _=> !((a ()).toList==(b ()).toList)) .no
   | .add=> .ob (fun _=>(a ()).size+(b ()).size≤9223372036854775807) (.s fun _=>a ()++b ()) .no
   |_=> .bad 3
 | .agg l,.agg m=>
   match T with
   | .struct (some ks) _ _ _=>match qAu ks l m with
     |some r=>match op with
      | .eql=> .ok (.b r) .no
      | .neq=> .ok (.b fun _=> !(r ())) .no
      |_=> .bad 4
     |none=> .bad 5
   |_=> .bad 6
 |x,y=>match T,asB x,asB y with
  | .bool,some a,some b=>match op with
    | .eql=> .ok (.b fun _=>a ()==b ()) .no
    | .neq=> .ok (.b fun _=> !(a ()==b ())) .no
    |_=> .bad 7
  |_,_,_=> .bad 8
def qFF (T:Ty) (p:Option (Th Prop)) (cs:List AV):Res:=
 let out (v:AV):Res:=match p with|none=> .ok v .no|some q=> .ob q v .no
 match T with
 | .struct _ _ sz _=>match Nat.ble sz (len cs)with
   |true=>out (.agg (takeN sz cs))
   |false=> .bad 20
 | .other=> .bad 21
 |_=>match cs with
  |x::_=>out x
  |[]=> .bad 22
def nums:List AV→List (Th Int)
 | .i .i64 x::r=>x::nums r
 |_=>[]
def qXw:List (Th Int)→Nat→Int
 |[],_=>0
 |x::_,0=>x ()
 |_::r,n+1=>qXw r n
def qCM (i:Th Nat) (v:Th Int):Nat→List AV→List AV
 |j,.i .i64 x::r=> .i .i64 (fun _=>bif decide (i ()=j)then v ()else x ())::qCM i v (Nat.succ j) r
 |_,l=>l
def qIE (i:Th Nat) (v:Th Int):Nat→List AV→List AV
 |0,cs=>qCM i v 0 cs
 |n+1,c::cs=>c::qIE i v n cs
 |_+1,[]=>[]
def qIF (T:Ty) (h:Hp) (x:AV):Res:=
 match x with
 | .ptr b o=>match nth .dead h b with
   | .blk cs=>qFF T none (qAI o cs)
   |_=> .bad 23
 | .ept b sz i o=>match nth .dead h b with
   | .vec et sz' n f=>match Nat.beq sz sz' with
     |true=>qFF T (some fun _=>i ()<n ()) (qAI o (f i))
     |false=> .bad 24
   | .fz none n f=>match Nat.beq sz 1,Nat.beq o 0 with
     |true,true=>qFF T (some fun _=>i ()<n ()) (f i)
     |_,_=> .bad 24
   | .nst _ sz' _ _ (some (k,cs))=>match Nat.beq sz sz' with
     |true=>qFF T (some fun _=>i ()=k ()) (qAI o cs)
     |false=> .bad 24
   | .blk cs=>match Nat.beq sz 1,T with
     |true,.int .i64=> .ob (fun _=>i ()<len (nums (qAI o cs))) (.i .i64 fun _=>qXw (nums (qAI o cs)) (i ())) .no
     |_,_=> .bad 25
   |_=> .bad 25
 | .rp l=>qFF T none l
 |_=> .bad 26
def qYk:Ty→Option Nat
 | .struct _ _ sz _=>some sz
 | .other=>none
 |_=>some 1
def qGF (T:Ty) (h:Hp) (x v:AV):Res:=
 match cells v,qYk T with
 |some vs,some sz=>match Nat.beq (len vs) sz with
  |true=>match x with
   | .ptr b o=>match nth .dead h b with
     | .blk cs=>match Nat.ble (o+len vs) (len cs)with
       |true=> .ok .any (.upd b (.blk (splice o vs cs)))
       |false=> .bad 30
     |_=> .bad 31
   | .ept b sz i o=>match nth .dead h b with
     | .vec et sz' n f=>match Nat.beq sz sz',Nat.ble (o+len vs) sz,qL vs with
       |true,true,true=> .ob (fun _=>i ()<n ()) .any (.upd b (.vec et sz n fun k=>qGx (fun _=>decide (k ()=i ())) (splice o vs (f k)) (f k)))
       |_,_,_=> .bad 32
     | .fz none n f=>match Nat.beq sz 1,Nat.beq o 0,Nat.beq (len vs) 1,qL vs with
       |true,true,true,true=> .ob (fun _=>i ()<n ()) .any (.upd b (.fz none n fun k=>qGx (fun _=>decide (k ()=i ())) vs (f k)))
       |_,_,_,_=> .bad 32
     | .nst et sz' n F (some (k,cs))=>match Nat.beq sz sz',Nat.ble (o+len vs) sz with
       |true,true=> .ob (fun _=>i ()=k ()) .any (.upd b (.nst et sz' n F (some (k,splice o vs cs))))
       |_,_=> .bad 32
     | .blk cs=>match Nat.beq sz 1,vs with
       |true,[.i .i64 u]=> .ob (fun _=>i ()<len (nums (qAI o cs))) .any (.upd b (.blk (qIE i u o cs)))
       |_,_=> .bad 33
     |_=> .bad 33
   |_=> .bad 34
  |false=> .bad 35
 |_,_=> .bad 36
def zeroOf:Ty→Option (List AV)
 | .int k=>some [.i k fun _=>0]
 | .bool=>some [.bc false]
 | .str=>some [.s fun _=> .empty]
 | .slice _ _ _ _=>some [.nil]
 | .struct _ _ _ z=>some z
 | .one=>some [.any]
 | .other=>none
def qCN (fs:List (Nat×TypeId×Nat)):List AV→List (Nat×AV)→Option (List AV)
 |cs,[]=>some cs
 |cs,(i,v)::r=>
  match cells v,nth (0,0,0) fs i with
  |some vs,(o,_,sz)=>match Nat.beq (len vs) sz,Nat.ble (o+len vs) (len cs),Nat.blt i (len fs)with
   |true,true,true=>qCN fs (splice o vs cs) r
   |_,_,_=>none
  |none,_=>none
def bound (d:Th Int):Option AV→Option (Th Int)
 |none=>some d
 |some (.i _ n)=>some n
 |some _=>none
def rowsOf (h:Hp):AV→Option (Th Nat)
 | .nn b _=>match nth .dead h b with| .vec _ _ k _=>some k|_=>none
 |_=>none
def qNi (T:Ty) (x:AV) (lo hi:Option AV) (rows:Option (Th Nat)):Res:=
 match T,x with
 | .slice _ tz _ _,.sl sz n f=>match Nat.beq tz sz,bound (fun _=>0) lo,bound (fun _=>(n ():Int)) hi with
   |true,some l,some h=> .ob (fun _=>0≤l ()∧l ()≤h ()∧h ()≤n ()) (.sl sz (fun _=>(h ()-l ()).toNat) fun k=>f fun _=>k ()+(l ()).toNat) .no
   |_,_,_=> .bad 40
 | .str,.s v=>match bound (fun _=>0) lo,bound (fun _=>((v ()).size:Int)) hi with
   |some l,some h=> .ob (fun _=>0≤l ()∧l ()≤h ()∧h ()≤(v ()).size) (.s fun _=>(v ()).extract (l ()).toNat (h ()).toNat) .no
   |_,_=> .bad 41
 | .slice _ tz _ _,.own b n=>match lo with
   |none=>match bound (fun _=>0) lo,bound (fun _=>(n ():Int)) hi with
    |some l,some h=> .ob (fun _=>l ()=0∧0≤h ()∧h ()≤n ()) (.own b fun _=>(h ()).toNat) .no
    |_,_=> .bad 42
   |some _=>match bound (fun _=>0) lo,bound (fun _=>(n ():Int)) hi with
    |some l,some h=> .ob (fun _=>0≤l ()∧l ()≤h ()∧h ()≤n ()) (.vw b tz (fun _=>(l ()).toNat) fun _=>(h ()-l ()).toNat) .no
    |_,_=> .bad 42
 | .slice _ tz _ _,.nn b n=>match lo with
   |none=>match bound (fun _=>(n ():Int)) hi,rows with
    |some h,some k=> .ob (fun _=>0≤h ()∧(h ()≤n ()∨h ()≤k ())) (.nn b fun _=>(h ()).toNat) .no
    |_,_=> .bad 42
   |some _=>match bound (fun _=>0) lo,bound (fun _=>(n ():Int)) hi,rows with
    |some l,some h,some k=> .ob (fun _=>0≤l ()∧l ()≤h ()∧h ()≤k ()) (.vw b tz (fun _=>(l ()).toNat) fun _=>(h ()-l ()).toNat) .no
    |_,_,_=> .bad 42
 | .slice _ tz _ _,.vw b sz p n=>match Nat.beq tz sz,bound (fun _=>0) lo,bound (fun _=>(n ():Int)) hi with
   |true,some l,some h=> .ob (fun _=>0≤l ()∧l ()≤h ()∧h ()≤n ()) (.vw b sz (fun _=>p ()+(l ()).toNat) fun _=>(h ()-l ()).toNat) .no
   |_,_,_=> .bad 42
 | .slice _ _ _ _,.nil=>match bound (fun _=>0) lo,bound (fun _=>0) hi with
   |some l,some h=> .ob (fun _=>l ()=0∧h ()=0) .nil .no
   |_,_=> .bad 42
 |_,_=> .bad 43
def qJX (T:Ty) (x:AV) (lo hi mx:Option AV):Res:=
 match T,bound (fun _=>0) lo,hi,mx with
 | .slice _ _ _ _,some l,some (.i _ h),some (.i _ m)=>match x with
   | .sl _ n _=> .ob (fun _=>0≤l ()∧l ()≤h ()∧h ()≤m ()∧m ()≤n ()) .any .no
   | .own _ n=> .ob (fun _=>0≤l ()∧l ()≤h ()∧h ()≤m ()∧m ()≤n ()) .any .no
   | .nn _ n=> .ob (fun _=>0≤l ()∧l ()≤h ()∧h ()≤m ()∧m ()≤n ()) .any .no
   |_=> .bad 47
 |_,_,_,_=> .bad 46
def qHp (mx:Bool) (x y:AV):Res:=
 match x,y with
 | .i k a,.i _ b=>match mx with
   |true=> .ok (.i k fun _=>if b ()>a ()then b ()else a ()) .no
   |false=> .ok (.i k fun _=>if b ()<a ()then b ()else a ()) .no
 |_,_=> .bad 45
def qJU (sz:Nat):Nat→Nat→List (Nat×TypeId×Nat)
 |_,0=>[]
 |o,n+1=>(o,0,sz)::qJU sz (o+sz) n
def qDw (n:Nat) (z:List AV):List AV:=match n with
 |0=>[]
 |n+1=>z++qDw n z
def qXx (sz:Nat) (l:List AV):Th Nat→List AV:=fun i=>takeN sz (qAI (i ()*sz) l)
structure Arr where
 n:Nat
 sz:Nat
 z:List AV
 ag:Bool
structure Env where
 ty:TypeId→Ty
 wr:List Nat:=[]
 ar:TypeId→Option Arr:=fun _=>none
 su:Option FuncId:=none
 mt:TypeId→String→Option FuncId:=fun _ _=>none
 nif:TypeId→Bool:=fun _=>false
 fr:TypeId→Bool:=fun _=>false
 ma:TypeId→Option Nat:=fun _=>none
 bd:FuncId→Bool:=fun _=>false
 fm:TypeId→Bool:=fun _=>false
 ern:TypeId→Bool:=fun _=>false
def qBo (v:ByteArray) (k:Int):Int:=(v.data.getD k.toNat 0).toNat
def qYl:AV→Option (Th Bool)
 | .ite c (.con a) (.ifc _ _)=>match a ()with
   | .nilIface=>some c
   |_=>none
 |_=>none
def qNj:Operand→Bool
 | .const .nilIface=>true
 |_=>false
def qXR (op:BinOp) (X:AV) (y:Operand):Res:=match qNj y,qYl X with
 |true,some c=>match op with
  | .eql=> .ok (.b c) .no
  | .neq=> .ok (.b fun _=> !(c ())) .no
  |_=> .bad 9
 |_,_=> .bad 9
def qSD (d:Option Nat):List Nat→Bool
 |[]=>false
 |x::r=>match d with
  |none=>false
  |some d=>match Nat.beq x d with|true=>true|false=>qSD (some d) r
def qUs:List AV→Bool
 |[.i .u8 _]=>true
 |_=>false
def qPJ:List AV→Int
 |[.i .u8 n]=>n ()
 |_=>0
def sOf (n:Nat) (f:Nat→Int):ByteArray:=⟨((List.range n).map fun i=>UInt8.ofNat (f i).toNat).toArray⟩
def qK9 (h:Hp) (X:AV):Res:=match X with
 | .nil=> .ok (.s fun _=> .empty) .no
 | .sl sz n f=>match Nat.beq sz 1 with
   |true=> .ob (fun _=>∀i,i<n ()→qUs (f fun _=>i)=true) (.s fun _=>sOf (n ()) fun i=>qPJ (f fun _=>i)) .no
   |false=> .bad 162
 | .own b n=>match nth .dead h b with
   | .vec _ sz m f=>match Nat.beq sz 1 with
     |true=> .ob (fun _=>n ()≤m ()∧∀i,i<n ()→qUs (f fun _=>i)=true) (.s fun _=>sOf (n ()) fun i=>qPJ (f fun _=>i)) .no
     |false=> .bad 163
   |_=> .bad 164
 | .nn b n=>match nth .dead h b with
   | .fz none m f=> .ob (fun _=>n ()≤m ()∧∀i,i<n ()→qUs (f fun _=>i)=true) (.s fun _=>sOf (n ()) fun i=>qPJ (f fun _=>i)) .no
   |_=> .bad 164
 |_=> .bad 165
def qNk (X Y Z:AV):Res:=match X,Y,Z with
 | .i .u64 x,.i .u64 y,.i .u64 z=> .ob (fun _=>0≤x ()∧0≤y ()∧y ()≤18446744073709551616∧z ()=0) (.tup [.i .u64 fun _=>(x ()+18446744073709551616-y ())%18446744073709551616,.i .u64 fun _=>if x ()<y ()then 1 else 0]) .no
 |_,_,_=> .bad 171
def qNe (k:List Int):List (List Int×Int)→Option Int
 |[]=>none
 |(k',v)::r=>if k=k' then some v else qNe k r
def qPK (k:List Int) (v:Int):List (List Int×Int)→List (List Int×Int)
 |[]=>[(k,v)]
 |(k',v')::r=>if k=k' then(k',v)::r else(k',v')::qPK k v r
def qJY:Nat→List AV→Option (Th (List Int))
 |0,[]=>some fun _=>[]
 |n+1,.i .i64 x::r=>match qJY n r with
  |some l=>some fun _=>x ()::l ()
  |none=>none
 |_,_=>none
def qUt (ks:Nat):AV→Option (Th (List Int))
 | .agg cs=>qJY ks cs
 |_=>none
def qJZ (mk:Option Nat) (h:Hp) (X K:AV) (ok:Bool):Res:=match mk,X with
 |some ks,.mr b=>match nth .dead h b,qUt ks K with
  | .mp n l,some k=>match Nat.beq n ks with
    |true=>match ok with
     |true=> .ok (.tup [.i .i64 fun _=>(qNe (k ()) (l ())).getD 0,.b fun _=>(qNe (k ()) (l ())).isSome]) .no
     |false=> .ok (.i .i64 fun _=>(qNe (k ()) (l ())).getD 0) .no
    |false=> .bad 221
  |_,_=> .bad 222
 |_,_=> .bad 223
def qEr (mk:Option Nat) (h:Hp) (X K V:AV):Res:=match mk,X,V with
 |some ks,.mr b,.i .i64 v=>match nth .dead h b,qUt ks K with
  | .mp n l,some k=>match Nat.beq n ks with
    |true=> .ok .any (.upd b (.mp n fun _=>qPK (k ()) (v ()) (l ())))
    |false=> .bad 224
  |_,_=> .bad 225
 |_,_,_=> .bad 226
def qXS:List AV→Bool
 |[.con _,.nil]=>true
 |_=>false
def step (E:Env) (o:Oper) (s:Tm) (h:Hp) (nid:Nat):Res:=
 match o.op with
 | .move x| .assign x=> .ok (ev s x) .no
 | .pick c a b=>match ev s c with
   | .bc true=> .ok (ev s a) .no
   | .bc false=> .ok (ev s b) .no
   | .b c=> .ok (AV.pick c (ev s a) (ev s b)) .no
   |_=> .bad 50
 | .alloc t=>match zeroOf (E.ty t)with
   |some z=>match qXS z with
    |true=> .ok (.ptr nid 0) (.new (.fz (some t) (fun _=>2) fun j=>[nth .any z (j ())]))
    |false=> .ok (.ptr nid 0) (.new (.blk z))
   |none=> .bad 51
 | .box _ x=>match cells (ev s x)with
   |some cs=> .ok (.ptr nid 0) (.new (.blk cs))
   |none=> .bad 52
 | .build t ps=>match E.ty t with
   | .struct _ fs _ z=>match qCN fs z (ps.toList.map fun p=>(p.1,ev s p.2)),fs.all (fun f=>Nat.blt 0 f.2.2)with
     |some cs,true=> .ok (.agg cs) .no
     |_,_=> .bad 53
   | .other=>match E.ar t with
     |some r=>match Nat.beq (len r.z) r.sz,qCN (qJU r.sz 0 r.n) (qDw r.n r.z) (ps.toList.map fun p=>(p.1,ev s p.2))with
      |true,some cs=> .ok (.agg cs) .no
      |_,_=> .bad 54
     |none=> .bad 54
   |_=> .bad 54
 | .buildSlice t n ps=>match E.ty t with
   | .slice et sz _ z=>match n,ps.toList with
     |0,[]=> .ok (.own nid fun _=>0) (.new (.vec et sz (fun _=>0) fun _=>[]))
     |1,[(0,x)]=>match cells (ev s x)with
      |some cs=>match Nat.beq (len cs) sz,qL cs with
       |true,true=> .ok (.own nid fun _=>1) (.new (.vec et sz (fun _=>1) fun _=>cs))
       |true,false=> .ok (.own nid fun _=>1) (.new (.blk cs))
       |_,_=> .bad 55
      |none=> .bad 56
     |n,l=>match Nat.beq (len z) sz,Nat.ble (n*sz) 16777216,qCN (qJU sz 0 n) (qDw n z) (l.map fun p=>(p.1,ev s p.2))with
      |true,true,some out=>match qL out with
       |true=> .ok (.own nid fun _=>n) (.new (.vec et sz (fun _=>n) (qXx sz out)))
       |false=> .ok (.own nid fun _=>n) (.new (.blk out))
      |_,_,_=> .bad 57
   |_=> .bad 58
 | .makeSlice t n c=>match E.ty t,ev s n,ev s c with
   | .slice et sz bytes z,.i _ n,.i _ c=>match Nat.beq (len z) sz,qL z with
     |true,true=> .ob (fun _=>0≤n ()∧n ()≤c ()∧(bytes:Int)*c ()≤281474976710656∧c ()≤9223372036854775807) (.own nid fun _=>(n ()).toNat) (.new (.vec et sz (fun _=>(n ()).toNat) fun _=>z))
     |_,_=> .bad 82
   |_,_,_=> .bad 83
 | .load t x=>qIF (E.ty t) h (ev s x)
 | .store t a v=>qGF (E.ty t) h (ev s a) (ev s v)
 | .nilCheck x=>match ev s x with
   | .ptr b o=> .ok (.ptr b o) .no
   | .ept b sz i o=> .ok (.ept b sz i o) .no
   | .rp l=> .ok (.rp l) .no
   |_=> .bad 59
 | .binOp op t x y _=>match E.ern t with
   |false=>qXQ (E.ty t) (qSD o.dst E.wr) op (ev s x) (ev s y)
   |true=>qXR op (ev s x) y
 | .unOp op _ x=>match op,ev s x with
   | .not,.b b=> .ok (.b fun _=> !(b ())) .no
   | .not,.bc true=> .ok (.bc false) .no
   | .not,.bc false=> .ok (.bc true) .no
   | .neg,.i .i64 a=>match qSD o.dst E.wr with
     |false=> .ob (fun _=>InR (0-a ())) (.i .i64 fun _=>0-a ()) .no
     |true=> .ok (.i .i64 fun _=>IntKind.i64.wrap (0-a ())) .no
   | .xor,.i k a=> .ok (.i k fun _=>qRC k (if k.signed then -1 else k.max) (a ())) .no
   |_,_=> .bad 60
 | .fieldAddr t x i=>match E.ty t with
   | .struct _ fs _ _=>match nth (0,0,0) fs i,Nat.blt i (len fs)with
     |(o,_,sz),true=>match Nat.blt 0 sz,ev s x with
      |true,.ptr b p=> .ok (.ptr b (p+o)) .no
      |true,.ept b z j p=> .ok (.ept b z j (p+o)) .no
      |true,.rp l=>match Nat.blt o (len l)with
       |true=> .ok (.rp (qAI o l)) .no
       |false=> .bad 61
      |_,_=> .bad 62
     |_,false=> .bad 63
   |_=> .bad 64
 | .indexAddr t x i=>match E.ty t with
   | .slice _ sz _ _=>match ev s x,ev s i with
     | .sl sz' n f,.i _ i=>match Nat.beq sz sz' with
       |true=> .ob (fun _=>0≤i ()∧i ()<n ()) (.rp (f fun _=>(i ()).toNat)) .no
       |false=> .bad 65
     | .own b n,.i _ i=>match nth .dead h b with
       | .vec _ sz' _ _=>match Nat.beq sz sz' with
         |true=> .ob (fun _=>0≤i ()∧i ()<n ()) (.ept b sz (fun _=>(i ()).toNat) 0) .no
         |false=> .bad 66
       | .nst _ sz' _ _ _=>match Nat.beq sz sz' with
         |true=> .ob (fun _=>0≤i ()∧i ()<n ()) (.ept b sz (fun _=>(i ()).toNat) 0) .no
         |false=> .bad 66
       |_=> .bad 67
     | .vw b sz' p n,.i _ i=>match Nat.beq sz sz' with
       |true=> .ob (fun _=>0≤i ()∧i ()<n ()) (.ept b sz (fun _=>p ()+(i ()).toNat) 0) .no
       |false=> .bad 66
     | .nn b n,.i _ i=>match nth .dead h b with
       | .vec _ sz' _ _=>match Nat.beq sz sz' with
         |true=> .ob (fun _=>0≤i ()∧i ()<n ()) (.ept b sz (fun _=>(i ()).toNat) 0) .no
         |false=> .bad 66
       | .fz none _ _=>match Nat.beq sz 1 with
         |true=> .ob (fun _=>0≤i ()∧i ()<n ()) (.ept b sz (fun _=>(i ()).toNat) 0) .no
         |false=> .bad 66
       |_=> .bad 67
     |_,_=> .bad 68
   | .other=>match E.ar t,ev s x,ev s i with
     |some r,.ptr b o,.i _ i=>match Nat.beq r.sz 1 with
      |true=> .ob (fun _=>0≤i ()∧i ()<r.n) (.ept b 1 (fun _=>(i ()).toNat) o) .no
      |false=> .bad 69
     |_,_,_=> .bad 69
   |_=> .bad 69
 | .index t x i=>match E.ty t,ev s x,ev s i with
   | .str,.s v,.i _ k=> .ob (fun _=>0≤k ()∧k ()<(v ()).size) (.i .u8 fun _=>qBo (v ()) (k ())) .no
   |_,_,_=> .bad 160
 | .typeAssert x _ t ok=>match ok,ev s x with
   |false,.ifc t' X=>match Nat.beq t' t,E.nif t with
    |true,true=> .ok X .no
    |_,_=> .bad 191
   |_,_=> .bad 192
 | .makeInterface t x=>match E.nif t with
   |true=> .ok (.ifc t (ev s x)) .no
   |false=> .bad 190
 | .makeMap t r=>match r,E.ma t with
   |none,some ks=> .ok (.mr nid) (.new (.mp ks fun _=>[]))
   |_,_=> .bad 220
 | .lookup t x i ok=>qJZ (E.ma t) h (ev s x) (ev s i) ok
 | .mapUpdate t x i v=>qEr (E.ma t) h (ev s x) (ev s i) (ev s v)
 | .extract x i=>match ev s x with
   | .tup l=>match Nat.blt i (len l)with
     |true=> .ok (nth .any l i) .no
     |false=> .bad 70
   |_=> .bad 71
 | .slice t x lo hi mx=>match mx with
   |none=>qNi (E.ty t) (ev s x) (evO s lo) (evO s hi) (rowsOf h (ev s x))
   |some m=>qJX (E.ty t) (ev s x) (evO s lo) (evO s hi) (some (ev s m))
 | .convert t d x=>match E.ty t,E.ty d,ev s x with
   | .int _,.int k,.i _ a=> .ok (.i k fun _=>k.wrap (a ())) .no
   | .str,.str,.s v=> .ok (.s v) .no
   | .slice e _ _ _,.str,X=>match E.ty e with
     | .int .u8=>qK9 h X
     |_=> .bad 161
   | .str,.slice e _ _ _,.s v=>match E.ty e with
     | .int .u8=> .ob (fun _=>(v ()).size≤9223372036854775807) (.nn nid fun _=>(v ()).size) (.new (.fz none (fun _=>(v ()).size) fun j=>[.i .u8 fun _=>qBo (v ()) (j ():Nat)]))
     |_=> .bad 166
   |_,_,_=> .bad 73
 | .call c=>match c.callee with
   | .builtin .len=>match c.argTypes.toList,c.args.toList with
     |[t],[x]=>match E.ty t with
      | .slice _ _ _ _=>match ev s x with
        | .sl _ n _=> .ok (.i .i64 fun _=>n ()) .no
        | .own _ n=> .ok (.i .i64 fun _=>n ()) .no
        | .vw _ _ _ n=> .ok (.i .i64 fun _=>n ()) .no
        | .nn _ n=> .ok (.i .i64 fun _=>n ()) .no
        | .nil=> .ok (.i .i64 fun _=>0) .no
        |_=> .bad 74
      | .str=>match ev s x with
        | .s v=> .ok (.i .i64 fun _=>(v ()).size) .no
        |_=> .bad 80
      |_=> .bad 81
     |_,_=> .bad 75
   | .value (.func f)=>match E.su with
     |some g=>match Nat.beq f g with
      |true=>match c.args.toList with
       |[x,y,z]=>qNk (ev s x) (ev s y) (ev s z)
       |_=> .bad 170
      |false=> .bad 78
     |none=> .bad 78
   | .builtin .max=>match c.args.toList with
     |[x,y]=>qHp true (ev s x) (ev s y)
     |_=> .bad 76
   | .builtin .min=>match c.args.toList with
     |[x,y]=>qHp false (ev s x) (ev s y)
     |_=> .bad 77
   |_=> .bad 78
 |_=> .bad 79
end Go.Abs
namespace Go.Abs
open Go
variable [Kd]
section
variable {w w':World}{M M':Nat→Prop}{β β':Nat→Option Nat}{cp cp':Nat→Nat}{h h':Hp}
theorem qAB {k:IntKind}{n:Th Int}{v:Value}(hr:Rep w M β cp (.i k n) v):v= .int k (n ()):=by cases hr with|c h=>cases h;rfl
theorem qBU {x:Th Bool}{v:Value}(hr:Rep w M β cp (.b x) v):v= .bool (x ()):=by cases hr with|c h=>cases h;rfl
theorem qAN {x:Bool}{v:Value}(hr:Rep w M β cp (.bc x) v):v= .bool x:=by cases hr with|c h=>cases h;rfl
theorem qBV {x:Th ByteArray}{v:Value}(hr:Rep w M β cp (.s x) v):v= .string (x ()):=by cases hr with|c h=>cases h;rfl
theorem qAJ {v:Value}(hr:Rep w M β cp .nil v):v= .slice none 0 0:=by cases hr with|c h=>cases h;rfl
theorem qBs {l:List AV}{v:Value}(hr:Rep w M β cp (.agg l) v):∃cs:Array Value,v= .agg cs∧qAs w M β cp l cs.toList∧∀v∈cs.toList,v.oneCell'=true:=by
 cases hr with
 |c h=>cases h with|agg l cs hl ho h=>exact⟨cs,rfl,⟨by simpa using hl,fun j x hj=>by have:=h j x hj;simpa[Array.getD_eq_getD_getElem?,List.getD_eq_getElem?_getD]using Rep.c this⟩,fun v hv=>ho v (by simpa using hv)⟩
 |agg l cs hl ho h=>exact⟨cs,rfl,⟨by simpa using hl,fun j x hj=>by have:=h j x hj;simpa[Array.getD_eq_getD_getElem?,List.getD_eq_getElem?_getD]using this⟩,fun v hv=>ho v (by simpa using hv)⟩
theorem qBG {l:List AV}{v:Value}(hr:Rep w M β cp (.tup l) v):∃cs:Array Value,v= .tuple cs∧qAs w M β cp l cs.toList:=by
 cases hr with
 |c h=>cases h with|tup l cs hl h=>exact⟨cs,rfl,by simpa using hl,fun j x hj=>by have:=h j x hj;simpa[Array.getD_eq_getD_getElem?,List.getD_eq_getElem?_getD]using Rep.c this⟩
 |tup l cs hl h=>exact⟨cs,rfl,by simpa using hl,fun j x hj=>by have:=h j x hj;simpa[Array.getD_eq_getD_getElem?,List.getD_eq_getElem?_getD]using this⟩
theorem qDQ {f:FuncId}{l:List AV}{v:Value}(hr:Rep w M β cp (.fn f l) v):∃cs:Array Value,v=fnV f cs∧qAs w M β cp l cs.toList:=by
 cases hr with
 |c h=>cases h with|fn f l cs hl h=>exact⟨cs,rfl,by simpa using hl,fun j x hj=>by have:=h j x hj;simpa[Array.getD_eq_getD_getElem?,List.getD_eq_getElem?_getD]using Rep.c this⟩
 |fn f l cs hl h=>exact⟨cs,rfl,by simpa using hl,fun j x hj=>by have:=h j x hj;simpa[Array.getD_eq_getD_getElem?,List.getD_eq_getElem?_getD]using this⟩
theorem qCO {t:TypeId}{x:AV}{v:Value}(hr:Rep w M β cp (.ifc t x) v):∃u,v= .iface t u∧Rep w M β cp x u:=by
 cases hr with
 |c h=>cases h with|ifc t x u h=>exact⟨u,rfl,.c h⟩
 |ifc t x u h=>exact⟨u,rfl,h⟩
theorem qA7 {b o:Nat}{v:Value}(hr:Rep w M β cp (.ptr b o) v):∃g,β b=some g∧v= .pointer (some ⟨g,o,none⟩):=by
 cases hr with|c h=>cases h|ptr b o g h=>exact⟨g,h,rfl⟩
theorem qRE {ks:List Int}{vs:List AV}{v:Value}(hr:Rep w M β cp (.fm ks vs) v):∃g,v= .map (some g)∧∃(es:Array MapEntry) (clk:Nat) (u:Nat→Value),¬M g∧w.heap[g]? =some (.map es clk)∧es.size=ks.length∧vs.length=ks.length∧
  (∀(j:Nat) (k:Int),ks[j]? =some k→∃e,es[j]? =some e∧e.key= .int .i64 k∧e.val=u j)∧∀(j:Nat) (x:AV),vs[j]? =some x→Rep w M β cp x (u j):=by
 cases hr with
 |c h=>cases h
 |fm ks vs g es clk u h1 h2 h3 h4 h5 h6=>exact⟨g,rfl,es,clk,u,h1,h2,h3,h4,h5,h6⟩
theorem qRF (f:FuncId):Rep w M β cp (.fn f []) (.func (.func f) #[] #[]):=by
 have h:Rep w M β cp (.fn f []) (fnV f #[]):= .fn f [] #[] rfl (fun j x hj=>by simp at hj)
 rw[qJW]at h
 exact h
theorem qE2 {b:Nat}{v:Value}(hr:Rep w M β cp (.mr b) v):∃g,β b=some g∧v= .map (some g):=by
 cases hr with|c h=>cases h|mr b g h=>exact⟨g,h,rfl⟩
theorem qBH {b sz o:Nat}{i:Th Nat}{v:Value}(hr:Rep w M β cp (.ept b sz i o) v):∃g,β b=some g∧v= .pointer (some ⟨g,i ()*sz+o,none⟩):=by
 cases hr with|c h=>cases h|ept b sz i o g h=>exact⟨g,h,rfl⟩
theorem qW {b:Nat}{n:Th Nat}{v:Value}(hr:Rep w M β cp (.own b n) v):
  (n ()=0∧v= .slice none 0 0)∨∃g,β b=some g∧n ()≤cp b∧v= .slice (some ⟨g,0,none⟩) (n ()) (cp b):=by
 cases hr with
 |c h=>cases h
 |own0 b n hn=>exact .inl ⟨hn,rfl⟩
 |own b n g h hn=>exact .inr ⟨g,h,hn,rfl⟩
theorem qB8 {b sz:Nat}{p n:Th Nat}{v:Value}(hr:Rep w M β cp (.vw b sz p n) v):
  (n ()=0∧∃a c,c≤maxLen∧v= .slice a 0 c)∨∃g,β b=some g∧p ()+n ()≤cp b∧v= .slice (some ⟨g,p ()*sz,none⟩) (n ()) (cp b-p ()):=by
 cases hr with
 |c h=>cases h
 |vw0 b sz p n a c hn hc=>exact .inl ⟨hn,a,c,hc,rfl⟩
 |vw b sz p n g h hn=>exact .inr ⟨g,h,hn,rfl⟩
theorem qBK {b:Nat}{n:Th Nat}{v:Value}(hr:Rep w M β cp (.nn b n) v):
  ∃g,β b=some g∧n ()≤cp b∧v= .slice (some ⟨g,0,none⟩) (n ()) (cp b):=by
 cases hr with
 |c h=>cases h
 |nn b n g h hn=>exact⟨g,h,hn,rfl⟩
theorem qIG {l:List AV}{v:Value}(hr:Rep w M β cp (.rp l) v):∃(a:Addr) (u:Nat→Value),v= .pointer (some a)∧¬M a.block∧0<l.length∧(∀j,j<l.length→w.cell? (a.add j)=some (u j))∧(∀j,j<l.length→(u j).oneCell'=true)∧
  ∀(j:Nat) (x:AV),l[j]? =some x→RepC w M x (u j):=by
 cases hr with|c h=>cases h with|rp l a u hM hl hc ho hh=>exact⟨a,u,rfl,hM,hl,hc,ho,hh⟩
theorem qE3 {sz:Nat}{n:Th Nat}{f:Th Nat→List AV}{v:Value}(hr:Rep w M β cp (.sl sz n f) v):∃(a:Option Addr) (c:Nat),v= .slice a (n ()) c∧n ()≤c∧c≤maxLen∧
  (0<n ()→∃(ad:Addr) (u:Nat→Nat→Value),a=some ad∧¬M ad.block∧0<sz∧(∀i:Nat,i<n ()→(f fun _=>i).length=sz)∧
    (∀i j,i<n ()→j<sz→w.cell? (ad.add (i*sz+j))=some (u i j))∧(∀i j,i<n ()→j<sz→(u i j).oneCell'=true)∧∀(i j:Nat) (x:AV),i<n ()→(f fun _=>i)[j]? =some x→RepC w M x (u i j)):=by
 cases hr with
 |c h=>
  cases h with
  |sl0 sz n f a c hn hc=>exact⟨a,c,by rw[hn],by omega,hc,fun h=>by omega⟩
  |sl sz n f a c u hM hsz hn hc hlen hcell ho h=>exact⟨some a,c,rfl,hn,hc,fun _=>⟨a,u,rfl,hM,hsz,hlen,hcell,ho,h⟩⟩
theorem qK {α:Type}(l:List α):len l=l.length:=by induction l with|nil=>rfl|cons x r ih=>simp[len,ih]
theorem qAt {α:Type}(d:α):∀(l:List α) (n:Nat),nth d l n=l.getD n d
 |[],_=>by simp[nth]
 |x::_,0=>by simp[nth]
 |_::r,n+1=>by simp[nth,qAt d r n]
theorem qAr {α:Type}:∀(n:Nat) (l:List α),qAI n l=l.drop n
 |0,l=>by simp[qAI]
 |n+1,[]=>by simp[qAI]
 |n+1,_::r=>by simp[qAI,qAr n r]
theorem qDR {α:Type}:∀(n:Nat) (l:List α),takeN n l=l.take n
 |0,l=>by simp[takeN]
 |n+1,[]=>by simp[takeN]
 |n+1,x::r=>by simp[takeN,qDR n r]
theorem qBg:∀(n:Nat) (vs cs:List AV),n+vs.length≤cs.length→splice n vs cs=cs.take n++vs++cs.drop (n+vs.length)
 |0,[],cs,_=>by cases cs<;>simp[splice]
 |0,v::vs,[],h=>by simp at h
 |0,v::vs,c::cs,h=>by
  simp only[splice]
  rw[qBg 0 vs cs (by simp at h ⊢;omega)]
  simp
 |n+1,vs,[],h=>by simp at h
 |n+1,vs,c::cs,h=>by
  simp only[splice]
  rw[qBg n vs cs (by simp at h;omega)]
  simp[show n+1+vs.length=(n+vs.length)+1 by omega]
theorem qQ {a b:Nat}:Nat.blt a b=true↔a<b:=by unfold Nat.blt;rw[Nat.ble_eq];omega
theorem qAO {a b:Nat}:Nat.ble a b=true↔a≤b:=by rw[Nat.ble_eq]
omit [Kd]in
theorem qC {a b:Nat}:Nat.beq a b=true↔a=b:=by rw[Nat.beq_eq]
theorem qBx {n b:Nat}{o x:AObj}(hn:n≤h.length) (hg:(qBe h n o)[b]? =some x):(b=n∧x=o)∨(b≠n∧h[b]? =some x):=by
 unfold qBe at hg
 rw[qK]at hg
 split at hg
 ·rw[List.getElem?_set]at hg
  split at hg
  ·split at hg
   ·exact .inl ⟨by omega,by cases hg;rfl⟩
   ·cases hg
  ·exact .inr ⟨by omega,hg⟩
 ·rename_i hl
  have hl':n=h.length:=by
   have:¬n<h.length:=fun hlt=>by rw[qQ.2 hlt]at hl;cases hl
   omega
  rw[List.getElem?_append]at hg
  split at hg
  ·exact .inr ⟨by omega,hg⟩
  ·rename_i hb
   have:b-h.length=0:=by
    rcases Nat.eq_zero_or_pos (b-h.length)with h0|h0
    ·exact h0
    ·rw[List.getElem?_eq_none (by simp;omega)]at hg;cases hg
   rw[this]at hg
   exact .inl ⟨by omega,by simpa using hg.symm⟩
theorem qDa {n:Nat}{o:AObj}(hn:n≤h.length):h.length≤(qBe h n o).length∧n<(qBe h n o).length:=by
 unfold qBe
 rw[qK]
 split
 ·rename_i hl
  simpa using qQ.1 hl
 ·simp;omega
def qAL (w:World) (β:Nat→Option Nat) (h:Hp) (k:Nat):Prop:=∃b o g,h[b]? =some o∧o.live=true∧β b=some g∧Foot w g o k
structure After (w:World) (M:Nat→Prop) (β:Nat→Option Nat) (cp:Nat→Nat) (h:Hp) (w':World) (M':Nat→Prop) (β':Nat→Option Nat) (cp':Nat→Nat) (h':Hp):Prop where
 heap:HeapRel w' M' β' cp' h'
 keep:∀k,k<w.heap.size→¬M k→w'.heap[k]? =w.heap[k]? ∧¬M' k
 bk:∀b,β b≠none→β' b=β b∧cp' b=cp b
 ext:Ext w M (qAL w β h) w' M'
 own:∀g,qAL w' β' h' g→qAL w β h g∨w.heap.size≤g
 nn:∀b,β b=none→β' b≠none→∃o,h'[b]? =some o∧o.live=true
theorem After.refl (hh:HeapRel w M β cp h):After w M β cp h w M β cp h:=⟨hh,fun _ _ hM=>⟨rfl,hM⟩,fun _ _=>⟨rfl,rfl⟩,Ext.refl _ _ _,fun _ hg=> .inl hg,fun _ h1 h2=>absurd h1 h2⟩
theorem NstRel.keep {c e sz n:Nat}{F:Th Nat→List NC}{op:Option (Th Nat×List AV)}{g:Nat}{cur:Array Value}(hr:NstRel w M β cp c e sz n F op g cur)
  (hw:∀k,k<w.heap.size→¬M k→w'.heap[k]? =w.heap[k]? ∧¬M' k) (hβ:∀b,β b≠none→β' b=β b∧cp' b=cp b)
  (hf:∀k,(k=g∨∃i j x,i<n∧¬opAt op i∧(F fun _=>i)[j]? =some x∧VFoot w x (cur.getD (i*sz+j) undef) k)→w'.heap[k]? =w.heap[k]? ∧(M k→M' k)):
  NstRel w' M' β' cp' c e sz n F op g cur∧∀i j x k,i<n→¬opAt op i→(F fun _=>i)[j]? =some x→VFoot w' x (cur.getD (i*sz+j) undef) k→VFoot w x (cur.getD (i*sz+j) undef) k:=by
 have hi:∀(i j:Nat) (x:NC),i<n→¬opAt op i→(F fun _=>i)[j]? =some x→OwnV w' M' x (cur.getD (i*sz+j) undef)∧∀k,VFoot w' x (cur.getD (i*sz+j) undef) k→VFoot w x (cur.getD (i*sz+j) undef) k:=
  fun i j x h1 h2 h3=>(hr.own i j x h1 h2 h3).keep hw fun k hk=>hf k (.inr ⟨i,j,x,h1,h2,h3,hk⟩)
 have hg:=hf g (.inl rfl)
 refine⟨⟨hg.2 hr.hM,hg.1.trans hr.cell,hr.size,hr.ones,hr.le,hr.max,hr.len,fun i j x h1 h2 h3=>(hi i j x h1 h2 h3).1,fun i j i' j' x x' k h1 h1' h2 h2' h3 h3' h4 h4'=> ?_,fun i j x k h1 h2 h3 h4=>hr.ne i j x k h1 h2 h3 ((hi i j x h1 h2 h3).2 k h4),fun k cs ho=> ?_⟩,fun i j x k h1 h2 h3 h4=>(hi i j x h1 h2 h3).2 k h4⟩
 ·exact hr.dis i j i' j' x x' k h1 h1' h2 h2' h3 h3' ((hi i j x h1 h2 h3).2 k h4) ((hi i' j' x' h1' h2' h3').2 k h4')
 ·have:=hr.opn k cs ho
  exact⟨this.1,this.2.1,fun j x hj=>(this.2.2 j x hj).keep hw hβ⟩
theorem NstRel.kept {c:Nat}{e:TypeId}{sz:Nat}{n:Th Nat}{F:Th Nat→List NC}{op:Option (Th Nat×List AV)}{g:Nat}{cur:Array Value}(r:NstRel w M β cp c e sz (n ()) F op g cur) {f:List AV→List AV}
  (hw:∀k,k<w.heap.size→¬M k→w'.heap[k]? =w.heap[k]? ∧¬M' k) (hf:∀k,Foot w g (.nst e sz n F op) k→w'.heap[k]? =w.heap[k]? ∧(M k→M' k))
  (hL:∀l vs,qAs w M β cp l vs→qAs w' M' β' cp' (f l) vs):NstRel w' M' β' cp' c e sz (n ()) F (Abs.opMap f op) g cur:=by
 have h0:NstRel w M (fun _=>none) (fun _=>0) c e sz (n ()) F (Abs.opMap (List.map fun _=>AV.any) op) g cur:=r.opMap _ fun l vs h=>⟨by simpa using h.1,fun j x hj=>by
  rw[List.getElem?_map]at hj
  cases hx:l[j]? with
  |none=>rw[hx]at hj;cases hj
  |some z=>rw[hx]at hj;cases hj;exact .c (.any _)⟩
 have h1:=(h0.keep (β':=β') (cp':=cp') hw (fun b hb=>absurd rfl hb) fun k hk=>by
  rcases hk with rfl|⟨i,j,x,q1,q2,q3,q4⟩
  ·exact hf _ (.self _)
  ·exact hf k (.inn e sz n F op cur i j x k r.cell q1 (fun h=>q2 ((qAA _ op i).2 h)) q3 q4)).1
 refine⟨h1.hM,h1.cell,h1.size,h1.ones,h1.le,h1.max,fun i hi ho=>r.len i hi fun h=>ho ((qAA f op i).2 h),fun i j x hi ho=>h1.own i j x hi fun h=>ho ((qAA f op i).2 ((qAA _ op i).1 h)),
  fun i j i' j' x x' k hi hi' ho ho'=>h1.dis i j i' j' x x' k hi hi' (fun h=>ho ((qAA f op i).2 ((qAA _ op i).1 h))) fun h=>ho' ((qAA f op i').2 ((qAA _ op i').1 h)),
  fun i j x k hi ho=>h1.ne i j x k hi fun h=>ho ((qAA f op i).2 ((qAA _ op i).1 h)),fun k cs ho=> ?_⟩
 match op,ho with
 |some (k0,cs0),ho=>
  cases ho
  obtain⟨p1,p2,p3⟩:=r.opn k cs0 rfl
  have hL0:qAs w M β cp cs0 ((List.range sz).map fun j=>cur.getD (k ()*sz+j) undef):=⟨by simp[p2],fun j x hj=>by
   have hjs:j<sz:=by rw[←p2];exact(List.getElem?_eq_some_iff.1 hj).1
   have:=p3 j x hj
   simpa[List.getD_eq_getElem?_getD,hjs]using this⟩
  have h2:=hL _ _ hL0
  have h3:(f cs0).length=sz:=by have:=h2.1;simp at this;omega
  refine⟨p1,h3,fun j x hj=> ?_⟩
  have hjs:j<sz:=by rw[←h3];exact(List.getElem?_eq_some_iff.1 hj).1
  have h4:=h2.2 j x hj
  simpa[List.getD_eq_getElem?_getD,hjs]using h4
theorem qPP {b g k:Nat}{o:AObj}(hr:qAo w M β cp b o) (hl:o.live=true) (hg:β b=some g) (hk:Foot w g o k):M k∧k<w.heap.size:=by
 have self:M g∧g<w.heap.size:=by
  cases o with
  |dead=>cases hl
  |blk cs=>obtain⟨g',cur,t,h1,h2,h3,h4⟩:=hr;rw[hg]at h1;cases h1;exact⟨h2,(Array.getElem?_eq_some_iff.1 h3).1⟩
  |vec e sz n f=>
   rcases hr with⟨h1,h2⟩|⟨g',cur,h1,h2,h3,_⟩
   ·rw[hg]at h1;cases h1
   ·rw[hg]at h1;cases h1;exact⟨h2,(Array.getElem?_eq_some_iff.1 h3).1⟩
  |fz q n f=>obtain⟨g',cur,t,fr,h1,h2,h3,h4⟩:=hr;rw[hg]at h1;cases h1;exact⟨h2,(Array.getElem?_eq_some_iff.1 h3).1⟩
  |mp T l=>obtain⟨g',es,clk,h1,h2,h3,h4⟩:=hr;rw[hg]at h1;cases h1;exact⟨h2,(Array.getElem?_eq_some_iff.1 h3).1⟩
  |nst e sz n F op=>
   rcases hr with⟨h1,h2⟩|⟨g',cur,h1,h2⟩
   ·rw[hg]at h1;cases h1
   ·rw[hg]at h1;cases h1;exact⟨h2.hM,(Array.getElem?_eq_some_iff.1 h2.cell).1⟩
 cases hk with
 |self=>exact self
 |inn e sz n F op cur i j x k h1 hi ho hx hk=>
  rcases hr with⟨q1,q2⟩|⟨g',cur',q1,q2⟩
  ·rw[hg]at q1;cases q1
  ·rw[hg]at q1
   cases q1
   have:=h1.symm.trans q2.cell
   simp only[Option.some.injEq,Obj.cells.injEq]at this
   obtain⟨rfl,-,-⟩:=this
   exact hk.own (q2.own i j x hi ho hx)
theorem qAP {b g k:Nat}{o:AObj}(hr:qAo w M β cp b o) (hw:∀k,k<w.heap.size→¬M k→w'.heap[k]? =w.heap[k]? ∧¬M' k) (hg:β b=some g)
  (hf:∀k,Foot w g o k→w'.heap[k]? =w.heap[k]? ∧(M k→M' k)) (hk:Foot w' g o k):Foot w g o k:=by
 cases hk with
 |self=>exact .self o
 |inn e sz n F op cur i j x k h1 hi ho hx hk=>
  rcases hr with⟨q1,q2⟩|⟨g',cur',q1,q2⟩
  ·rw[hg]at q1;cases q1
  ·rw[hg]at q1
   cases q1
   rw[(hf g (.self _)).1,q2.cell]at h1
   simp only[Option.some.injEq,Obj.cells.injEq]at h1
   obtain⟨rfl,-,-⟩:=h1
   refine .inn e sz n F op cur' i j x k q2.cell hi ho hx ?_
   refine((q2.own i j x hi ho hx).keep hw fun k hk=> ?_).2 k hk
   exact hf k (.inn e sz n F op cur' i j x k q2.cell hi ho hx hk)
theorem qAo.keep {b:Nat}{o:AObj}(hr:qAo w M β cp b o) (hw:∀k,k<w.heap.size→¬M k→w'.heap[k]? =w.heap[k]? ∧¬M' k) (hβ:∀b,β b≠none→β' b=β b∧cp' b=cp b)
  (hb:β b=none→β' b=none) (hf:∀g k,β b=some g→Foot w g o k→w'.heap[k]? =w.heap[k]? ∧(M k→M' k)):qAo w' M' β' cp' b o:=by
 have hg:∀g,β b=some g→w'.heap[g]? =w.heap[g]? ∧(M g→M' g):=fun g h=>hf g g h (.self o)
 cases o with
 |dead=>trivial
 |blk cs=>
  obtain⟨g,cur,t,h1,h2,h3,h4,h6⟩:=hr
  have h5:=hβ b (by simp[h1])
  exact⟨g,cur,t,h5.1.trans h1,(hg g h1).2 h2,(hg g h1).1.trans h3,h4.keep hw hβ,⟨h6.1,by rw[h5.2];exact h6.2⟩⟩
 |vec e sz n f=>
  rcases hr with⟨h1,h2⟩|⟨g,cur,h1,h2,h3,h4,ho,h5,h6,h7,h8⟩
  ·exact .inl ⟨hb h1,h2⟩
  ·have h9:=hβ b (by simp[h1])
   exact .inr ⟨g,cur,h9.1.trans h1,(hg g h1).2 h2,(hg g h1).1.trans h3,by rw[h9.2];exact h4,by rw[h9.2];exact ho,by rw[h9.2];exact h5,by rw[h9.2];exact h6,h7,fun i j x hi hj=>(h8 i j x hi hj).keep hw⟩
 |fz q n f=>
  obtain⟨g,cur,t,fr,h1,h2,h3,h4,h6,h7,h8⟩:=hr
  have h5:=hβ b (by simp[h1])
  exact⟨g,cur,t,fr,h5.1.trans h1,(hg g h1).2 h2,(hg g h1).1.trans h3,h4,⟨h6.1,by rw[h5.2];exact h6.2⟩,h7,fun i j x hi hj=>(h8 i j x hi hj).keep hw⟩
 |mp T l=>
  obtain⟨g,es,clk,h1,h2,h3,h4⟩:=hr
  exact⟨g,es,clk,(hβ b (by simp[h1])).1.trans h1,(hg g h1).2 h2,(hg g h1).1.trans h3,h4⟩
 |nst e sz n F op=>
  rcases hr with⟨h1,h2⟩|⟨g,cur,h1,h2⟩
  ·exact .inl ⟨hb h1,h2⟩
  ·have h9:=hβ b (by simp[h1])
   refine .inr ⟨g,cur,h9.1.trans h1, ?_⟩
   rw[h9.2]
   refine(h2.keep hw hβ fun k hk=> ?_).1
   rcases hk with rfl|⟨i,j,x,q1,q2,q3,q4⟩
   ·exact hg _ h1
   ·exact hf g k h1 (.inn e sz n F op cur i j x k h2.cell q1 q2 q3 q4)
theorem HeapRel.foot {b g k:Nat}{o:AObj}(hh:HeapRel w M β cp h) (hb:h[b]? =some o) (hl:o.live=true) (hg:β b=some g) (hk:Foot w g o k):M k∧k<w.heap.size:=qPP (hh.obj b o hb) hl hg hk
theorem HeapRel.ne (hh:HeapRel w M β cp h) {c b g' g k:Nat}{y o:AObj}(hne:c≠b) (hy:h[c]? =some y) (hb:h[b]? =some o) (hly:y.live=true) (hl:o.live=true) (hg':β c=some g') (hg:β b=some g) (hk:Foot w g' y k):k≠g:=
 fun e=>hne (hh.inj2 c b y o g' g k hy hb hly hl hg' hg hk (by rw[e];exact .self o))
theorem qBQ {f:List AV→List AV}{g k:Nat}{e:TypeId}{sz:Nat}{n:Th Nat}{F:Th Nat→List NC}{op:Option (Th Nat×List AV)}(hk:Foot w g (.nst e sz n F (opMap f op)) k):Foot w g (.nst e sz n F op) k:=by
 cases hk with
 |self=>exact .self _
 |inn _ _ _ _ _ cur i j x k h1 hi ho hx hk=>exact .inn e sz n F op cur i j x k h1 hi (fun h=>ho ((qAA f op i).2 h)) hx hk
theorem HeapRel.set0 (hh:HeapRel w M β cp h) {b:Nat}{o':AObj}(e1:β b=none) (ho:qAo w M β cp b o'):HeapRel w M β cp (h.set b o')∧∀k,qAL w β (h.set b o') k→qAL w β h k:=by
 have hget:∀c x g,(h.set b o')[c]? =some x→β c=some g→h[c]? =some x:=by
  intro c x g hc hg
  rw[List.getElem?_set]at hc
  split at hc
  ·rename_i q;subst q;rw[e1]at hg;cases hg
  ·exact hc
 refine⟨⟨fun c hc=>hh.out c (by simpa using hc),fun c y hy=> ?_,fun c c' y y' g g' k hy hy' hl hl' hg hg'=>hh.inj2 c c' y y' g g' k (hget c y g hy hg) (hget c' y' g' hy' hg') hl hl' hg hg',hh.dom⟩,fun k ⟨c,x,g,hc,hl,hg,hk⟩=>⟨c,x,g,hget c x g hc hg,hl,hg,hk⟩⟩
 rw[List.getElem?_set]at hy
 split at hy
 ·split at hy
  ·rename_i q _;subst q;cases hy;exact ho
  ·cases hy
 ·exact hh.obj c y hy
theorem VFoot.same (hw:w'.heap=w.heap) {x:NC}{v:Value}{k:Nat}(h:VFoot w x v k):VFoot w' x v k:=by
 induction h with
 |sl e sz n f a m c=>exact .sl e sz n f a m c
 |pt l a=>exact .pt l a
 |inn l a cur t fr j x k h1 h2 h3 ih=>exact .inn l a cur t fr j x k (by rw[hw];exact h1) h2 ih
 |ite1 c x y v k hc h ih=>exact .ite1 c x y v k hc ih
 |ite2 c x y v k hc h ih=>exact .ite2 c x y v k hc ih
theorem Foot.same (hw:w'.heap=w.heap) {g k:Nat}{o:AObj}(h:Foot w g o k):Foot w' g o k:=by
 cases h with
 |self=>exact .self o
 |inn e sz n F op cur i j x k h1 hi ho hx hk=>exact .inn e sz n F op cur i j x k (by rw[hw];exact h1) hi ho hx (hk.same hw)
theorem qAL.same (hw:w'.heap=w.heap) {k:Nat}(hk:qAL w β h k):qAL w' β h k:=by
 obtain⟨b,o,g,h1,h2,h3,h4⟩:=hk
 exact⟨b,o,g,h1,h2,h3,h4.same hw⟩
theorem HeapRel.same (hh:HeapRel w M β cp h) (hw:w'.heap=w.heap):HeapRel w' M β cp h:=
 ⟨hh.out,fun b o hb=>(hh.obj b o hb).keep (fun k _ hM=>⟨by rw[hw],hM⟩) (fun _ _=>⟨rfl,rfl⟩) id fun g k _ _=>⟨by rw[hw],id⟩,fun b b' o o' g g' k hb hb' hl hl' hg hg' hk hk'=>hh.inj2 b b' o o' g g' k hb hb' hl hl' hg hg' (hk.same hw.symm) (hk'.same hw.symm),hh.dom.go (fun k _ hM=>⟨by rw[hw],hM⟩) fun k hk=>by rw[hw];exact hh.dom.1 k hk⟩
theorem HeapRel.grow (hh:HeapRel w M β cp h) (hs:w.heap.size≤w'.heap.size) (hsame:∀k,k<w.heap.size→w'.heap[k]? =w.heap[k]?):HeapRel w' M β cp h∧∀k,qAL w' β h k→qAL w β h k:=by
 have hkeep:∀k,k<w.heap.size→¬M k→w'.heap[k]? =w.heap[k]? ∧¬M k:=fun k hk hM=>⟨hsame k hk,hM⟩
 have back:∀c y g k,h[c]? =some y→y.live=true→β c=some g→Foot w' g y k→Foot w g y k:=fun c y g k hy hl hg hk=>
  qAP (hh.obj c y hy) hkeep hg (fun k hk=>⟨hsame k (hh.foot hy hl hg hk).2,id⟩) hk
 refine⟨⟨hh.out,fun b o hb=> ?_,fun b b' o o' g g' k hb hb' hl hl' hg hg' hk hk'=>hh.inj2 b b' o o' g g' k hb hb' hl hl' hg hg' (back b o g k hb hl hg hk) (back b' o' g' k hb' hl' hg' hk'),hh.dom.go hkeep fun k hk=>Nat.lt_of_lt_of_le (hh.dom.1 k hk) hs⟩,fun k ⟨b,o,g,hb,hl,hg,hk⟩=>⟨b,o,g,hb,hl,hg,back b o g k hb hl hg hk⟩⟩
 by_cases ho:o.live=true
 ·exact(hh.obj b o hb).keep hkeep (fun _ _=>⟨rfl,rfl⟩) id fun g k hg hk=>⟨hsame k (hh.foot hb ho hg hk).2,id⟩
 ·cases o<;>first|trivial|exact absurd rfl ho
theorem HeapRel.put (hh:HeapRel w M β cp h) {nid:Nat}{O:AObj}{Kp:Nat→Prop}
  (hget:∀c o',h'[c]? =some o'→(c=nid∧o'=O)∨(c≠nid∧(o'= .dead∨(Kp c∧h[c]? =some o'))))
  (hβ':∀c,c≠nid→β' c=β c∧cp' c=cp c) (hout:∀c,h'.length≤c→c≠nid∧h.length≤c) (hd:β nid=none)
  (hkeep:∀k,k<w.heap.size→¬M k→w'.heap[k]? =w.heap[k]? ∧¬M' k)
  (hO:qAo w' M' β' cp' nid O) (hOn:∀g k,β' nid=some g→O.live=true→Foot w' g O k→k=g)
  (hsame:∀c y g k,Kp c→h[c]? =some y→y.live=true→β c=some g→Foot w g y k→w'.heap[k]? =w.heap[k]? ∧(M k→M' k))
  (hnew:∀g0,β' nid=some g0→O.live=true→∀c y g,Kp c→h[c]? =some y→y.live=true→β c=some g→¬Foot w g y g0)
  (hdom:∀k,M' k→k<w'.heap.size):HeapRel w' M' β' cp' h'∧∀k,qAL w' β' h' k→(β' nid=some k∧O.live=true)∨qAL w β h k:=by
 have hbk:∀b,β b≠none→β' b=β b∧cp' b=cp b:=fun b hb=>hβ' b (by rintro rfl;exact hb hd)
 have back:∀c y g k,Kp c→h[c]? =some y→y.live=true→β c=some g→Foot w' g y k→Foot w g y k:=fun c y g k hK hy hl hg hk=>
  qAP (hh.obj c y hy) hkeep hg (fun k hk=>hsame c y g k hK hy hl hg hk) hk
 have one:∀c o g k,h'[c]? =some o→o.live=true→β' c=some g→Foot w' g o k→(c=nid∧o=O∧β' nid=some k∧O.live=true)∨(c≠nid∧Kp c∧h[c]? =some o∧β c=some g∧Foot w g o k):=by
  intro c o g k hc hl hg hk
  rcases hget c o hc with⟨rfl,rfl⟩|⟨hne,rfl|⟨hK,hy⟩⟩
  ·have:=hOn g k hg hl hk
   subst this
   exact .inl ⟨rfl,rfl,hg,hl⟩
  ·cases hl
  ·rw[(hβ' c hne).1]at hg
   exact .inr ⟨hne,hK,hy,hg,back c o g k hK hy hl hg hk⟩
 refine⟨⟨fun c hc=> ?_,fun c o hc=> ?_,fun c c' o1 o2 g1 g2 k hc hc' hl1 hl2 hg1 hg2 hk1 hk2=> ?_,hh.dom.go hkeep hdom⟩,fun k ⟨c,o,g,hc,hl,hg,hk⟩=> ?_⟩
 ·have:=hout c hc
  rw[(hβ' c this.1).1]
  exact hh.out c this.2
 ·rcases hget c o hc with⟨rfl,rfl⟩|⟨hne,rfl|⟨hK,hy⟩⟩
  ·exact hO
  ·trivial
  ·by_cases hl:o.live=true
   ·exact(hh.obj c o hy).keep hkeep hbk (fun h0=>by rw[(hβ' c hne).1];exact h0) fun g k hg hk=>hsame c o g k hK hy hl hg hk
   ·cases o<;>first|trivial|exact absurd rfl hl
 ·rcases one c o1 g1 k hc hl1 hg1 hk1 with⟨a1,a2,a3,a4⟩|⟨a1,a2,a3,a4,a5⟩<;>rcases one c' o2 g2 k hc' hl2 hg2 hk2 with⟨b1,b2,b3,b4⟩|⟨b1,b2,b3,b4,b5⟩
  ·omega
  ·exact absurd b5 (hnew k a3 a4 c' o2 g2 b2 b3 hl2 b4)
  ·exact absurd a5 (hnew k b3 b4 c o1 g1 a2 a3 hl1 a4)
  ·exact hh.inj2 c c' o1 o2 g1 g2 k a3 b3 hl1 hl2 a4 b4 a5 b5
 ·rcases one c o g k hc hl hg hk with⟨a1,a2,a3,a4⟩|⟨a1,a2,a3,a4,a5⟩
  ·exact .inl ⟨a3,a4⟩
  ·exact .inr ⟨c,o,g,a3,hl,a4,a5⟩
theorem HeapRel.set1 (hh:HeapRel w M β cp h) {b:Nat}{o O:AObj}(hb:h[b]? =some o) (hl:o.live=true) (hkeep:∀k,k<w.heap.size→¬M k→w'.heap[k]? =w.heap[k]? ∧¬M' k)
  (hO:qAo w' M' β cp b O) (hon:∀g k,β b=some g→Foot w' g O k→Foot w g o k)
  (hsame:∀c x g k,c≠b→h[c]? =some x→x.live=true→β c=some g→Foot w g x k→w'.heap[k]? =w.heap[k]? ∧(M k→M' k)) (hdom:∀k,M' k→k<w'.heap.size):
  HeapRel w' M' β cp (h.set b O)∧∀k,qAL w' β (h.set b O) k→qAL w β h k:=by
 have hget:∀c x,(h.set b O)[c]? =some x→(c=b∧x=O)∨(c≠b∧h[c]? =some x):=by
  intro c x hc
  rw[List.getElem?_set]at hc
  split at hc
  ·split at hc
   ·exact .inl ⟨by omega,by cases hc;rfl⟩
   ·cases hc
  ·exact .inr ⟨by omega,hc⟩
 have one:∀c x g k,(h.set b O)[c]? =some x→x.live=true→β c=some g→Foot w' g x k→∃y,h[c]? =some y∧y.live=true∧Foot w g y k:=by
  intro c x g k hc hlx hg hk
  rcases hget c x hc with⟨rfl,rfl⟩|⟨hne,hc⟩
  ·exact⟨o,hb,hl,hon g k hg hk⟩
  ·exact⟨x,hc,hlx,qAP (hh.obj c x hc) hkeep hg (fun k hk=>hsame c x g k hne hc hlx hg hk) hk⟩
 refine⟨⟨fun c hc=>hh.out c (by simpa using hc),fun c x hc=> ?_,fun c c' x x' g g' k hc hc' hlx hlx' hg hg' hk hk'=> ?_,hh.dom.go hkeep hdom⟩,fun k ⟨c,x,g,hc,hlx,hg,hk⟩=> ?_⟩
 ·rcases hget c x hc with⟨rfl,rfl⟩|⟨hne,hc⟩
  ·exact hO
  ·by_cases hlx:x.live=true
   ·exact(hh.obj c x hc).keep hkeep (fun _ _=>⟨rfl,rfl⟩) id fun g k hg hk=>hsame c x g k hne hc hlx hg hk
   ·cases x<;>first|trivial|exact absurd rfl hlx
 ·obtain⟨y,h1,h2,h3⟩:=one c x g k hc hlx hg hk
  obtain⟨y',h1',h2',h3'⟩:=one c' x' g' k hc' hlx' hg' hk'
  exact hh.inj2 c c' y y' g g' k h1 h1' h2 h2' hg hg' h3 h3'
 ·obtain⟨y,h1,h2,h3⟩:=one c x g k hc hlx hg hk
  exact⟨c,y,g,h1,h2,hg,h3⟩
theorem heap_alloc (w:World) (o:Obj) (k:Nat) (hk:k<w.heap.size):(w.alloc o).heap[k]? =w.heap[k]? :=by
 show(w.heap.push o)[k]? =_
 rw[Array.getElem?_push,if_neg (by omega)]
theorem qAl (w:World) (o:Obj):(w.alloc o).heap[w.heap.size]? =some o:=by
 show(w.heap.push o)[w.heap.size]? =_
 rw[Array.getElem?_push,if_pos rfl]
def qZ (β:Nat→Option Nat) (n:Nat) (g:Option Nat):Nat→Option Nat:=fun b=>if b=n then g else β b
def qAk (β:Nat→Nat) (n:Nat) (g:Nat):Nat→Nat:=fun b=>if b=n then g else β b
theorem qCm (hh:HeapRel w M β cp h) {nid:Nat}(hn:nid≤h.length) (hd:β nid=none) (ob:Obj) (c:Nat) (o:AObj) (hol:o.live=true)
  (ho:qAo (w.alloc ob) (fun k=>M k∨k=w.heap.size) (qZ β nid (some w.heap.size)) (qAk cp nid c) nid o) (hon:∀k,Foot (w.alloc ob) w.heap.size o k→k=w.heap.size:=by exact fun k hk=>hk.eq nofun):
  After w M β cp h (w.alloc ob) (fun k=>M k∨k=w.heap.size) (qZ β nid (some w.heap.size)) (qAk cp nid c) (qBe h nid o):=by
 have hblk:∀b o g k,h[b]? =some o→o.live=true→β b=some g→Foot w g o k→k<w.heap.size:=fun b o g k hb hl hg hk=>(hh.foot hb hl hg hk).2
 have hkeep:∀k,k<w.heap.size→¬M k→(w.alloc ob).heap[k]? =w.heap[k]? ∧¬(M k∨k=w.heap.size):=fun k hk hM=>⟨heap_alloc w ob k hk,by intro h;rcases h with h|h;exact hM h;omega⟩
 have hβ:∀b,β b≠none→qZ β nid (some w.heap.size) b=β b∧qAk cp nid c b=cp b:=by
  intro b hb
  have:b≠nid:=by rintro rfl;exact hb hd
  simp[qZ,qAk,this]
 refine⟨⟨?_, ?_, ?_,hh.dom.go hkeep fun k hk=>by show _<(w.heap.push ob).size;rw[Array.size_push];rcases hk with hk|hk;exact Nat.lt_succ_of_lt (hh.dom.1 k hk);omega⟩,hkeep,hβ,⟨rfl,rfl,rfl,by show _≤(w.heap.push ob).size;simp,fun k hk _=>heap_alloc w ob k hk,fun k _ _ hk=> .inl hk,fun k hk=>hk.elim .inl (by intro h;right;omega)⟩, ?_,fun b h1 h2=> ?_⟩
 ·intro b hb
  have h1:=qDa (o:=o) hn
  have:b≠nid:=by omega
  simp only[qZ,this,if_false]
  exact hh.out b (by omega)
 ·intro b o' hb
  rcases qBx hn hb with⟨rfl,rfl⟩|⟨hne,hb'⟩
  ·exact ho
  ·have h1:=hh.obj b o' hb'
   by_cases hlive:o'.live=true
   ·exact h1.keep hkeep hβ (fun h0=>by simp[qZ,hne,h0]) fun g k hg hk=>⟨heap_alloc w ob k (hblk b o' g k hb' hlive hg hk),.inl⟩
   ·cases o'<;>first|trivial|simp[AObj.live]at hlive
 ·intro b b' o1 o2 g g' k hb hb' hl1 hl2 hg hg' hk hk'
  have back:∀b o g k,h[b]? =some o→o.live=true→β b=some g→Foot (w.alloc ob) g o k→Foot w g o k:=fun b o g k hb hl hg hk=>
   qAP (hh.obj b o hb) hkeep hg (fun k hk=>⟨heap_alloc w ob k (hblk b o g k hb hl hg hk),.inl⟩) hk
  rcases qBx hn hb with⟨rfl,rfl⟩|⟨hne,hb1⟩
  ·rcases qBx hn hb' with⟨rfl,rfl⟩|⟨hne',hb1'⟩
   ·rfl
   ·simp only[qZ,if_true,hne',if_false]at hg hg'
    have:=hblk b' o2 g' k hb1' hl2 hg' (back b' o2 g' k hb1' hl2 hg' hk')
    cases hg
    have:=hon k hk
    omega
  ·rcases qBx hn hb' with⟨rfl,rfl⟩|⟨hne',hb1'⟩
   ·simp only[qZ,if_true,hne,if_false]at hg hg'
    have:=hblk b o1 g k hb1 hl1 hg (back b o1 g k hb1 hl1 hg hk)
    cases hg'
    have:=hon k hk'
    omega
   ·simp only[qZ,hne,hne',if_false]at hg hg'
    exact hh.inj2 b b' o1 o2 g g' k hb1 hb1' hl1 hl2 hg hg' (back b o1 g k hb1 hl1 hg hk) (back b' o2 g' k hb1' hl2 hg' hk')
 ·rintro k ⟨b,o',g,hb,hl,hg,hk⟩
  rcases qBx hn hb with⟨rfl,rfl⟩|⟨hne,hb1⟩
  ·simp only[qZ,if_true]at hg
   cases hg
   exact .inr (Nat.le_of_eq (hon k hk).symm)
  ·simp only[qZ,hne,if_false]at hg
   exact .inl ⟨b,o',g,hb1,hl,hg,qAP (hh.obj b o' hb1) hkeep hg (fun k hk=>⟨heap_alloc w ob k (hblk b o' g k hb1 hl hg hk),.inl⟩) hk⟩
 ·have hbn:b=nid:=by
   by_cases hne:b=nid
   ·exact hne
   ·simp only[qZ,hne,if_false]at h2;exact absurd h1 h2
  subst hbn
  refine⟨o, ?_,hol⟩
  unfold qBe
  rw[qK]
  split
  ·rename_i hl;have:=qQ.1 hl;simp[this]
  ·rename_i hl
   have:b=h.length:=by
    have:¬b<h.length:=fun hlt=>by rw[qQ.2 hlt]at hl;cases hl
    omega
   simp[this]
theorem qBW (hh:HeapRel w M β cp h) {b g:Nat}{o o':AObj}(hb:h[b]? =some o) (hl:o.live=true) (hl':o'.live=true) (hg:β b=some g) (hM:M g)
  (hos:w'.os=w.os) (htape:w'.tape=w.tape) (hout:w'.output=w.output) (hsize:w'.heap.size=w.heap.size) (hw:∀k,k≠g→w'.heap[k]? =w.heap[k]?)
  (ho:qAo w' M β cp b o') (hon:∀k,Foot w' g o' k→Foot w g o k:=by exact fun k hk=>by rw[hk.eq nofun];exact .self _):After w M β cp h w' M β cp (h.set b o'):=by
 have hkeep:∀k,k<w.heap.size→¬M k→w'.heap[k]? =w.heap[k]? ∧¬M k:=fun k hk hk'=>⟨hw k (by rintro rfl;exact hk' hM),hk'⟩
 obtain⟨s1,s2⟩:=hh.set1 (w':=w') (M':=M) (O:=o') hb hl hkeep ho (fun g' k hg' hk=>by rw[hg]at hg';cases hg';exact hon k hk)
  (fun c x g' k hne hc hlx hg' hk=>⟨hw k (hh.ne hne hc hb hlx hl hg' hg hk),id⟩) (fun k hk=>by rw[hsize];exact hh.dom.1 k hk)
 exact⟨s1,hkeep,fun _ _=>⟨rfl,rfl⟩,⟨hos,htape,hout,by omega,fun k hk hB=>hw k (by rintro rfl;exact hB ⟨b,o,k,hb,hl,hg,.self o⟩),fun _ _ _ h=>h,fun _ h=> .inl h⟩,fun k hk=> .inl (s2 k hk),fun _ h1 h2=>absurd h1 h2⟩
theorem NstRel.row {c e sz n:Nat}{F:Th Nat→List NC}{k:Th Nat}{cs cs':List AV}{g:Nat}{cur cur':Array Value}(r:NstRel w M β cp c e sz n F (some (k,cs)) g cur)
  (hk:∀q,q<w.heap.size→¬M q→w'.heap[q]? =w.heap[q]? ∧¬M q) (hw:∀q,q≠g→w'.heap[q]? =w.heap[q]?) (hcell:w'.heap[g]? =some (.cells cur' e (0,0))) (hs:cur'.size=cur.size)
  (hsame:∀i j,i≠k ()→j<sz→cur'.getD (i*sz+j) undef=cur.getD (i*sz+j) undef) (hl:cs'.length=sz) (hone:∀j,j<sz→(cur'.getD (k ()*sz+j) undef).oneCell'=true)
  (hnew:∀(j:Nat) (x:AV),cs'[j]? =some x→Rep w' M β cp x (cur'.getD (k ()*sz+j) undef)):
  NstRel w' M β cp c e sz n F (some (k,cs')) g cur'∧∀i j x q,i<n→¬k ()=i→(F fun _=>i)[j]? =some x→VFoot w' x (cur'.getD (i*sz+j) undef) q→VFoot w x (cur.getD (i*sz+j) undef) q:=by
 have hj:∀i j x,i<n→¬k ()=i→(F fun _=>i)[j]? =some x→j<sz:=fun i j x hi ho hx=>by
  have:=(List.getElem?_eq_some_iff.1 hx).1
  rwa [r.len i hi ho]at this
 have key:∀i j x,i<n→¬k ()=i→(F fun _=>i)[j]? =some x→cur'.getD (i*sz+j) undef=cur.getD (i*sz+j) undef∧OwnV w' M x (cur.getD (i*sz+j) undef)∧∀q,VFoot w' x (cur.getD (i*sz+j) undef) q→VFoot w x (cur.getD (i*sz+j) undef) q:=fun i j x hi ho hx=>by
  refine⟨hsame i j (fun e=>ho e.symm) (hj i j x hi ho hx),(r.own i j x hi ho hx).keep hk fun q hq=>⟨hw q (r.ne i j x q hi ho hx hq),id⟩⟩
 refine⟨⟨r.hM,hcell,by rw[hs];exact r.size,⟨fun q hq=> ?_,fun i j h1 h2 h3=> ?_⟩,r.le,r.max,r.len,fun i j x hi ho hx=> ?_,fun i j i' j' x x' q hi hi' ho ho' hx hx' hq hq'=> ?_,fun i j x q hi ho hx hq=> ?_,fun k0 cs0 h0=> ?_⟩,fun i j x q hi ho hx hq=> ?_⟩
 ·have hs0:0<sz:=by
   rcases Nat.eq_zero_or_pos sz with h|h
   ·rw[h]at hq;simp at hq
   ·exact h
  have e1:q/sz*sz+q%sz=q:=by rw[Nat.mul_comm];exact Nat.div_add_mod q _
  have h2:=Nat.mod_lt q hs0
  by_cases hqk:q/sz=k ()
  ·rw[←e1,hqk];exact hone _ h2
  ·rw[←e1,hsame _ _ hqk h2,e1];exact r.ones.one q hq
 ·have:=(r.opn k cs rfl).1
  rw[hsame i j (by omega) h3]
  exact r.ones.sp i j h1 h2 h3
 ·obtain⟨q1,q2,_⟩:=key i j x hi ho hx
  rw[q1];exact q2
 ·obtain⟨q1,_,q3⟩:=key i j x hi ho hx
  obtain⟨p1,_,p3⟩:=key i' j' x' hi' ho' hx'
  rw[q1]at hq
  rw[p1]at hq'
  exact r.dis i j i' j' x x' q hi hi' ho ho' hx hx' (q3 q hq) (p3 q hq')
 ·obtain⟨q1,_,q3⟩:=key i j x hi ho hx
  rw[q1]at hq
  exact r.ne i j x q hi ho hx (q3 q hq)
 ·cases h0
  exact⟨(r.opn k cs rfl).1,hl,hnew⟩
 ·obtain⟨q1,_,q3⟩:=key i j x hi ho hx
  rw[q1]at hq
  exact q3 q hq
end
end Go.Abs
namespace Go.Abs
open Go
variable [Kd]
def qCP (P:Program) (t:TypeId) (sz:Nat) (z:List AV):Prop:=
 ∃i,P.info? t=some i∧i.size=sz∧∃zv,i.zero=some zv∧zv.cells.toList.map qDP=z∧zv.cells.toList.all (·.oneCell')=true
def LK.fits:LK→Option TypeDesc→Bool
 | .i,some (.int _)=>true
 | .b,some .bool=>true
 | .s,some .string=>true
 |_,_=>false
theorem LK.fits_i {u:Option TypeDesc}(h:LK.i.fits u=true):∃k,u=some (.int k):=by
 unfold LK.fits at h
 split at h<;>first|contradiction|exact⟨_,rfl⟩|cases h
theorem LK.fits_b {u:Option TypeDesc}(h:LK.b.fits u=true):u=some .bool:=by
 unfold LK.fits at h
 split at h<;>first|contradiction|rfl|cases h
theorem LK.fits_s {u:Option TypeDesc}(h:LK.s.fits u=true):u=some .string:=by
 unfold LK.fits at h
 split at h<;>first|contradiction|rfl|cases h
def qGy (P:Program):Nat→List LK→List Field→Bool
 |_,[],[]=>true
 |n,k::ks,f::r=>(f.name != "_")&&(f.offset==n)&&k.fits (P.underlying f.type)&&qGy P (n+1) ks r
 |_,_,_=>false
def qMn (P:Program):Nat→List LK→List Field→Bool
 |_,[],[]=>true
 |_,_::_,[]=>false
 |n,ks,f::r=>(f.name != "_")&&(f.offset==n)&&(match P.underlying f.type with
  |some (.struct fs)=>(!P.stoodInHeld f.type)&&((P.info? f.type).map (·.size)==some fs.size)&&qGy P 0 (ks.take fs.size) fs.toList&&qMn P (n+fs.size) (ks.drop fs.size) r
  |u=>match ks with
   |k::t=>k.fits u&&qMn P (n+1) t r
   |[]=>false)
def qRG:TypeDesc→Bool
 | .struct _=>false
 | .array _ _=>false
 |_=>true
def qXy (P:Program) (e:TypeId):Prop:=∀i zv,P.info? e=some i→i.zero=some zv→Kd.z e=zv.cells.toList
def qE4 (P:Program) (t:TypeId):Ty→Prop
 | .int k=>P.underlying t=some (.int k)∧qCP P t 1 [.i k fun _=>0]
 | .bool=>P.underlying t=some .bool∧qCP P t 1 [.bc false]
 | .str=>P.underlying t=some .string∧qCP P t 1 [.s fun _=> .empty]
 | .slice e sz bytes z=>P.underlying t=some (.slice e)∧0<sz∧sz*1≤1000∧qCP P e sz z∧(P.info? e).map (·.bytes)=some bytes∧qCP P t 1 [.nil]∧qXy P e
 | .struct flat fs sz z=>(∃fields:Array Field,P.underlying t=some (.struct fields)∧fields.toList.map (fun f=>(f.offset,f.type,P.cellsOf f.type))=fs∧
  (∀ks,flat=some ks→P.stoodInHeld t=false∧P.eqGuardType P.depth t=false∧qMn P 0 ks fields.toList=true))∧qCP P t sz z
 | .one=>(∃d,P.underlying t=some d∧qRG d=true)∧∃z,qCP P t 1 [z]
 | .other=>True
omit [Kd]in
theorem qAG (P:Program) (e:TypeId) (o:TypeId→Bool) (bd:FuncId→Bool) (tl:List Nat) (tb:World→Prop) (tk): @qXy ⟨fun e=>match P.info? e with|some i=>(match i.zero with|some zv=>zv.cells.toList|none=>[])|none=>[],o,bd,tl,tb,tk⟩ P e:=by
 intro i zv h1 h2
 show(match P.info? e with|some i=>(match i.zero with|some zv=>zv.cells.toList|none=>[])|none=>[])=_
 rw[h1]
 show(match i.zero with|some zv=>zv.cells.toList|none=>[])=_
 rw[h2]
def qSE (P:Program) (t:TypeId) (r:Arr):Prop:=
 ∃e,P.underlying t=some (.array r.n e)∧(∃i zv,P.info? t=some i∧i.zero=some zv∧zv.cells.toList.map qDP=qDw r.n r.z∧zv.cells.toList.all (·.oneCell')=true)∧qCP P e r.sz r.z∧
  ∃d,P.underlying e=some d∧match r.ag with|true=>∃fs,d= .struct fs|false=>qRG d=true
def qRH:Array Value→Sem Value:=fun args=>do
 let(x,y,b) ←Extern.MathBitsCarry.three "Sub64" args
 pure (Extern.MathBitsCarry.pair ((x+Extern.MathBitsCarry.m64-y-b)%Extern.MathBitsCarry.m64) (if x<y+b then 1 else 0))
def qUD (P:Program) (f:FuncId):Prop:=∃fn,P.funcs[f]? =some fn∧fn.name= "math/bits.Sub64" ∧fn.body=none∧Extern.findNext fn=none∧Extern.find fn=some qRH
def qPQ:TypeDesc→Bool
 | .interface _=>false
 |_=>true
def qSF (P:Program) (t:TypeId) (ks:Nat):Prop:=∃kt et d,P.underlying t=some (.map kt et)∧P.underlying kt=some d∧(∀x y,Instr.sameNow d x y=none)∧
 (∀(e:Bool) (k:List Int) (w:World),k.length=ks→(Instr.checkKey e 10000 kt (qFf k)).run P w= .ok () w)∧
 (∀(k k':List Int) (w:World),k.length=ks→k'.length=ks→(Op.equal kt (qFf k) (qFf k')).run P w= .ok (decide (k=k')) w)∧∀w:World,(zeroValue et).run P w= .ok (.int .i64 0) w
def qXz (P:Program) (t:TypeId):Prop:=∃kt et,P.underlying t=some (.map kt et)∧P.underlying kt=some (.int .i64)∧∀w:World,(zeroValue et).run P w= .ok .nilFunc w
structure EnvOk (P:Program) (E:Env):Prop where
 ty:∀t,qE4 P t (E.ty t)
 ar:∀t r,E.ar t=some r→qSE P t r:=by intro t r h;cases h
 su:∀f,E.su=some f→qUD P f:=by intro f h;cases h
 mt:∀t n f,E.mt t n=some f→∀(v:Value) (w:World),(Go.method (P.types.size+Made.depth) t v n).run P w= .ok (f,v) w:=by intro t n f h;cases h
 nif:∀t,E.nif t=true→∃d,P.underlying t=some d∧qPQ d=true:=by intro t h;cases h
 fr:∀e,Kd.on e= !(E.fr e)
 ma:∀t ks,E.ma t=some ks→qSF P t ks:=by intro t ks h;cases h
 bd:∀f,Kd.bd f=E.bd f:=by intro f;rfl
 fm:∀t,E.fm t=true→qXz P t:=by intro t h;cases h
 ern:∀t,E.ern t=true→∃ms,P.underlying t=some (.interface ms):=by intro t h;cases h
def Good (P:Program) (o:Oper) (a:Act) (w:World) (M:Nat→Prop) (β:Nat→Option Nat) (cp:Nat→Nat) (h:Hp) (nid:Nat) (v:AV) (c:Chg):Prop:=
 ∃n v' w' M' β' cp',(execOp a.eval o).run P w= .ok n w'∧(n= .value v'∨(n= .skip∧v'=undef))∧After w M β cp h w' M' β' cp' (c.on nid h)∧Rep w' M' β' cp' v v'
def Res.Sound (r:Res) (Q:AV→Chg→Prop):Prop:=
 match r with
 | .bad _=>True
 | .ok v c=>Q v c
 | .ob p v c=>p ()→Q v c
section
variable {P:Program}{E:Env}{o:Oper}{a:Act}{w:World}{M:Nat→Prop}{β:Nat→Option Nat}{cp:Nat→Nat}{h:Hp}{s:Tm}{nid:Nat}
theorem qLa (v:Value):Rep w M β cp (qDP v) v:=by
 cases v with
 |int k n=>exact .c (.i _ _)
 |bool b=>exact .c (.bc _)
 |string s=>exact .c (.s _)
 |slice a n c=>
  simp only[qDP]
  split
  ·exact .c .nil
  ·exact .c (.any _)
 |func f x y=>
  simp only[qDP]
  split
  ·rename_i h1 h2
   have e1:x= #[]:=by simpa using h1
   have e2:y= #[]:=by simpa using h2
   subst e1 e2
   exact qRF _
  ·exact .c (.any _)
 |pointer a=>
  cases a with
  |none=>exact .c (.con (fun _=> .pointer none) rfl)
  |some a=>exact .c (.any _)
 |_=>exact .c (.any _)
theorem qGG (ht:∀t,Rep w M β cp (lk s t) (a.tmps.getD t undef)) (x:Operand):Rep w M β cp (ev s x) (a.eval x):=by
 cases x with
 |tmp t=>exact ht t
 |const v=>exact qLa v
 |global g=>exact .c (.any _)
 |func f=>
  exact qRF f
theorem qF (hh:HeapRel w M β cp h) {v:AV}{v':Value}(hr:(execOp a.eval o).run P w= .ok (.value v') w) (hv:Rep w M β cp v v'):Good P o a w M β cp h nid v .no:=
 ⟨_,v',w,M,β,cp,hr,.inl rfl,After.refl hh,hv⟩
theorem run_sizeOf {t:TypeId}{sz:Nat}{z:List AV}(hi:qCP P t sz z):(sizeOf t).run P w= .ok sz w:=by
 obtain⟨i,h1,h2,_⟩:=hi
 simp[sizeOf,typeInfo,h1,h2]
theorem qDb {t:TypeId}{sz:Nat}{z:List AV}(hi:qCP P t sz z):∃zv,(zeroValue t).run P w= .ok zv w∧zv.cells.toList.map qDP=z∧∀v∈zv.cells.toList,v.oneCell'=true:=by
 obtain⟨i,h1,h2,zv,h3,h4,h5⟩:=hi
 exact⟨zv,by simp[zeroValue,typeInfo,h1,h3],h4,fun v hv=>by have:=List.all_eq_true.1 h5 v hv;simpa using this⟩
theorem qCQ (vs:List Value):qAs w M β cp (vs.map qDP) vs:=
 ⟨by simp,fun j x hj=>by
   rw[List.getElem?_map,Option.map_eq_some_iff]at hj
   obtain⟨v,h1,rfl⟩:=hj
   rw[List.getD_eq_getElem?_getD,h1]
   exact qLa v⟩
theorem qCR {x:AV}{v:Value}{cs:List AV}(hr:Rep w M β cp x v) (hc:cells x=some cs):qAs w M β cp cs v.cells.toList∧∀u∈v.cells.toList,u.oneCell'=true:=by
 have one:∀{x:AV}{v:Value},Rep w M β cp x v→v.cells= #[v]→v.oneCell'=true→qAs w M β cp [x] v.cells.toList∧∀u∈v.cells.toList,u.oneCell'=true:=by
  intro x v hr hv h1
  rw[hv]
  refine⟨⟨rfl,fun j y hj=> ?_⟩,by simpa using h1⟩
  match j,hj with
  |0,hj=>simp at hj;subst hj;simpa using hr
 cases x with
 |any=>simp[cells]at hc
 |tup l=>simp[cells]at hc
 |ite c x y=>simp[cells]at hc
 |agg l=>obtain⟨xs,rfl,h1,h2⟩:=qBs hr;simp[cells]at hc;subst hc;exact⟨h1,h2⟩
 |bc b=>simp[cells]at hc;subst hc;exact one hr (by rw[qAN hr];rfl) (by rw[qAN hr];rfl)
 |b b=>simp[cells]at hc;subst hc;exact one hr (by rw[qBU hr];rfl) (by rw[qBU hr];rfl)
 |i k n=>simp[cells]at hc;subst hc;exact one hr (by rw[qAB hr];rfl) (by rw[qAB hr];rfl)
 |s b=>simp[cells]at hc;subst hc;exact one hr (by rw[qBV hr];rfl) (by rw[qBV hr];rfl)
 |nil=>simp[cells]at hc;subst hc;exact one hr (by rw[qAJ hr];rfl) (by rw[qAJ hr];rfl)
 |con x=>
  simp[cells]at hc;subst hc
  have hx:v.oneCell'=true:=by cases hr with|c h=>cases h with|con x hx=>exact hx
  exact one hr (by unfold Value.cells;split<;>simp_all [Value.oneCell']) hx
 |ptr b o=>simp[cells]at hc;subst hc;obtain⟨g,_,rfl⟩:=qA7 hr;exact one hr rfl rfl
 |mr b=>simp[cells]at hc;subst hc;obtain⟨g,_,rfl⟩:=qE2 hr;exact one hr rfl rfl
 |ept b sz i o=>simp[cells]at hc;subst hc;obtain⟨g,_,rfl⟩:=qBH hr;exact one hr rfl rfl
 |own b n=>simp[cells]at hc;subst hc;rcases qW hr with⟨_,rfl⟩|⟨g,_,_,rfl⟩<;>exact one hr rfl rfl
 |nn b n=>simp[cells]at hc;subst hc;obtain⟨g,_,_,rfl⟩:=qBK hr;exact one hr rfl rfl
 |vw b sz p n=>simp[cells]at hc;subst hc;rcases qB8 hr with⟨_,_,_,_,rfl⟩|⟨g,_,_,rfl⟩<;>exact one hr rfl rfl
 |sl sz n f=>simp[cells]at hc;subst hc;obtain⟨ad,c,rfl,_⟩:=qE3 hr;exact one hr rfl rfl
 |rp l=>simp[cells]at hc;subst hc;obtain⟨ad,u,rfl,_⟩:=qIG hr;exact one hr rfl rfl
 |fn f l=>simp[cells]at hc;subst hc;obtain⟨cs,rfl,_⟩:=qDQ hr;exact one hr (by unfold fnV;split<;>rfl) (qSA _ _)
 |fm ks vs=>simp[cells]at hc;subst hc;obtain⟨g,rfl,_⟩:=qRE hr;exact one hr rfl rfl
 |ifc t x=>simp[cells]at hc;subst hc;obtain⟨u,rfl,_⟩:=qCO hr;exact one hr rfl rfl
theorem qBX {t:TypeId}{d:TypeDesc}(hu:P.underlying t=some d) (h1:∀fs,d≠ .struct fs) (h2:∀n e,d≠ .array n e):(isAgg t).run P w= .ok false w:=by
 simp only[isAgg,Sem.run_bind,run_underlying hu,Result.andThen_ok]
 cases d<;>first|rfl|(exact absurd rfl (h1 _))|(exact absurd rfl (h2 _ _))
theorem qCS {t:TypeId}{fs:Array Field}(hu:P.underlying t=some (.struct fs)):(isAgg t).run P w= .ok true w:=by
 simp only[isAgg,Sem.run_bind,run_underlying hu,Result.andThen_ok];rfl
theorem qUE {t:TypeId}{T:Ty}(h:qE4 P t T) (hs:∀fl fs sz z,T≠ .struct fl fs sz z) (ho:T≠ .other):(isAgg t).run P w= .ok false w∧(sizeOf t).run P w= .ok 1 w:=by
 cases T with
 |int k=>exact⟨qBX h.1 (by simp) (by simp),run_sizeOf h.2⟩
 |bool=>exact⟨qBX h.1 (by simp) (by simp),run_sizeOf h.2⟩
 |str=>exact⟨qBX h.1 (by simp) (by simp),run_sizeOf h.2⟩
 |slice e sz b z=>exact⟨qBX h.1 (by simp) (by simp),run_sizeOf h.2.2.2.2.2.1⟩
 |struct fl fs sz z=>exact absurd rfl (hs _ _ _ _)
 |one=>
  obtain⟨⟨d,h1,h2⟩,_,h3⟩:=h
  exact⟨qBX h1 (by rintro fs rfl;cases h2) (by rintro n e rfl;cases h2),run_sizeOf h3⟩
 |other=>exact absurd rfl ho
def qNl (P:Program) (w:World) (M:Nat→Prop) (β:Nat→Option Nat) (cp:Nat→Nat) (t:TypeId) (ad:Addr) (v:AV) (c:Chg):Prop:=
 c=Chg.no∧∃v',(loadVar t ad).run P w=Result.ok v' w∧Rep w M β cp v v'
theorem qBR {T:Ty}{t:TypeId}(hT:qE4 P t T) {p:Option (Th Prop)}{cs:List AV}{ad:Addr}{u:Nat→Value}
  (hq:(∀q,p=some q→q ())→(∀j,j<cs.length→w.cell? (ad.add j)=some (u j))∧(∀j,j<cs.length→(u j).oneCell'=true)∧∀(j:Nat) (x:AV),cs[j]? =some x→Rep w M β cp x (u j)):
  (qFF T p cs).Sound (qNl P w M β cp t ad):=by
 have fin:∀(v:AV),((∀q,p=some q→q ())→∃v',(loadVar t ad).run P w= .ok v' w∧Rep w M β cp v v')→(match p with|none=>Res.ok v .no|some q=>Res.ob q v .no).Sound (qNl P w M β cp t ad):=by
  intro v hv
  cases p with
  |none=>exact⟨rfl,hv (by simp)⟩
  |some q=>exact fun hq=>⟨rfl,hv (by rintro _ h;cases h;exact hq)⟩
 unfold qFF
 dsimp only
 split
 ·rename_i fl fs sz z
  split
  ·rename_i hle
   rw[qK]at hle
   have hle:=qAO.1 hle
   refine fin _ fun hp=> ?_
   obtain⟨hc,h1,hr⟩:=hq hp
   obtain⟨⟨fields,hu,_⟩,hi⟩:=hT
   refine⟨.agg ((List.range sz).map u).toArray, ?_, ?_⟩
   ·simp only[loadVar,Sem.run_bind,qCS hu,Result.andThen_ok,if_true,run_sizeOf hi]
    rw[run_loadCells w ad sz u (fun j hj=>hc j (by omega))]
    rfl
   ·rw[qDR]
    refine .agg _ _ (by simp;omega) (fun v hv=> ?_) (fun j x hj=> ?_)
    ·simp at hv
     obtain⟨j,hj,rfl⟩:=hv
     exact h1 j (by omega)
    ·rw[List.getElem?_take]at hj
     split at hj
     ·rename_i hlt
      have:=hr j x hj
      simpa[Array.getD_eq_getD_getElem?,hlt]using this
     ·cases hj
  ·trivial
 ·trivial
 ·rename_i hs ho'
  split
  ·rename_i x r
   refine fin _ fun hp=> ?_
   obtain⟨hc,h1,hr⟩:=hq hp
   have h2:=qUE (w:=w) hT (by rintro fl fs sz z rfl;exact hs _ _ _ _ rfl) (by rintro rfl;exact ho' rfl)
   have h3:=hc 0 (by simp)
   have h4:ad.add 0=ad:=by simp[Addr.add]
   rw[h4]at h3
   refine⟨u 0, ?_,hr 0 x rfl⟩
   simp[loadVar,h2.1,run_load,h3]
  ·trivial
end
end Go.Abs
namespace Go.Abs
open Go
variable [Kd]
section
variable {P:Program}{E:Env}{o:Oper}{a:Act}{w:World}{M:Nat→Prop}{β:Nat→Option Nat}{cp:Nat→Nat}{h:Hp}{s:Tm}{nid:Nat}
theorem qJ {b:Nat}{x:AObj}(hb:nth .dead h b=x) (hx:x.live=true):h[b]? =some x:=by
 rw[qAt,List.getD_eq_getElem?_getD]at hb
 cases h1:h[b]? with
 |none=>rw[h1]at hb;subst hb;simp[AObj.live]at hx
 |some y=>rw[h1]at hb;simp at hb;rw[hb]
theorem cell_of_row {g i:Nat}{cur:Array Value}{t:TypeId}{fr:Nat×Nat}(hg:w.heap[g]? =some (.cells cur t fr)) (hi:i<cur.size):w.cell? ⟨g,i,none⟩=some cur[i]:=by
 simp[World.cell?,hg,hi]
theorem addr_add (g o n:Nat):(⟨g,o,none⟩:Addr).add n=⟨g,o+n,none⟩:=by unfold Addr.add;split<;>simp_all
theorem qBt {r:Res}{Q Q':AV→Chg→Prop}(hr:r.Sound Q) (h:∀v c,Q v c→Q' v c):r.Sound Q':=by
 cases r with
 |bad n=>trivial
 |ok v c=>exact h v c hr
 |ob p v c=>exact fun hp=>h v c (hr hp)
theorem qRI {w:World}{M:Nat→Prop}{β:Nat→Option Nat}{cp:Nat→Nat}(F:Th Int) {z:Int}(h:F ()=z):Rep w M β cp (.i .i64 F) (.int .i64 z):=h▸ .c (.i .i64 F)
theorem qIH {c:AV}{r:List AV}(h:0<(nums (c::r)).length):∃x,c= .i .i64 x:=by
 unfold nums at h
 split at h
 ·rename_i x r' hc;cases hc;exact⟨x,rfl⟩
 ·simp at h
theorem qHq:∀(l:List AV) (i:Nat),i<(nums l).length→∃x,l[i]? =some (.i .i64 x)∧qXw (nums l) i=x ()
 |[],i,h=>by simp[nums]at h
 |c::r,i,h=>by
  obtain⟨x,rfl⟩:=qIH (Nat.lt_of_le_of_lt (Nat.zero_le _) h)
  cases i with
  |zero=>exact⟨x,rfl,rfl⟩
  |succ i=>
   obtain⟨y,h1,h2⟩:=qHq r i (by simpa[nums]using h)
   exact⟨y,by simpa using h1,h2⟩
theorem qFG {i:Th Nat}{v:Th Int}:∀(l:List AV) (j:Nat),(qCM i v j l).length=l.length
 |[],j=>rfl
 |c::r,j=>by
  unfold qCM
  split
  ·rename_i h;cases h;simp[qFG r]
  ·rfl
theorem qFH {i:Th Nat}{v:Th Int}:∀(l:List AV) (j p:Nat) (z:AV),(qCM i v j l)[p]? =some z→(∃x,l[p]? =some (.i .i64 x)∧z= .i .i64 fun _=>bif decide (i ()=j+p)then v ()else x ())∨((nums l).length≤p∧l[p]? =some z)
 |[],j,p,z,h=>by simp[qCM]at h
 |c::r,j,p,z,h=>by
  by_cases hc:∃x,c= .i .i64 x
  ·obtain⟨x,rfl⟩:=hc
   have h:((AV.i .i64 fun _=>bif decide (i ()=j)then v ()else x ())::qCM i v (Nat.succ j) r)[p]? =some z:=h
   cases p with
   |zero=>simp at h;exact .inl ⟨x,rfl,h.symm⟩
   |succ p=>
    rcases qFH r (Nat.succ j) p z (by simpa using h)with⟨y,h1,h2⟩|⟨h1,h2⟩
    ·exact .inl ⟨y,by simpa using h1,by rw[h2,show Nat.succ j+p=j+(p+1) by omega]⟩
    ·refine .inr ⟨?_,by simpa using h2⟩
     show(x::nums r).length≤_
     simp;omega
  ·have e0:¬0<(nums (c::r)).length:=fun h=>hc (qIH h)
   refine .inr ⟨by omega, ?_⟩
   unfold qCM at h
   split at h
   ·rename_i x r' e;exact absurd ⟨_,(List.cons.inj e).1⟩ hc
   ·exact h
theorem qII {i:Th Nat}{v:Th Int}:∀(o:Nat) (cs:List AV),(qIE i v o cs).length=cs.length
 |0,cs=>qFG cs 0
 |n+1,[]=>rfl
 |n+1,c::cs=>by simp[qIE,qII n cs]
theorem qIJ {i:Th Nat}{v:Th Int}:∀(o:Nat) (cs:List AV) (p:Nat) (z:AV),(qIE i v o cs)[p]? =some z→(o≤p∧∃x,cs[p]? =some (.i .i64 x)∧z= .i .i64 fun _=>bif decide (i ()+o=p)then v ()else x ())∨((p<o∨o+(nums (cs.drop o)).length≤p)∧cs[p]? =some z)
 |0,cs,p,z,h=>by
  rcases qFH cs 0 p z h with⟨x,h1,h2⟩|⟨h1,h2⟩
  ·exact .inl ⟨Nat.zero_le _,x,h1,by rw[h2];simp⟩
  ·exact .inr ⟨.inr (by simpa using h1),h2⟩
 |n+1,[],p,z,h=>by simp[qIE]at h
 |n+1,c::cs,p,z,h=>by
  cases p with
  |zero=>exact .inr ⟨.inl (by omega),by simpa[qIE]using h⟩
  |succ p=>
   rcases qIJ n cs p z (by simpa[qIE]using h)with⟨h0,x,h1,h2⟩|⟨h1,h2⟩
   ·refine .inl ⟨by omega,x,by simpa using h1, ?_⟩
    rw[h2]
    congr 1
    funext u
    have e:decide (i ()+n=p)=decide (i ()+(n+1)=p+1):=decide_eq_decide.2 (by omega)
    rw[e]
   ·exact .inr ⟨h1.imp (by omega) (fun h=>by simp only[List.drop_succ_cons];omega),by simpa using h2⟩
theorem qLb {T:Ty}{t:TypeId}(hT:qE4 P t T) (hh:HeapRel w M β cp h) {X:AV}{x:Value}(hx:Rep w M β cp X x):
  (qIF T h X).Sound (fun v (c:Chg)=>c= .no∧∃ad v',x= .pointer (some ad)∧(loadVar t ad).run P w= .ok v' w∧Rep w M β cp v v'):=by
 have hrun:∀ad,x= .pointer (some ad)→∀v c,qNl P w M β cp t ad v c→(c= .no∧∃ad v',x= .pointer (some ad)∧(loadVar t ad).run P w= .ok v' w∧Rep w M β cp v v'):=
  fun ad he v c ⟨h1,v',h2,h3⟩=>⟨h1,ad,v',he,h2,h3⟩
 unfold qIF
 split
 ·rename_i b ofs
  obtain⟨g,hg,he⟩:=qA7 hx
  split
  ·rename_i cs hb
   have hb:=qJ hb rfl
   obtain⟨g',cur,t',h1,h2,h3,h4,h5⟩:=hh.obj b _ hb
   rw[hg]at h1;cases h1
   have hl:cur.size=cs.length:=by simpa using h4.1
   refine qBt (qBR hT (ad:=⟨g,ofs,none⟩) (u:=fun j=>cur.getD (ofs+j) undef) (fun _=>⟨fun j hj=> ?_,fun j hj=> ?_,fun j y hj=> ?_⟩)) (hrun _ he)
   ·rw[qAr]at hj
    simp at hj
    rw[addr_add,cell_of_row h3 (by omega)]
    simp[show ofs+j<cur.size by omega]
   ·rw[qAr]at hj
    simp at hj
    have hlt:ofs+j<cur.size:=by omega
    simp only[Array.getD,hlt,dif_pos]
    exact h5.one _ (Array.getElem_mem hlt)
   ·rw[qAr,List.getElem?_drop]at hj
    have:=h4.2 _ _ hj
    simpa[Array.getD_eq_getD_getElem?]using this
  ·trivial
 ·rename_i b sz i ofs
  obtain⟨g,hg,he⟩:=qBH hx
  split
  ·rename_i et sz' n f hb
   split
   ·rename_i hsz
    have hsz:=qC.1 hsz
    subst hsz
    have hb:=qJ hb rfl
    refine qBt (qBR hT (ad:=⟨g,i ()*sz+ofs,none⟩) (fun hp=> ?_) (u:=fun j=>((w.heap[g]?).elim undef fun| .cells cur _ _=>cur.getD (i ()*sz+ofs+j) undef|_=>undef))) (hrun _ he)
    have hlt:=hp _ rfl
    rcases hh.obj b _ hb with⟨h1,_⟩|⟨g',cur,h1,h2,h3,h4,h5,h6,h7,h8,h9⟩
    ·rw[hg]at h1;cases h1
    ·rw[hg]at h1;cases h1
     have hlen:=h8 (i ()) hlt
     have hfi:(f fun _=>i ())=f i:=rfl
     rw[hfi]at hlen
     have hsz2:(i ()+1)*sz≤cur.size:=by rw[h4];exact Nat.mul_le_mul_right _ (by omega)
     rw[Nat.succ_mul]at hsz2
     simp only[h3,Option.elim]
     refine⟨fun j hj=> ?_,fun j hj=> ?_,fun j y hj=> ?_⟩
     ·rw[qAr]at hj
      simp at hj
      have hlt2:i ()*sz+ofs+j<cur.size:=by omega
      rw[addr_add,cell_of_row h3 hlt2]
      simp[hlt2]
     ·rw[qAr]at hj
      simp at hj
      have hlt3:i ()*sz+ofs+j<n ()*sz:=by
       have:=Nat.mul_le_mul_right sz (show i ()+1≤n () by omega)
       rw[Nat.succ_mul]at this
       omega
      exact h5.one _ hlt3
     ·rw[qAr,List.getElem?_drop]at hj
      have:=h9 (i ()) (ofs+j) y hlt hj
      rw[Nat.add_assoc]
      exact .c this
   ·trivial
  ·rename_i n f hb
   split
   ·rename_i q1 q2
    have q1:=qC.1 q1
    have q2:=qC.1 q2
    subst q1 q2
    have hb:=qJ hb rfl
    obtain⟨g',cur,t',fr,h1,h2,h3,⟨h4,h5⟩,h6,h7,h8⟩:=hh.obj b _ hb
    rw[hg]at h1;cases h1
    refine qBt (qBR hT (ad:=⟨g,i ()*1+0,none⟩) (fun hp=> ?_) (u:=fun j=>cur.getD (i ()+j) undef)) (hrun _ he)
    have hlt:=hp _ rfl
    have hfi:(f fun _=>i ())=f i:=rfl
    have hlen:=h7 (i ()) hlt
    rw[hfi]at hlen
    refine⟨fun j hj=> ?_,fun j hj=> ?_,fun j y hj=> ?_⟩
    ·obtain rfl:j=0:=by omega
     rw[addr_add,cell_of_row h3 (show i ()*1+0+0<cur.size by omega)]
     simp[show i ()<cur.size by omega]
    ·have hlt:i ()+j<cur.size:=by omega
     simp only[Array.getD,hlt,dif_pos]
     exact h6.one _ (Array.getElem_mem hlt)
    ·exact .c (h8 (i ()) j y hlt hj)
   ·trivial
  ·rename_i et sz' n F k cs hb
   split
   ·rename_i hsz
    have hsz:=qC.1 hsz
    subst hsz
    have hb:=qJ hb rfl
    rcases hh.obj b _ hb with⟨h1,h2,h3⟩|⟨g',cur,h1,r⟩
    ·cases h3
    ·rw[hg]at h1;cases h1
     obtain⟨p1,p2,p3⟩:=r.opn k cs rfl
     have hsz2:(k ()+1)*sz≤cur.size:=by rw[r.size];exact Nat.mul_le_mul_right _ (by have:=r.le;omega)
     rw[Nat.succ_mul]at hsz2
     refine qBt (qBR hT (ad:=⟨g,i ()*sz+ofs,none⟩) (fun hp=> ?_) (u:=fun j=>cur.getD (i ()*sz+ofs+j) undef)) (hrun _ he)
     have hik:i ()=k ():=hp _ rfl
     rw[hik]
     refine⟨fun j hj=> ?_,fun j hj=> ?_,fun j y hj=> ?_⟩
     ·rw[qAr]at hj
      simp at hj
      have hlt2:k ()*sz+ofs+j<cur.size:=by omega
      rw[addr_add,cell_of_row r.cell hlt2]
      simp[hlt2]
     ·rw[qAr]at hj
      simp at hj
      have hlt3:k ()*sz+ofs+j<n ()*sz:=by
       have:=Nat.mul_le_mul_right sz (show k ()+1≤n () by omega)
       rw[Nat.succ_mul]at this
       omega
      exact r.ones.one _ hlt3
     ·rw[qAr,List.getElem?_drop]at hj
      have:=p3 (ofs+j) y hj
      rw[Nat.add_assoc]
      exact this
   ·trivial
  ·rename_i cs hb
   split
   ·rename_i q1
    have q1:=qC.1 q1
    subst q1
    have hb:=qJ hb rfl
    obtain⟨g',cur,t',e1,e2,e3,e4,e5⟩:=hh.obj b _ hb
    rw[hg]at e1;cases e1
    have hl:cur.size=cs.length:=by simpa using e4.1
    refine qBt (qBR (T:= .int .i64) hT (p:=some fun _=>i ()<len (nums (qAI ofs cs))) (cs:=[.i .i64 fun _=>qXw (nums (qAI ofs cs)) (i ())]) (ad:=⟨g,i ()*1+ofs,none⟩) (u:=fun j=>cur.getD (ofs+i ()) undef) (fun hp=> ?_)) (hrun _ he)
    have hlt:i ()<len (nums (qAI ofs cs)):=hp _ rfl
    rw[qK,qAr]at hlt
    obtain⟨x,h1,h2⟩:=qHq _ _ hlt
    rw[List.getElem?_drop]at h1
    have hlt2:=(List.getElem?_eq_some_iff.1 h1).1
    refine⟨fun j hj=> ?_,fun j hj=> ?_,fun j y hj=> ?_⟩
    ·obtain rfl:j=0:=by simp at hj;omega
     have hc:=cell_of_row e3 (show i ()*1+ofs+0<cur.size by omega)
     rw[addr_add,hc]
     simp[show ofs+i ()<cur.size by omega,Nat.add_comm]
    ·have:ofs+i ()<cur.size:=by omega
     simp only[Array.getD,this,dif_pos]
     exact e5.one _ (Array.getElem_mem this)
    ·cases j with
     |succ j=>simp at hj
     |zero=>
      simp at hj
      subst hj
      have hr:=e4.2 _ _ h1
      have e:cur.toList.getD (ofs+i ()) undef=cur.getD (ofs+i ()) undef:=by simp[Array.getD_eq_getD_getElem?]
      try rw[e]at hr
      rw[qAr,h2]
      rw[qAB hr]
      exact .c (.i .i64 _)
   ·trivial
  ·trivial
 ·rename_i l
  obtain⟨ad,u,he,hM,hl,hc,h1,hr⟩:=qIG hx
  exact qBt (qBR hT (ad:=ad) (u:=u) (fun _=>⟨hc,h1,fun j y hj=> .c (hr j y hj)⟩)) (hrun _ he)
 ·trivial
theorem qMo {T:Ty}{t:TypeId}(hT:qE4 P t T) (hh:HeapRel w M β cp h) {x:Operand}(ho:o.op= .load t x) {X:AV}(hx:Rep w M β cp X (a.eval x)):
  (qIF T h X).Sound (Good P o a w M β cp h nid):=by
 refine qBt (qLb hT hh hx) ?_
 rintro v c ⟨rfl,ad,v',he,hl,hr⟩
 exact qF hh (by simp[execOp,ho,Instr.loadAt,Instr.sureAddr,he,hl]) hr
theorem qDS {T:Ty}{t:TypeId}(hT:qE4 P t T) {sz:Nat}(hs:qYk T=some sz):(sizeOf t).run P w= .ok sz w:=by
 cases T with
 |int k=>cases hs;exact run_sizeOf hT.2
 |bool=>cases hs;exact run_sizeOf hT.2
 |str=>cases hs;exact run_sizeOf hT.2
 |slice e sz b z=>cases hs;exact run_sizeOf hT.2.2.2.2.2.1
 |struct fl fs sz z=>cases hs;exact run_sizeOf hT.2
 |one=>cases hs;exact run_sizeOf hT.2.choose_spec
 |other=>cases hs
theorem qB9 {t:TypeId}{sz:Nat}(hsz:(sizeOf t).run P w= .ok sz w) {g ofs:Nat}{cur:Array Value}{t':TypeId}(hg:w.heap[g]? =some (.cells cur t' (0,0))) {v:Value}
  (hv:v.cells.size=sz) (h1:∀u∈v.cells.toList,u.oneCell'=true) (hle:ofs+v.cells.size≤cur.size):
  (storeVar t ⟨g,ofs,none⟩ v).run P w= .ok () (w.setRow g (cur.toList.take ofs++v.cells.toList++cur.toList.drop (ofs+v.cells.size)).toArray):=by
 have:=run_storeCells_at (P:=P) g ofs t' v.cells.toList 0 cur w hg (by simpa using hle) h1
 simp only[Nat.add_zero,Array.length_toList]at this
 simp[storeVar,hsz,hv,this]
theorem qHr {t:TypeId}{g ofs:Nat}{cur:Array Value}{t':TypeId}{fr:Nat×Nat}(hsz:(sizeOf t).run P w= .ok 1 w) (hg:w.heap[g]? =some (.cells cur t' fr)) (hfr:cur.size≤fr.1) {v u:Value}
  (hv:v.cells= #[u]) (h1:u.oneCell'=true) (hle:ofs<cur.size):(storeVar t ⟨g,ofs,none⟩ v).run P w= .ok () (w.setRow g (cur.setIfInBounds ofs u)):=by
 have hadd:(⟨g,ofs,none⟩:Addr).add 0=⟨g,ofs,none⟩:=by unfold Addr.add;split<;>simp_all
 have hcell:w.cell? ⟨g,ofs,none⟩=some cur[ofs]:=by simp[World.cell?,hg,hle]
 have hfro:w.frozen? ⟨g,ofs,none⟩=false:=by
  obtain⟨lo,hi'⟩:=fr
  simp only[World.frozen?,hg,Bool.and_eq_false_iff,decide_eq_false_iff_not]
  left
  simp only at hfr
  omega
 have hst:(store ((⟨g,ofs,none⟩:Addr).add 0) u).run P w= .ok () (w.setRow g (cur.setIfInBounds ofs u)):=by
  rw[hadd,run_store P w _ u _ h1,hcell]
  simp[hfro,setCell_eq_setRow w g ofs cur t' fr u hg]
 simp[storeVar,hsz,hv,storeCells,hst]
theorem qAQ {g:Nat}{cur cur':Array Value}{t:TypeId}{fr:Nat×Nat}(hg:w.heap[g]? =some (.cells cur t fr)):
  (w.setRow g cur').os=w.os∧(w.setRow g cur').tape=w.tape∧(w.setRow g cur').output=w.output∧(w.setRow g cur').heap.size=w.heap.size∧
  (w.setRow g cur').heap[g]? =some (.cells cur' t fr)∧∀k,k≠g→(w.setRow g cur').heap[k]? =w.heap[k]? :=by
 have hlt:g<w.heap.size:=(Array.getElem?_eq_some_iff.1 hg).1
 refine⟨?_, ?_, ?_, ?_, ?_,fun k hk=> ?_⟩<;>simp[World.setRow,Array.getElem?_modify,hg]
 intro h;exact absurd h.symm hk
theorem qBy {c:Th Bool}{v:Value}(x y:AV) (hx:c ()=true→RepC w M x v) (hy:c ()=false→RepC w M y v):RepC w M (AV.pick c x y) v:=by
 unfold AV.pick
 split
 all_goals first
  |exact .ite _ _ _ _ hx hy
  |(cases hc:c ()with
    |true=>
     have h1:=hx hc
     cases h1
     simp only[cond_true,show c ()=true from hc]
     first|exact .i _ _|exact .b _|exact .s _|exact .b (fun _=>_)
    |false=>
     have h1:=hy hc
     cases h1
     simp only[cond_false]
     first|exact .i _ _|exact .b _|exact .s _|exact .b (fun _=>_))
theorem qFI {c:Th Bool}:∀(l m:List AV) (j:Nat) (z:AV),(qGx c l m)[j]? =some z→∃x y,l[j]? =some x∧m[j]? =some y∧z=AV.pick c x y
 |[],_,_,_,h=>by simp[qGx]at h
 |_::_,[],_,_,h=>by simp[qGx]at h
 |x::l,y::m,0,z,h=>⟨x,y,rfl,rfl,by simpa[qGx]using h.symm⟩
 |x::l,y::m,j+1,z,h=>by simpa using qFI l m j z (by simpa[qGx]using h)
theorem qFJ {c:Th Bool}:∀(l m:List AV),l.length=m.length→(qGx c l m).length=m.length
 |[],[],_=>rfl
 |x::l,y::m,h=>by simp[qGx,qFJ l m (by simpa using h)]
 |[],_::_,h=>by simp at h
 |_::_,[],h=>by simp at h
theorem qR {x:AV}{v:Value}(hr:Rep w M β cp x v):closed x=true→RepC w M x v:=by
 have hL:∀(l:List AV),qL l=true→∀(j:Nat) (y:AV),l[j]? =some y→closed y=true:=by
  intro l
  induction l with
  |nil=>intro _ j y h;simp at h
  |cons x r ih=>
   intro hc j y hj
   simp only[qL]at hc
   split at hc
   ·rename_i h1
    cases j with
    |zero=>simp at hj;subst hj;exact h1
    |succ j=>exact ih hc j y (by simpa using hj)
   ·cases hc
 induction hr with
 |c h=>exact fun _=>h
 |agg l cs hl ho h ih=>exact fun hc=> .agg l cs hl ho fun j x hj=>ih j x hj (hL l (by simpa[closed]using hc) j x hj)
 |ite c x y v h1 h2 ih1 ih2=>
  intro hc
  simp only[closed]at hc
  split at hc
  ·rename_i q;exact .ite c x y v (fun h=>ih1 h q) (fun h=>ih2 h hc)
  ·cases hc
 |tup l cs hl h ih=>exact fun hc=> .tup l cs hl fun j x hj=>ih j x hj (hL l (by simpa[closed]using hc) j x hj)
 |fn f l cs hl h ih=>exact fun hc=> .fn f l cs hl fun j x hj=>ih j x hj (hL l (by simpa[closed]using hc) j x hj)
 |ifc t x v h ih=>exact fun hc=> .ifc t x v (ih (by simpa[closed]using hc))
 |_=>intro hc;simp[closed]at hc
theorem qT:∀{l:List AV},qL l=true→∀{j:Nat}{y:AV},l[j]? =some y→closed y=true
 |[],_,j,y,h=>by simp at h
 |x::r,hc,j,y,hj=>by
  simp only[qL]at hc
  split at hc
  ·rename_i h1
   cases j with
   |zero=>simp at hj;subst hj;exact h1
   |succ j=>exact qT hc (by simpa using hj)
  ·cases hc
theorem qBh {α:Type}(l:List α) (d:α) (j:Nat):l.toArray.getD j d=l.getD j d:=by simp[Array.getD_eq_getD_getElem?,List.getD_eq_getElem?_getD]
theorem qG (l:Array Value) (d:Value) (j:Nat):l.getD j d=l.toList.getD j d:=by simp[Array.getD_eq_getD_getElem?,List.getD_eq_getElem?_getD]
theorem qAx (cur vs:List Value) (o j:Nat) (hle:o+vs.length≤cur.length):
  (cur.take o++vs++cur.drop (o+vs.length)).getD j undef=if o≤j∧j<o+vs.length then vs.getD (j-o) undef else cur.getD j undef:=by
 have key:(cur.take o++vs++cur.drop (o+vs.length))[j]? =if o≤j∧j<o+vs.length then vs[j-o]? else cur[j]? :=by
  rw[List.getElem?_append,List.getElem?_append]
  have:min o cur.length=o:=Nat.min_eq_left (by omega)
  simp only[List.length_append,List.length_take,List.getElem?_take,List.getElem?_drop,this]
  by_cases h1:j<o
  ·rw[if_pos (by omega),if_pos h1,if_pos h1,if_neg (by omega)]
  ·by_cases h2:j<o+vs.length
   ·rw[if_pos h2,if_neg h1,if_pos (by omega)]
   ·rw[if_neg h2,if_neg (by omega)]
    congr 1;omega
 simp only[List.getD_eq_getElem?_getD,key]
 split<;>rfl
theorem qDc (cs vs:List AV) (o j:Nat) (hle:o+vs.length≤cs.length):
  (splice o vs cs)[j]? =if o≤j∧j<o+vs.length then vs[j-o]? else cs[j]? :=by
 rw[qBg o vs cs hle,List.getElem?_append,List.getElem?_append]
 have:min o cs.length=o:=Nat.min_eq_left (by omega)
 simp only[List.length_append,List.length_take,List.getElem?_take,List.getElem?_drop,this]
 by_cases h1:j<o
 ·rw[if_pos (by omega),if_pos h1,if_pos h1,if_neg (by omega)]
 ·by_cases h2:j<o+vs.length
  ·rw[if_pos h2,if_neg h1,if_pos (by omega)]
  ·rw[if_neg h2,if_neg (by omega)]
   congr 1;omega
theorem qEs (cur vs:List Value) (o:Nat) (h1:∀v∈cur,v.oneCell'=true) (h2:∀v∈vs,v.oneCell'=true):∀v∈(cur.take o++vs++cur.drop (o+vs.length)).toArray,v.oneCell'=true:=by
 intro v hv
 simp only[List.mem_toArray,List.mem_append]at hv
 rcases hv with(hv|hv)|hv
 ·exact h1 v (List.mem_of_mem_take hv)
 ·exact h2 v hv
 ·exact h1 v (List.mem_of_mem_drop hv)
theorem qJ0 {T:Ty}{t:TypeId}(hT:qE4 P t T) (hh:HeapRel w M β cp h) {x y:Operand}(ho:o.op= .store t x y) {X Y:AV}(hx:Rep w M β cp X (a.eval x)) (hy:Rep w M β cp Y (a.eval y)):
  (qGF T h X Y).Sound (Good P o a w M β cp h nid):=by
 unfold qGF
 split
 ·rename_i vs sz hc hs
  split
  ·rename_i hsz
   rw[qK]at hsz
   have hsz:=qC.1 hsz
   obtain⟨hr,h1⟩:=qCR hy hc
   have hvl:(a.eval y).cells.size=vs.length:=by simpa using hr.1
   have hrun:∀ad w',a.eval x= .pointer (some ad)→(storeVar t ad (a.eval y)).run P w= .ok () w'→(execOp a.eval o).run P w= .ok .skip w':=by
    intro ad w' he hl
    simp[execOp,ho,Instr.storeAt,Instr.sureAddr,he,hl]
   split
   ·rename_i b ofs
    obtain⟨g,hg,he⟩:=qA7 hx
    split
    ·rename_i cs hb
     split
     ·rename_i hle
      rw[qK,qK]at hle
      have hle:=qAO.1 hle
      have hb:=qJ hb rfl
      obtain⟨g',cur,t',e1,e2,e3,e4,e5⟩:=hh.obj b _ hb
      rw[hg]at e1;cases e1
      have hl:cur.size=cs.length:=by simpa using e4.1
      have hst:=qB9 (v:=a.eval y) (qDS hT hs) e3 (by omega) h1 (ofs:=ofs) (by omega)
      obtain⟨f1,f2,f3,f4,f5,f6⟩:=qAQ (w:=w) (cur':=(cur.toList.take ofs++(a.eval y).cells.toList++cur.toList.drop (ofs+(a.eval y).cells.size)).toArray) e3
      refine⟨_,undef,_,M,β,cp,hrun _ _ he hst,.inr ⟨rfl,rfl⟩,qBW hh hb rfl rfl hg e2 f1 f2 f3 f4 f6 ⟨g,_,t',hg,e2,f5, ?_, ?_⟩,.c (.any _)⟩
      ·have hk:∀k,k<w.heap.size→¬M k→(w.setRow g (cur.toList.take ofs++(a.eval y).cells.toList++cur.toList.drop (ofs+(a.eval y).cells.size)).toArray).heap[k]? =w.heap[k]? ∧¬M k:=
        fun k hk hk'=>⟨f6 k (by rintro rfl;exact hk' e2),hk'⟩
       refine⟨?_,fun j z hj=> ?_⟩
       ·rw[qBg _ _ _ hle];simp;omega
       ·rw[qDc _ _ _ _ hle]at hj
        have h3:=qAx cur.toList (a.eval y).cells.toList ofs j (by simp;omega)
        simp only[Array.length_toList]at h3
        show Rep _ _ _ _ z ((cur.toList.take ofs++(a.eval y).cells.toList++cur.toList.drop (ofs+(a.eval y).cells.size)).getD j undef)
        rw[h3]
        split
        ·rename_i hc2
         rw[hvl]at hc2
         rw[if_pos hc2]at hj
         exact(hr.2 _ _ hj).keep hk (fun _ _=>⟨rfl,rfl⟩)
        ·rename_i hc2
         rw[hvl]at hc2
         rw[if_neg hc2]at hj
         exact(e4.2 _ _ hj).keep hk (fun _ _=>⟨rfl,rfl⟩)
      ·have:=qEs cur.toList (a.eval y).cells.toList ofs (by simpa using e5.one) h1
       exact⟨by simpa using this,e5.cm⟩
     ·trivial
    ·trivial
   ·rename_i b sz0 i ofs
    obtain⟨g,hg,he⟩:=qBH hx
    split
    ·rename_i et sz' n f hb
     split
     ·rename_i q1 q2 q3
      rw[qK]at q2
      have q1:=qC.1 q1
      have q2:=qAO.1 q2
      subst q1
      intro hlt
      have hlt:i ()<n ():=hlt
      have hb:=qJ hb rfl
      rcases hh.obj b _ hb with⟨e1,_⟩|⟨g',cur,e1,e2,e3,e4,e5,e6,e7,e8,e9⟩
      ·rw[hg]at e1;cases e1
      ·rw[hg]at e1;cases e1
       have hlen:=e8 (i ()) hlt
       have hsz2:(i ()+1)*sz0≤cur.size:=by rw[e4];exact Nat.mul_le_mul_right _ (by omega)
       rw[Nat.succ_mul]at hsz2
       have hst:=qB9 (v:=a.eval y) (qDS hT hs) e3 (by omega) h1 (ofs:=i ()*sz0+ofs) (by omega)
       obtain⟨f1,f2,f3,f4,f5,f6⟩:=qAQ (w:=w) (cur':=(cur.toList.take (i ()*sz0+ofs)++(a.eval y).cells.toList++cur.toList.drop (i ()*sz0+ofs+(a.eval y).cells.size)).toArray) e3
       have hk:∀k,k<w.heap.size→¬M k→(w.setRow g (cur.toList.take (i ()*sz0+ofs)++(a.eval y).cells.toList++cur.toList.drop (i ()*sz0+ofs+(a.eval y).cells.size)).toArray).heap[k]? =w.heap[k]? ∧¬M k:=
        fun k hk hk'=>⟨f6 k (by rintro rfl;exact hk' e2),hk'⟩
       refine⟨_,undef,_,M,β,cp,hrun _ _ he hst,.inr ⟨rfl,rfl⟩,qBW hh hb rfl rfl hg e2 f1 f2 f3 f4 f6 (.inr ⟨g,_,hg,e2,f5, ?_, ?_,e6,e7, ?_, ?_⟩),.c (.any _)⟩
       ·simp;omega
       ·refine⟨fun k hk0=> ?_,fun i0 j0 q3 q4 q5=> ?_⟩
        ·have h3:=qAx cur.toList (a.eval y).cells.toList (i ()*sz0+ofs) k (by simp;omega)
         simp only[Array.length_toList]at h3
         rw[qBh,h3]
         split
         ·rename_i hc2
          have hlt3:k-(i ()*sz0+ofs)<(a.eval y).cells.toList.length:=by simp;omega
          rw[List.getD_eq_getElem?_getD,List.getElem?_eq_getElem hlt3]
          exact h1 _ (List.getElem_mem hlt3)
         ·rw[←qG];exact e5.one k hk0
        ·have h3:=qAx cur.toList (a.eval y).cells.toList (i ()*sz0+ofs) (i0*sz0+j0) (by simp;omega)
         simp only[Array.length_toList]at h3
         have h4:=Nat.mul_le_mul_right sz0 (show i ()+1≤i0 by omega)
         rw[Nat.succ_mul]at h4
         rw[qBh,h3,if_neg (by omega),←qG]
         exact e5.sp i0 j0 q3 q4 q5
       ·intro k hkn
        have h2:=e8 k hkn
        rw[qFJ _ _ (by rw[qBg _ _ _ (by rw[h2];omega)];simp;omega)]
        exact h2
       ·intro k j z hkn hj
        have h2:=e8 k hkn
        obtain⟨p,q,p1,p2,rfl⟩:=qFI _ _ _ _ hj
        rw[qDc _ _ _ _ (by rw[h2];omega)]at p1
        have h3:=qAx cur.toList (a.eval y).cells.toList (i ()*sz0+ofs) (k*sz0+j) (by simp;omega)
        simp only[Array.length_toList]at h3
        have hjs:j<sz0:=by rw[←h2];exact(List.getElem?_eq_some_iff.1 p2).1
        rw[qBh,h3]
        refine qBy _ _ (fun hc=> ?_) (fun hc=> ?_)
        ·have hki:k=i ():=by simpa using hc
         subst hki
         by_cases hc2:ofs≤j∧j<ofs+vs.length
         ·rw[if_pos hc2]at p1
          rw[if_pos (by omega)]
          have:=qR (hr.2 _ _ p1) (qT q3 p1)
          rw[show i ()*sz0+j-(i ()*sz0+ofs)=j-ofs by omega]
          exact this.keep hk
         ·rw[if_neg hc2]at p1
          rw[if_neg (by omega)]
          have:=e9 (i ()) j p hlt p1
          rw[qG]at this
          exact this.keep hk
        ·have hki:k≠i ():=by simpa using hc
         have hne:¬(i ()*sz0+ofs≤k*sz0+j∧k*sz0+j<i ()*sz0+ofs+vs.length):=by
          rintro⟨c1,c2⟩
          rcases Nat.lt_or_gt_of_ne hki with hlt'|hgt
          ·have:=Nat.mul_le_mul_right sz0 (show k+1≤i () by omega)
           rw[Nat.succ_mul]at this
           omega
          ·have:=Nat.mul_le_mul_right sz0 (show i ()+1≤k by omega)
           rw[Nat.succ_mul]at this
           omega
         rw[if_neg (by rw[hvl];exact hne)]
         have:=e9 k j q hkn p2
         rw[qG]at this
         exact this.keep hk
     ·trivial
    ·rename_i n f hb
     split
     ·rename_i q1 q2 q3 q4
      rw[qK]at q3
      have q1:=qC.1 q1
      have q2:=qC.1 q2
      have q3:=qC.1 q3
      subst q1 q2
      intro hlt
      have hlt:i ()<n ():=hlt
      have hb:=qJ hb rfl
      obtain⟨g',cur,t',fr,e1,e2,e3,⟨e4,e5⟩,e6,e7,e8⟩:=hh.obj b _ hb
      rw[hg]at e1;cases e1
      obtain⟨u,hu⟩:∃u,(a.eval y).cells= #[u]:=by
       have:(a.eval y).cells.size=1:=by omega
       exact⟨(a.eval y).cells[0],by apply Array.ext (by simp[this]);intro i h1 h2;simp at h2;subst h2;rfl⟩
      have hu1:u.oneCell'=true:=h1 u (by rw[hu];simp)
      have hst:=qHr (P:=P) (t:=t) (v:=a.eval y) (by have:=qDS (w:=w) hT hs;rwa [show sz=1 by omega]at this) e3 e4 hu hu1 (ofs:=i ()*1+0) (by omega)
      obtain⟨f1,f2,f3,f4,f5,f6⟩:=qAQ (w:=w) (cur':=cur.setIfInBounds (i ()*1+0) u) e3
      have hk:∀k,k<w.heap.size→¬M k→(w.setRow g (cur.setIfInBounds (i ()*1+0) u)).heap[k]? =w.heap[k]? ∧¬M k:=
       fun k hk hk'=>⟨f6 k (by rintro rfl;exact hk' e2),hk'⟩
      refine⟨_,undef,_,M,β,cp,hrun _ _ he hst,.inr ⟨rfl,rfl⟩,qBW hh hb rfl rfl hg e2 f1 f2 f3 f4 f6 ⟨g,_,t',fr,hg,e2,f5, ?_, ?_, ?_, ?_⟩,.c (.any _)⟩
      ·exact⟨by simpa using e4,by simpa using e5⟩
      ·refine⟨fun v hv=> ?_,e6.cm⟩
       rcases Array.mem_or_eq_of_mem_setIfInBounds hv with hv|hv
       ·exact e6.one v hv
       ·rw[hv];exact hu1
      ·intro k hkn
       have h2:=e7 k hkn
       rw[qFJ _ _ (by rw[h2];exact q3)]
       exact h2
      ·intro k j z hkn hj
       have h2:=e7 k hkn
       obtain⟨p,q,p1,p2,rfl⟩:=qFI _ _ _ _ hj
       have hj0:j=0:=by have:=(List.getElem?_eq_some_iff.1 p2).1;omega
       subst hj0
       rw[Array.getD_eq_getD_getElem?,Array.getElem?_setIfInBounds]
       refine qBy _ _ (fun hc=> ?_) (fun hc=> ?_)
       ·have hki:k=i ():=by simpa using hc
        rw[if_pos (by omega),if_pos (by omega)]
        have h3:=qR (hr.2 _ _ p1) (qT q4 p1)
        rw[hu]at h3
        exact h3.keep hk
       ·have hki:k≠i ():=by simpa using hc
        rw[if_neg (by omega)]
        have:=e8 k 0 q hkn p2
        rw[Array.getD_eq_getD_getElem?]at this
        exact this.keep hk
     ·trivial
    ·rename_i et sz' n F kk cs hb
     split
     ·rename_i q1 q2
      rw[qK]at q2
      have q1:=qC.1 q1
      have q2:=qAO.1 q2
      subst q1
      intro hik
      have hik:i ()=kk ():=hik
      rw[hik]at he
      have hb:=qJ hb rfl
      rcases hh.obj b _ hb with⟨e1,e2,e3⟩|⟨g',cur,e1,r⟩
      ·cases e3
      ·rw[hg]at e1;cases e1
       obtain⟨p1,p2,p3⟩:=r.opn kk cs rfl
       have e3:=r.cell
       have e2:=r.hM
       have hsz2:(kk ()+1)*sz0≤cur.size:=by rw[r.size];exact Nat.mul_le_mul_right _ (by have:=r.le;omega)
       rw[Nat.succ_mul]at hsz2
       have hst:=qB9 (v:=a.eval y) (qDS hT hs) e3 (by omega) h1 (ofs:=kk ()*sz0+ofs) (by omega)
       obtain⟨f1,f2,f3,f4,f5,f6⟩:=qAQ (w:=w) (cur':=(cur.toList.take (kk ()*sz0+ofs)++(a.eval y).cells.toList++cur.toList.drop (kk ()*sz0+ofs+(a.eval y).cells.size)).toArray) e3
       have hk:∀k,k<w.heap.size→¬M k→(w.setRow g (cur.toList.take (kk ()*sz0+ofs)++(a.eval y).cells.toList++cur.toList.drop (kk ()*sz0+ofs+(a.eval y).cells.size)).toArray).heap[k]? =w.heap[k]? ∧¬M k:=
        fun k hk hk'=>⟨f6 k (by rintro rfl;exact hk' e2),hk'⟩
       have hget:∀m,((cur.toList.take (kk ()*sz0+ofs)++(a.eval y).cells.toList++cur.toList.drop (kk ()*sz0+ofs+(a.eval y).cells.size)).toArray).getD m undef=if kk ()*sz0+ofs≤m∧m<kk ()*sz0+ofs+(a.eval y).cells.size then(a.eval y).cells.toList.getD (m-(kk ()*sz0+ofs)) undef else cur.getD m undef:=by
        intro m
        have h3:=qAx cur.toList (a.eval y).cells.toList (kk ()*sz0+ofs) m (by simp;omega)
        simp only[Array.length_toList]at h3
        rw[qBh,h3,qG]
       obtain⟨n1,n2⟩:=r.row (w':=w.setRow g (cur.toList.take (kk ()*sz0+ofs)++(a.eval y).cells.toList++cur.toList.drop (kk ()*sz0+ofs+(a.eval y).cells.size)).toArray) (cs':=splice ofs vs cs) hk f6 f5 (by simp;omega)
        (fun m j hm hj=>by
          rw[hget,if_neg]
          rintro⟨c1,c2⟩
          rcases Nat.lt_or_gt_of_ne hm with hlt'|hgt
          ·have:=Nat.mul_le_mul_right sz0 (show m+1≤kk () by omega)
           rw[Nat.succ_mul]at this
           omega
          ·have:=Nat.mul_le_mul_right sz0 (show kk ()+1≤m by omega)
           rw[Nat.succ_mul]at this
           omega)
        (by rw[qBg _ _ _ (by omega)];simp;omega)
        (fun j hj=>by
          rw[hget]
          split
          ·rename_i hc2
           have hlt3:kk ()*sz0+j-(kk ()*sz0+ofs)<(a.eval y).cells.toList.length:=by simp;omega
           rw[List.getD_eq_getElem?_getD,List.getElem?_eq_getElem hlt3]
           exact h1 _ (List.getElem_mem hlt3)
          ·refine r.ones.one _ ?_
           have:=Nat.mul_le_mul_right sz0 (show kk ()+1≤n () by omega)
           rw[Nat.succ_mul]at this
           omega)
        (fun j z hj=>by
          rw[qDc _ _ _ _ (by omega)]at hj
          rw[hget]
          by_cases hc2:ofs≤j∧j<ofs+vs.length
          ·rw[if_pos hc2]at hj
           rw[if_pos (by omega),show kk ()*sz0+j-(kk ()*sz0+ofs)=j-ofs by omega]
           exact(hr.2 _ _ hj).keep hk (fun _ _=>⟨rfl,rfl⟩)
          ·rw[if_neg hc2]at hj
           rw[if_neg (by omega)]
           exact(p3 j z hj).keep hk (fun _ _=>⟨rfl,rfl⟩))
       refine⟨_,undef,_,M,β,cp,hrun _ _ he hst,.inr ⟨rfl,rfl⟩,qBW hh hb rfl rfl hg e2 f1 f2 f3 f4 f6 (.inr ⟨g,_,hg,n1⟩) (fun q hq=> ?_),.c (.any _)⟩
       cases hq with
       |self=>exact .self _
       |inn _ _ _ _ _ cur2 i2 j2 x2 _ g1 g2 g3 g4 g5=>
        rw[f5]at g1
        simp only[Option.some.injEq,Obj.cells.injEq]at g1
        obtain⟨rfl,-,-⟩:=g1
        exact .inn _ _ _ _ _ cur i2 j2 x2 q e3 g2 g3 g4 (n2 i2 j2 x2 q g2 g3 g4 g5)
     ·trivial
    ·rename_i cs hb
     split
     ·rename_i u q1 hv1
      have q1:=qC.1 q1
      subst q1
      intro hlt
      have hlt:i ()<len (nums (qAI ofs cs)):=hlt
      rw[qK,qAr]at hlt
      obtain⟨x0,n1,n2⟩:=qHq _ _ hlt
      rw[List.getElem?_drop]at n1
      have hlt2:=(List.getElem?_eq_some_iff.1 n1).1
      have hb:=qJ hb rfl
      obtain⟨g',cur,t',e1,e2,e3,e4,e5⟩:=hh.obj b _ hb
      rw[hg]at e1;cases e1
      have hl:cur.size=cs.length:=by simpa using e4.1
      have hv1:(a.eval y).cells.size=1:=by simpa using hvl
      have hst:=qB9 (v:=a.eval y) (qDS hT hs) e3 (by omega) h1 (ofs:=i ()*1+ofs) (by omega)
      obtain⟨f1,f2,f3,f4,f5,f6⟩:=qAQ (w:=w) (cur':=(cur.toList.take (i ()*1+ofs)++(a.eval y).cells.toList++cur.toList.drop (i ()*1+ofs+(a.eval y).cells.size)).toArray) e3
      have hk:∀k,k<w.heap.size→¬M k→(w.setRow g (cur.toList.take (i ()*1+ofs)++(a.eval y).cells.toList++cur.toList.drop (i ()*1+ofs+(a.eval y).cells.size)).toArray).heap[k]? =w.heap[k]? ∧¬M k:=
       fun k hk hk'=>⟨f6 k (by rintro rfl;exact hk' e2),hk'⟩
      refine⟨_,undef,_,M,β,cp,hrun _ _ he hst,.inr ⟨rfl,rfl⟩,qBW hh hb rfl rfl hg e2 f1 f2 f3 f4 f6 ⟨g,_,t',hg,e2,f5,⟨by rw[qII];simp;omega,fun j z hj=> ?_⟩, ?_⟩,.c (.any _)⟩
      ·have h3:=qAx cur.toList (a.eval y).cells.toList (i ()*1+ofs) j (by simp;omega)
       simp only[Array.length_toList]at h3
       show Rep _ _ _ _ z ((cur.toList.take (i ()*1+ofs)++(a.eval y).cells.toList++cur.toList.drop (i ()*1+ofs+(a.eval y).cells.size)).getD j undef)
       rw[h3]
       rcases qIJ ofs cs j z hj with⟨c1,x,c2,rfl⟩|⟨c1,c2⟩
       ·by_cases hij:i ()+ofs=j
        ·rw[if_pos (by omega)]
         have hr0:=hr.2 0 (.i .i64 u) rfl
         have e9:j-(i ()*1+ofs)=0:=by omega
         rw[e9,qAB hr0]
         have e10:(bif decide (i ()+ofs=j)then u ()else x ())=u ():=by rw[decide_eq_true hij];rfl
         exact qRI _ e10
        ·rw[if_neg (by omega)]
         have hr0:=e4.2 _ _ c2
         rw[qAB hr0]
         have e10:(bif decide (i ()+ofs=j)then u ()else x ())=x ():=by rw[decide_eq_false hij];rfl
         exact qRI _ e10
       ·rw[if_neg (by omega)]
        exact(e4.2 _ _ c2).keep hk (fun _ _=>⟨rfl,rfl⟩)
      ·have:=qEs cur.toList (a.eval y).cells.toList (i ()*1+ofs) (by simpa using e5.one) h1
       exact⟨by simpa using this,e5.cm⟩
     ·trivial
    ·trivial
   ·trivial
  ·trivial
 ·trivial
end
end Go.Abs
namespace Go.Abs
open Go
variable [Kd]
section
variable {P:Program}{E:Env}{o:Oper}{a:Act}{w:World}{M:Nat→Prop}{β:Nat→Option Nat}{cp:Nat→Nat}{h:Hp}{s:Tm}{nid:Nat}
theorem wrap64_in {n:Int}(hn:InR n):IntKind.i64.wrap n=n:=by
 obtain⟨h1,h2⟩:=hn
 simp only[IntKind.wrap,IntKind.bits,IntKind.signed]
 simp
 omega
theorem qUF {k k':IntKind}(h:kEq k k'=true):k=k':=by
 unfold kEq at h
 split at h<;>first|rfl|cases h
theorem qDd {t:TypeId}{d:TypeDesc}(hu:P.underlying t=some d) (h1:∀fs,d≠ .struct fs) (h2:∀n e,d≠ .array n e) {cs:Array Value}{ofs:Nat}(hlt:ofs<cs.size):
  (part t cs ofs).run P w= .ok (cs.getD ofs undef) w:=by
 simp only[part,Sem.run_bind,qBX hu h1 h2,Result.andThen_ok]
 simp[hlt]
theorem qE5 {d:Nat}{xs ys:Array Value}:∀(fs:List Field) (ks:List LK) (n:Nat) (l m:List AV) (r:Th Bool),qGy P n ks fs=true→qAu ks l m=some r→
  n+l.length≤xs.size→n+m.length≤ys.size→(∀(j:Nat) (x:AV),l[j]? =some x→Rep w M β cp x (xs.getD (n+j) undef))→(∀(j:Nat) (x:AV),m[j]? =some x→Rep w M β cp x (ys.getD (n+j) undef))→
  (Op.eqFields (d+1) xs ys fs).run P w= .ok (r ()) w
 |[],[],n,[],[],r,_,he,_,_,_,_=>by simp[qAu]at he;subst he;simp[Op.eqFields]
 |f::fs,k::ks,n,x::l,y::m,r,hf,he,hx,hy,hxs,hys=>by
  simp only[qGy,Bool.and_eq_true,bne_iff_ne,ne_eq,beq_iff_eq]at hf
  obtain⟨⟨⟨hnm,hofs⟩,hty⟩,hrest⟩:=hf
  simp only[qAu]at he
  split at he
  ·cases he
  ·rename_i r' hr'
   have h1:=hxs 0 x rfl
   have h2:=hys 0 y rfl
   have ih:=qE5 (xs:=xs) (ys:=ys) (d:=d) fs ks (n+1) l m r' hrest hr' (by simp at hx;omega) (by simp at hy;omega)
    (fun j x hj=>by have:=hxs (j+1) x (by simpa using hj);rwa [show n+(j+1)=n+1+j by omega]at this)
    (fun j x hj=>by have:=hys (j+1) x (by simpa using hj);rwa [show n+(j+1)=n+1+j by omega]at this)
   simp only[Nat.add_zero]at h1 h2
   have hx0:n<xs.size:=by simp at hx;omega
   have hy0:n<ys.size:=by simp at hy;omega
   have fin:∀q:Bool,(∃u,P.underlying f.type=some u∧(∀fs,u≠ .struct fs)∧(∀n e,u≠ .array n e))→
     (Op.equalIn (d+1) f.type (xs.getD n undef) (ys.getD n undef)).run P w= .ok q w→(Op.eqFields (d+1) xs ys (f::fs)).run P w= .ok (q&&r' ()) w:=by
    intro q ⟨u,hu,hu1,hu2⟩ hq
    simp only[Op.eqFields,hnm,not_false_eq_true,ne_eq,if_true,hofs,Sem.run_bind,qDd hu hu1 hu2 hx0,qDd hu hu1 hu2 hy0,Result.andThen_ok,hq]
    cases q<;>simp[ih]
   split at he
   ·cases he
    obtain⟨k',hu⟩:=LK.fits_i hty
    rw[qAB h1,qAB h2]at fin
    exact fin _ ⟨_,hu,by simp,by simp⟩ (run_equalIn_int w d f.type _ _ _ _ hu)
   ·cases he
    have hu:=LK.fits_b hty
    rw[qBU h1,qBU h2]at fin
    exact fin _ ⟨_,hu,by simp,by simp⟩ (run_equalIn_bool' w d f.type _ _ hu)
   ·cases he
    have hu:=LK.fits_b hty
    rw[qAN h1,qBU h2]at fin
    exact fin _ ⟨_,hu,by simp,by simp⟩ (run_equalIn_bool' w d f.type _ _ hu)
   ·cases he
    have hu:=LK.fits_b hty
    rw[qBU h1,qAN h2]at fin
    exact fin _ ⟨_,hu,by simp,by simp⟩ (run_equalIn_bool' w d f.type _ _ hu)
   ·cases he
    have hu:=LK.fits_b hty
    rw[qAN h1,qAN h2]at fin
    exact fin _ ⟨_,hu,by simp,by simp⟩ (run_equalIn_bool' w d f.type _ _ hu)
   ·cases he
    have hu:=LK.fits_s hty
    rw[qBV h1,qBV h2]at fin
    exact fin _ ⟨_,hu,by simp,by simp⟩ (run_equalIn_string w d f.type _ _ hu)
   ·cases he
 |[],[],_,[],_::_,_,_,he,_,_,_,_=>by simp[qAu]at he
 |[],[],_,_::_,_,_,_,he,_,_,_,_=>by simp[qAu]at he
 |[],_::_,_,_,_,_,hf,_,_,_,_,_=>by simp[qGy]at hf
 |_::_,[],_,_,_,_,hf,_,_,_,_,_=>by simp[qGy]at hf
 |_::_,_::_,_,[],_,_,_,he,_,_,_,_=>by simp[qAu]at he
 |_::_,_::_,_,_::_,[],_,_,he,_,_,_,_=>by simp[qAu]at he
omit [Kd]in
theorem qIK:∀{n:Nat}{ks:List LK}{fs:List Field},qGy P n ks fs=true→ks.length=fs.length
 |_,[],[],_=>rfl
 |n,k::ks,f::fs,h=>by
  simp only[qGy,Bool.and_eq_true]at h
  rw[List.length_cons,List.length_cons,qIK h.2]
 |_,[],_::_,h=>by simp[qGy]at h
 |_,_::_,[],h=>by simp[qGy]at h
omit [Kd]in
theorem qDT:∀(a b:List LK) (l m:List AV) (r:Th Bool),qAu (a++b) l m=some r→∃r1 r2:Th Bool,qAu a (l.take a.length) (m.take a.length)=some r1∧qAu b (l.drop a.length) (m.drop a.length)=some r2∧r ()=(r1 ()&&r2 ())∧a.length≤l.length∧a.length≤m.length
 |[],b,l,m,r,h=>⟨fun _=>true,r,by simp[qAu],by simpa using h,by simp,Nat.zero_le _,Nat.zero_le _⟩
 |k::a,b,[],m,r,h=>by simp[qAu]at h
 |k::a,b,x::l,[],r,h=>by simp[qAu]at h
 |k::a,b,x::l,y::m,r,h=>by
  simp only[List.cons_append,qAu]at h
  split at h
  ·cases h
  ·rename_i r' hr'
   obtain⟨r1,r2,h1,h2,h3,h4,h5⟩:=qDT a b l m r' hr'
   have hz:∀p:Bool,(p&&r' ())=((p&&r1 ())&&r2 ()):=fun p=>by rw[h3,Bool.and_assoc]
   simp only[List.length_cons,List.take_succ_cons,List.drop_succ_cons,qAu,h1]
   split at h<;>first
    |(cases h;exact⟨_,r2,rfl,h2,hz _,by omega,by omega⟩)
    |cases h
theorem qCy {d:Nat}{xs ys:Array Value}:∀(fs:List Field) (ks:List LK) (n:Nat) (l m:List AV) (r:Th Bool),qMn P n ks fs=true→qAu ks l m=some r→
  n+l.length≤xs.size→n+m.length≤ys.size→(∀(j:Nat) (x:AV),l[j]? =some x→Rep w M β cp x (xs.getD (n+j) undef))→(∀(j:Nat) (x:AV),m[j]? =some x→Rep w M β cp x (ys.getD (n+j) undef))→
  (Op.eqFields (d+2) xs ys fs).run P w= .ok (r ()) w
 |[],[],n,l,m,r,_,he,_,_,_,_=>by
  cases l<;>cases m<;>simp[qAu]at he
  subst he;simp[Op.eqFields]
 |[],_::_,_,_,_,_,hf,_,_,_,_,_=>by simp[qMn]at hf
 |f::fs,ks,n,l,m,r,hf,he,hx,hy,hxs,hys=>by
  simp only[qMn,Bool.and_eq_true,bne_iff_ne,ne_eq,beq_iff_eq]at hf
  obtain⟨⟨hnm,hofs⟩,hf⟩:=hf
  split at hf
  ·rename_i fs2 hu
   simp only[Bool.and_eq_true,Bool.not_eq_true',beq_iff_eq]at hf
   obtain⟨⟨⟨hst,hsz⟩,hfl⟩,hrest⟩:=hf
   have hlen:(ks.take fs2.size).length=fs2.size:=by rw[qIK hfl];simp
   have hks:ks=ks.take fs2.size++ks.drop fs2.size:=(List.take_append_drop _ _).symm
   rw[hks]at he
   obtain⟨r1,r2,h1,h2,h3,h4,h5⟩:=qDT _ _ _ _ _ he
   rw[hlen]at h1 h2 h4 h5
   have ih:=qCy (xs:=xs) (ys:=ys) (d:=d) fs _ (n+fs2.size) (l.drop fs2.size) (m.drop fs2.size) r2 hrest h2 (by rw[List.length_drop];omega) (by rw[List.length_drop];omega)
    (fun j x hj=>by rw[List.getElem?_drop]at hj;have:=hxs _ x hj;rwa [show n+(fs2.size+j)=n+fs2.size+j by omega]at this)
    (fun j x hj=>by rw[List.getElem?_drop]at hj;have:=hys _ x hj;rwa [show n+(fs2.size+j)=n+fs2.size+j by omega]at this)
   have hfo:P.fieldsOf f.type=fs2:=by simp[Program.fieldsOf,hu]
   have sub:∀{zs:Array Value}{l:List AV},fs2.size≤l.length→n+l.length≤zs.size→(∀(j:Nat) (x:AV),l[j]? =some x→Rep w M β cp x (zs.getD (n+j) undef))→∀(j:Nat) (x:AV),(l.take fs2.size)[j]? =some x→Rep w M β cp x ((zs.extract n (n+fs2.size)).getD (0+j) undef):=fun{zs l} ha hb hz j x hj=>by
    rw[List.getElem?_take]at hj
    split at hj
    ·rename_i hlt
     have:=hz j x hj
     have e:(zs.extract n (n+fs2.size)).getD (0+j) undef=zs.getD (n+j) undef:=by
      rw[Nat.zero_add]
      have q1:j<(zs.extract n (n+fs2.size)).size:=by rw[Array.size_extract];omega
      have q2:n+j<zs.size:=by omega
      simp[Array.getD,q2]
      rw[dif_pos (by omega)]
     rw[e];exact this
    ·cases hj
   have key:=qE5 (P:=P) (w:=w) (M:=M) (β:=β) (cp:=cp) (d:=d) (xs:=xs.extract n (n+fs2.size)) (ys:=ys.extract n (n+fs2.size)) fs2.toList _ 0 _ _ r1 hfl h1
    (by rw[List.length_take,Array.size_extract];omega) (by rw[List.length_take,Array.size_extract];omega) (sub h4 hx hxs) (sub h5 hy hys)
   have hsize:(sizeOf f.type).run P w= .ok fs2.size w:=by
    cases hi:P.info? f.type with
    |none=>rw[hi]at hsz;cases hsz
    |some i=>
     rw[hi]at hsz
     have hsz:i.size=fs2.size:=by simpa using hsz
     simp[sizeOf,typeInfo,hi,hsz]
   have hp:∀zs:Array Value,(part f.type zs n).run P w= .ok (.agg (zs.extract n (n+fs2.size))) w:=fun zs=>by
    simp only[part,Sem.run_bind,qCS hu,Result.andThen_ok]
    simp[hsize]
   have heq:(Op.equalIn (d+2) f.type (.agg (xs.extract n (n+fs2.size))) (.agg (ys.extract n (n+fs2.size)))).run P w= .ok (r1 ()) w:=by
    rw[run_equalIn_struct w (d+1) f.type _ _ (by rw[hfo];exact hu) hst,hfo];exact key
   rw[h3]
   simp only[Op.eqFields,hnm,not_false_eq_true,ne_eq,if_true,hofs,Sem.run_bind,hp,Result.andThen_ok,heq]
   cases r1 ()<;>simp[ih]
  ·rename_i hno
   split at hf
   case h_2=>cases hf
   rename_i k ks
   simp only[Bool.and_eq_true]at hf
   obtain⟨hty,hrest⟩:=hf
   cases l with
   |nil=>simp[qAu]at he
   |cons x l=>
   cases m with
   |nil=>simp[qAu]at he
   |cons y m=>
   simp only[qAu]at he
   split at he
   ·cases he
   ·rename_i r' hr'
    have h1:=hxs 0 x rfl
    have h2:=hys 0 y rfl
    have ih:=qCy (xs:=xs) (ys:=ys) (d:=d) fs ks (n+1) l m r' hrest hr' (by simp at hx;omega) (by simp at hy;omega)
     (fun j x hj=>by have:=hxs (j+1) x (by simpa using hj);rwa [show n+(j+1)=n+1+j by omega]at this)
     (fun j x hj=>by have:=hys (j+1) x (by simpa using hj);rwa [show n+(j+1)=n+1+j by omega]at this)
    simp only[Nat.add_zero]at h1 h2
    have hx0:n<xs.size:=by simp at hx;omega
    have hy0:n<ys.size:=by simp at hy;omega
    have fin:∀q:Bool,(∃u,P.underlying f.type=some u∧(∀fs,u≠ .struct fs)∧(∀n e,u≠ .array n e))→
      (Op.equalIn (d+2) f.type (xs.getD n undef) (ys.getD n undef)).run P w= .ok q w→(Op.eqFields (d+2) xs ys (f::fs)).run P w= .ok (q&&r' ()) w:=by
     intro q ⟨u,hu,hu1,hu2⟩ hq
     simp only[Op.eqFields,hnm,not_false_eq_true,ne_eq,if_true,hofs,Sem.run_bind,qDd hu hu1 hu2 hx0,qDd hu hu1 hu2 hy0,Result.andThen_ok,hq]
     cases q<;>simp[ih]
    split at he
    ·cases he
     obtain⟨k',hu⟩:=LK.fits_i hty
     rw[qAB h1,qAB h2]at fin
     exact fin _ ⟨_,hu,by simp,by simp⟩ (run_equalIn_int w (d+1) f.type _ _ _ _ hu)
    ·cases he
     have hu:=LK.fits_b hty
     rw[qBU h1,qBU h2]at fin
     exact fin _ ⟨_,hu,by simp,by simp⟩ (run_equalIn_bool' w (d+1) f.type _ _ hu)
    ·cases he
     have hu:=LK.fits_b hty
     rw[qAN h1,qBU h2]at fin
     exact fin _ ⟨_,hu,by simp,by simp⟩ (run_equalIn_bool' w (d+1) f.type _ _ hu)
    ·cases he
     have hu:=LK.fits_b hty
     rw[qBU h1,qAN h2]at fin
     exact fin _ ⟨_,hu,by simp,by simp⟩ (run_equalIn_bool' w (d+1) f.type _ _ hu)
    ·cases he
     have hu:=LK.fits_b hty
     rw[qAN h1,qAN h2]at fin
     exact fin _ ⟨_,hu,by simp,by simp⟩ (run_equalIn_bool' w (d+1) f.type _ _ hu)
    ·cases he
     have hu:=LK.fits_s hty
     rw[qBV h1,qBV h2]at fin
     exact fin _ ⟨_,hu,by simp,by simp⟩ (run_equalIn_string w (d+1) f.type _ _ hu)
    ·cases he
theorem qNm {x:AV}{v:Value}{p:Th Bool}(hr:Rep w M β cp x v) (hp:asB x=some p):v= .bool (p ()):=by
 unfold asB at hp
 split at hp
 ·cases hp;exact qBU hr
 ·cases hp;exact qAN hr
 ·cases hp
theorem qMp {t t':TypeId}{op:BinOp}{x y:Operand}(hh:HeapRel w M β cp h) (ho:o.op= .binOp op t x y t') {k:IntKind}{p q:Th Int}
  (ex:a.eval x= .int k (p ())) (ey:a.eval y= .int k (q ())):(qSC k op p q).Sound (Good P o a w M β cp h nid):=by
 have run:∀v:Value,(binOp op t (.int k (p ())) (.int k (q ()))).run P w= .ok v w→(execOp a.eval o).run P w= .ok (.value v) w:=by
  intro v hv
  have hg:(eqGuard op t x y (.int k (p ())) (.int k (q ()))).run P w= .ok () w:=by cases op<;>simp[eqGuard]
  simp[execOp,ho,ex,ey,hg,hv]
 unfold qSC
 split
 ·exact qF hh (run (.int k (k.wrap (p ()+q ()))) (by simp[binOp,Op.intArith])) (.c (.i k fun _=>k.wrap (p ()+q ())))
 ·exact qF hh (run (.int k (k.wrap (p ()-q ()))) (by simp[binOp,Op.intArith])) (.c (.i k fun _=>k.wrap (p ()-q ())))
 ·exact qF hh (run (.int k (k.wrap (p ()*q ()))) (by simp[binOp,Op.intArith])) (.c (.i k fun _=>k.wrap (p ()*q ())))
 ·intro h0
  have h0:q ()≠0:=h0
  exact qF hh (run (.int k (k.wrap ((p ()).tdiv (q ())))) (by simp[binOp,Op.intDiv,h0])) (.c (.i k fun _=>k.wrap ((p ()).tdiv (q ()))))
 ·intro h0
  have h0:q ()≠0:=h0
  exact qF hh (run (.int k ((p ()).tmod (q ()))) (by simp[binOp,Op.intDiv,h0])) (.c (.i k fun _=>(p ()).tmod (q ())))
 ·exact qF hh (run (.int k (qUC k (p ()) (q ()))) (by simp[binOp,Op.intBits,qUC])) (.c (.i k fun _=>qUC k (p ()) (q ())))
 ·exact qF hh (run (.int k (bOr k (p ()) (q ()))) (by simp[binOp,Op.intBits,bOr])) (.c (.i k fun _=>bOr k (p ()) (q ())))
 ·exact qF hh (run (.int k (qRC k (p ()) (q ()))) (by simp[binOp,Op.intBits,qRC])) (.c (.i k fun _=>qRC k (p ()) (q ())))
 ·exact qF hh (run (.int k (qHo k (p ()) (q ()))) (by simp[binOp,Op.intBits,qHo])) (.c (.i k fun _=>qHo k (p ()) (q ())))
 ·exact qF hh (run (.bool (decide (p ()<q ()))) (by simp[binOp,Op.intCmp])) (.c (.b fun _=>decide (p ()<q ())))
 ·exact qF hh (run (.bool (decide (p ()≤q ()))) (by simp[binOp,Op.intCmp])) (.c (.b fun _=>decide (p ()≤q ())))
 ·exact qF hh (run (.bool (decide (q ()<p ()))) (by simp[binOp,Op.intCmp])) (.c (.b fun _=>decide (q ()<p ())))
 ·exact qF hh (run (.bool (decide (q ()≤p ()))) (by simp[binOp,Op.intCmp])) (.c (.b fun _=>decide (q ()≤p ())))
 ·exact qF hh (run (.bool (p ()==q ())) (by simp[binOp,Op.intCmp])) (.c (.b fun _=>p ()==q ()))
 ·exact qF hh (run (.bool (!(p ()==q ()))) (by simp[binOp,Op.intCmp];rfl)) (.c (.b fun _=> !(p ()==q ())))
 ·intro h0
  have h0:¬q ()<0:=Int.not_lt.2 h0
  exact qF hh (run (.int k (qRD k (p ()) (q ()))) (by simp[binOp,Op.shift,qRD,h0])) (.c (.i k fun _=>qRD k (p ()) (q ())))
 ·intro h0
  have h0:¬q ()<0:=Int.not_lt.2 h0
  exact qF hh (run (.int k (qNh k (p ()) (q ()))) (by simp[binOp,Op.shift,qNh,h0])) (.c (.i k fun _=>qNh k (p ()) (q ())))
theorem qNn {T:Ty}{t t':TypeId}{op:BinOp}{x y:Operand}{wr:Bool}(hT:qE4 P t T) (hh:HeapRel w M β cp h) (ho:o.op= .binOp op t x y t') {X Y:AV}
  (hx:Rep w M β cp X (a.eval x)) (hy:Rep w M β cp Y (a.eval y)):(qXQ T wr op X Y).Sound (Good P o a w M β cp h nid):=by
 unfold qXQ
 split
 ·rename_i k p k' q
  have ex:=qAB hx
  have ey:=qAB hy
  have run:∀v:Value,(binOp op t (.int k (p ())) (.int k' (q ()))).run P w= .ok v w→(execOp a.eval o).run P w= .ok (.value v) w:=by
   intro v hv
   have hg:(eqGuard op t x y (.int k (p ())) (.int k' (q ()))).run P w= .ok () w:=by cases op<;>simp[eqGuard]
   simp[execOp,ho,ex,ey,hg,hv]
  split
  ·rename_i hk
   obtain rfl:=qUF hk
   split
   ·intro hr
    exact qF hh (run (.int .i64 (p ()+q ())) (by simp[binOp,Op.intArith,wrap64_in hr])) (.c (.i .i64 fun _=>p ()+q ()))
   ·intro hr
    exact qF hh (run (.int .i64 (p ()-q ())) (by simp[binOp,Op.intArith,wrap64_in hr])) (.c (.i .i64 fun _=>p ()-q ()))
   ·intro hr
    exact qF hh (run (.int .i64 (p ()*q ())) (by simp[binOp,Op.intArith,wrap64_in hr])) (.c (.i .i64 fun _=>p ()*q ()))
   ·rintro⟨h0,hr⟩
    exact qF hh (run (.int .i64 ((p ()).tdiv (q ()))) (by simp[binOp,Op.intDiv,wrap64_in hr,h0])) (.c (.i .i64 fun _=>(p ()).tdiv (q ())))
   ·exact qMp hh ho ex ey
  ·split
   ·intro h0
    have h0:¬q ()<0:=Int.not_lt.2 h0
    exact qF hh (run (.int k (qRD k (p ()) (q ()))) (by simp[binOp,Op.shift,qRD,h0])) (.c (.i k fun _=>qRD k (p ()) (q ())))
   ·intro h0
    have h0:¬q ()<0:=Int.not_lt.2 h0
    exact qF hh (run (.int k (qNh k (p ()) (q ()))) (by simp[binOp,Op.shift,qNh,h0])) (.c (.i k fun _=>qNh k (p ()) (q ())))
   ·trivial
 ·rename_i p q
  have ex:=qBV hx
  have ey:=qBV hy
  have run:∀v:Value,(binOp op t (.string (p ())) (.string (q ()))).run P w= .ok v w→(execOp a.eval o).run P w= .ok (.value v) w:=by
   intro v hv
   have hg:(eqGuard op t x y (.string (p ())) (.string (q ()))).run P w= .ok () w:=by cases op<;>simp[eqGuard]
   simp[execOp,ho,ex,ey,hg,hv]
  split
  ·exact qF hh (run (.bool ((p ()).toList==(q ()).toList)) (by simp[binOp,Op.stringOp])) (.c (.b fun _=>(p ()).toList==(q ()).toList))
  ·exact qF hh (run (.bool (!((p ()).toList==(q ()).toList))) (by simp[binOp,Op.stringOp])) (.c (.b fun _=> !((p ()).toList==(q ()).toList)))
  ·intro hr
   have hr:(p ()).size+(q ()).size≤9223372036854775807:=hr
   refine qF hh (run (.string (p ()++q ())) ?_) (.c (.s fun _=>p ()++q ()))
   simp only[binOp,Op.stringOp]
   rw[if_neg (by simp[IntKind.max,IntKind.bits,IntKind.signed];omega)]
   rfl
  ·trivial
 ·rename_i l m
  obtain⟨xs,ex,hl,_⟩:=qBs hx
  obtain⟨ys,ey,hm,_⟩:=qBs hy
  split
  ·rename_i ks fs sz z
   split
   ·rename_i r hr
    obtain⟨⟨fields,hu,_,hflat⟩,_⟩:=hT
    obtain⟨h1,h2,h3⟩:=hflat ks rfl
    have hfo:P.fieldsOf t=fields:=by simp[Program.fieldsOf,hu]
    have he:=run_equalIn_struct (P:=P) w 9999 t xs ys (by rw[hfo];exact hu) h1
    rw[hfo,qCy (d:=9997) (w:=w) (M:=M) (β:=β) (cp:=cp) fields.toList ks 0 l m r h3 hr (by have:=hl.1;simp at this;omega) (by have:=hm.1;simp at this;omega)
     (fun j x hj=>by have:=hl.2 j x hj;rw[Nat.zero_add,qG];exact this) (fun j x hj=>by have:=hm.2 j x hj;rw[Nat.zero_add,qG];exact this)]at he
    have run:∀v:Value,(binOp op t (.agg xs) (.agg ys)).run P w= .ok v w→(execOp a.eval o).run P w= .ok (.value v) w:=by
     intro v hv
     have hg:=run_eqGuard_agg (P:=P) w op t x y xs ys h2
     simp[execOp,ho,ex,ey,hg,hv]
    split
    ·exact qF hh (run (.bool (r ())) (by rw[run_eql_struct,he];rfl)) (.c (.b r))
    ·exact qF hh (run (.bool (!(r ()))) (by rw[run_neq_struct,he];rfl)) (.c (.b fun _=> !(r ())))
    ·trivial
   ·trivial
  ·trivial
 ·split
  ·rename_i p q hp hq
   have ex:=qNm hx hp
   have ey:=qNm hy hq
   have run:∀v:Value,(binOp op t (.bool (p ())) (.bool (q ()))).run P w= .ok v w→(execOp a.eval o).run P w= .ok (.value v) w:=by
    intro v hv
    have hg:(eqGuard op t x y (.bool (p ())) (.bool (q ()))).run P w= .ok () w:=by cases op<;>simp[eqGuard]
    simp[execOp,ho,ex,ey,hg,hv]
   split
   ·exact qF hh (run _ (run_eql_bool w t _ _ hT.1)) (.c (.b fun _=>p ()==q ()))
   ·exact qF hh (run _ (run_neq_bool w t _ _ hT.1)) (.c (.b fun _=> !(p ()==q ())))
   ·trivial
  ·trivial
theorem qNo {y:Operand}(h:qNj y=true):y= .const .nilIface:=by
 unfold qNj at h
 split at h
 ·rfl
 ·cases h
theorem qNp {t t':TypeId}{op:BinOp}{x y:Operand}(hT:∃ms,P.underlying t=some (.interface ms)) (hh:HeapRel w M β cp h) (ho:o.op= .binOp op t x y t') {X:AV}
  (hx:Rep w M β cp X (a.eval x)):(qXR op X y).Sound (Good P o a w M β cp h nid):=by
 unfold qXR
 split
 case h_2=>trivial
 rename_i c hy hc
 have hy:=qNo hy
 subst hy
 obtain⟨ms,hu⟩:=hT
 have ey:a.eval (.const .nilIface)= .nilIface:=rfl
 have key:(a.eval x= .nilIface∧c ()=true)∨(∃t2 v2,a.eval x= .iface t2 v2)∧c ()=false:=by
  unfold qYl at hc
  split at hc
  case h_2=>cases hc
  rename_i c0 q t0 x0
  split at hc
  case h_2=>cases hc
  rename_i hq
  cases hc
  have two:(c ()=true→Rep w M β cp (.con q) (a.eval x))∧(c ()=false→Rep w M β cp (.ifc t0 x0) (a.eval x)):=by
   generalize a.eval x=v at hx
   cases hx with
   |c h=>cases h with
    |ite _ _ _ _ h1 h2=>exact⟨fun e=> .c (h1 e),fun e=> .c (h2 e)⟩
   |ite _ _ _ _ h1 h2=>exact⟨h1,h2⟩
  cases e:c ()with
  |true=>
   refine .inl ⟨?_,rfl⟩
   have r:=two.1 e
   generalize a.eval x=v at r
   cases r with
   |c r=>cases r;exact hq
  |false=>
   refine .inr ⟨?_,rfl⟩
   have r:=two.2 e
   generalize a.eval x=v at r
   cases r with
   |c r=>cases r;exact⟨_,_,rfl⟩
   |ifc=>exact⟨_,_,rfl⟩
 have hrun:(Op.equal t (a.eval x) .nilIface).run P w= .ok (c ()) w:=by
  have e9:∀u v,Op.equal t u v=Op.equalIn (9999+1) t u v:=fun _ _=>rfl
  rcases key with⟨e,k⟩|⟨⟨t2,v2,e⟩,k⟩<;>rw[e,k,e9,Op.equalIn]<;>simp[run_underlying hu]
 have hg:(eqGuard op t x (.const .nilIface) (a.eval x) .nilIface).run P w= .ok () w:=by
  rcases key with⟨e,-⟩|⟨⟨t2,v2,e⟩,-⟩<;>rw[e]<;>cases op<;>simp[eqGuard]
 have run:∀v:Value,(binOp op t (a.eval x) .nilIface).run P w= .ok v w→(execOp a.eval o).run P w= .ok (.value v) w:=by
  intro v hv
  simp[execOp,ho,ey,hg,hv]
 split
 ·refine qF hh (run (.bool (c ())) ?_) (.c (.b c))
  rcases key with⟨e,k⟩|⟨⟨t2,v2,e⟩,k⟩<;>rw[e]at hrun ⊢<;>simp[binOp,hrun]
 ·refine qF hh (run (.bool (!(c ()))) ?_) (.c (.b fun _=> !(c ())))
  rcases key with⟨e,k⟩|⟨⟨t2,v2,e⟩,k⟩<;>rw[e]at hrun ⊢<;>simp[binOp,hrun]
 ·trivial
end
end Go.Abs
namespace Go.Abs
open Go
variable [Kd]
section
variable {P:Program}{E:Env}{o:Oper}{a:Act}{w:World}{M:Nat→Prop}{β:Nat→Option Nat}{cp:Nat→Nat}{h:Hp}{s:Tm}{nid:Nat}
theorem qLc (hh:HeapRel w M β cp h) (hn:nid≤h.length) (hd:β nid=none) {t:TypeId}{cs:List AV}{cur:Array Value}
  (hr:(execOp a.eval o).run P w= .ok (.value (.pointer (some ⟨w.heap.size,0,none⟩))) (w.alloc (.cells cur t))) (hc:qAs w M β cp cs cur.toList) (h1:∀v∈cur.toList,v.oneCell'=true):
  Good P o a w M β cp h nid (.ptr nid 0) (.new (.blk cs)):=by
 have hk:∀k,k<w.heap.size→¬M k→(w.alloc (.cells cur t)).heap[k]? =w.heap[k]? ∧¬(M k∨k=w.heap.size):=fun k hk hM=>⟨heap_alloc w _ k hk,by intro h;rcases h with h|h;exact hM h;omega⟩
 have hb:∀b,β b≠none→qZ β nid (some w.heap.size) b=β b∧qAk cp nid 0 b=cp b:=by
  intro b hb
  have:b≠nid:=by rintro rfl;exact hb hd
  simp[qZ,qAk,this]
 refine⟨_,_,_,_,_,_,hr,.inl rfl,qCm hh hn hd (.cells cur t) 0 (.blk cs) rfl ⟨w.heap.size,cur,t,by simp[qZ],.inr rfl,qAl w _,hc.keep hk hb,⟨fun v hv=>h1 v (by simpa using hv),by simp[qAk]⟩⟩, ?_⟩
 exact .ptr nid 0 w.heap.size (by simp[qZ])
theorem qEt (t:TypeId) (v:Value):(newVar t v).run P w= .ok ⟨w.heap.size,0,none⟩ (w.alloc (.cells v.cells t)):=by
 simp only[newVar,newRow,Sem.run_bind,run_newObj,Result.andThen_ok,Sem.run_pure];rfl
theorem qJ1 {t:TypeId}{T:Ty}(hT:qE4 P t T) {z:List AV}(hz:zeroOf T=some z):∃zv,(zeroValue t).run P w= .ok zv w∧qAs w M β cp z zv.cells.toList∧∀v∈zv.cells.toList,v.oneCell'=true:=by
 have fin:∀{sz:Nat},qCP P t sz z→∃zv,(zeroValue t).run P w= .ok zv w∧qAs w M β cp z zv.cells.toList∧∀v∈zv.cells.toList,v.oneCell'=true:=by
  intro sz hi
  obtain⟨zv,h1,h2,h3⟩:=qDb (w:=w) hi
  exact⟨zv,h1,by rw[←h2];exact qCQ _,h3⟩
 cases T with
 |int k=>cases hz;exact fin hT.2
 |bool=>cases hz;exact fin hT.2
 |str=>cases hz;exact fin hT.2
 |slice e sz b z=>cases hz;exact fin hT.2.2.2.2.2.1
 |struct fl fs sz z=>cases hz;exact fin hT.2
 |one=>
  cases hz
  obtain⟨z,hi⟩:=hT.2
  obtain⟨zv,h1,h2,h3⟩:=qDb (w:=w) hi
  have hl:zv.cells.toList.length=1:=by have:=congrArg List.length h2;simpa using this
  refine⟨zv,h1,⟨by rw[hl];rfl,fun j x hj=> ?_⟩,h3⟩
  match j,hj with
  |0,hj=>cases hj;exact .c (.any _)
 |other=>cases hz
theorem qJ2 {t:TypeId}{T:Ty}(hT:qE4 P t T) (hh:HeapRel w M β cp h) (hn:nid≤h.length) (hd:β nid=none) (ho:o.op= .alloc t) {z:List AV}(hz:zeroOf T=some z):
  Good P o a w M β cp h nid (.ptr nid 0) (.new (.blk z)):=by
 obtain⟨zv,h1,h2,h3⟩:=qJ1 (w:=w) (M:=M) (β:=β) (cp:=cp) hT hz
 exact qLc hh hn hd (by simp[execOp,ho,Instr.alloc,h1,qEt];rfl) h2 h3
theorem qIL {t:TypeId}{T:Ty}(hT:qE4 P t T) (hh:HeapRel w M β cp h) (hn:nid≤h.length) (hd:β nid=none) (ho:o.op= .alloc t) {z:List AV}(hz:zeroOf T=some z) (hb:qXS z=true):
  Good P o a w M β cp h nid (.ptr nid 0) (.new (.fz (some t) (fun _=>2) fun j=>[nth .any z (j ())])):=by
 obtain⟨zv,h1,h2,h3⟩:=qJ1 (w:=w) (M:=M) (β:=β) (cp:=cp) hT hz
 obtain⟨c,rfl⟩:∃c,z=[.con c,.nil]:=by
  unfold qXS at hb
  split at hb
  ·exact⟨_,rfl⟩
  ·cases hb
 have hs:zv.cells.size=2:=by simpa using h2.1
 have hr:(execOp a.eval o).run P w= .ok (.value (.pointer (some ⟨w.heap.size,0,none⟩))) (w.alloc (.cells zv.cells t)):=by simp[execOp,ho,Instr.alloc,h1,qEt]
 have g0:∀(j:Nat) (x:AV),[AV.con c,.nil][j]? =some x→Rep w M β cp x (zv.cells.getD j undef):=fun j x hx=>by
  have:=h2.2 j x hx
  rwa [←qG]at this
 refine⟨_,_,_,_,_,_,hr,.inl rfl,qCm hh hn hd (.cells zv.cells t) 0 (.fz (some t) (fun _=>2) fun j=>[nth .any [.con c,.nil] (j ())]) rfl ⟨w.heap.size,zv.cells,t,(0,0),by simp[qZ],.inr rfl,qAl w _,⟨rfl,rfl,hs⟩,⟨fun v hv=>h3 v (by simpa using hv),by simp[qAk]⟩,fun _ _=>rfl,fun i j x hi hx=> ?_⟩,.ptr nid 0 w.heap.size (by simp[qZ])⟩
 match j,hx with
 |0,hx=>
  cases hx
  rw[Nat.add_zero]
  have hi:i<2:=hi
  match i,hi with
  |0,_=>
   have q:=g0 0 _ rfl
   generalize zv.cells.getD 0 undef=u at q ⊢
   cases q with|c q=>cases q with|con _ hc=>exact .con _ hc
  |1,_=>
   have q:=g0 1 _ rfl
   generalize zv.cells.getD 1 undef=u at q ⊢
   cases q with|c q=>cases q;exact .nil
theorem qNq {t:TypeId}{x:Operand}{X:AV}(hh:HeapRel w M β cp h) (hn:nid≤h.length) (hd:β nid=none) (ho:o.op= .box t x) (hx:Rep w M β cp X (a.eval x)) {cs:List AV}(hc:cells X=some cs):
  Good P o a w M β cp h nid (.ptr nid 0) (.new (.blk cs)):=by
 obtain⟨h1,h2⟩:=qCR hx hc
 exact qLc hh hn hd (by simp[execOp,ho,Instr.box,qEt];rfl) h1 h2
theorem eqs (cs vs:Array Value) (ofs:Nat) (hle:ofs+vs.size≤cs.size):vs.zipIdx.foldl (fun cs (x:Value×Nat)=>cs.setIfInBounds (ofs+x.2) x.1) cs=(cs.toList.take ofs++vs.toList++cs.toList.drop (ofs+vs.size)).toArray:=by
 have:∀(l:List Value) (k:Nat) (c:Array Value),ofs+k+l.length≤c.size→(l.zipIdx k).foldl (fun cs (x:Value×Nat)=>cs.setIfInBounds (ofs+x.2) x.1) c=(c.toList.take (ofs+k)++l++c.toList.drop (ofs+k+l.length)).toArray:=by
  intro l
  induction l with
  |nil=>intro k c _;simp
  |cons v l ih=>
   intro k c hc
   simp only[List.zipIdx_cons,List.foldl_cons]
   rw[ih (k+1) _ (by simp at hc ⊢;omega)]
   have e:=list_seg_step c.toList (ofs+k) v l (by simp at hc ⊢;omega)
   simpa[Array.toList_setIfInBounds,Nat.add_assoc]using e
 have h1:=this vs.toList 0 cs (by simpa using hle)
 rw[←Array.foldl_toList,Array.toList_zipIdx]
 simpa using h1
theorem qFK {places:Nat→Option (Nat×Nat)}{fs:List (Nat×TypeId×Nat)}(hp:∀i,i<fs.length→places i=some ((fs.getD i (0,0,0)).1,(fs.getD i (0,0,0)).2.2)):
  ∀(ps:List (Nat×AV)) (vs:List (Nat×Value)) (cs out:List AV) (cur:Array Value),qCN fs cs ps=some out→vs.map (·.1)=ps.map (·.1)→
   (∀(j:Nat) (x:Nat×AV) (v:Nat×Value),ps[j]? =some x→vs[j]? =some v→Rep w M β cp x.2 v.2)→qAs w M β cp cs cur.toList→(∀v∈cur.toList,v.oneCell'=true)→
   ∃cur',Instr.fill places cur vs=some cur'∧qAs w M β cp out cur'.toList∧∀v∈cur'.toList,v.oneCell'=true
 |[],vs,cs,out,cur,hf,hm,_,hc,h1=>by
  simp[qCN]at hf
  subst hf
  have:vs=[]:=by simpa using hm
  subst this
  exact⟨cur,rfl,hc,h1⟩
 |(i,x)::ps,vs,cs,out,cur,hf,hm,hv,hc,h1=>by
  match vs,hm with
  |(i',v)::vs,hm0=>
   simp only[List.map_cons,List.cons.injEq]at hm0
   obtain⟨rfl,hm1⟩:=hm0
   simp only[qCN]at hf
   split at hf
   ·rename_i xs ofs t sz hcx hnth
    split at hf
    ·rename_i q1 q2 q3
     rw[qK]at q1 q2 q3
     rw[qK]at q2
     have q1:=qC.1 q1
     have q2:=qAO.1 q2
     have q3:=qQ.1 q3
     have hx:=hv 0 _ _ rfl rfl
     obtain⟨g1,g2⟩:=qCR hx hcx
     have hsz:v.cells.size=xs.length:=by simpa using g1.1
     have hcl:cur.size=cs.length:=by simpa using hc.1
     have hpl:=hp i' q3
     rw[←qAt,hnth]at hpl
     have hfold:=eqs cur v.cells ofs (by omega)
     have hlen:qAs w M β cp (splice ofs xs cs) (cur.toList.take ofs++v.cells.toList++cur.toList.drop (ofs+v.cells.size)).toArray.toList:=by
      refine⟨by rw[qBg _ _ _ q2];simp;omega,fun j z hj=> ?_⟩
      rw[qDc _ _ _ _ q2]at hj
      have h3:=qAx cur.toList v.cells.toList ofs j (by simp;omega)
      simp only[Array.length_toList]at h3
      show Rep _ _ _ _ z ((cur.toList.take ofs++v.cells.toList++cur.toList.drop (ofs+v.cells.size)).getD j undef)
      rw[h3]
      split
      ·rename_i hc2
       rw[hsz]at hc2
       rw[if_pos hc2]at hj
       exact g1.2 _ _ hj
      ·rename_i hc2
       rw[hsz]at hc2
       rw[if_neg hc2]at hj
       exact hc.2 _ _ hj
     obtain⟨cur',r1,r2,r3⟩:=qFK hp ps vs (splice ofs xs cs) out (cur.toList.take ofs++v.cells.toList++cur.toList.drop (ofs+v.cells.size)).toArray hf hm1
      (fun j x v hj hj'=>hv (j+1) x v (by simpa using hj) (by simpa using hj')) hlen
      (by have:=qEs cur.toList v.cells.toList ofs h1 g2;simpa using this)
     refine⟨cur', ?_,r2,r3⟩
     simp only[Instr.fill,hpl]
     rw[if_neg (by simp;omega),hfold]
     exact r1
    ·cases hf
   ·cases hf
theorem run_places:∀(l:List Field) (w:World),(∀f∈l,(P.info? f.type).isSome=true)→(l.mapM fun f=>do pure (f.offset,←sizeOf f.type):Sem (List (Nat×Nat))).run P w= .ok (l.map fun f=>(f.offset,P.cellsOf f.type)) w
 |[],w,_=>by simp
 |f::l,w,hl=>by
  have h1:=hl f (by simp)
  obtain⟨i,hi⟩:=Option.isSome_iff_exists.1 h1
  have ih:=run_places l w (fun f hf=>hl f (by simp[hf]))
  have e:(sizeOf f.type).run P w= .ok i.size w:=by simp[sizeOf,typeInfo,hi]
  simp only[List.mapM_cons,Sem.run_bind,e,Result.andThen_ok,Sem.run_pure]
  rw[ih]
  simp[Program.cellsOf,hi]
theorem qJ3 {t:TypeId}{flat:Option (List LK)}{fs:List (Nat×TypeId×Nat)}{sz:Nat}{z:List AV}{ps:Array (Nat×Operand)}(hT:qE4 P t (.struct flat fs sz z)) (hh:HeapRel w M β cp h)
  (hpos:fs.all (fun f=>Nat.blt 0 f.2.2)=true) (ho:o.op= .build t ps) (hx:∀x,Rep w M β cp (ev s x) (a.eval x)) {cs:List AV}(hc:qCN fs z (ps.toList.map fun p=>(p.1,ev s p.2))=some cs):
  Good P o a w M β cp h nid (.agg cs) .no:=by
 have hT':=hT
 obtain⟨⟨fields,hu,hfs,_⟩,hi⟩:=hT
 obtain⟨zv,z1,z2,z3⟩:=qJ1 (w:=w) (M:=M) (β:=β) (cp:=cp) hT' rfl
 have hinfo:∀f∈fields.toList,(P.info? f.type).isSome=true:=by
  intro f hf
  have h1:=qQ.1 (List.all_eq_true.1 hpos (f.offset,f.type,P.cellsOf f.type) (by rw[←hfs];exact List.mem_map.2 ⟨f,hf,rfl⟩))
  cases hi2:P.info? f.type with
  |some i=>rfl
  |none=>simp[Program.cellsOf,hi2]at h1
 have hpl:=run_places (P:=P) fields.toList w hinfo
 obtain⟨cur',r1,r2,r3⟩:=qFK (w:=w) (M:=M) (β:=β) (cp:=cp) (places:=fun i=>(fields.toList.map fun f=>(f.offset,P.cellsOf f.type))[i]?) (fs:=fs)
  (fun i hi=>by
    rw[←hfs]at hi ⊢
    simp only[List.length_map]at hi
    rw[List.getD_eq_getElem?_getD,List.getElem?_map,List.getElem?_map,List.getElem?_eq_getElem hi]
    rfl) (ps.toList.map fun p=>(p.1,ev s p.2)) (ps.toList.map fun p=>(p.1,a.eval p.2)) z cs zv.cells hc (by simp)
  (fun j x v hj hj'=>by
    simp only[List.getElem?_map,Option.map_eq_some_iff]at hj hj'
    obtain⟨p,hp,rfl⟩:=hj
    obtain⟨p',hp',rfl⟩:=hj'
    rw[hp]at hp'
    cases hp'
    exact hx _) z2 z3
 refine qF hh (v':= .agg cur') ?_ (.agg _ _ (by simpa using r2.1) (fun v hv=>r3 v (by simpa using hv)) fun j x hj=>by rw[qG];exact r2.2 j x hj)
 have hpl2:(fields.mapM fun f=>do pure (f.offset,←sizeOf f.type):Sem (Array (Nat×Nat))).run P w= .ok (fields.toList.map fun f=>(f.offset,P.cellsOf f.type)).toArray w:=by
  rw[Array.mapM_eq_mapM_toList]
  simp only[Sem.run_map,hpl,Result.andThen_ok]
 simp only[execOp,ho,Instr.build,Sem.run_bind,z1,Result.andThen_ok,run_underlying hu,hpl2]
 have r1':Instr.fill (fun x=>(fields.toList.map fun f=>(f.offset,P.cellsOf f.type)).toArray[x]?) zv.cells ((ps.map fun x=>(x.1,a.eval x.2)).toList)=some cur':=by
  simpa using r1
 simp only[r1']
 rfl
end
end Go.Abs
namespace Go.Abs
open Go
variable [Kd]
section
variable {P:Program}{E:Env}{o:Oper}{a:Act}{w:World}{M:Nat→Prop}{β:Nat→Option Nat}{cp:Nat→Nat}{h:Hp}{s:Tm}{nid:Nat}
theorem add_add' {a:Addr}{i j:Nat}:(a.add i).add j=a.add (i+j):=by
 unfold Addr.add
 by_cases hi:i=0<;>by_cases hj:j=0<;>simp[hi,hj,Nat.add_assoc]
theorem qDU {ad:Addr}{f:Field}(h0:0<P.cellsOf f.type):(fieldPlace ad f).run P w= .ok (ad.add f.offset) w:=by
 cases hi:P.info? f.type with
 |none=>simp[Program.cellsOf,hi]at h0
 |some i=>
  have:i.size≠0:=by simp[Program.cellsOf,hi]at h0;omega
  simp[fieldPlace,sizeOf,typeInfo,hi,this]
theorem qBY {t:TypeId}{flat:Option (List LK)}{fs:List (Nat×TypeId×Nat)}{sz:Nat}{z:List AV}{x:Operand}{k:Nat}(hT:qE4 P t (.struct flat fs sz z)) (hh:HeapRel w M β cp h)
  (ho:o.op= .fieldAddr t x k) {X:AV}(hx:Rep w M β cp X (a.eval x)) {ofs tt n:Nat}(hf:nth (0,0,0) fs k=(ofs,tt,n)) (hk:k<fs.length) (hn:0<n) {Y:AV}
  (hY:(∃b p,X= .ptr b p∧Y= .ptr b (p+ofs))∨(∃b q j p,X= .ept b q j p∧Y= .ept b q j (p+ofs))∨∃l,X= .rp l∧ofs<l.length∧Y= .rp (l.drop ofs)):
  Good P o a w M β cp h nid Y .no:=by
 obtain⟨⟨fields,hu,hfs,_⟩,_⟩:=hT
 have hkl:k<fields.size:=by rw[←hfs]at hk;simpa using hk
 have hfk:fields[k]? =some fields[k]:=Array.getElem?_eq_getElem hkl
 have hfe:(fields[k].offset,fields[k].type,P.cellsOf fields[k].type)=(ofs,tt,n):=by
  rw[←hf,qAt,List.getD_eq_getElem?_getD,←hfs,List.getElem?_map]
  simp[hkl]
 simp only[Prod.mk.injEq]at hfe
 obtain⟨e1,e2,e3⟩:=hfe
 have run:∀ad,a.eval x= .pointer (some ad)→(execOp a.eval o).run P w= .ok (.value (.pointer (some (ad.add ofs)))) w:=by
  intro ad he
  have:=qDU (P:=P) (w:=w) (ad:=ad) (f:=fields[k]) (by omega)
  rw[e1]at this
  simp[execOp,ho,Instr.fieldAt,run_underlying hu,hfk,Instr.sureAddr,he,this]
 rcases hY with⟨b,p,rfl,rfl⟩|⟨b,q,j,p,rfl,rfl⟩|⟨l,rfl,hl,rfl⟩
 ·obtain⟨g,hg,he⟩:=qA7 hx
  exact qF hh (run _ he) (by rw[addr_add];exact .ptr b _ g hg)
 ·obtain⟨g,hg,he⟩:=qBH hx
  exact qF hh (run _ he) (by rw[addr_add,Nat.add_assoc];exact .ept b q j _ g hg)
 ·obtain⟨ad,u,he,hM,hl0,hc,h1,hr⟩:=qIG hx
  refine qF hh (run _ he) (.c (.rp _ (ad.add ofs) (fun j=>u (ofs+j)) (by rw[add_block];exact hM) (by simp;omega) (fun j hj=> ?_) (fun j hj=>h1 _ (by simp at hj;omega)) fun j y hj=> ?_))
  ·have:=hc (ofs+j) (by simp at hj;omega)
   rwa [add_add']
  ·exact hr _ y (by rw[←hj,List.getElem?_drop])
theorem qBu {t:TypeId}{e:TypeId}{sz bytes:Nat}{z:List AV}{x y:Operand}(hT:qE4 P t (.slice e sz bytes z)) (hh:HeapRel w M β cp h) (ho:o.op= .indexAddr t x y) {X:AV}{k:IntKind}{i:Th Int}
  (hx:Rep w M β cp X (a.eval x)) (hy:Rep w M β cp (.i k i) (a.eval y)) {Y:AV}
  (hY:(∃n f,X= .sl sz n f∧0≤i ()∧i ()<n ()∧Y= .rp (f fun _=>(i ()).toNat))∨(∃b n,X= .own b n∧0≤i ()∧i ()<n ()∧Y= .ept b sz (fun _=>(i ()).toNat) 0)∨(∃b p n,X= .vw b sz p n∧0≤i ()∧i ()<n ()∧Y= .ept b sz (fun _=>p ()+(i ()).toNat) 0)):
  Good P o a w M β cp h nid Y .no:=by
 obtain⟨hu,hsz,_,hi,_⟩:=hT
 have ey:=qAB hy
 have run:∀ad n c,a.eval x= .slice (some ad) n c→0≤i ()→i ()<n→(execOp a.eval o).run P w= .ok (.value (.pointer (some (ad.add ((i ()).toNat*sz))))) w:=by
  intro ad n c he h1 h2
  simp[execOp,ho,Instr.indexAt,ey,asIntOf,run_underlying hu,he,h1,h2,run_sizeOf hi]
 rcases hY with⟨n,f,rfl,h1,h2,rfl⟩|⟨b,n,rfl,h1,h2,rfl⟩|⟨b,p,n,rfl,h1,h2,rfl⟩
 ·obtain⟨ao,c,he,hc,hm,hr⟩:=qE3 hx
  obtain⟨ad,u,rfl,hM,hs,hl,hcell,ho1,hrep⟩:=hr (by omega)
  have hlt:(i ()).toNat<n ():=by omega
  have hlen:=hl _ hlt
  refine qF hh (run _ _ _ he h1 h2) (.c (.rp _ _ (fun j=>u (i ()).toNat j) (by rw[add_block];exact hM) (by rw[hlen];exact hsz) (fun j hj=> ?_) (fun j hj=>ho1 _ _ hlt (by rw[←hlen];exact hj)) fun j y hj=>hrep _ j y hlt hj))
  have:=hcell (i ()).toNat j hlt (by rw[←hlen];exact hj)
  rwa [add_add']
 ·rcases qW hx with⟨h0,_⟩|⟨g,hg,hn,he⟩
  ·omega
  ·refine qF hh (run _ _ _ he h1 h2) ?_
   rw[addr_add]
   have:=Rep.ept (w:=w) (M:=M) (cp:=cp) b sz (fun _=>(i ()).toNat) 0 g hg
   simpa using this
 ·rcases qB8 hx with⟨h0,_⟩|⟨g,hg,hn,he⟩
  ·omega
  ·refine qF hh (run _ _ _ he h1 h2) ?_
   rw[addr_add]
   have:=Rep.ept (w:=w) (M:=M) (cp:=cp) b sz (fun _=>p ()+(i ()).toNat) 0 g hg
   rwa [show(p ()+(i ()).toNat)*sz+0=p ()*sz+(i ()).toNat*sz by rw[Nat.add_mul];omega]at this
theorem qCn {c:Call}{x:Operand}{t:TypeId}{T:Ty}(hh:HeapRel w M β cp h) (ho:o.op= .call c) (hc:c.callee= .builtin .len) (ha:c.args.toList=[x]) (hta:c.argTypes[0]? =some t) (hT:qE4 P t T) {X:AV}
  (hx:Rep w M β cp X (a.eval x)) {n:Th Int}
  (hX:((∃e sz b z,T= .slice e sz b z)∧((∃sz m f,X= .sl sz m f∧n ()=m ())∨(∃b m,X= .own b m∧n ()=m ())∨(X= .nil∧n ()=0)∨(∃b sz p m,X= .vw b sz p m∧n ()=m ())∨∃b m,X= .nn b m∧n ()=m ()))∨(T= .str∧∃v,X= .s v∧n ()=(v ()).size)):
  Good P o a w M β cp h nid (.i .i64 n) .no:=by
 have hargs:c.args= #[x]:=Array.toList_inj.1 ha
 have run:∀v:Value,(Builtin.len_ c.argTypes o.type #[a.eval x]).run P w= .ok v w→(execOp a.eval o).run P w= .ok (.value v) w:=by
  intro v hv
  simp[execOp,ho,resolve,hc,invoke,builtin,hargs,hv]
 have fin:(Builtin.len_ c.argTypes o.type #[a.eval x]).run P w= .ok (.int .i64 (n ())) w:=by
  rcases hX with⟨⟨e,sz,b,z,rfl⟩,hX⟩|⟨rfl,v,rfl,hn⟩
  ·have hu:=hT.1
   have fin2:∀ao m c',a.eval x= .slice ao m c'→n ()=m→(Builtin.len_ c.argTypes o.type #[a.eval x]).run P w= .ok (.int .i64 (n ())) w:=by
    intro ao m c' he hm
    simp[Builtin.len_,hta,run_underlying hu,he,goInt,hm]
   rcases hX with⟨sz,m,f,rfl,hn⟩|⟨b,m,rfl,hn⟩|⟨rfl,hn⟩|⟨b,sz',p,m,rfl,hn⟩|⟨b,m,rfl,hn⟩
   ·obtain⟨ao,c',he,_⟩:=qE3 hx
    exact fin2 _ _ _ he hn
   ·rcases qW hx with⟨h0,he⟩|⟨g,_,_,he⟩
    ·exact fin2 _ _ _ he (by omega)
    ·exact fin2 _ _ _ he hn
   ·exact fin2 _ _ _ (qAJ hx) (by simpa using hn)
   ·rcases qB8 hx with⟨h0,_,_,_,he⟩|⟨g,_,_,he⟩
    ·exact fin2 _ _ _ he (by omega)
    ·exact fin2 _ _ _ he hn
   ·obtain⟨g,_,_,he⟩:=qBK hx
    exact fin2 _ _ _ he hn
  ·have he:=qBV hx
   simp[Builtin.len_,hta,run_underlying hT.1,he,goInt,hn]
 exact qF hh (run _ fin) (.c (.i .i64 n))
theorem qAm {d:Th Int}{O:Option AV}{x:Option Operand}{l:Th Int}(hb:bound d O=some l) (hO:O=evO s x) (hx:∀x,Rep w M β cp (ev s x) (a.eval x)):
  (x=none∧l=d)∨∃y k,x=some y∧a.eval y= .int k (l ()):=by
 cases x with
 |none=>subst hO;simp only[evO,bound,Option.some.injEq]at hb;exact .inl ⟨rfl,hb.symm⟩
 |some y=>
  subst hO
  simp only[evO]at hb
  cases he:ev s y with
  |i k n=>rw[he]at hb;simp only[bound,Option.some.injEq]at hb;subst hb;exact .inr ⟨y,k,rfl,qAB (by rw[←he];exact hx y)⟩
  |_=>rw[he]at hb;simp[bound]at hb
theorem qAC {isS:Bool}{len cap:Nat}{lo hi:Option Value}{l h:Int}(hlo:(lo=none∧l=0)∨∃k,lo=some (.int k l)) (hhi:(hi=none∧h=len)∨∃k,hi=some (.int k h))
  (h1:0≤l) (h2:l≤h) (h3:h≤cap):(Instr.sliceBounds isS len cap lo hi none).run P w= .ok (l.toNat,h.toNat,cap) w:=by
 have hb:∀k (n:Int) (c:Nat) (code:BoundsCode),0≤n→n≤c→(Instr.sliceBound (.int k n) c code).run P w= .ok n.toNat w:=by
  intro k n c code g1 g2
  simp[Instr.sliceBound,asIntOf,g1,g2]
 rcases hhi with⟨rfl,rfl⟩|⟨k,rfl⟩<;>rcases hlo with⟨rfl,rfl⟩|⟨k',rfl⟩
 ·simp[Instr.sliceBounds]
 ·simp[Instr.sliceBounds,hb k' l len _ h1 h2]
 ·simp[Instr.sliceBounds,hb k h cap _ (by omega) h3]
 ·have hh:((h.toNat:Nat):Int)=h:=by omega
  simp[Instr.sliceBounds,hb k h cap _ (by omega) h3,hb k' l h.toNat _ h1 (by omega)]
theorem qIM {b:Nat}{n k:Th Nat}(hr:rowsOf h (.nn b n)=some k):∃e sz f,nth .dead h b= .vec e sz k f:=by
 simp only[rowsOf]at hr
 split at hr
 ·rename_i e sz k' f hq
  cases hr
  exact⟨_,_,_,hq⟩
 ·cases hr
theorem qJ4 {T:Ty}{t:TypeId}{x:Operand}{lo hi:Option Operand}(hT:qE4 P t T) (hh:HeapRel w M β cp h) (ho:o.op= .slice t x lo hi none) (hx:∀x,Rep w M β cp (ev s x) (a.eval x)):
  (qNi T (ev s x) (evO s lo) (evO s hi) (rowsOf h (ev s x))).Sound (Good P o a w M β cp h nid):=by
 have opt:∀{d:Th Int}{y:Option Operand}{l:Th Int},((y=none∧l=d)∨∃z k,y=some z∧a.eval z= .int k (l ()))→(y.map a.eval=none∧l ()=d ())∨∃k,y.map a.eval=some (.int k (l ())):=by
  rintro d y l (⟨rfl,rfl⟩|⟨z,k,rfl,hz⟩)
  ·exact .inl ⟨rfl,rfl⟩
  ·exact .inr ⟨k,by simp[hz]⟩
 have hxx:=hx x
 unfold qNi
 split
 ·rename_i e tz b z sz n f hX
  rw[hX]at hxx
  split
  ·rename_i l h' q1 hl hh'
   have q1:=qC.1 q1
   subst q1
   rintro⟨h1,h2,h3⟩
   obtain⟨hu,hsz,_,hinf,_⟩:=hT
   have bl:=opt (qAm hl rfl hx)
   have bh:=opt (qAm hh' rfl hx)
   obtain⟨ao,c,he,hnc,hcm,hr⟩:=qE3 hxx
   have hb:=qAC (P:=P) (w:=w) (isS:=true) (len:=n ()) (cap:=c) (lo:=lo.map a.eval) (hi:=hi.map a.eval) (l:=l ()) (h:=h' ()) bl bh h1 h2 (by omega)
   refine qF hh (v':= .slice (if c=(l ()).toNat then ao else ao.map (·.add ((l ()).toNat*tz))) ((h' ()).toNat-(l ()).toNat) (c-(l ()).toNat)) ?_ (.c ?_)
   ·simp[execOp,ho,Instr.sliceAt,Instr.slice,run_underlying hu,he,hb,run_sizeOf hinf]
   ·have hn':(h' ()).toNat-(l ()).toNat=(h' ()-l ()).toNat:=by omega
    rw[hn']
    by_cases h0:(h' ()-l ()).toNat=0
    ·have e:=congrArg (fun m=>Value.slice (if c=(l ()).toNat then ao else ao.map (·.add ((l ()).toNat*tz))) m (c-(l ()).toNat)) h0
     rw[e]
     exact .sl0 tz _ _ _ _ h0 (by omega)
    ·obtain⟨ad,u,rfl,hM,hs,hlen,hcell,h1o,hrep⟩:=hr (by omega)
     rw[if_neg (by omega)]
     refine .sl tz (fun _=>(h' ()-l ()).toNat) _ (ad.add ((l ()).toNat*tz)) _ (fun i j=>u (i+(l ()).toNat) j) (by rw[add_block];exact hM) hs (by show(h' ()-l ()).toNat≤_;omega) (by omega) (fun i hi=>hlen _ ?_) (fun i j hi hj=> ?_) (fun i j hi hj=>h1o _ _ ?_ hj) (fun i j y hi hj=>hrep _ j y ?_ hj)
     all_goals have hi:i<(h' ()-l ()).toNat:=hi
     ·show i+(l ()).toNat<n ();omega
     ·have:=hcell (i+(l ()).toNat) j (by omega) hj
      rw[add_add']
      rwa [show(i+(l ()).toNat)*tz+j=(l ()).toNat*tz+(i*tz+j) by rw[Nat.add_mul];omega]at this
     ·omega
     ·omega
  ·trivial
 ·rename_i v hX
  rw[hX]at hxx
  split
  ·rename_i l h' hl hh'
   rintro⟨h1,h2,h3⟩
   have bl:=opt (qAm hl rfl hx)
   have bh:=opt (qAm hh' rfl hx)
   have he:=qBV hxx
   have hb:=qAC (P:=P) (w:=w) (isS:=false) (len:=(v ()).size) (cap:=(v ()).size) (lo:=lo.map a.eval) (hi:=hi.map a.eval) (l:=l ()) (h:=h' ()) bl bh h1 h2 (by omega)
   refine qF hh (v':= .string ((v ()).extract (l ()).toNat (h' ()).toNat)) ?_ (.c (.s fun _=>(v ()).extract (l ()).toNat (h' ()).toNat))
   simp[execOp,ho,Instr.sliceAt,Instr.slice,run_underlying hT.1,he,hb]
  ·trivial
 ·rename_i e tz b' z b n hX
  rw[hX]at hxx
  split
  case h_2=>
   split
   ·rename_i l h' hl hh'
    rintro⟨h1,h2,h3⟩
    obtain⟨hu,hsz,_,hinf,_⟩:=hT
    have bl:=opt (qAm hl rfl hx)
    have bh:=opt (qAm hh' rfl hx)
    rcases qW hxx with⟨h0,he⟩|⟨g,hg,hn,he⟩
    ·have hb:=qAC (P:=P) (w:=w) (isS:=true) (len:=0) (cap:=0) (lo:=lo.map a.eval) (hi:=hi.map a.eval) (l:=l ()) (h:=h' ()) bl (by simpa[h0]using bh) (by omega) h2 (by omega)
     have hz2:(l ()).toNat=0:=by omega
     have hz3:(h' ()).toNat=0:=by omega
     rw[hz2,hz3]at hb
     refine qF hh (v':= .slice none 0 0) ?_ (.vw0 b tz _ _ none 0 (by show(h' ()-l ()).toNat=0;omega) (by unfold maxLen;omega))
     simp[execOp,ho,Instr.sliceAt,Instr.slice,run_underlying hu,he,hb,run_sizeOf hinf]
    ·have hb:=qAC (P:=P) (w:=w) (isS:=true) (len:=n ()) (cap:=cp b) (lo:=lo.map a.eval) (hi:=hi.map a.eval) (l:=l ()) (h:=h' ()) bl bh (by omega) h2 (by omega)
     have hn':(h' ()).toNat-(l ()).toNat=(h' ()-l ()).toNat:=by omega
     by_cases hc:cp b=(l ()).toNat
     ·have hz:(h' ()-l ()).toNat=0:=by omega
      refine qF hh (v':= .slice (some ⟨g,0,none⟩) 0 0) ?_ (.vw0 b tz _ _ _ 0 hz (by unfold maxLen;omega))
      have hh2:(h' ()).toNat=(l ()).toNat:=by omega
      rw[hc,hh2]at hb
      rw[hc]at he
      simp[execOp,ho,Instr.sliceAt,Instr.slice,run_underlying hu,he,hb,run_sizeOf hinf]
     ·refine qF hh (v':= .slice (some ⟨g,(l ()).toNat*tz,none⟩) (h' ()-l ()).toNat (cp b-(l ()).toNat)) ?_ (.vw b tz (fun _=>(l ()).toNat) (fun _=>(h' ()-l ()).toNat) g hg (by show(l ()).toNat+(h' ()-l ()).toNat≤_;omega))
      simp[execOp,ho,Instr.sliceAt,Instr.slice,run_underlying hu,he,hb,run_sizeOf hinf,hc,hn',addr_add]
   ·trivial
  split
  ·rename_i l h' hl hh'
   rintro⟨h1,h2,h3⟩
   obtain⟨hu,hsz,_,hinf,_⟩:=hT
   have bl:=opt (qAm hl rfl hx)
   have bh:=opt (qAm hh' rfl hx)
   rw[h1]at bl
   rcases qW hxx with⟨h0,he⟩|⟨g,hg,hn,he⟩
   ·have hb:=qAC (P:=P) (w:=w) (isS:=true) (len:=0) (cap:=0) (lo:=lo.map a.eval) (hi:=hi.map a.eval) (l:=0) (h:=h' ()) bl (by simpa[h0]using bh) (by omega) h2 (by omega)
    have hz:(h' ()).toNat=0:=by omega
    refine qF hh (v':= .slice none 0 0) ?_ (.own0 b _ hz)
    simp[execOp,ho,Instr.sliceAt,Instr.slice,run_underlying hu,he,hb,run_sizeOf hinf,hz]
   ·have hb:=qAC (P:=P) (w:=w) (isS:=true) (len:=n ()) (cap:=cp b) (lo:=lo.map a.eval) (hi:=hi.map a.eval) (l:=0) (h:=h' ()) bl bh (by omega) h2 (by omega)
    refine qF hh (v':= .slice (some ⟨g,0,none⟩) (h' ()).toNat (cp b)) ?_ (.own b (fun _=>(h' ()).toNat) g hg (by show(h' ()).toNat≤_;omega))
    simp[execOp,ho,Instr.sliceAt,Instr.slice,run_underlying hu,he,hb,run_sizeOf hinf,Addr.add]
  ·trivial
 ·rename_i e tz b' z b n hX
  rw[hX]at hxx
  obtain⟨hu,hsz,_,hinf,_⟩:=hT
  obtain⟨g,hg,hn,he⟩:=qBK hxx
  split
  ·split
   ·rename_i _ hlo _ _ h' k hh' hrows
    rintro⟨h2,h3⟩
    have hkc:k ()≤cp b:=by
     rw[hX]at hrows
     obtain⟨e0,sz0,f0,hb0⟩:=qIM hrows
     rcases hh.obj b _ (qJ hb0 rfl)with⟨e1,_⟩|⟨g',cur,e1,e2,e3,e4,e5,e6,e7,e8,e9⟩
     ·rw[hg]at e1;cases e1
     ·exact e6
    have hl0:lo=none:=by
     cases lo with
     |none=>rfl
     |some y=>simp[evO]at hlo
    subst hl0
    have bh:=opt (qAm hh' rfl hx)
    have hb:=qAC (P:=P) (w:=w) (isS:=true) (len:=n ()) (cap:=cp b) (lo:=none) (hi:=hi.map a.eval) (l:=0) (h:=h' ()) (.inl ⟨rfl,rfl⟩) bh (by omega) h2 (by omega)
    refine qF hh (v':= .slice (some ⟨g,0,none⟩) (h' ()).toNat (cp b)) ?_ (.nn b (fun _=>(h' ()).toNat) g hg (by show(h' ()).toNat≤_;omega))
    simp[execOp,ho,Instr.sliceAt,Instr.slice,run_underlying hu,he,hb,run_sizeOf hinf,addr_add]
   ·trivial
  ·split
   ·rename_i l h' k hl hh' hrows
    rintro⟨h1,h2,h3⟩
    have bl:=opt (qAm hl rfl hx)
    have bh:=opt (qAm hh' rfl hx)
    have hkc:k ()≤cp b:=by
     rw[hX]at hrows
     obtain⟨e0,sz0,f0,hb0⟩:=qIM hrows
     rcases hh.obj b _ (qJ hb0 rfl)with⟨e1,_⟩|⟨g',cur,e1,e2,e3,e4,e5,e6,e7,e8,e9⟩
     ·rw[hg]at e1;cases e1
     ·exact e6
    have hb:=qAC (P:=P) (w:=w) (isS:=true) (len:=n ()) (cap:=cp b) (lo:=lo.map a.eval) (hi:=hi.map a.eval) (l:=l ()) (h:=h' ()) bl bh (by omega) h2 (by omega)
    have hn':(h' ()).toNat-(l ()).toNat=(h' ()-l ()).toNat:=by omega
    by_cases hc:cp b=(l ()).toNat
    ·have hz:(h' ()-l ()).toNat=0:=by omega
     refine qF hh (v':= .slice (some ⟨g,0,none⟩) 0 0) ?_ (.vw0 b tz _ _ _ 0 hz (by unfold maxLen;omega))
     have hh2:(h' ()).toNat=(l ()).toNat:=by omega
     rw[hc,hh2]at hb
     rw[hc]at he
     simp[execOp,ho,Instr.sliceAt,Instr.slice,run_underlying hu,he,hb,run_sizeOf hinf]
    ·refine qF hh (v':= .slice (some ⟨g,(l ()).toNat*tz,none⟩) (h' ()-l ()).toNat (cp b-(l ()).toNat)) ?_ (.vw b tz (fun _=>(l ()).toNat) (fun _=>(h' ()-l ()).toNat) g hg (by show(l ()).toNat+(h' ()-l ()).toNat≤_;omega))
     simp[execOp,ho,Instr.sliceAt,Instr.slice,run_underlying hu,he,hb,run_sizeOf hinf,hc,hn',addr_add]
   ·trivial
 ·rename_i e tz b' z b sz p n hX
  rw[hX]at hxx
  split
  ·rename_i l h' q1 hl hh'
   have q1:=qC.1 q1
   subst q1
   rintro⟨h1,h2,h3⟩
   obtain⟨hu,hsz,_,hinf,_⟩:=hT
   have bl:=opt (qAm hl rfl hx)
   have bh:=opt (qAm hh' rfl hx)
   have hn':(h' ()).toNat-(l ()).toNat=(h' ()-l ()).toNat:=by omega
   rcases qB8 hxx with⟨h0,ao,c,hcm,he⟩|⟨g,hg,hn,he⟩
   ·have hb:=qAC (P:=P) (w:=w) (isS:=true) (len:=0) (cap:=c) (lo:=lo.map a.eval) (hi:=hi.map a.eval) (l:=l ()) (h:=h' ()) bl (by simpa[h0]using bh) (by omega) h2 (by omega)
    have hz:(h' ()-l ()).toNat=0:=by omega
    have hz2:(l ()).toNat=0:=by omega
    have hz3:(h' ()).toNat=0:=by omega
    rw[hz2,hz3]at hb
    refine qF hh (v':= .slice (if c=0 then ao else ao.map (·.add (0*tz))) 0 c) ?_ (.vw0 b tz _ _ _ c hz hcm)
    simp[execOp,ho,Instr.sliceAt,Instr.slice,run_underlying hu,he,hb,run_sizeOf hinf]
   ·have hb:=qAC (P:=P) (w:=w) (isS:=true) (len:=n ()) (cap:=cp b-p ()) (lo:=lo.map a.eval) (hi:=hi.map a.eval) (l:=l ()) (h:=h' ()) bl bh (by omega) h2 (by omega)
    by_cases hc:cp b-p ()=(l ()).toNat
    ·have hz:(h' ()-l ()).toNat=0:=by omega
     refine qF hh (v':= .slice (some ⟨g,p ()*tz,none⟩) 0 0) ?_ (.vw0 b tz _ _ _ 0 hz (by unfold maxLen;omega))
     have hh2:(h' ()).toNat=(l ()).toNat:=by omega
     rw[hc,hh2]at hb
     rw[hc]at he
     simp[execOp,ho,Instr.sliceAt,Instr.slice,run_underlying hu,he,hb,run_sizeOf hinf]
    ·have:=Rep.vw (w:=w) (M:=M) (β:=β) (cp:=cp) b tz (fun _=>p ()+(l ()).toNat) (fun _=>(h' ()-l ()).toNat) g hg (by show p ()+(l ()).toNat+(h' ()-l ()).toNat≤_;omega)
     refine qF hh (v':= .slice (some ⟨g,(p ()+(l ()).toNat)*tz,none⟩) (h' ()-l ()).toNat (cp b-(p ()+(l ()).toNat))) ?_ this
     simp[execOp,ho,Instr.sliceAt,Instr.slice,run_underlying hu,he,hb,run_sizeOf hinf,hc,hn',addr_add,Nat.add_mul,Nat.sub_sub]
  ·trivial
 ·rename_i e tz b' z hX
  rw[hX]at hxx
  have he:=qAJ hxx
  split
  ·rename_i l h' hl hh'
   rintro⟨h1,h2⟩
   obtain⟨hu,hsz,_,hinf,_⟩:=hT
   have bl:=opt (qAm hl rfl hx)
   have bh:=opt (qAm hh' rfl hx)
   have hb:=qAC (P:=P) (w:=w) (isS:=true) (len:=0) (cap:=0) (lo:=lo.map a.eval) (hi:=hi.map a.eval) (l:=l ()) (h:=h' ()) bl bh (by omega) (by omega) (by omega)
   rw[h1,h2]at hb
   refine qF hh (v':= .slice none 0 0) ?_ (.c .nil)
   simp[execOp,ho,Instr.sliceAt,Instr.slice,run_underlying hu,he,hb,run_sizeOf hinf]
  ·trivial
 ·trivial
theorem qJ5 {len cap:Nat}{lo:Option Value}{k1 k2:IntKind}{l h m:Int}(hlo:(lo=none∧l=0)∨∃k,lo=some (.int k l)) (h1:0≤l) (h2:l≤h) (h3:h≤m) (h4:m≤cap):
  (Instr.sliceBounds true len cap lo (some (.int k1 h)) (some (.int k2 m))).run P w= .ok (l.toNat,h.toNat,m.toNat) w:=by
 have hb:∀k (n:Int) (c:Nat) (code:BoundsCode),0≤n→n≤c→(Instr.sliceBound (.int k n) c code).run P w= .ok n.toNat w:=by
  intro k n c code g1 g2
  simp[Instr.sliceBound,asIntOf,g1,g2]
 have e1:((m.toNat:Nat):Int)=m:=by omega
 have e2:((h.toNat:Nat):Int)=h:=by omega
 rcases hlo with⟨rfl,rfl⟩|⟨k',rfl⟩
 ·simp[Instr.sliceBounds,hb k2 m cap _ (by omega) h4,hb k1 h m.toNat _ (by omega) (by omega)]
 ·simp[Instr.sliceBounds,hb k2 m cap _ (by omega) h4,hb k1 h m.toNat _ (by omega) (by omega),hb k' l h.toNat _ h1 (by omega)]
theorem qIN {T:Ty}{t:TypeId}{x:Operand}{lo hi:Option Operand}{mx:Operand}(hT:qE4 P t T) (hh:HeapRel w M β cp h) (ho:o.op= .slice t x lo hi (some mx)) (hx:∀x,Rep w M β cp (ev s x) (a.eval x)):
  (qJX T (ev s x) (evO s lo) (evO s hi) (some (ev s mx))).Sound (Good P o a w M β cp h nid):=by
 have opt:∀{d:Th Int}{y:Option Operand}{l:Th Int},((y=none∧l=d)∨∃z k,y=some z∧a.eval z= .int k (l ()))→(y.map a.eval=none∧l ()=d ())∨∃k,y.map a.eval=some (.int k (l ())):=by
  rintro d y l (⟨rfl,rfl⟩|⟨z,k,rfl,hz⟩)
  ·exact .inl ⟨rfl,rfl⟩
  ·exact .inr ⟨k,by simp[hz]⟩
 have hxx:=hx x
 unfold qJX
 split
 ·rename_i _ _ _ e tz b z l k1 h' k2 m hl hh' hm
  obtain⟨hu,hsz,_,hinf,_⟩:=hT
  have bl:=opt (qAm hl rfl hx)
  obtain⟨hi',rfl⟩:∃y,hi=some y:=by
   cases hi with
   |none=>simp[evO]at hh'
   |some y=>exact⟨y,rfl⟩
  have eh:a.eval hi'= .int k1 (h' ()):=by
   have:=hx hi'
   simp only[evO,Option.some.injEq]at hh'
   rw[hh']at this
   exact qAB this
  have em:a.eval mx= .int k2 (m ()):=by
   have:=hx mx
   simp only[Option.some.injEq]at hm
   rw[hm]at this
   exact qAB this
  have key:∀ao n c,a.eval x= .slice ao n c→0≤l ()→l ()≤h' ()→h' ()≤m ()→m ()≤c→Good P o a w M β cp h nid .any .no:=by
   intro ao n c he g1 g2 g3 g4
   have hb:=qJ5 (P:=P) (w:=w) (len:=n) (cap:=c) (lo:=lo.map a.eval) (k1:=k1) (k2:=k2) bl g1 g2 g3 g4
   refine qF hh (v':= .slice (if(m ()).toNat=(l ()).toNat then ao else ao.map (·.add ((l ()).toNat*tz))) ((h' ()).toNat-(l ()).toNat) ((m ()).toNat-(l ()).toNat)) ?_ (.c (.any _))
   simp[execOp,ho,Instr.sliceAt,Instr.slice,run_underlying hu,he,hb,eh,em,run_sizeOf hinf]
  split
  ·rename_i sz n f hX
   rw[hX]at hxx
   rintro⟨h1,h2,h3,h4⟩
   obtain⟨ao,c,he,hnc,hcm,hr⟩:=qE3 hxx
   exact key _ _ _ he h1 h2 h3 (by omega)
  ·rename_i b n hX
   rw[hX]at hxx
   rintro⟨h1,h2,h3,h4⟩
   rcases qW hxx with⟨h0,he⟩|⟨g,hg,hn,he⟩
   ·exact key _ _ _ he h1 h2 h3 (by omega)
   ·exact key _ _ _ he h1 h2 h3 (by omega)
  ·rename_i b n hX
   rw[hX]at hxx
   rintro⟨h1,h2,h3,h4⟩
   obtain⟨g,hg,hn,he⟩:=qBK hxx
   exact key _ _ _ he h1 h2 h3 (by omega)
  ·trivial
 ·trivial
theorem qHs {x:Operand}{k:Nat}{l:List AV}(hh:HeapRel w M β cp h) (ho:o.op= .extract x k) (hx:Rep w M β cp (.tup l) (a.eval x)) (hk:k<l.length):Good P o a w M β cp h nid (nth .any l k) .no:=by
 obtain⟨cs,he,hl,hr⟩:=qBG hx
 have hlk:l[k]? =some l[k]:=List.getElem?_eq_getElem hk
 have hcs:k<cs.size:=by have:=hl;simp at this;omega
 refine qF hh (v':=cs.getD k undef) ?_ ?_
 ·simp[execOp,ho,Instr.extract,he,hcs]
 ·rw[qAt,List.getD_eq_getElem?_getD,hlk,qG]
  exact hr k _ hlk
theorem qE6 {c:Call}{x y:Operand}{mx:Bool}(hh:HeapRel w M β cp h) (ho:o.op= .call c) (hc:c.callee= .builtin (if mx then .max else .min)) (ha:c.args.toList=[x,y]) {X Y:AV}
  (hx:Rep w M β cp X (a.eval x)) (hy:Rep w M β cp Y (a.eval y)):(qHp mx X Y).Sound (Good P o a w M β cp h nid):=by
 have hargs:c.args= #[x,y]:=Array.toList_inj.1 ha
 unfold qHp
 split
 ·rename_i k p k' q
  have ex:=qAB hx
  have ey:=qAB hy
  cases mx with
  |true=>
   refine qF hh (v':= .int k (if q ()>p ()then q ()else p ())) ?_ (.c (.i k fun _=>if q ()>p ()then q ()else p ()))
   simp[execOp,ho,resolve,hc,invoke,builtin,hargs,ex,ey,run_max_int2]
  |false=>
   refine qF hh (v':= .int k (if q ()<p ()then q ()else p ())) ?_ (.c (.i k fun _=>if q ()<p ()then q ()else p ()))
   simp[execOp,ho,resolve,hc,invoke,builtin,hargs,ex,ey,run_min_int2]
 ·trivial
theorem good_row (hh:HeapRel w M β cp h) (hn:nid≤h.length) (hd:β nid=none) {t:TypeId}{sz n:Nat}{f:Th Nat→List AV}{cur:Array Value}(c:Nat)
  (hr:(execOp a.eval o).run P w= .ok (.value (.slice (some ⟨w.heap.size,0,none⟩) n c)) (w.alloc (.cells cur t))) (hc:cur.size=c*sz) (hcn:n≤c) (hcm:c≤maxLen)
  (h1:OneSp cur t sz n c) (hlen:∀i:Nat,i<n→(f fun _=>i).length=sz)
  (hf:∀(i j:Nat) (x:AV),i<n→(f fun _=>i)[j]? =some x→RepC w M x (cur.getD (i*sz+j) undef)) {N:Th Nat}(hN:N ()=n):
  Good P o a w M β cp h nid (.own nid N) (.new (.vec t sz N f)):=by
 have hk:∀k,k<w.heap.size→¬M k→(w.alloc (.cells cur t)).heap[k]? =w.heap[k]? ∧¬(M k∨k=w.heap.size):=fun k hk hM=>⟨heap_alloc w _ k hk,by intro h;rcases h with h|h;exact hM h;omega⟩
 subst hN
 refine⟨_,_,_,_,_,_,hr,.inl rfl,qCm hh hn hd (.cells cur t) c (.vec t sz N f) rfl (.inr ⟨w.heap.size,cur,by simp[qZ],.inr rfl,qAl w _,by simp[qAk];exact hc,by simp[qAk];exact h1,by simp[qAk];exact hcn,by simp[qAk];exact hcm,hlen,fun i j x hi hj=>(hf i j x hi hj).keep hk⟩), ?_⟩
 have:=Rep.own (w:=w.alloc (.cells cur t)) (M:=fun k=>M k∨k=w.heap.size) (β:=qZ β nid (some w.heap.size)) (cp:=qAk cp nid c) nid N w.heap.size (by simp[qZ]) (by simp[qAk];exact hcn)
 simpa[qAk]using this
end
end Go.Abs
namespace Go.Abs
open Go
variable [Kd]
section
variable {P:Program}{w:World}{M:Nat→Prop}{β:Nat→Option Nat}{cp:Nat→Nat}{h:Hp}{E:Env}{o:Oper}{a:Act}{nid:Nat}
omit [Kd]in
theorem qE7:∀(k:List Int) (n:Nat),((k.map (Value.int .i64)).zip (k.map (Value.int .i64))).all (fun(x,y)=>Instr.sameBits (n+1) x y)=true
 |[],_=>rfl
 |x::r,n=>by simp[Instr.sameBits,qE7 r n]
omit [Kd]in
theorem qIO (k:List Int):Instr.sameBits 10000 (qFf k) (qFf k)=true:=by
 show Instr.sameBits (9999+1) (.agg _) (.agg _)=true
 simp only[Instr.sameBits,beq_self_eq_true,Bool.true_and]
 exact qE7 k 9998
def qEu (k:List Int):List (List Int×Int)→Nat→Option (Nat×Int)
 |[],_=>none
 |(k',v)::r,i=>if k=k' then some (i,v)else qEu k r (i+1)
omit [Kd]in
theorem qIP (k:List Int):∀(l:List (List Int×Int)) (i:Nat),qNe k l=(qEu k l i).map (·.2)
 |[],_=>rfl
 |(k',v)::r,i=>by
  rw[qNe,qEu]
  split
  ·rfl
  ·exact qIP k r (i+1)
omit [Kd]in
theorem qIQ (k:List Int) (v:Int):∀(l:List (List Int×Int)) (i:Nat),match qEu k l i with
  |some (j,_)=>i≤j∧j-i<l.length∧qPK k v l=l.set (j-i) (k,v)∧(l[j-i]?).map (·.1)=some k
  |none=>qPK k v l=l++[(k,v)]
 |[],i=>rfl
 |(k',v')::r,i=>by
  rw[qEu]
  by_cases e:k=k'
  ·rw[if_pos e]
   dsimp only
   subst e
   refine⟨Nat.le_refl _,by simp, ?_,by simp⟩
   rw[Nat.sub_self,qPK,if_pos rfl];rfl
  ·rw[if_neg e]
   have ih:=qIQ k v r (i+1)
   cases hj:qEu k r (i+1)with
   |some p=>
    obtain⟨j,v2⟩:=p
    rw[hj]at ih
    dsimp only at ih ⊢
    obtain⟨h1,h2,h3,h4⟩:=ih
    have e1:j-i=(j-(i+1))+1:=by omega
    refine⟨by omega,by simp only[List.length_cons];omega, ?_, ?_⟩
    ·rw[qPK,if_neg e,h3,e1];rfl
    ·rw[e1];simpa using h4
   |none=>
    rw[hj]at ih
    dsimp only at ih ⊢
    rw[qPK,if_neg e,ih];rfl
omit [Kd]in
theorem qFL {kt:TypeId}{ks:Nat}(heq:∀(k k':List Int) (w:World),k.length=ks→k'.length=ks→(Op.equal kt (qFf k) (qFf k')).run P w= .ok (decide (k=k')) w) {k:List Int}(hk:k.length=ks):
  ∀(es:List MapEntry) (l:List (List Int×Int)) (i:Nat),es.length=l.length→(∀(j:Nat) (k':List Int) (v:Int),l[j]? =some (k',v)→k'.length=ks∧∃e,es[j]? =some e∧e.key=qFf k'∧e.val= .int .i64 v)→
   (Instr.findAsking kt (qFf k) es i).run P w= .ok ((qEu k l i).map fun p=>(p.1,.int .i64 p.2)) w
 |[],[],i,_,_=>by simp[Instr.findAsking,qEu]
 |[],_::_,_,hl,_=>by simp at hl
 |_::_,[],_,hl,_=>by simp at hl
 |e::es,(k',v)::l,i,hl,hh=>by
  obtain⟨h1,e0,h2,h3,h4⟩:=hh 0 k' v rfl
  simp at h2
  subst h2
  have hr:=heq k k' w hk h1
  have ih:=qFL heq hk es l (i+1) (by simpa using hl) fun j k2 v2 hj=>by
   have:=hh (j+1) k2 v2 (by simpa using hj)
   simpa using this
  rw[qEu]
  by_cases ek:k=k'
  ·rw[if_pos ek]
   subst ek
   simp[Instr.findAsking,h3,hr,h4]
  ·rw[if_neg ek]
   simp[Instr.findAsking,h3,hr,ek,ih]
omit [Kd]in
theorem qLd {t:TypeId}{ks:Nat}{es:Array MapEntry}{l:List (List Int×Int)}{kt et:TypeId}{d:TypeDesc}(h2:P.underlying kt=some d) (h3:∀x y,Instr.sameNow d x y=none)
  (h5:∀(k k':List Int) (w:World),k.length=ks→k'.length=ks→(Op.equal kt (qFf k) (qFf k')).run P w= .ok (decide (k=k')) w) {k:List Int}(hk:k.length=ks) (hm:qXv ks es l):
  (Instr.findKey kt (qFf k) es.toList).run P w= .ok ((qEu k l 0).map fun p=>(p.1,.int .i64 p.2)) w:=by
 have hl:es.toList.length=l.length:=by simpa using hm.1
 have hask:=qFL (w:=w) h5 hk es.toList l 0 hl (fun j k' v hj=>by
  obtain⟨q1,e,q2,q3⟩:=hm.2 j k' v hj
  exact⟨q1,e,by simpa using q2,q3⟩)
 cases he:es.toList with
 |nil=>
  rw[he]at hl hask
  have:l=[]:=List.eq_nil_of_length_eq_zero hl.symm
  subst this
  simp[Instr.findKey,run_underlying h2,Instr.findNow,qEu]
 |cons e r=>
  rw[he]at hask
  have:Instr.findNow d (qFf k) (e::r) 0=none:=by simp[Instr.findNow,h3]
  simp only[Instr.findKey,Sem.run_bind,run_underlying h2,Result.andThen_ok,this]
  exact hask
theorem qIR:∀(n:Nat) (cs:List AV) (k:Th (List Int)) (vs:List Value),qJY n cs=some k→qAs w M β cp cs vs→(k ()).length=n∧vs=(k ()).map (Value.int .i64)
 |0,[],k,vs,hk,hr=>by
  simp[qJY]at hk
  subst hk
  have:=hr.1
  simp at this
  subst this
  exact⟨rfl,rfl⟩
 |0,_::_,k,vs,hk,hr=>by simp[qJY]at hk
 |n+1,[],k,vs,hk,hr=>by simp[qJY]at hk
 |n+1,x::r,k,vs,hk,hr=>by
  match vs,hr with
  |[],hr=>exact absurd hr.1 (by simp)
  |u::vs,hr=>
   unfold qJY at hk
   split at hk
   ·rename_i e1;cases e1
   ·rename_i n' y r' e0 e1
    cases e0
    cases e1
    split at hk
    ·rename_i l hl
     cases hk
     have hx:=hr.2 0 _ rfl
     have hu:u= .int .i64 (y ()):=qAB (by simpa using hx)
     have ih:=qIR n _ l vs hl ⟨by have:=hr.1;simp at this;omega,fun j z hj=>by have:=hr.2 (j+1) z (by simpa using hj);simpa using this⟩
     refine⟨by simp[ih.1],by rw[hu,ih.2];rfl⟩
    ·cases hk
   ·cases hk
theorem qLe {ks:Nat}{K:AV}{k:Th (List Int)}{v:Value}(hk:qUt ks K=some k) (hr:Rep w M β cp K v):(k ()).length=ks∧v=qFf (k ()):=by
 unfold qUt at hk
 split at hk
 ·rename_i cs
  obtain⟨us,rfl,hL,_⟩:=qBs hr
  have:=qIR ks cs k us.toList hk hL
  refine⟨this.1, ?_⟩
  unfold qFf
  rw[←this.2]
 ·cases hk
theorem qHt {t:TypeId}{ks:Nat}(hh:HeapRel w M β cp h) (hn:nid≤h.length) (hd:β nid=none) (ho:o.op= .makeMap t none):Good P o a w M β cp h nid (.mr nid) (.new (.mp ks fun _=>[])):=by
 refine⟨_,.map (some w.heap.size),w.alloc (.map #[] 0),fun k=>M k∨k=w.heap.size,qZ β nid (some w.heap.size),qAk cp nid 0, ?_,.inl rfl,qCm hh hn hd (.map #[] 0) 0 (.mp ks fun _=>[]) rfl ⟨w.heap.size, #[],0,by simp[qZ],.inr rfl,qAl w _,by simp[qXv]⟩,.mr nid w.heap.size (by simp[qZ])⟩
 simp[execOp,ho,Instr.makeMap,run_newObj]
theorem qIS {t:TypeId}{ks:Nat}{x i:Operand}{ok:Bool}{b:Nat}{l:Th (List (List Int×Int))}{k:Th (List Int)}{K:AV}(hM:qSF P t ks) (hh:HeapRel w M β cp h) (ho:o.op= .lookup t x i ok) (hx:Rep w M β cp (.mr b) (a.eval x)) (hi:Rep w M β cp K (a.eval i))
  (hk:qUt ks K=some k) (hb:nth .dead h b= .mp ks l):(execOp a.eval o).run P w= .ok (.value (match ok with|true=> .tuple #[.int .i64 ((qNe (k ()) (l ())).getD 0),.bool (qNe (k ()) (l ())).isSome]|false=> .int .i64 ((qNe (k ()) (l ())).getD 0))) w:=by
 obtain⟨kt,et,d,h1,h2,h3,h4,h5,h6⟩:=hM
 obtain⟨g,hg,hv⟩:=qE2 hx
 obtain⟨g',es,clk,o1,o2,o3,o4⟩:=hh.obj b _ (qJ hb rfl)
 rw[hg]at o1;cases o1
 obtain⟨hkl,hkv⟩:=qLe hk hi
 have hf:=qLd (w:=w) (t:=t) (et:=et) h2 h3 h5 hkl o4
 have hgo:(getObj g).run P w= .ok (.map es clk) w:=by simp[getObj,Sem.run,o3]
 have hc:=h4 es.isEmpty (k ()) w hkl
 rw[qIP (k ()) (l ()) 0]
 cases hm:qEu (k ()) (l ()) 0 with
 |none=>
  rw[hm]at hf
  cases ok<;>simp[execOp,ho,Instr.lookup,run_underlying h1,hv,hkv,hgo,hc,hf,h6 w]
 |some p=>
  rw[hm]at hf
  cases ok<;>simp[execOp,ho,Instr.lookup,run_underlying h1,hv,hkv,hgo,hc,hf]
theorem qFM {t:TypeId}{ks:Nat}{x i y:Operand}{b:Nat}{l:Th (List (List Int×Int))}{k:Th (List Int)}{v:Th Int}{K:AV}(hM:qSF P t ks) (hh:HeapRel w M β cp h) (ho:o.op= .mapUpdate t x i y) (hx:Rep w M β cp (.mr b) (a.eval x)) (hi:Rep w M β cp K (a.eval i))
  (hy:Rep w M β cp (.i .i64 v) (a.eval y)) (hk:qUt ks K=some k) (hb:nth .dead h b= .mp ks l):Good P o a w M β cp h nid .any (.upd b (.mp ks fun _=>qPK (k ()) (v ()) (l ()))):=by
 obtain⟨kt,et,d,h1,h2,h3,h4,h5,h6⟩:=hM
 obtain⟨g,hg,hv⟩:=qE2 hx
 have hb':=qJ hb rfl
 obtain⟨g',es,clk,o1,o2,o3,o4⟩:=hh.obj b _ hb'
 rw[hg]at o1;cases o1
 obtain⟨hkl,hkv⟩:=qLe hk hi
 have hf:=qLd (w:=w) (t:=t) (et:=et) h2 h3 h5 hkl o4
 have hgo:(getObj g).run P w= .ok (.map es clk) w:=by simp[getObj,Sem.run,o3]
 have hc:=h4 false (k ()) w hkl
 have hyv:=qAB hy
 have hgs:g<w.heap.size:=(Array.getElem?_eq_some_iff.1 o3).1
 have fin:∀es' clk',(execOp a.eval o).run P w= .ok .skip {w with heap:=w.heap.setIfInBounds g (.map es' clk')}→qXv ks es' (qPK (k ()) (v ()) (l ()))→Good P o a w M β cp h nid .any (.upd b (.mp ks fun _=>qPK (k ()) (v ()) (l ()))):=by
  intro es' clk' hrun hmp
  refine⟨.skip,undef,_,M,β,cp,hrun,.inr ⟨rfl,rfl⟩,qBW hh hb' rfl rfl hg o2 rfl rfl rfl (by simp) (fun k hk=> ?_) ⟨g,es',clk',hg,o2, ?_,hmp⟩,.c (.any _)⟩
  ·show(w.heap.setIfInBounds g _)[k]? =_
   rw[Array.getElem?_setIfInBounds_ne (by omega)]
  ·show(w.heap.setIfInBounds g _)[g]? =_
   simp[hgs]
 have qBe:=qIQ (k ()) (v ()) (l ()) 0
 cases hm:qEu (k ()) (l ()) 0 with
 |none=>
  rw[hm]at hf qBe
  dsimp only at qBe
  refine fin (es.push {key:=qFf (k ()),val:= .int .i64 (v ()),born:=clk}) (clk+1) ?_ ?_
  ·have hs:=MapKept.run_setObj_map (P:=P) (.map (es.push {key:=qFf (k ()),val:= .int .i64 (v ()),born:=clk}) (clk+1)) o3
   simp[execOp,ho,Instr.mapUpdate,run_underlying h1,hv,hkv,hgo,hc,hf,hyv,hs]
  ·rw[qBe]
   refine⟨by simp[o4.1],fun j k' v' hj=> ?_⟩
   rw[List.getElem?_append]at hj
   split at hj
   ·rename_i hlt
    obtain⟨q1,e,q2,q3⟩:=o4.2 j k' v' hj
    exact⟨q1,e,by rw[Array.getElem?_push,if_neg (by rw[o4.1];omega)];exact q2,q3⟩
   ·rename_i hlt
    have hj0:j=(l ()).length:=by
     have:=(List.getElem?_eq_some_iff.1 hj).1
     simp at this;omega
    subst hj0
    simp at hj
    obtain⟨rfl,rfl⟩:=hj
    exact⟨hkl,_,by rw[Array.getElem?_push,if_pos o4.1.symm],rfl,rfl⟩
 |some p=>
  obtain⟨j,v0⟩:=p
  rw[hm]at hf qBe
  dsimp only at qBe
  rw[Nat.sub_zero]at qBe
  obtain⟨_,p2,p3,p4⟩:=qBe
  obtain⟨kv,e1⟩:∃kv,(l ())[j]? =some kv:=⟨_,List.getElem?_eq_getElem p2⟩
  obtain⟨k0,v1⟩:=kv
  rw[e1]at p4
  simp at p4
  subst p4
  obtain⟨_,e,q2,q3,q4⟩:=o4.2 j _ _ e1
  have hkey:(((es[j]?).map (·.key)).getD (qFf (k ())))=qFf (k ()):=by rw[q2];simpa using q3
  have hsame:(Instr.keyThatStays (qFf (k ())) (qFf (k ()))).run P w= .ok (qFf (k ())) w:=by simp[Instr.keyThatStays,qIO]
  refine fin (es.modify j fun e=>{e with key:=qFf (k ()),val:= .int .i64 (v ())}) clk ?_ ?_
  ·have hs:=MapKept.run_setObj_map (P:=P) (.map (es.modify j fun e=>{e with key:=qFf (k ()),val:= .int .i64 (v ())}) clk) o3
   simp[execOp,ho,Instr.mapUpdate,run_underlying h1,hv,hkv,hgo,hc,hf,hyv,hkey,hsame,hs]
  ·rw[p3]
   refine⟨by simp[o4.1],fun i k' v' hi'=> ?_⟩
   rw[List.getElem?_set]at hi'
   split at hi'
   ·rename_i hji
    subst hji
    first
     |(rw[if_pos p2]at hi'
       cases hi')
     |cases hi'
    refine⟨hkl,_,by rw[Array.getElem?_modify,if_pos rfl,q2];rfl,rfl,rfl⟩
   ·rename_i hji
    obtain⟨r1,e2,r2,r3⟩:=o4.2 i k' v' hi'
    exact⟨r1,e2,by rw[Array.getElem?_modify,if_neg hji];exact r2,r3⟩
end
end Go.Abs
namespace Go.Abs
open Go
variable [Kd]
section
variable {P:Program}{E:Env}{o:Oper}{a:Act}{w:World}{M:Nat→Prop}{β:Nat→Option Nat}{cp:Nat→Nat}{h:Hp}{s:Tm}{nid:Nat}
theorem qAW (t:TypeId) (cur:Array Value):(newRow t cur).run P w= .ok ⟨w.heap.size,0,none⟩ (w.alloc (.cells cur t)):=by
 simp only[newRow,Sem.run_bind,run_newObj,Result.andThen_ok,Sem.run_pure];rfl
theorem qFg {t e:TypeId}{sz bytes:Nat}{z:List AV}{x:Operand}{ps:Array (Nat×Operand)}(hT:qE4 P t (.slice e sz bytes z)) (hh:HeapRel w M β cp h) (hn:nid≤h.length) (hd:β nid=none)
  (ho:o.op= .buildSlice t 1 ps) (hps:ps.toList=[(0,x)]) {X:AV}(hx:Rep w M β cp X (a.eval x)) {cs:List AV}(hc:cells X=some cs) (hl:cs.length=sz) (hcl:qL cs=true):
  Good P o a w M β cp h nid (.own nid fun _=>1) (.new (.vec e sz (fun _=>1) fun _=>cs)):=by
 obtain⟨hu,hsz,hsm,hi,_⟩:=hT
 obtain⟨h1,h2⟩:=qCR hx hc
 have hvs:(a.eval x).cells.size=sz:=by have:=h1.1;simp at this;omega
 have hps':ps= #[(0,x)]:=Array.toList_inj.1 hps
 obtain⟨zv,z1,_⟩:=qDb (w:=w) hi
 have hfill:∀cur:Array Value,cur.size=sz→Instr.fill (fun i=>some (i*sz,sz)) cur [(0,a.eval x)]=some (a.eval x).cells:=by
  intro cur hcur
  have:=eqs cur (a.eval x).cells 0 (by omega)
  simp only[Instr.fill,Nat.zero_mul]
  rw[if_neg (by simp;omega),this]
  rw[List.drop_eq_nil_of_le (by simp;omega)]
  simp
 refine good_row hh hn hd (t:=e) (sz:=sz) (n:=1) (cur:=(a.eval x).cells) 1 ?_ (by omega) (Nat.le_refl _) (by unfold maxLen;omega) ⟨fun k hk=> ?_,fun _ _ q1 q2 _=>by omega⟩ (fun i hi=>hl) (fun i j y hi hj=> ?_) rfl
 ·have hsz0:sz≠0:=by omega
  have hb:¬16777216<sz:=by omega
  simp[execOp,ho,Instr.buildSlice,run_underlying hu,run_sizeOf hi,hps',hsz0,z1,hb,hfill,qAW]
 ·have hk':k<(a.eval x).cells.size:=by omega
  simp only[Array.getD,hk',dif_pos]
  exact h2 _ (by simp)
 ·have hi0:i=0:=by omega
  subst hi0
  have:=h1.2 j y hj
  have hc2:=qR this (qT hcl hj)
  rw[Nat.zero_mul,Nat.zero_add,qG]
  exact hc2
theorem qFk {sz:Nat}:∀(n o i:Nat),i<n→(qJU sz o n).getD i (0,0,0)=(o+i*sz,0,sz)
 |0,o,i,h=>by omega
 |n+1,o,0,_=>by simp[qJU]
 |n+1,o,i+1,h=>by
  have:=qFk (sz:=sz) n (o+sz) i (by omega)
  simp only[qJU,List.getD_cons_succ,this]
  rw[Nat.succ_mul]
  congr 1
  omega
theorem qFl {sz:Nat}:∀(n o:Nat),(qJU sz o n).length=n
 |0,_=>rfl
 |n+1,o=>by simp[qJU,qFl n]
theorem qBZ {z:List AV}:∀(n:Nat),(qDw n z).length=n*z.length
 |0=>by simp[qDw]
 |n+1=>by simp[qDw,qBZ n,Nat.succ_mul];omega
theorem qFN {z:List AV}(hz:0<z.length):∀(n j:Nat) (x:AV),(qDw n z)[j]? =some x→z[j%z.length]? =some x
 |0,j,x,h=>by simp[qDw]at h
 |n+1,j,x,h=>by
  simp only[qDw]at h
  rcases Nat.lt_or_ge j z.length with h1|h1
  ·rw[List.getElem?_append_left h1]at h
   rw[Nat.mod_eq_of_lt h1];exact h
  ·rw[List.getElem?_append_right h1]at h
   have:=qFN hz n _ x h
   rwa [←Nat.mod_eq_sub_mod h1]at this
theorem qEv {t e:TypeId}{n sz bytes:Nat}{z:List AV}{ps:Array (Nat×Operand)}(hT:qE4 P t (.slice e sz bytes z)) (hh:HeapRel w M β cp h) (hn:nid≤h.length) (hd:β nid=none)
  (ho:o.op= .buildSlice t n ps) (hx:∀x,Rep w M β cp (ev s x) (a.eval x)) (hz:z.length=sz) (hsm:n*sz≤16777216) {out:List AV}(hf:qCN (qJU sz 0 n) (qDw n z) (ps.toList.map fun p=>(p.1,ev s p.2))=some out) (hcl:qL out=true):
  Good P o a w M β cp h nid (.own nid fun _=>n) (.new (.vec e sz (fun _=>n) (qXx sz out))):=by
 obtain⟨hu,hsz,_,hi,_⟩:=hT
 obtain⟨zv,z1,z2,z3⟩:=qDb (w:=w) hi
 have hzs:zv.cells.size=sz:=by rw[←hz,←z2];simp
 have h0:∀j,j<n*sz→((Array.range (n*sz)).map fun i=>zv.cells[i%zv.cells.size]!).getD j undef=zv.cells.toList.getD (j%sz) undef:=by
  intro j hj
  have hm:j%zv.cells.size<zv.cells.size:=Nat.mod_lt _ (by omega)
  have hr:(Array.range (n*sz))[j]? =some j:=by simp[hj]
  rw[Array.getD_eq_getD_getElem?,Array.getElem?_map,hr]
  simp only[Option.map_some,Option.getD_some]
  rw[getElem!_pos (c:=zv.cells) (i:=j%zv.cells.size) hm]
  rw[hzs]at hm
  simp[hzs]
  rw[Array.getElem?_eq_getElem (by rw[hzs];exact hm)]
  rfl
 obtain⟨cur',r1,r2,r3⟩:=qFK (w:=w) (M:=M) (β:=β) (cp:=cp) (places:=fun i=>some (i*sz,sz)) (fs:=qJU sz 0 n)
  (fun i hi=>by rw[qFl]at hi;rw[qFk n 0 i hi];simp) (ps.toList.map fun p=>(p.1,ev s p.2)) (ps.toList.map fun p=>(p.1,a.eval p.2)) (qDw n z) out ((Array.range (n*sz)).map fun i=>zv.cells[i%zv.cells.size]!) hf (by simp)
  (fun j x v hj hj'=>by
    simp only[List.getElem?_map,Option.map_eq_some_iff]at hj hj'
    obtain⟨p,hp,rfl⟩:=hj
    obtain⟨p',hp',rfl⟩:=hj'
    rw[hp]at hp'
    cases hp'
    exact hx _)
  ⟨by simp[qBZ,hz],fun j x hj=>by
    have hjl:j<n*sz:=by have:=(List.getElem?_eq_some_iff.1 hj).1;rw[qBZ,hz]at this;exact this
    have h1:=qFN (by omega) n j x hj
    rw[←qG,h0 j hjl]
    rw[hz,←z2]at h1
    exact(qCQ zv.cells.toList).2 _ _ h1⟩
  (fun v hv=>by
    obtain⟨j,hj,rfl⟩:=List.getElem_of_mem hv
    have hjl:j<n*sz:=by simpa using hj
    have h1:=h0 j hjl
    rw[qG,List.getD_eq_getElem?_getD,List.getElem?_eq_getElem hj]at h1
    simp only[Option.getD_some]at h1
    rw[h1]
    have hm:j%sz<zv.cells.toList.length:=by rw[Array.length_toList,hzs];exact Nat.mod_lt _ hsz
    rw[List.getD_eq_getElem?_getD,List.getElem?_eq_getElem hm]
    exact z3 _ (List.getElem_mem hm))
 have hol:out.length=n*sz:=by
  have h1:=r2.1
  have h2:∀(ps:List (Nat×AV)) (cs out:List AV),qCN (qJU sz 0 n) cs ps=some out→out.length=cs.length:=by
   intro ps
   induction ps with
   |nil=>intro cs out h;simp[qCN]at h;rw[h]
   |cons p ps ih=>
    intro cs out h
    obtain⟨i,v⟩:=p
    simp only[qCN]at h
    split at h
    ·split at h
     ·rename_i q1 q2 q3
      rw[ih _ _ h,qBg _ _ _ (by have:=qAO.1 q2;rw[qK,qK]at this;exact this)]
      have:=qAO.1 q2
      rw[qK,qK]at this
      simp
      omega
     ·cases h
    ·cases h
  rw[h2 _ _ _ hf,qBZ,hz]
 have hcs:cur'.size=n*sz:=by have:=r2.1;simp at this;omega
 have hrow:∀i j,i<n→j<sz→i*sz+j<n*sz:=by
  intro i j hi hj
  have:=Nat.mul_le_mul_right sz (show i+1≤n by omega)
  rw[Nat.succ_mul]at this
  omega
 refine good_row hh hn hd (t:=e) (sz:=sz) (n:=n) (cur:=cur') n ?_ hcs (Nat.le_refl _) ?_ ⟨fun k hk=> ?_,fun _ _ q1 q2 _=>by omega⟩ (fun i hi=> ?_) (fun i j y hi hj=> ?_) rfl
 ·have hb:¬16777216<n*sz:=by omega
  by_cases hn0:n*sz=0
  ·have e0:(Array.map (fun x=>(#[]:Array Value)[x%0]!) (Array.range 0))= #[]:=by simp[show Array.range 0= #[]from rfl]
   simp only[hn0]at r1
   have r1':Instr.fill (fun i=>some (i*sz,sz)) #[] (ps.map fun x=>(x.1,a.eval x.2)).toList=some cur':=by simpa[show Array.range 0= #[]from rfl]using r1
   simp[execOp,ho,Instr.buildSlice,run_underlying hu,run_sizeOf hi,hn0,show Array.range 0= #[]from rfl]
   rw[show(List.map (fun x=>(x.1,a.eval x.2)) ps.toList)=(ps.map fun x=>(x.1,a.eval x.2)).toList by simp,r1']
   simp[qAW]
  ·have r1':Instr.fill (fun i=>some (i*sz,sz)) ((Array.range (n*sz)).map fun i=>zv.cells[i%zv.cells.size]!) (List.map (fun x=>(x.1,a.eval x.2)) ps.toList)=some cur':=r1
   simp only[execOp,ho,Instr.buildSlice,Sem.run_bind,run_underlying hu,Result.andThen_ok,run_sizeOf hi,if_neg hb,if_neg hn0,z1,Sem.run_pure]
   rw[Array.toList_map,r1']
   simp[qAW]
 ·have:n≤n*sz:=Nat.le_mul_of_pos_right n hsz
  unfold maxLen;omega
 ·have hk':k<cur'.toList.length:=by rw[Array.length_toList];omega
  rw[qG,List.getD_eq_getElem?_getD,List.getElem?_eq_getElem hk']
  exact r3 _ (List.getElem_mem hk')
 ·unfold qXx
  rw[qDR,qAr,List.length_take,List.length_drop,hol]
  have:=hrow i (sz-1) hi (by omega)
  dsimp only
  omega
 ·unfold qXx at hj
  rw[qDR,qAr,List.getElem?_take]at hj
  split at hj
  ·rename_i hjs
   rw[List.getElem?_drop]at hj
   have:=qR (r2.2 _ y hj) (qT hcl hj)
   rw[qG]
   exact this
  ·cases hj
theorem qIT (hh:HeapRel w M β cp h) (hn:nid≤h.length) (hd:β nid=none) {t:TypeId}{n:Nat}{cs:List AV}{cur:Array Value}(c:Nat)
  (hr:(execOp a.eval o).run P w= .ok (.value (.slice (some ⟨w.heap.size,0,none⟩) n c)) (w.alloc (.cells cur t))) (hcn:n≤c) (hcm:c≤maxLen) (hc:qAs w M β cp cs cur.toList) (h1:∀v∈cur.toList,v.oneCell'=true):
  Good P o a w M β cp h nid (.own nid fun _=>n) (.new (.blk cs)):=by
 have hk:∀k,k<w.heap.size→¬M k→(w.alloc (.cells cur t)).heap[k]? =w.heap[k]? ∧¬(M k∨k=w.heap.size):=fun k hk hM=>⟨heap_alloc w _ k hk,by intro h;rcases h with h|h;exact hM h;omega⟩
 have hb:∀b,β b≠none→qZ β nid (some w.heap.size) b=β b∧qAk cp nid c b=cp b:=by
  intro b hb
  have:b≠nid:=by rintro rfl;exact hb hd
  simp[qZ,qAk,this]
 refine⟨_,_,_,_,_,_,hr,.inl rfl,qCm hh hn hd (.cells cur t) c (.blk cs) rfl ⟨w.heap.size,cur,t,by simp[qZ],.inr rfl,qAl w _,hc.keep hk hb,⟨fun v hv=>h1 v (by simpa using hv),by simpa[qAk]using hcm⟩⟩, ?_⟩
 have:=Rep.own (w:=w.alloc (.cells cur t)) (M:=fun k=>M k∨k=w.heap.size) (β:=qZ β nid (some w.heap.size)) (cp:=qAk cp nid c) nid (fun _=>n) w.heap.size (by simp[qZ]) (by simp[qAk];exact hcn)
 simpa[qAk]using this
theorem qEw {t e:TypeId}{sz bytes:Nat}{z:List AV}{x:Operand}{ps:Array (Nat×Operand)}(hT:qE4 P t (.slice e sz bytes z)) (hh:HeapRel w M β cp h) (hn:nid≤h.length) (hd:β nid=none)
  (ho:o.op= .buildSlice t 1 ps) (hps:ps.toList=[(0,x)]) {X:AV}(hx:Rep w M β cp X (a.eval x)) {cs:List AV}(hc:cells X=some cs) (hl:cs.length=sz):
  Good P o a w M β cp h nid (.own nid fun _=>1) (.new (.blk cs)):=by
 obtain⟨hu,hsz,hsm,hi,_⟩:=hT
 obtain⟨h1,h2⟩:=qCR hx hc
 have hvs:(a.eval x).cells.size=sz:=by have:=h1.1;simp at this;omega
 have hps':ps= #[(0,x)]:=Array.toList_inj.1 hps
 obtain⟨zv,z1,_⟩:=qDb (w:=w) hi
 have hfill:∀cur:Array Value,cur.size=sz→Instr.fill (fun i=>some (i*sz,sz)) cur [(0,a.eval x)]=some (a.eval x).cells:=by
  intro cur hcur
  have:=eqs cur (a.eval x).cells 0 (by omega)
  simp only[Instr.fill,Nat.zero_mul]
  rw[if_neg (by simp;omega),this]
  rw[List.drop_eq_nil_of_le (by simp;omega)]
  simp
 refine qIT hh hn hd (t:=e) (n:=1) (cur:=(a.eval x).cells) 1 ?_ (Nat.le_refl _) (by unfold maxLen;omega) h1 h2
 have hsz0:sz≠0:=by omega
 have hb:¬16777216<sz:=by omega
 simp[execOp,ho,Instr.buildSlice,run_underlying hu,run_sizeOf hi,hps',hsz0,z1,hb,hfill,qAW]
theorem qEx {t e:TypeId}{n sz bytes:Nat}{z:List AV}{ps:Array (Nat×Operand)}(hT:qE4 P t (.slice e sz bytes z)) (hh:HeapRel w M β cp h) (hn:nid≤h.length) (hd:β nid=none)
  (ho:o.op= .buildSlice t n ps) (hx:∀x,Rep w M β cp (ev s x) (a.eval x)) (hz:z.length=sz) (hsm:n*sz≤16777216) {out:List AV}(hf:qCN (qJU sz 0 n) (qDw n z) (ps.toList.map fun p=>(p.1,ev s p.2))=some out):
  Good P o a w M β cp h nid (.own nid fun _=>n) (.new (.blk out)):=by
 obtain⟨hu,hsz,_,hi,_⟩:=hT
 obtain⟨zv,z1,z2,z3⟩:=qDb (w:=w) hi
 have hzs:zv.cells.size=sz:=by rw[←hz,←z2];simp
 have h0:∀j,j<n*sz→((Array.range (n*sz)).map fun i=>zv.cells[i%zv.cells.size]!).getD j undef=zv.cells.toList.getD (j%sz) undef:=by
  intro j hj
  have hm:j%zv.cells.size<zv.cells.size:=Nat.mod_lt _ (by omega)
  have hr:(Array.range (n*sz))[j]? =some j:=by simp[hj]
  rw[Array.getD_eq_getD_getElem?,Array.getElem?_map,hr]
  simp only[Option.map_some,Option.getD_some]
  rw[getElem!_pos (c:=zv.cells) (i:=j%zv.cells.size) hm]
  rw[hzs]at hm
  simp[hzs]
  rw[Array.getElem?_eq_getElem (by rw[hzs];exact hm)]
  rfl
 obtain⟨cur',r1,r2,r3⟩:=qFK (w:=w) (M:=M) (β:=β) (cp:=cp) (places:=fun i=>some (i*sz,sz)) (fs:=qJU sz 0 n)
  (fun i hi=>by rw[qFl]at hi;rw[qFk n 0 i hi];simp) (ps.toList.map fun p=>(p.1,ev s p.2)) (ps.toList.map fun p=>(p.1,a.eval p.2)) (qDw n z) out ((Array.range (n*sz)).map fun i=>zv.cells[i%zv.cells.size]!) hf (by simp)
  (fun j x v hj hj'=>by
    simp only[List.getElem?_map,Option.map_eq_some_iff]at hj hj'
    obtain⟨p,hp,rfl⟩:=hj
    obtain⟨p',hp',rfl⟩:=hj'
    rw[hp]at hp'
    cases hp'
    exact hx _)
  ⟨by simp[qBZ,hz],fun j x hj=>by
    have hjl:j<n*sz:=by have:=(List.getElem?_eq_some_iff.1 hj).1;rw[qBZ,hz]at this;exact this
    have h1:=qFN (by omega) n j x hj
    rw[←qG,h0 j hjl]
    rw[hz,←z2]at h1
    exact(qCQ zv.cells.toList).2 _ _ h1⟩
  (fun v hv=>by
    obtain⟨j,hj,rfl⟩:=List.getElem_of_mem hv
    have hjl:j<n*sz:=by simpa using hj
    have h1:=h0 j hjl
    rw[qG,List.getD_eq_getElem?_getD,List.getElem?_eq_getElem hj]at h1
    simp only[Option.getD_some]at h1
    rw[h1]
    have hm:j%sz<zv.cells.toList.length:=by rw[Array.length_toList,hzs];exact Nat.mod_lt _ hsz
    rw[List.getD_eq_getElem?_getD,List.getElem?_eq_getElem hm]
    exact z3 _ (List.getElem_mem hm))
 have hol:out.length=n*sz:=by
  have h1:=r2.1
  have h2:∀(ps:List (Nat×AV)) (cs out:List AV),qCN (qJU sz 0 n) cs ps=some out→out.length=cs.length:=by
   intro ps
   induction ps with
   |nil=>intro cs out h;simp[qCN]at h;rw[h]
   |cons p ps ih=>
    intro cs out h
    obtain⟨i,v⟩:=p
    simp only[qCN]at h
    split at h
    ·split at h
     ·rename_i q1 q2 q3
      rw[ih _ _ h,qBg _ _ _ (by have:=qAO.1 q2;rw[qK,qK]at this;exact this)]
      have:=qAO.1 q2
      rw[qK,qK]at this
      simp
      omega
     ·cases h
    ·cases h
  rw[h2 _ _ _ hf,qBZ,hz]
 have hcs:cur'.size=n*sz:=by have:=r2.1;simp at this;omega
 have hrow:∀i j,i<n→j<sz→i*sz+j<n*sz:=by
  intro i j hi hj
  have:=Nat.mul_le_mul_right sz (show i+1≤n by omega)
  rw[Nat.succ_mul]at this
  omega
 have hcm:n≤maxLen:=by
  have:n≤n*sz:=Nat.le_mul_of_pos_right n hsz
  unfold maxLen;omega
 refine qIT hh hn hd (t:=e) (n:=n) (cur:=cur') n ?_ (Nat.le_refl _) hcm r2 r3
 ·have hb:¬16777216<n*sz:=by omega
  by_cases hn0:n*sz=0
  ·have e0:(Array.map (fun x=>(#[]:Array Value)[x%0]!) (Array.range 0))= #[]:=by simp[show Array.range 0= #[]from rfl]
   simp only[hn0]at r1
   have r1':Instr.fill (fun i=>some (i*sz,sz)) #[] (ps.map fun x=>(x.1,a.eval x.2)).toList=some cur':=by simpa[show Array.range 0= #[]from rfl]using r1
   simp[execOp,ho,Instr.buildSlice,run_underlying hu,run_sizeOf hi,hn0,show Array.range 0= #[]from rfl]
   rw[show(List.map (fun x=>(x.1,a.eval x.2)) ps.toList)=(ps.map fun x=>(x.1,a.eval x.2)).toList by simp,r1']
   simp[qAW]
  ·have r1':Instr.fill (fun i=>some (i*sz,sz)) ((Array.range (n*sz)).map fun i=>zv.cells[i%zv.cells.size]!) (List.map (fun x=>(x.1,a.eval x.2)) ps.toList)=some cur':=r1
   simp only[execOp,ho,Instr.buildSlice,Sem.run_bind,run_underlying hu,Result.andThen_ok,run_sizeOf hi,if_neg hb,if_neg hn0,z1,Sem.run_pure]
   rw[Array.toList_map,r1']
   simp[qAW]
theorem qEy {t e:TypeId}{sz bytes:Nat}{z:List AV}{ps:Array (Nat×Operand)}(hT:qE4 P t (.slice e sz bytes z)) (hh:HeapRel w M β cp h) (hn:nid≤h.length) (hd:β nid=none)
  (ho:o.op= .buildSlice t 0 ps) (hps:ps.toList=[]):Good P o a w M β cp h nid (.own nid fun _=>0) (.new (.vec e sz (fun _=>0) fun _=>[])):=by
 obtain⟨hu,hsz,hsm,hi,_⟩:=hT
 have hps':ps= #[]:=Array.toList_inj.1 hps
 refine good_row hh hn hd (t:=e) (sz:=sz) (n:=0) (cur:= #[]) 0 ?_ (by simp) (Nat.le_refl _) (by unfold maxLen;omega) ⟨fun k hk=>by omega,fun _ _ q1 q2 _=>by omega⟩ (fun i hi=>by omega) (fun i j y hi hj=>by omega) rfl
 simp[execOp,ho,Instr.buildSlice,run_underlying hu,run_sizeOf hi,hps',Instr.fill,qAW,show Array.range 0= #[]from rfl]
theorem qFO {t e:TypeId}{sz bytes:Nat}{z:List AV}{x y:Operand}(hT:qE4 P t (.slice e sz bytes z)) (hh:HeapRel w M β cp h) (hn:nid≤h.length) (hd:β nid=none)
  (ho:o.op= .makeSlice t x y) {k k':IntKind}{n c:Th Int}(hx:Rep w M β cp (.i k n) (a.eval x)) (hy:Rep w M β cp (.i k' c) (a.eval y)) (hl:z.length=sz) (hcl:qL z=true)
  (h0:0≤n ()) (h1:n ()≤c ()) (h2:(bytes:Int)*c ()≤281474976710656) (h3:c ()≤9223372036854775807):
  Good P o a w M β cp h nid (.own nid fun _=>(n ()).toNat) (.new (.vec e sz (fun _=>(n ()).toNat) fun _=>z)):=by
 obtain⟨hu,hsz,hsm,hi,hby,_,hkd⟩:=hT
 have ex:=qAB hx
 have ey:=qAB hy
 obtain⟨zv,z1,z2,z3,z4⟩:∃zv,(zeroValue e).run P w= .ok zv w∧zv.cells.toList.map qDP=z∧(∀v∈zv.cells.toList,v.oneCell'=true)∧Kd.z e=zv.cells.toList:=by
  obtain⟨i,h1,h2,zv,h3,h4,h5⟩:=hi
  exact⟨zv,by simp[zeroValue,typeInfo,h1,h3],h4,fun v hv=>by have:=List.all_eq_true.1 h5 v hv;simpa using this,hkd i zv h1 h3⟩
 have hzs:zv.cells.size=sz:=by rw[←hl,←z2];simp
 obtain⟨inf,i1,i2,_⟩:=hi
 have ib:inf.bytes=bytes:=by rw[i1]at hby;simpa using hby
 have hrow:∀(i j:Nat),i<(c ()).toNat→j<sz→((Array.range ((c ()).toNat*sz)).map fun i=>zv.cells[i%zv.cells.size]!).getD (i*sz+j) undef=zv.cells.toList.getD j undef:=by
  intro i j hi hj
  have hlt:i*sz+j<(c ()).toNat*sz:=by
   have:=Nat.mul_le_mul_right sz (show i+1≤(c ()).toNat by omega)
   rw[Nat.succ_mul]at this
   omega
  have hm:(i*sz+j)%zv.cells.size=j:=by rw[hzs,Nat.mul_comm,Nat.mul_add_mod,Nat.mod_eq_of_lt hj]
  have hj':j<zv.cells.size:=by omega
  have hr:(Array.range ((c ()).toNat*sz))[i*sz+j]? =some (i*sz+j):=by simp[hlt]
  rw[Array.getD_eq_getD_getElem?,Array.getElem?_map,hr]
  simp only[Option.map_some,Option.getD_some,hm]
  rw[getElem!_pos (c:=zv.cells) (i:=j) hj']
  simp[hj']
 refine good_row hh hn hd (t:=e) (sz:=sz) (n:=(n ()).toNat) (cur:=(Array.range ((c ()).toNat*sz)).map fun i=>zv.cells[i%zv.cells.size]!) (c ()).toNat ?_ (by simp) (by omega) (by unfold maxLen;omega) ?_ (fun i hi=>hl) (fun i j y hi hj=> ?_) rfl
 ·have w1:IntKind.i64.wrap (n ())=n ():=wrap64_in ⟨by omega,by omega⟩
  have w2:IntKind.i64.wrap (c ())=c ():=wrap64_in ⟨by omega,by omega⟩
  have hc0:¬c ()<0:=by omega
  have hn0:¬n ()<0:=by omega
  have hnc:¬n ()>c ():=by omega
  have hbc:¬281474976710656<(bytes:Int)*c ():=by omega
  by_cases hz:(c ()).toNat*sz=0
  ·simp[execOp,ho,Instr.makeSlice,run_underlying hu,ex,ey,asInt,asIntOf,typeInfo,i1,ib,w1,w2,hc0,hn0,hnc,hbc,sizeOf,i2,hz,qAW,show Array.range 0= #[]from rfl]
  ·simp[execOp,ho,Instr.makeSlice,run_underlying hu,ex,ey,asInt,asIntOf,typeInfo,i1,ib,w1,w2,hc0,hn0,hnc,hbc,sizeOf,i2,hz,qAW,z1]
 ·refine⟨fun k hk=> ?_,fun i j q1 q2 q3=>by rw[hrow i j q2 q3,z4.symm];exact fun _=>rfl⟩
  have hk2:k/sz<(c ()).toNat:=by
   have:=Nat.div_lt_of_lt_mul (show k<sz*(n ()).toNat by rw[Nat.mul_comm];exact hk)
   omega
  have hj:k%sz<sz:=Nat.mod_lt _ hsz
  have:=hrow (k/sz) (k%sz) hk2 hj
  rw[show k/sz*sz+k%sz=k by rw[Nat.mul_comm];exact Nat.div_add_mod k sz]at this
  rw[this,List.getD_eq_getElem?_getD,List.getElem?_eq_getElem (by simp;omega)]
  exact z3 _ (List.getElem_mem _)
 ·have hjl:j<sz:=by rw[←hl];exact(List.getElem?_eq_some_iff.1 hj).1
  rw[hrow i j (by omega) hjl]
  have:=(qCQ (w:=w) (M:=M) (β:=fun _=>none) (cp:=fun _=>0) zv.cells.toList).2 j y (by rw[z2];exact hj)
  exact qR this (qT hcl hj)
theorem qNr {c:Th Bool}{v:Value}(x y:AV) (hx:c ()=true→Rep w M β cp x v) (hy:c ()=false→Rep w M β cp y v):Rep w M β cp (AV.pick c x y) v:=by
 unfold AV.pick
 split
 all_goals first
  |exact .ite _ _ _ _ hx hy
  |(refine .c ?_
    cases hc:c ()with
    |true=>
     have h1:=hx hc
     cases h1 with
     |c h1=>
      cases h1
      simp only[hc,cond_true]
      first|exact .i _ _|exact .b _|exact .s _|exact .b (fun _=>_)
    |false=>
     have h1:=hy hc
     cases h1 with
     |c h1=>
      cases h1
      simp only[hc,cond_false]
      first|exact .i _ _|exact .b _|exact .s _|exact .b (fun _=>_))
theorem qPR (g:Nat→Int) (n:Nat):((List.range n).map g).foldl (fun(r:ByteArray) n=>r.push (UInt8.ofNat n.toNat)) ByteArray.empty=sOf n g:=by
 have key:∀(l:List Int) (s:ByteArray),l.foldl (fun(r:ByteArray) n=>r.push (UInt8.ofNat n.toNat)) s=⟨s.data++(l.map fun n=>UInt8.ofNat n.toNat).toArray⟩:=by
  intro l
  induction l with
  |nil=>intro s;simp
  |cons x l ih=>intro s;rw[List.foldl_cons,ih];simp[ByteArray.push]
 rw[key]
 unfold sOf
 simp[ByteArray.empty,ByteArray.emptyWithCapacity,Function.comp_def]
 rfl
theorem qJ6 {t t' e:TypeId}{x:Operand}{X:AV}(hh:HeapRel w M β cp h) (ho:o.op= .convert t t' x) (h1:P.underlying t=some (.slice e)) (h2:P.underlying t'=some .string) (h3:P.underlying e=some (.int .u8))
  (hx:Rep w M β cp X (a.eval x)):(qK9 h X).Sound (Good P o a w M β cp h nid):=by
 have run:∀(ad:Option Addr) (l c:Nat) (v:ByteArray),a.eval x= .slice ad l c→(Conv.bytesToString (.slice ad l c)).run P w= .ok (.string v) w→(execOp a.eval o).run P w= .ok (.value (.string v)) w:=by
  intro ad l c v he hr
  simp[execOp,ho,he,run_convert_bytes_string w t t' e ad l c h1 h3 h2,hr]
 have cells:∀(ad:Addr) (n c:Nat) (g:Nat→Int) (u:Nat→Value),(∀i,i<n→w.cell? (ad.add i)=some (u i))→(∀i,i<n→u i= .int .u8 (g i))→(Conv.bytesToString (.slice (some ad) n c)).run P w= .ok (.string (sOf n g)) w:=by
  intro ad n c g u hc hu
  rw[←qPR g n]
  refine run_bytesToString w ad n c _ ?_
  rw[run_loadCells w ad n u hc]
  congr 2
  rw[List.map_map]
  exact List.map_congr_left fun i hi=>hu i (by simpa using hi)
 have one:∀{l:List AV}{v:Value},qUs l=true→(∀(j:Nat) (y:AV),l[j]? =some y→RepC w M y (if j=0 then v else undef))→v= .int .u8 (qPJ l):=by
  intro l v hl hr
  unfold qUs at hl
  split at hl
  ·rename_i n
   have:=hr 0 _ rfl
   cases this;rfl
  ·cases hl
 unfold qK9
 split
 ·have hv:=qAJ hx
  exact qF hh (v':= .string .empty) (run _ _ _ _ hv (by simp[Conv.bytesToString])) (.c (.s fun _=> .empty))
 ·rename_i sz n f
  split
  ·rename_i q
   have q:=qC.1 q
   subst q
   intro hp
   have hp:∀i,i<n ()→qUs (f fun _=>i)=true:=hp
   obtain⟨ad,c,he,hc,hm,hr⟩:=qE3 hx
   refine qF hh (v':= .string (sOf (n ()) fun i=>qPJ (f fun _=>i))) ?_ (.c (.s fun _=>sOf (n ()) fun i=>qPJ (f fun _=>i)))
   by_cases h0:n ()=0
   ·cases ad with
    |none=>exact run _ _ _ _ he (by rw[h0];simp[Conv.bytesToString,sOf,ByteArray.empty,ByteArray.emptyWithCapacity];try rfl)
    |some ad=>exact run _ _ _ _ he (cells ad _ c _ (fun _=>undef) (fun i hi=>by omega) (fun i hi=>by omega))
   ·obtain⟨ad',u,rfl,hM,hs,hl,hcell,ho1,hrep⟩:=hr (by omega)
    refine run _ _ _ _ he (cells ad' _ c _ (fun i=>u i 0) (fun i hi=>by have:=hcell i 0 hi (by omega);simpa using this) fun i hi=> ?_)
    exact one (hp i hi) fun j y hj=>by
     have hlj:j<1:=by rw[←hl i hi];exact(List.getElem?_eq_some_iff.1 hj).1
     have:j=0:=by omega
     subst this
     exact hrep i 0 y hi hj
  ·trivial
 ·rename_i b n
  split
  ·rename_i e' sz m f hb
   split
   ·rename_i q
    have q:=qC.1 q
    subst q
    rintro⟨hnm,hp⟩
    refine qF hh (v':= .string (sOf (n ()) fun i=>qPJ (f fun _=>i))) ?_ (.c (.s fun _=>sOf (n ()) fun i=>qPJ (f fun _=>i)))
    rcases qW hx with⟨h0,he⟩|⟨g,hg,hn,he⟩
    ·exact run _ _ _ _ he (by rw[h0];simp[Conv.bytesToString,sOf,ByteArray.empty,ByteArray.emptyWithCapacity];try rfl)
    ·rcases hh.obj b _ (qJ hb rfl)with⟨e1,_⟩|⟨g',cur,e1,e2,e3,e4,e5,e6,e7,e8,e9⟩
     ·rw[hg]at e1;cases e1
     ·rw[hg]at e1;cases e1
      refine run _ _ _ _ he (cells _ _ _ _ (fun i=>cur.getD i undef) (fun i hi=> ?_) fun i hi=> ?_)
      ·have h3:i<cur.size:=by omega
       rw[addr_add,Nat.zero_add,cell_of_row e3 h3]
       simp[h3]
      ·exact one (hp i hi) fun j y hj=>by
        have hlj:j<1:=by rw[←e8 i (by omega)];exact(List.getElem?_eq_some_iff.1 hj).1
        have:j=0:=by omega
        subst this
        have:=e9 i 0 y (by omega) hj
        simpa using this
   ·trivial
  ·trivial
 ·rename_i b n
  split
  ·rename_i m f hb
   rintro⟨hnm,hp⟩
   refine qF hh (v':= .string (sOf (n ()) fun i=>qPJ (f fun _=>i))) ?_ (.c (.s fun _=>sOf (n ()) fun i=>qPJ (f fun _=>i)))
   obtain⟨g,hg,hn,he⟩:=qBK hx
   obtain⟨g',cur,t',fr,e1,e2,e3,⟨e4,e5⟩,e6,e7,e8⟩:=hh.obj b _ (qJ hb rfl)
   rw[hg]at e1;cases e1
   refine run _ _ _ _ he (cells _ _ _ _ (fun i=>cur.getD i undef) (fun i hi=> ?_) fun i hi=> ?_)
   ·have h3:i<cur.size:=by omega
    rw[addr_add,Nat.zero_add,cell_of_row e3 h3]
    simp[h3]
   ·exact one (hp i hi) fun j y hj=>by
     have hlj:j<1:=by rw[←e7 i (by omega)];exact(List.getElem?_eq_some_iff.1 hj).1
     have:j=0:=by omega
     subst this
     have:=e8 i 0 y (by omega) hj
     simpa using this
  ·trivial
 ·trivial
theorem qHu {t t' e:TypeId}{x:Operand}(hh:HeapRel w M β cp h) (hn:nid≤h.length) (hd:β nid=none) (ho:o.op= .convert t t' x) (h1:P.underlying t=some .string) (h2:P.underlying t'=some (.slice e)) (h3:P.underlying e=some (.int .u8))
  {v:Th ByteArray}(hx:Rep w M β cp (.s v) (a.eval x)) (hm:(v ()).size≤9223372036854775807):
  Good P o a w M β cp h nid (.nn nid fun _=>(v ()).size) (.new (.fz none (fun _=>(v ()).size) fun j=>[.i .u8 fun _=>qBo (v ()) (j ():Nat)])):=by
 have hx:=qBV hx
 have hrun:(execOp a.eval o).run P w= .ok (.value (.slice (some ⟨w.heap.size,0,none⟩) (v ()).size (grownCap w (v ()).size 0 e))) (Lib.bytesWorld w e (v ())):=by
  simp[execOp,ho,hx,Lib.run_convert_string_bytes w t t' e (v ()) h1 h2 h3]
 have hge:=grownCap_ge w (v ()).size 0 e
 have hsz:(Lib.bytesCells w e (v ())).size=grownCap w (v ()).size 0 e:=by
  have:(v ()).data.size=(v ()).size:=rfl
  simp[Lib.bytesCells]
  omega
 have hheap:(Lib.bytesWorld w e (v ())).heap=(w.alloc (.cells (Lib.bytesCells w e (v ())) e ((Lib.bytesCells w e (v ())).size,(Lib.bytesCells w e (v ())).size+1))).heap:=by
  apply Array.ext_getElem?
  intro i
  rcases Nat.lt_trichotomy i w.heap.size with h|h|h
  ·rw[Lib.bytesWorld_at_old w e _ i h,heap_alloc w _ i h]
  ·subst h
   rw[Lib.bytesWorld_at_new,qAl]
  ·rw[Array.getElem?_eq_none (by rw[Lib.bytesWorld_size];omega),Array.getElem?_eq_none (by show(w.heap.push _).size≤i;rw[Array.size_push];omega)]
 have hcell:∀i,i<(v ()).size→(Lib.bytesCells w e (v ())).getD i undef= .int .u8 (qBo (v ()) (i:Nat)):=by
  intro i hi
  have hi2:i<(v ()).data.size:=hi
  rw[Array.getD_eq_getD_getElem?]
  unfold Lib.bytesCells qBo
  rw[Array.getElem?_append_left (by simpa using hi2),Array.getElem?_map,Array.getElem?_eq_getElem hi2]
  rw[Int.toNat_natCast,Array.getD_eq_getD_getElem?,Array.getElem?_eq_getElem hi2]
  rfl
 have h0:=qCm hh hn hd (.cells (Lib.bytesCells w e (v ())) e ((Lib.bytesCells w e (v ())).size,(Lib.bytesCells w e (v ())).size+1)) (grownCap w (v ()).size 0 e) (.fz none (fun _=>(v ()).size) fun j=>[.i .u8 fun _=>qBo (v ()) (j ():Nat)]) rfl
  ⟨w.heap.size,_,e,_,by simp[qZ],.inr rfl,qAl w _,⟨Nat.le_refl _,by show(v ()).size≤_;omega⟩,⟨fun u hu=>by
    unfold Lib.bytesCells at hu
    rcases Array.mem_append.1 hu with hu|hu
    ·obtain⟨b,_,rfl⟩:=Array.mem_map.1 hu;rfl
    ·rw[(Array.mem_replicate.1 hu).2];rfl,by simp[qAk];exact grownCap_le_maxLen w _ 0 e (by unfold maxLen;omega)⟩,fun i hi=>rfl,fun i j y hi hj=>by
    cases j with
    |succ j=>simp at hj
    |zero=>
     simp at hj
     subst hj
     have hc:=hcell i hi
     show RepC _ _ _ ((Lib.bytesCells w e (v ())).getD i undef)
     rw[hc]
     exact .i .u8 fun _=>qBo (v ()) (i:Nat)⟩
 refine⟨_,_,_,_,_,_,hrun,.inl rfl,⟨h0.heap.same hheap,
  fun k hk hM=>by rw[hheap];exact h0.keep k hk hM,h0.bk,⟨?_, ?_, ?_,by rw[hheap];exact h0.ext.size,fun k hk hB=>by rw[hheap];exact h0.ext.block k hk hB,h0.ext.sub,h0.ext.new⟩,fun k hk=>h0.own k (hk.same hheap.symm),h0.nn⟩, ?_⟩
 ·simp[Lib.bytesWorld,World.freeze,World.alloc,World.drew,-World.alloc_eq,-World.drew_eq]
 ·simp[Lib.bytesWorld,World.freeze,World.alloc,World.drew,-World.alloc_eq,-World.drew_eq]
 ·simp[Lib.bytesWorld,World.freeze,World.alloc,World.drew,-World.alloc_eq,-World.drew_eq]
 ·have:=Rep.nn (w:=Lib.bytesWorld w e (v ())) (M:=fun k=>M k∨k=w.heap.size) (β:=qZ β nid (some w.heap.size)) (cp:=qAk cp nid (grownCap w (v ()).size 0 e)) nid (fun _=>(v ()).size) w.heap.size (by simp[qZ]) (by simp[qAk];exact hge)
  simpa[qAk]using this
theorem qGz {t:TypeId}{r:Arr}{ps:Array (Nat×Operand)}(hT:qSE P t r) (hh:HeapRel w M β cp h) (ho:o.op= .build t ps) (hx:∀x,Rep w M β cp (ev s x) (a.eval x)) (hz:r.z.length=r.sz) {out:List AV}
  (hf:qCN (qJU r.sz 0 r.n) (qDw r.n r.z) (ps.toList.map fun p=>(p.1,ev s p.2))=some out):Good P o a w M β cp h nid (.agg out) .no:=by
 obtain⟨e,hu,⟨i,zv,hi,z1,z2,z3⟩,he,_⟩:=hT
 obtain⟨cur',r1,r2,r3⟩:=qFK (w:=w) (M:=M) (β:=β) (cp:=cp) (places:=fun i=>some (i*r.sz,r.sz)) (fs:=qJU r.sz 0 r.n)
  (fun i hi=>by rw[qFl]at hi;rw[qFk r.n 0 i hi];simp) (ps.toList.map fun p=>(p.1,ev s p.2)) (ps.toList.map fun p=>(p.1,a.eval p.2)) (qDw r.n r.z) out zv.cells hf (by simp)
  (fun j x v hj hj'=>by
    simp only[List.getElem?_map,Option.map_eq_some_iff]at hj hj'
    obtain⟨p,hp,rfl⟩:=hj
    obtain⟨p',hp',rfl⟩:=hj'
    rw[hp]at hp'
    cases hp'
    exact hx _)
  (by rw[←z2];exact qCQ _) (fun v hv=>by have:=List.all_eq_true.1 z3 v hv;simpa using this)
 refine qF hh (v':= .agg cur') ?_ (.agg _ _ (by simpa using r2.1) (fun v hv=>r3 v (by simpa using hv)) fun j x hj=>by rw[qG];exact r2.2 j x hj)
 have hzr:(zeroValue t).run P w= .ok zv w:=by simp[zeroValue,typeInfo,hi,z1]
 have r1':Instr.fill (fun i=>some (i*r.sz,r.sz)) zv.cells ((ps.map fun x=>(x.1,a.eval x.2)).toList)=some cur':=by simpa using r1
 simp only[execOp,ho,Instr.build,Sem.run_bind,hzr,Result.andThen_ok,run_underlying hu,run_sizeOf he,r1']
 rfl
theorem qJ7 {c:Call}{f:FuncId}{x y z:Operand}(hS:qUD P f) (hh:HeapRel w M β cp h) (ho:o.op= .call c) (hc:c.callee= .value (.func f)) (ha:c.args.toList=[x,y,z])
  {X Y Z:AV}(hx:Rep w M β cp X (a.eval x)) (hy:Rep w M β cp Y (a.eval y)) (hz:Rep w M β cp Z (a.eval z)):(qNk X Y Z).Sound (Good P o a w M β cp h nid):=by
 unfold qNk
 split
 ·rename_i x' y' z'
  rintro⟨h1,h2,h3,h4⟩
  obtain⟨fn,f1,f2,f3,f4,f5⟩:=hS
  have hargs:c.args= #[x,y,z]:=Array.toList_inj.1 ha
  have hv1:=qAB hx
  have hv2:=qAB hy
  have hv3:=qAB hz
  have e1:((x' ()).toNat:Int)=x' ():=Int.toNat_of_nonneg h1
  have e2:((y' ()).toNat:Int)=y' ():=Int.toNat_of_nonneg h2
  have hrun:=run_callFunc_extern (P:=P) f1 (by rw[f2];rfl) (by rw[f3];rfl) f4 f5 #[a.eval x,a.eval y,a.eval z] w
  have h0:(qRH #[.int .u64 (x' ()),.int .u64 (y' ()),.int .u64 0]).run P w= .ok (.tuple #[.int .u64 (((x' ()).toNat+18446744073709551616-(y' ()).toNat-0)%18446744073709551616:Nat),.int .u64 ((if(x' ()).toNat<(y' ()).toNat+0 then 1 else 0:Nat):Int)]) w:=rfl
  refine qF hh (v':= .tuple #[.int .u64 ((x' ()+18446744073709551616-y' ())%18446744073709551616),.int .u64 (if x' ()<y' ()then 1 else 0)]) ?_ (.c (.tup _ _ rfl fun j X hj=> ?_))
  ·have e3:(((x' ()).toNat+18446744073709551616-(y' ()).toNat-0)%18446744073709551616:Nat)=((x' ()+18446744073709551616-y' ())%18446744073709551616:Int):=by omega
   have e4:((if(x' ()).toNat<(y' ()).toNat+0 then 1 else 0:Nat):Int)=if x' ()<y' ()then 1 else 0:=by
    by_cases q:x' ()<y' ()
    ·rw[if_pos q,if_pos (by omega)];rfl
    ·rw[if_neg q,if_neg (by omega)];rfl
   rw[hv1,hv2,hv3,h4,h0,e3,e4]at hrun
   have hm:c.args.map a.eval= #[.int .u64 (x' ()),.int .u64 (y' ()),.int .u64 0]:=by rw[hargs];simp[hv1,hv2,hv3,h4]
   have he:a.eval (.func f)= .func (.func f) #[] #[]:=rfl
   simp[execOp,ho,resolve,hc,he,Deferred.ofValue,invoke,hm,hrun,Result.andThen]
  ·rcases j with _|_|j
   ·cases hj;exact .i _ _
   ·cases hj;exact .i _ _
   ·simp at hj
 ·trivial
theorem qGH (hE:EnvOk P E) (hh:HeapRel w M β cp h) (hn:nid≤h.length) (hd:β nid=none) (hx:∀x,Rep w M β cp (ev s x) (a.eval x)):
  (step E o s h nid).Sound (Good P o a w M β cp h nid):=by
 cases ho:o.op with
 |move x=>simp only[step,ho];exact qF hh (by simp[execOp,ho]) (hx x)
 |assign x=>simp only[step,ho];exact qF hh (by simp[execOp,ho]) (hx x)
 |pick c x y=>
  simp only[step,ho]
  have hc:=hx c
  split
  ·rename_i he
   rw[he]at hc
   exact qF hh (by simp[execOp,ho,qAN hc,asBool]) (hx x)
  ·rename_i he
   rw[he]at hc
   exact qF hh (by simp[execOp,ho,qAN hc,asBool]) (hx y)
  ·rename_i q he
   rw[he]at hc
   refine qF hh (v':=if q ()then a.eval x else a.eval y) (by simp[execOp,ho,qBU hc,asBool]) ?_
   refine qNr _ _ (fun hc=> ?_) (fun hc=> ?_)
   ·rw[if_pos hc];exact hx x
   ·rw[if_neg (by simp[hc])];exact hx y
  ·trivial
 |typeAssert x xt t ok=>
  simp only[step,ho]
  split
  ·rename_i t' X he
   split
   ·rename_i q1 q
    have q1:=qC.1 q1
    subst q1
    obtain⟨d,h1,h2⟩:=hE.nif t' q
    have hx1:=hx x
    rw[he]at hx1
    obtain⟨u,hv,hr⟩:=qCO hx1
    refine qF hh (v':=u) ?_ hr
    simp only[execOp,ho,Instr.typeAssert,Sem.run_bind,run_underlying h1,Result.andThen_ok,hv]
    cases d<;>first|(cases h2;done)|simp
   ·trivial
  ·trivial
 |makeMap t r=>
  simp only[step,ho]
  split
  ·rename_i ks q
   exact qHt hh hn hd ho
  ·trivial
 |lookup t x i ok=>
  simp only[step,ho]
  unfold qJZ
  split
  ·rename_i ks b hm hX
   split
   ·rename_i n l k hb hk
    split
    ·rename_i q
     have q:=qC.1 q
     subst q
     have hx1:=hx x
     rw[hX]at hx1
     have hr:=qIS (hE.ma t _ hm) hh ho hx1 (hx i) hk hb
     cases ok with
     |true=>
      refine qF hh hr (.c (.tup _ _ rfl fun j z hj=> ?_))
      match j with
      |0=>simp at hj;subst hj;exact .i .i64 fun _=>(qNe (k ()) (l ())).getD 0
      |1=>simp at hj;subst hj;exact .b fun _=>(qNe (k ()) (l ())).isSome
      |j+2=>simp at hj
     |false=>exact qF hh hr (.c (.i .i64 fun _=>(qNe (k ()) (l ())).getD 0))
    ·trivial
   ·trivial
  ·trivial
 |mapUpdate t x i y=>
  simp only[step,ho]
  unfold qEr
  split
  ·rename_i ks b v hm hX hY
   split
   ·rename_i n l k hb hk
    split
    ·rename_i q
     have q:=qC.1 q
     subst q
     have hx1:=hx x
     rw[hX]at hx1
     have hy1:=hx y
     rw[hY]at hy1
     exact qFM (hE.ma t _ hm) hh ho hx1 (hx i) hy1 hk hb
    ·trivial
   ·trivial
  ·trivial
 |makeInterface t x=>
  simp only[step,ho]
  split
  ·rename_i q
   obtain⟨d,h1,h2⟩:=hE.nif t q
   refine qF hh (v':= .iface t (a.eval x)) ?_ (.ifc t _ _ (hx x))
   simp only[execOp,ho,Instr.makeInterface,Sem.run_bind,run_underlying h1,Result.andThen_ok]
   cases d<;>first|rfl|cases h2
  ·trivial
 |alloc t=>
  simp only[step,ho]
  split
  ·rename_i z hz
   split
   ·rename_i hb;exact qIL (hE.ty t) hh hn hd ho hz hb
   ·exact qJ2 (hE.ty t) hh hn hd ho hz
  ·trivial
 |box t x=>
  simp only[step,ho]
  split
  ·rename_i cs hc;exact qNq hh hn hd ho (hx x) hc
  ·trivial
 |build t ps=>
  simp only[step,ho]
  split
  ·rename_i fl fs sz z hT
   split
   ·rename_i cs hc hpos
    have:=hE.ty t
    rw[hT]at this
    exact qJ3 this hh hpos ho hx hc
   ·trivial
  ·split
   ·rename_i r hr
    split
    ·rename_i cs q1 hc
     have q1:=qC.1 q1
     rw[qK]at q1
     exact qGz (hE.ar t r hr) hh ho hx q1 hc
    ·trivial
   ·trivial
  ·trivial
 |buildSlice t n ps=>
  simp only[step,ho]
  split
  ·rename_i e sz b z hT
   have hTy:=hE.ty t
   rw[hT]at hTy
   split
   ·rename_i hps;exact qEy hTy hh hn hd ho hps
   ·rename_i x hps
    split
    ·rename_i cs hc
     split
     ·rename_i q1 q2
      rw[qK]at q1
      exact qFg hTy hh hn hd ho hps (hx x) hc (qC.1 q1) q2
     ·rename_i q1 q2
      rw[qK]at q1
      exact qEw hTy hh hn hd ho hps (hx x) hc (qC.1 q1)
     ·trivial
    ·trivial
   ·split
    ·rename_i out q1 q2 q3
     split
     ·rename_i q4
      have q1:=qC.1 q1
      rw[qK]at q1
      exact qEv hTy hh hn hd ho hx q1 (qAO.1 q2) q3 q4
     ·have q1:=qC.1 q1
      rw[qK]at q1
      exact qEx hTy hh hn hd ho hx q1 (qAO.1 q2) q3
    ·trivial
  ·trivial
 |makeSlice t x y=>
  simp only[step,ho]
  split
  ·rename_i e sz b z k n k' c hT hn' hc'
   have hTy:=hE.ty t
   rw[hT]at hTy
   split
   ·rename_i q1 q2
    rw[qK]at q1
    rintro⟨g0,g1,g2,g3⟩
    exact qFO hTy hh hn hd ho (hn'▸hx x) (hc'▸hx y) (qC.1 q1) q2 g0 g1 g2 g3
   ·trivial
  ·trivial
 |load t x=>simp only[step,ho];exact qMo (hE.ty t) hh ho (hx x)
 |store t x y=>simp only[step,ho];exact qJ0 (hE.ty t) hh ho (hx x) (hx y)
 |nilCheck x=>
  simp only[step,ho]
  have h1:=hx x
  split
  ·rename_i b p he
   rw[he]at h1
   obtain⟨g,hg,hv⟩:=qA7 h1
   exact qF hh (by simp[execOp,ho,hv]) (.ptr b p g hg)
  ·rename_i b sz i p he
   rw[he]at h1
   obtain⟨g,hg,hv⟩:=qBH h1
   exact qF hh (by simp[execOp,ho,hv]) (.ept b sz i p g hg)
  ·rename_i l he
   rw[he]at h1
   obtain⟨ad,u,hv,_⟩:=qIG h1
   exact qF hh (v':=a.eval x) (by simp[execOp,ho,hv]) h1
  ·trivial
 |binOp op t x y t'=>
  simp only[step,ho]
  split
  ·exact qNn (hE.ty t) hh ho (hx x) (hx y)
  ·rename_i q;exact qNp (hE.ern t q) hh ho (hx x)
 |unOp op t x=>
  simp only[step,ho]
  have h1:=hx x
  split
  ·rename_i q he
   rw[he]at h1
   exact qF hh (v':= .bool (!(q ()))) (by simp[execOp,ho,qBU h1,Op.unary]) (.c (.b fun _=> !(q ())))
  ·rename_i he
   rw[he]at h1
   exact qF hh (v':= .bool false) (by simp[execOp,ho,qAN h1,Op.unary]) (.c (.bc false))
  ·rename_i he
   rw[he]at h1
   exact qF hh (v':= .bool true) (by simp[execOp,ho,qAN h1,Op.unary]) (.c (.bc true))
  ·rename_i q he
   rw[he]at h1
   split
   ·intro hr
    exact qF hh (v':= .int .i64 (0-q ())) (by simp only[execOp,ho,qAB h1,Op.unary,Op.intArith];simp only[wrap64_in hr];rfl) (.c (.i .i64 fun _=>0-q ()))
   ·exact qF hh (v':= .int .i64 (IntKind.i64.wrap (0-q ()))) (by simp only[execOp,ho,qAB h1,Op.unary,Op.intArith];rfl) (.c (.i .i64 fun _=>IntKind.i64.wrap (0-q ())))
  ·rename_i k q he
   rw[he]at h1
   exact qF hh (v':= .int k (qRC k (if k.signed then -1 else k.max) (q ()))) (by simp[execOp,ho,qAB h1,Op.unary,Op.intBits,qRC]) (.c (.i k fun _=>qRC k (if k.signed then -1 else k.max) (q ())))
  ·trivial
 |convert t t' x=>
  simp only[step,ho]
  have h1:=hx x
  split
  ·rename_i k0 k k' q hT0 hT he
   rw[he]at h1
   have hTy:=hE.ty t'
   rw[hT]at hTy
   have hu:=hTy.1
   have hTy0:=hE.ty t
   rw[hT0]at hTy0
   refine qF hh (v':= .int k (k.wrap (q ()))) ?_ (.c (.i k fun _=>k.wrap (q ())))
   simp[execOp,ho,convert,run_underlying hTy0.1,run_underlying hu,qAB h1,Conv.intToInt]
  ·rename_i v hT0 hT he
   rw[he]at h1
   have hTy:=hE.ty t'
   rw[hT]at hTy
   have hTy0:=hE.ty t
   rw[hT0]at hTy0
   refine qF hh (v':= .string (v ())) ?_ (.c (.s v))
   simp[execOp,ho,convert,run_underlying hTy0.1,run_underlying hTy.1,qBV h1]
  ·rename_i e sz bs z hT0 hT
   have hTy:=hE.ty t'
   rw[hT]at hTy
   have hTy0:=hE.ty t
   rw[hT0]at hTy0
   split
   ·rename_i he
    have hTe:=hE.ty e
    rw[he]at hTe
    exact qJ6 hh ho hTy0.1 hTy.1 hTe.1 h1
   ·trivial
  ·rename_i e sz bs z v hT0 hT he0
   rw[he0]at h1
   have hTy:=hE.ty t'
   rw[hT]at hTy
   have hTy0:=hE.ty t
   rw[hT0]at hTy0
   split
   ·rename_i he
    have hTe:=hE.ty e
    rw[he]at hTe
    exact fun hm=>qHu hh hn hd ho hTy0.1 hTy.1 hTe.1 h1 hm
   ·trivial
  ·trivial
 |fieldAddr t x k=>
  simp only[step,ho]
  split
  ·rename_i fl fs sz z hT
   have hTy:=hE.ty t
   rw[hT]at hTy
   split
   ·rename_i ofs tt n hf hk
    rw[qK]at hk
    have hk:=qQ.1 hk
    split
    ·rename_i b p q1 he
     exact qBY hTy hh ho (hx x) hf hk (qQ.1 q1) (.inl ⟨b,p,he,rfl⟩)
    ·rename_i b q j p q1 he
     exact qBY hTy hh ho (hx x) hf hk (qQ.1 q1) (.inr (.inl ⟨b,q,j,p,he,rfl⟩))
    ·rename_i l q1 he
     split
     ·rename_i q2
      rw[qK]at q2
      exact qBY hTy hh ho (hx x) hf hk (qQ.1 q1) (.inr (.inr ⟨l,he,qQ.1 q2,by rw[qAr]⟩))
     ·trivial
    ·trivial
   ·trivial
  ·trivial
 |indexAddr t x y=>
  simp only[step,ho]
  split
  ·rename_i e sz b z hT
   have hTy:=hE.ty t
   rw[hT]at hTy
   split
   ·rename_i sz' n f k i he hi
    split
    ·rename_i q1
     have q1:=qC.1 q1
     subst q1
     rintro⟨g1,g2⟩
     exact qBu hTy hh ho (hx x) (hi▸hx y) (.inl ⟨n,f,he,g1,g2,rfl⟩)
    ·trivial
   ·rename_i b' n k i he hi
    split
    ·split
     ·rintro⟨g1,g2⟩
      exact qBu hTy hh ho (hx x) (hi▸hx y) (.inr (.inl ⟨b',n,he,g1,g2,rfl⟩))
     ·trivial
    ·split
     ·rintro⟨g1,g2⟩
      exact qBu hTy hh ho (hx x) (hi▸hx y) (.inr (.inl ⟨b',n,he,g1,g2,rfl⟩))
     ·trivial
    ·trivial
   ·rename_i b' sz' p n k i he hi
    split
    ·rename_i q1
     have q1:=qC.1 q1
     subst q1
     rintro⟨g1,g2⟩
     exact qBu hTy hh ho (hx x) (hi▸hx y) (.inr (.inr ⟨b',p,n,he,g1,g2,rfl⟩))
    ·trivial
   ·rename_i b' n k i he hi
    split
    ·split
     ·rintro⟨g1,g2⟩
      have hx1:=hx x
      rw[he]at hx1
      obtain⟨g,hg,hn,hv⟩:=qBK hx1
      exact qBu hTy hh ho (X:= .own b' n) (by rw[hv];exact .own b' n g hg hn) (hi▸hx y) (.inr (.inl ⟨b',n,rfl,g1,g2,rfl⟩))
     ·trivial
    ·split
     ·rintro⟨g1,g2⟩
      have hx1:=hx x
      rw[he]at hx1
      obtain⟨g,hg,hn,hv⟩:=qBK hx1
      exact qBu hTy hh ho (X:= .own b' n) (by rw[hv];exact .own b' n g hg hn) (hi▸hx y) (.inr (.inl ⟨b',n,rfl,g1,g2,rfl⟩))
     ·trivial
    ·trivial
   ·trivial
  ·split
   ·rename_i r b p k i hr he hi
    split
    ·rename_i q1
     have q1:=qC.1 q1
     rintro⟨g1,g2⟩
     obtain⟨e,hu,-,hin,-⟩:=hE.ar t r hr
     have h1:=hx x
     rw[he]at h1
     obtain⟨g,hg,hv⟩:=qA7 h1
     have ey:=qAB (hi▸hx y:Rep w M β cp (.i k i) (a.eval y))
     refine qF hh (v':= .pointer (some ⟨g,p+(i ()).toNat*1,none⟩)) ?_ (by rw[Nat.add_comm];exact .ept b 1 _ p g hg)
     simp[execOp,ho,Instr.indexAt,ey,asIntOf,run_underlying hu,hv,Instr.sureAddr,g1,g2,run_sizeOf hin,q1,addr_add]
    ·trivial
   ·trivial
  ·trivial
 |index t x y=>
  simp only[step,ho]
  have h1:=hx x
  have h2:=hx y
  split
  ·rename_i v k i hT he hi
   rw[he]at h1
   rw[hi]at h2
   have hTy:=hE.ty t
   rw[hT]at hTy
   rintro⟨g1,g2⟩
   refine qF hh (v':= .int .u8 (qBo (v ()) (i ()))) ?_ (.c (.i .u8 fun _=>qBo (v ()) (i ())))
   have g3:(i ()).toNat<(v ()).size:=by omega
   have g4:(v ())[(i ()).toNat]? =some ((v ())[(i ()).toNat]'g3):=getElem?_pos (v ()) (i ()).toNat g3
   have g5:((v ()).data.getD (i ()).toNat 0)=(v ())[(i ()).toNat]'g3:=by
    have:(i ()).toNat<(v ()).data.size:=g3
    rw[Array.getD_eq_getD_getElem?,Array.getElem?_eq_getElem this];rfl
   simp[execOp,ho,Instr.index,qAB h2,qBV h1,asIntOf,run_underlying hTy.1,g1,g4,qBo,g5]
  ·trivial
 |extract x k=>
  simp only[step,ho]
  split
  ·rename_i l he
   split
   ·rename_i q
    rw[qK]at q
    exact qHs hh ho (he▸hx x) (qQ.1 q)
   ·trivial
  ·trivial
 |slice t x lo hi mx=>
  simp only[step,ho]
  split
  ·exact qJ4 (hE.ty t) hh ho hx
  ·exact qIN (hE.ty t) hh ho hx
 |call c=>
  simp only[step,ho]
  split
  ·rename_i hc
   split
   ·rename_i t x hta ha
    split
    ·rename_i e sz b z hT
     split
     ·rename_i sz' n f he
      exact qCn hh ho hc ha (by rw[←Array.getElem?_toList,hta];rfl) (hE.ty t) (hx x) (.inl ⟨⟨_,_,_,_,hT⟩,.inl ⟨_,_,_,he,rfl⟩⟩)
     ·rename_i b n he
      exact qCn hh ho hc ha (by rw[←Array.getElem?_toList,hta];rfl) (hE.ty t) (hx x) (.inl ⟨⟨_,_,_,_,hT⟩,.inr (.inl ⟨_,_,he,rfl⟩)⟩)
     ·rename_i b sz' p n he
      exact qCn hh ho hc ha (by rw[←Array.getElem?_toList,hta];rfl) (hE.ty t) (hx x) (.inl ⟨⟨_,_,_,_,hT⟩,.inr (.inr (.inr (.inl ⟨_,_,_,_,he,rfl⟩)))⟩)
     ·rename_i b n he
      exact qCn hh ho hc ha (by rw[←Array.getElem?_toList,hta];rfl) (hE.ty t) (hx x) (.inl ⟨⟨_,_,_,_,hT⟩,.inr (.inr (.inr (.inr ⟨_,_,he,rfl⟩)))⟩)
     ·rename_i he
      exact qCn hh ho hc ha (by rw[←Array.getElem?_toList,hta];rfl) (hE.ty t) (hx x) (.inl ⟨⟨_,_,_,_,hT⟩,.inr (.inr (.inl ⟨he,rfl⟩))⟩)
     ·trivial
    ·rename_i hT
     split
     ·rename_i v he
      exact qCn hh ho hc ha (by rw[←Array.getElem?_toList,hta];rfl) (hE.ty t) (hx x) (.inr ⟨hT,_,he,rfl⟩)
     ·trivial
    ·trivial
   ·trivial
  ·rename_i f hc
   split
   ·rename_i g hg
    split
    ·rename_i q
     have q:=qC.1 q
     subst q
     split
     ·rename_i x y z ha;exact qJ7 (hE.su _ hg) hh ho hc ha (hx x) (hx y) (hx z)
     ·trivial
    ·trivial
   ·trivial
  ·rename_i hc
   split
   ·rename_i x y ha;exact qE6 (mx:=true) hh ho hc ha (hx x) (hx y)
   ·trivial
  ·rename_i hc
   split
   ·rename_i x y ha;exact qE6 (mx:=false) hh ho hc ha (hx x) (hx y)
   ·trivial
  ·trivial
 |_=>simp only[step,ho];trivial
end
end Go.Abs
