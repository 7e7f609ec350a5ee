/- Contracts, as they are used. -/
import Derived.Test.YtiaiifcgbjlfoaaGreatDoorAbsG3
import Derived.ProofKit
import Derived.Below
import Derived.Carry
import Derived.Lib.SmallJoins
import Derived.KernelRfl
import Derived.Lib.LaidTab
import Derived.Lib.ItoaNum
import Derived.Deep.Slices
import Derived.OpenShut
import Derived.ShutString
import Derived.ChangeOld
set_option linter.all false
namespace Go.Abs
open Go
variable [Kd]
theorem nc (n:Nat): @NatCast.natCast Int instNatCastInt n=(n:Int):=rfl
def below (n:Nat):List Nat→List Nat
 |[]=>[]
 |x::r=>match Nat.blt x n with
  |true=>x::below n r
  |false=>below n r
theorem memN_below {n b:Nat}(hb:b<n):∀{l:List Nat},memN b l=true→memN b (below n l)=true
 |[],h=>by simp[memN]at h
 |x::l,h=>by
  simp only[memN]at h
  simp only[below]
  split at h
  ·rename_i q
   have q:=beq_iff.1 q
   subst q
   rw[blt_iff.2 hb]
   simp[memN]
  ·rename_i q
   split
   ·simp only[memN];rw[q];exact memN_below hb h
   ·exact memN_below hb h
def outLe (n:Nat) (r0:AV) (H0:Hp) (kl0:List Nat):Kont:=fun r H kl=>Both (le (len H0) r r0) (Both (leH H H0) (subN (below n kl) kl0=true))
section
variable {P:Program}{f:FuncId}{A:List AV}{H:Hp}{K:Kont}
theorem FnOk.le {r0:AV}{H0:Hp}{kl0:List Nat}(h:FnOk P f A H (outLe (len H) r0 H0 kl0)) (hl:Nat.ble (len H) (len H0)=true) (hK:K r0 H0 kl0):FnOk P f A H K:=by
 intro w M β cp vs hh hA
 refine(h w M β cp vs hh hA).mono ?_
 rintro e w' ⟨v,r,H',kl,M',β',cp',rfl,ho,hh',hak,hrep⟩
 cases ho with
 |mk h1 h2=>
  cases h2 with
  |mk h2 h3=>
   have hl:=ble_iff.1 hl
   rw[len_eq,len_eq]at hl
   rw[len_eq]at h1
   refine⟨v,r0,H0,kl0,M',cut H0.length β',cp',rfl,hK,leH_sound hh' h2,⟨hak.keep,fun b hb h00=> ?_,hak.ext,fun g hg=> ?_⟩,le_sound _ _ _ _ hrep h1⟩
   ·have h6:b<H.length:=by
     rcases Nat.lt_or_ge b H.length with h6|h6
     ·exact h6
     ·exact absurd (hh.out b h6) h00
    have hb':memN b kl=false:=by
     cases hm:memN b kl with
     |false=>rfl
     |true=>rw[subN_mem h3 (memN_below (by rw[len_eq];exact h6) hm)]at hb;cases hb
    have h4:=hak.bk b hb' h00
    have h5:b<H0.length:=by omega
    exact⟨by simp[cut,h5,h4.1],h4.2⟩
   ·obtain⟨b,o,g0,hb1,hb2,hb3,hb5⟩:=hg
    unfold leH at h2
    have hb4:β' b=some g0:=by
     simp only[cut]at hb3
     split at hb3
     ·exact hb3
     ·cases hb3
    rcases leHs_get h2 b o hb1 with⟨x,hx,hxo⟩|⟨hlen,_⟩
    ·exact hak.own g ⟨b,x,g0,hx,leO_live hxo hb2,hb4,leO_foot x o (hh'.obj b x hx) hb4 hxo hb5⟩
    ·rw[hh'.out b hlen]at hb4;cases hb4
theorem FnOk.pre {A':List AV}(h:FnOk P f A' [] K) (hl:leL 0 A A'):FnOk P f A [] K:=by
 intro w M β cp vs hh hA
 have hβ:cut 0 β=β:=funext fun b=>by simp[cut,hh.out b (Nat.zero_le _)]
 have:=leL_sound 0 A A' _ hA hl
 rw[hβ]at this
 exact h w M β cp vs hh this
theorem FnOk.mono {K':Kont}(h:FnOk P f A H K) (hK:∀r H kl,K r H kl→K' r H kl):FnOk P f A H K':=by
 intro w M β cp vs hh hA
 refine(h w M β cp vs hh hA).mono ?_
 rintro e w' ⟨v,r,H',kl,M',β',cp',rfl,ho,rest⟩
 exact⟨v,r,H',kl,M',β',cp',rfl,hK _ _ _ ho,rest⟩
end
end Go.Abs
namespace Go.Abs
open Go Go.RowKit Go.WideShapes Go.ChangeShapes Go.ChangeAt
variable [Kd]
omit [Kd]in
theorem tab_keep {P:Program}{w w':World}{n:String}{k:IntKind}{zs:List Int}{g:Nat}(hg:P.globalNamed n=some g) (h:w'.heap[g]? =w.heap[g]?) (ht:Lib.TabIs P w n k zs):Lib.TabIs P w' n k zs:=by
 unfold Lib.TabIs World.var? at ht ⊢
 rw[hg]at ht ⊢
 simpa[h]using ht
theorem law_calls {P:Program}{f:FuncId}{A:List AV}{args:Array Value}{W:World}(h:FnOk P f A [] (outLe 0 (.bc true) [] [])) (hA:RepL W (fun _=>False) (fun _=>none) (fun _=>0) A args.toList) (hD:Dom W fun _=>False):
  Calls P f args W fun e W'=>e= .returned (.bool true)∧Below W.heap.size W W':=by
 refine(h W (fun _=>False) (fun _=>none) (fun _=>0) args ⟨fun _ _=>rfl,fun b o hb=>by simp at hb,fun b b' o o' g g' k hb=>by simp at hb,hD⟩ hA).mono ?_
 rintro e W' ⟨v,r,H',kl,M',β',cp',rfl,ho,hh,hak,hrep⟩
 cases ho with
 |mk h1 h2=>
  have:=le_sound _ _ _ _ hrep h1
  refine⟨by rw[rep_bc this],⟨hak.ext.os,hak.ext.tape,hak.ext.output,hak.ext.size,fun k hk=>hak.ext.block k hk ?_⟩⟩
  rintro⟨b,o,_,hb,_⟩
  simp at hb
theorem trodAll_below {H:Type}{enc:TypeId×Value→H}{P:Program}(hl:laidOutB P=true) {W W':World}(hb:Below W.heap.size W W'):
  ∀{ts:List TypeId}{vs:List Value}{ds:List (DataW H)}{ps:List MemPlace},(∀t∈ts,P.readableRec t=true∧t<P.types.size)→(∀x∈ps,x.block<W.heap.size)→
   DataW.TrodAll enc P W 0 (fun _=>true) true ts vs ds ps→DataW.TrodAll enc P W' 0 (fun b=>decide (b<W.heap.size)) true ts vs ds ps
 |[],[],[],_,_,_,h=>h
 |t::ts,v::vs,d::ds,ps,hr,hp,⟨p,q,h1,h2,e⟩=>by
  have hp':∀x,x∈p∨x∈q→x.block<W.heap.size:=fun x hx=>hp x (by rw[e];exact List.mem_append.2 hx)
  exact⟨p,q,Below.trod hl (hr t (by simp)).1 (hr t (by simp)).2 h1 hb fun x hx=>hp' x (.inl hx),trodAll_below hl hb (fun t ht=>hr t (by simp[ht])) (fun x hx=>hp' x (.inr hx)) h2,e⟩
theorem repL_nil {w:World}{M:Nat→Prop}{β:Nat→Option Nat}{cp:Nat→Nat}:RepL w M β cp [] []:=⟨rfl,fun j x hj=>by simp at hj⟩
theorem repL_cons {w:World}{M:Nat→Prop}{β:Nat→Option Nat}{cp:Nat→Nat}{x:AV}{l:List AV}{v:Value}{vs:List Value}(h:Rep w M β cp x v) (hl:RepL w M β cp l vs):RepL w M β cp (x::l) (v::vs):=
 ⟨by simp[hl.1],fun j y hj=>by
   cases j with
   |zero=>simp at hj;subst hj;simpa using h
   |succ j=>have:=hl.2 j y (by simpa using hj);simpa using this⟩
end Go.Abs
namespace Go.Abs
open Go Go.RowKit Go.WideShapes Go.ChangeShapes Go.ChangeAt Go.Deep Go.Joins
variable [Kd]
section
variable {H:Type}{enc:TypeId×Value→H}{P:Program}{w:World}
end
end Go.Abs
namespace Go.Abs
open Go
def lst {α:Type}(n:Nat) (f:Nat→α):List α:=(List.range n).map f
theorem lst_len {α:Type}(n:Nat) (f:Nat→α):(lst n f).length=n:=by simp[lst]
theorem lst_get {α:Type}{n:Nat}{f:Nat→α}{d:α}{i:Nat}(h:i<n):(lst n f).getD i d=f i:=by simp[lst,h]
theorem lst_getD {α:Type}(l:List α) (d:α):lst l.length (fun i=>l.getD i d)=l:=by
 apply List.ext_getElem (by simp[lst])
 intro i h1 h2
 simp[lst,h2]
theorem lst_congr {α:Type}{n:Nat}{f g:Nat→α}(h:∀i,i<n→f i=g i):lst n f=lst n g:=by
 unfold lst
 exact List.map_congr_left fun i hi=>h i (by simpa using hi)
theorem lst_eq {α:Type}{n:Nat}{f:Nat→α}{l:List α}{d:α}(hn:n=l.length) (h:∀i,i<n→f i=l.getD i d):lst n f=l:=by
 subst hn
 exact(lst_congr h).trans (lst_getD l d)
theorem gd_snoc {α:Type}(l:List α) (x d:α) (i:Nat) (h:i<l.length+1):(l++[x]).getD i d=bif decide (i<l.length)then l.getD i d else x:=by
 by_cases h1:i<l.length
 ·simp[h1,List.getElem?_append_left]
 ·have:i=l.length:=by omega
  subst this;simp
theorem lst_snoc {α:Type}(l:List α) (x d:α) (n:Nat) (h:n=l.length+1):lst n (fun i=>bif decide (i<l.length)then l.getD i d else x)=l++[x]:=
 lst_eq (d:=d) (by simp[h]) fun i hi=>(gd_snoc l x d i (by omega)).symm
theorem gd_set {α:Type}(l:List α) (x d:α) (i k:Nat) (h:i<l.length):(l.set k x).getD i d=bif decide (i=k)then x else l.getD i d:=by
 by_cases h1:i=k
 ·subst h1;simp[h]
 ·have:k≠i:=fun h=>h1 h.symm
  simp[h1,List.getElem?_set_ne this]
theorem gd_drop {α:Type}(l:List α) (d:α) (i k:Nat):(l.drop k).getD i d=l.getD (k+i) d:=by simp
theorem drop_cons {α:Type}{l:List α}{k:Nat}(d:α) (h:k<l.length):l.drop k=l.getD k d::l.drop (k+1):=by
 rw[List.drop_eq_getElem_cons h];simp[h]
theorem drop_nil {α:Type}{l:List α}{k:Nat}(h:¬k<l.length):l.drop k=[]:=List.drop_eq_nil_of_le (by omega)
theorem ba_loop (b:ByteArray):∀(n i:Nat) (r:List UInt8),b.size-i=n→ByteArray.toList.loop b i r=r.reverse++b.data.toList.drop i
 |0,i,r,h=>by
  rw[ByteArray.toList.loop,if_neg (by omega),List.drop_eq_nil_of_le (by show b.data.size≤i;have:b.size=b.data.size:=rfl;omega)]
  simp
 |n+1,i,r,h=>by
  have hi:i<b.size:=by omega
  have hi2:i<b.data.toList.length:=hi
  rw[ByteArray.toList.loop,if_pos hi,ba_loop b n (i+1) _ (by omega),List.drop_eq_getElem_cons hi2]
  have:b.get! i=b.data.toList[i]:=by
   show b.data[i]! =_
   rw[getElem!_pos b.data i hi];rfl
  rw[this];simp
theorem ba_toList (b:ByteArray):b.toList=b.data.toList:=by
 have:=ba_loop b (b.size-0) 0 [] rfl
 simpa[ByteArray.toList]using this
theorem ba_inj {a b:ByteArray}:a.toList=b.toList↔a=b:=by
 rw[ba_toList,ba_toList]
 constructor
 ·intro h;cases a;cases b;simp at h;subst h;rfl
 ·rintro rfl;rfl
theorem zz:(∀b:Bool,((!b)=true)=(b=false))∧(∀b:Bool,((!b)=false)=(b=true))∧
  (∀(p:Prop) [Decidable p],(decide p=true)=p)∧(∀(p:Prop) [Decidable p],(decide p=false)↔¬p)∧
  (∀{α:Type} [BEq α] [LawfulBEq α] (a b:α),(a==b)=true↔a=b)∧(∀{α:Type} [BEq α] [LawfulBEq α] (a b:α),(a==b)=false↔a≠b)∧
  (∀a b:ByteArray,a.toList=b.toList↔a=b)∧(∀{α:Type} [BEq α] [LawfulBEq α] (a b:α),(a !=b)=true↔a≠b)∧
  (∀a b:Bool,((a&&b)=true)=(a=true∧b=true))∧(∀a b:Bool,((a||b)=true)=(a=true∨b=true))∧(∀a b:Bool,(a&&b)=false↔a=false∨b=false)∧(∀a b:Bool,((a||b)=false)↔(a=false∧b=false))∧
  (∀a b:Int,¬a≤b↔b<a)∧(∀a b:Int,¬a<b↔b≤a)∧(∀a b:Nat,¬a≤b↔b<a)∧(∀a b:Nat,¬a<b↔b≤a):=
 ⟨fun b=>by cases b<;>simp,fun b=>by cases b<;>simp,fun _ _=>decide_eq_true_eq,fun _ _=>decide_eq_false_iff_not,fun _ _=>beq_iff_eq,fun _ _=>beq_eq_false_iff_ne,fun _ _=>ba_inj,fun _ _=>bne_iff_ne,
   fun a b=>by cases a<;>cases b<;>simp,fun a b=>by cases a<;>cases b<;>simp,fun a b=>by cases a<;>cases b<;>simp,fun a b=>by cases a<;>cases b<;>simp,fun _ _=>Int.not_le,fun _ _=>Int.not_lt,fun _ _=>Nat.not_le,fun _ _=>Nat.not_lt⟩
class Leaf (α:Type) where
 av:Th α→AV
 val:AV→α
 ok:AV→Prop
 hclosed:∀x,closed (av x)=true
 hval:∀x,val (av x)=x ()
 hok:∀x,ok (av x)
 hle:∀a,ok a→le 0 a (av fun _=>val a)
 hpick:∀c a b,ok a→ok b→ok (AV.pick c a b)∧val (AV.pick c a b)=bif c ()then val a else val b
instance leafI:Leaf Int where
 av x:= .i .i64 x
 val a:=match a with| .i _ n=>n ()|_=>0
 ok a:=match a with| .i .i64 _=>True|_=>False
 hclosed _:=rfl
 hval _:=rfl
 hok _:=trivial
 hle a h:=by
  split at h
  ·exact .mk (.mk rfl) (.mk rfl)
  ·cases h
 hpick c a b h1 h2:=by
  split at h1
  ·split at h2
   ·exact⟨trivial,rfl⟩
   ·cases h2
  ·cases h1
instance leafB:Leaf Bool where
 av x:= .b x
 val a:=match a with| .b n=>n ()| .bc b=>b|_=>false
 ok a:=match a with| .b _=>True| .bc _=>True|_=>False
 hclosed _:=rfl
 hval _:=rfl
 hok _:=trivial
 hle a h:=by
  split at h
  ·exact .mk rfl
  ·exact .mk rfl
  ·cases h
 hpick c a b h1 h2:=by
  split at h1
  ·split at h2
   ·exact⟨trivial,rfl⟩
   ·exact⟨trivial,rfl⟩
   ·cases h2
  ·split at h2
   ·exact⟨trivial,rfl⟩
   ·exact⟨trivial,rfl⟩
   ·cases h2
  ·cases h1
instance leafS:Leaf ByteArray where
 av x:= .s x
 val a:=match a with| .s n=>n ()|_=> .empty
 ok a:=match a with| .s _=>True|_=>False
 hclosed _:=rfl
 hval _:=rfl
 hok _:=trivial
 hle a h:=by
  split at h
  ·exact .mk rfl
  ·cases h
 hpick c a b h1 h2:=by
  split at h1
  ·split at h2
   ·exact⟨trivial,rfl⟩
   ·cases h2
  ·cases h1
class Dat (α:Type) where
 d0:α
 sz:Nat
 enc:Th α→List AV
 dec:List AV→α
 ok:List AV→Prop
 hlen:∀x,(enc x).length=sz
 hclosed:∀x,closedL (enc x)=true
 hdec:∀x,dec (enc x)=x ()
 hok:∀x,ok (enc x)
 hle:∀l,ok l→leL 0 l (enc fun _=>dec l)
 hpick:∀c l m,ok l→ok m→ok (rowL sz c l m)∧dec (rowL sz c l m)=bif c ()then dec l else dec m
@[reducible] def Dat.ofLeaf (α:Type) [Leaf α] (d:α):Dat α where
  d0:=d
  sz:=1
  enc x:=[Leaf.av x]
  dec l:=match l with|[a]=>Leaf.val a|_=>d
  ok l:=match l with|[a]=>Leaf.ok α a|_=>False
  hlen _:=rfl
  hclosed x:=by simp[closedL,Leaf.hclosed]
  hdec x:=Leaf.hval x
  hok x:=Leaf.hok x
  hle l h:=by
   split at h
   ·exact .mk (Leaf.hle _ h) trivial
   ·cases h
  hpick c l m h1 h2:=by
   split at h1
   ·split at h2
    ·exact Leaf.hpick c _ _ h1 h2
    ·cases h2
   ·cases h1
instance datI:Dat Int:=Dat.ofLeaf Int 0
instance datB:Dat Bool:=Dat.ofLeaf Bool false
instance datS:Dat ByteArray:=Dat.ofLeaf ByteArray .empty
def slV {α:Type} [Dat α]:AV→List α
 | .sl _ n f=>lst (n ()) fun i=>Dat.dec (f fun _=>i)
 | .ite c x y=>bif c ()then slV x else slV y
 |_=>[]
def slOk {α:Type} [Dat α]:AV→Prop
 | .sl sz n f=>sz=Dat.sz α∧∀i,i<n ()→Dat.ok α (f fun _=>i)
 | .nil=>True
 | .ite c x y=>(c ()=true→slOk (α:=α) x)∧(c ()=false→slOk (α:=α) y)
 |_=>False
theorem sl_le {α:Type} [Dat α]:∀(a:AV),slOk (α:=α) a→le 0 a (.sl (Dat.sz α) (fun _=>(slV (α:=α) a).length) fun i=>Dat.enc fun _=>(slV (α:=α) a).getD (i ()) Dat.d0)
 | .sl sz n f,h=>by
   obtain⟨rfl,h⟩:=h
   simp only[le]
   have e:Nat.beq (Dat.sz α) (Dat.sz α)=true:=beq_iff.2 rfl
   rw[e]
   refine .mk (.mk (by simp[slV,lst_len])) (.mk fun i hi=> .mk ?_ (Dat.hclosed _))
   have:=Dat.hle _ (h i hi)
   rw[slV]
   have e2:(fun _:Unit=>(lst (n ()) fun i=>(Dat.dec (f fun _=>i):α)).getD i Dat.d0)=fun _=>Dat.dec (f fun _=>i):=funext fun _=>lst_get hi
   show leL 0 _ (Dat.enc fun _=>(lst (n ()) fun i=>(Dat.dec (f fun _=>i):α)).getD i Dat.d0)
   rw[e2]
   exact this
 | .nil,_=> .mk rfl
 | .ite c x y,h=>by
   simp only[le]
   refine .mk (.mk fun hc=> ?_) (.mk fun hc=> ?_)
   ·have:=sl_le x (h.1 hc)
    rw[slV]
    have e:(bif c ()then slV (α:=α) x else slV y)=slV x:=by rw[hc];rfl
    simp only[e]
    exact this
   ·have:=sl_le y (h.2 hc)
    rw[slV]
    have e:(bif c ()then slV (α:=α) x else slV y)=slV y:=by rw[hc];rfl
    simp only[e]
    exact this
 | .any,h=>h.elim
 | .bc _,h=>h.elim
 | .b _,h=>h.elim
 | .i _ _,h=>h.elim
 | .s _,h=>h.elim
 | .con _,h=>h.elim
 | .agg _,h=>h.elim
 | .tup _,h=>h.elim
 | .ptr _ _,h=>h.elim
 | .mr _,h=>h.elim
 | .fm _ _,h=>h.elim
 | .ept _ _ _ _,h=>h.elim
 | .own _ _,h=>h.elim
 | .vw _ _ _ _,h=>h.elim
 | .nn _ _,h=>h.elim
 | .rp _,h=>h.elim
 | .fn _ _,h=>h.elim
 | .ifc _ _,h=>h.elim
theorem pick_ite {c:Th Bool}{a b:AV}{α:Type} [Dat α] (h1:slOk (α:=α) a) (h2:slOk (α:=α) b):AV.pick c a b= .ite c a b:=by
 cases a<;>first|exact h1.elim|(cases b<;>first|exact h2.elim|rfl)
instance leafL {α:Type} [Dat α]:Leaf (List α) where
 av l:= .sl (Dat.sz α) (fun _=>(l ()).length) fun i=>Dat.enc fun _=>(l ()).getD (i ()) Dat.d0
 val a:=slV a
 ok a:=slOk (α:=α) a
 hclosed _:=rfl
 hval l:=by
  simp only[slV]
  have:(fun i=>(Dat.dec (Dat.enc fun _=>(l ()).getD i Dat.d0):α))=fun i=>(l ()).getD i Dat.d0:=funext fun i=>Dat.hdec _
  rw[this]
  exact lst_getD _ _
 hok l:=⟨rfl,fun i _=>Dat.hok _⟩
 hle a h:=sl_le a h
 hpick c a b h1 h2:=by
  rw[pick_ite (α:=α) h1 h2]
  exact⟨⟨fun _=>h1,fun _=>h2⟩,by rw[slV]⟩
instance datL {α:Type} [Dat α]:Dat (List α):=Dat.ofLeaf (List α) []
abbrev vecO {α:Type} [Dat α] (e:TypeId) (l:Th (List α)):AObj:= .vec e (Dat.sz α) (fun _=>(l ()).length) fun i=>Dat.enc fun _=>(l ()).getD (i ()) Dat.d0
def unmod (ms:List Nat):Tm→Tm
 |[]=>[]
 |(i,v)::r=>match memN i ms with
  |true=>unmod ms r
  |false=>(i,v)::unmod ms r
def setHs:List (Nat×AObj)→Hp→Hp
 |[],h=>h
 |(b,o)::r,h=>setHs r (hput h b o)
theorem LoopVC.frame {cl:Hp→(Hp→Prop)→Prop}{nh:Nat}{body:Tm→Hp→List Nat→KEx→Prop}{s:Tm}{h:Hp}{kl:List Nat}{K:KEx}(ms:List Nat) (X:Type) (ov:X→Tm) (oh:X→List (Nat×AObj)) (kL:List Nat) (μ:X→Nat) (x0:X)
  (hk:subN kl kL=true) (h0:∀x,Nat.ble nh (len (setHs (oh x) h))=true) (h1:leT s (ov x0++unmod ms s) (setHs (oh x0) h)) (h2:leH h (setHs (oh x0) h))
  (h3:∀x,body (ov x++unmod ms s) (setHs (oh x) h) kL fun e s' h' kl'=>match e with
    | .nrm=>∃y,leT s' (ov y++unmod ms s) (setHs (oh y) h)∧leH h' (setHs (oh y) h)∧subN kl' kL=true∧μ y<μ x
    |e=>K e s' h' kl'):LoopVC cl nh body s h kl K:=
 .now<| .mk X (fun x=>ov x++unmod ms s) (fun x=>setHs (oh x) h) kL μ x0 hk h0 h1 h2 h3
theorem LoopVC.frameR {cl:Hp→(Hp→Prop)→Prop}{body:Tm→Hp→List Nat→KEx→Prop}{s:Tm}{h:Hp}{kl:List Nat}{K:KEx}(ms:List Nat) (X:Type) (ov:X→Tm) (oh:X→List (Nat×AObj)) (μ:X→Nat) (x0:X)
  (h1:leT s (ov x0++unmod ms s) (setHs (oh x0) h)) (h2:leH h (setHs (oh x0) h))
  (h3:∀x,body (ov x++unmod ms s) (setHs (oh x) h) [] fun e s' h' kl'=>match e with
    | .nrm=>∃y as,okAs as=true∧below' (len (setHs (oh y) h)) as=true∧leT (renT as s') (ov y++unmod ms s) (setHs (oh y) h)∧leH (selH as h' 0 (setHs (oh y) h)) (setHs (oh y) h)∧μ y<μ x
    |e=>K e s' h' kl'):LoopVC cl 0 body s h kl K:=
 .now<| .mkR rfl X (fun x=>ov x++unmod ms s) (fun x=>setHs (oh x) h) μ x0 h1 h2 h3
theorem LoopI.frameC {cl:Hp→(Hp→Prop)→Prop}{nh:Nat}{body:Tm→Hp→List Nat→KEx→Prop}{s:Tm}{h:Hp}{kl:List Nat}{K:KEx}(ms:List Nat) (X:Type) (ov:X→Tm) (oh:X→List (Nat×AObj)) (kL:List Nat) (μ:X→Nat) (x0:X)
  (hk:subN kl kL=true) (h0:∀x,Nat.ble nh (len (setHs (oh x) h))=true) (h1:leT s (ov x0++unmod ms s) (setHs (oh x0) h)) (h2:leH h (setHs (oh x0) h))
  (h3:∀x,body (ov x++unmod ms s) (setHs (oh x) h) kL fun e s' h' kl'=>match e with
    | .nrm=>cl h' fun h'=>∃y,leT s' (ov y++unmod ms s) (setHs (oh y) h)∧leH h' (setHs (oh y) h)∧subN kl' kL=true∧μ y<μ x
    |e=>K e s' h' kl'):LoopI cl nh body s h kl K:=
 .mkC X (fun x=>ov x++unmod ms s) (fun x=>setHs (oh x) h) kL μ x0 hk h0 h1 h2 h3
def inlCon (E:Env) (con:FuncId→Con) (drw:Drw) (keep:List Nat) (f:Func):Con:=fun A H K=>match f.body with
 |some c=>fnVCb false E con drw f.ntmps keep f.results.toList c A H K
 |none=>Bad 400
variable [Kd]
theorem inl_ok {P:Program}{E:Env}{con:FuncId→Con}{drw:Drw}{keep:List Nat}{f:FuncId}{fn:Func}{A:List AV}{H:Hp}{K:Kont}(hE:EnvOk P E) (hZ:Zl E) (hC:ConOk P con) (hD:DrwOk P drw) (hf:P.funcs[f]? =some fn)
  (hv:inlCon E con drw keep fn A H K):FnOk P f A H K:=by
 unfold inlCon at hv
 split at hv
 ·rename_i c hc
  exact fn_okb hE hZ hC hD hf hc hv
 ·cases hv
end Go.Abs
namespace Go.Abs
open Go Go.RowKit Go.WideShapes Go.ChangeShapes Go.ChangeAt Go.Deep Go.Joins
mutual
def bulkD {H:Type}:DataW H→Nat
 | .lit (.string bytes)=>bytes.length+1
 | .lit _=>1
 | .nil=>1
 | .ptr d=>bulkD d+1
 | .slice elems spare=>bulkL elems+bulkL spare+1
 | .agg parts=>bulkL parts+1
 | .iface _ d=>bulkD d+1
 | .map entries=>bulkE entries+1
 | .held _=>1
def bulkL {H:Type}:List (DataW H)→Nat
 |[]=>0
 |d::r=>bulkD d+bulkL r
def bulkE {H:Type}:List (Lit×DataW H)→Nat
 |[]=>0
 |x::r=>bulkX x+bulkE r
def bulkX {H:Type}:Lit×DataW H→Nat
 |(.string bytes,d)=>bytes.length+bulkD d+1
 |(_,d)=>bulkD d+1
end
class Siz (α:Type) where
 fit:α→Prop
 bulk:α→Nat
instance sizI:Siz Int:=⟨InR,fun _=>1⟩
instance sizB:Siz Bool:=⟨fun _=>True,fun _=>1⟩
instance sizS:Siz ByteArray:=⟨fun s=>s.size≤maxLen,fun s=>s.size+1⟩
instance sizL {α:Type} [Siz α]:Siz (List α):=⟨fun l=>l.length≤maxLen∧∀x∈l,Siz.fit x,fun l=>(l.map Siz.bulk).sum+1⟩
variable [Kd]
section
variable {P:Program}{w:World}
def OpenCs (w:World) (cs:List Value) (L:List AV):Prop:=
 cs.length=L.length∧(∀v∈cs,v.oneCell'=true)∧∀(j:Nat) (z:AV),L[j]? =some z→RepC w (fun _=>False) z (cs.getD j undef)
theorem openCs_nil:OpenCs w [] []:=⟨rfl,by simp,by simp⟩
theorem openCs_app {c1 c2:List Value}{l1 l2:List AV}(h1:OpenCs w c1 l1) (h2:OpenCs w c2 l2):OpenCs w (c1++c2) (l1++l2):=by
 obtain⟨a1,a2,a3⟩:=h1
 obtain⟨b1,b2,b3⟩:=h2
 refine⟨by simp[a1,b1],fun v hv=> ?_,fun j z hj=> ?_⟩
 ·rcases List.mem_append.1 hv with h|h
  ·exact a2 v h
  ·exact b2 v h
 ·rw[List.getElem?_append]at hj
  rw[List.getD_eq_getElem?_getD,List.getElem?_append]
  by_cases hlt:j<l1.length
  ·rw[if_pos hlt]at hj
   rw[if_pos (by omega),←List.getD_eq_getElem?_getD]
   exact a3 j z hj
  ·rw[if_neg hlt]at hj
   rw[if_neg (by omega),←List.getD_eq_getElem?_getD,a1]
   exact b3 _ z hj
def Opn (P:Program) (t:TypeId) (α:Type) [Dat α] [Siz α]:Prop:=
 ∀{H:Type}{enc:TypeId×Value→H}{w:World}{fuel:Nat}{cs:List Value}{x:DataW H×List MemPlace},DataW.trod enc P w 0 (fun _=>true) true fuel t cs=some x→
  ∃y:α,Siz.fit y∧Siz.bulk y≤bulkD x.1∧OpenCs w cs (Dat.enc fun _=>y)
theorem inR_of {n:Int}(h:(Lit.int .i64 n).wf=true):InR n:=by
 have h1:IntKind.i64.max=9223372036854775807:=rfl
 have h2:IntKind.i64.min= -9223372036854775808:=rfl
 simp only[Lit.wf,Bool.and_eq_true,decide_eq_true_eq,h1,h2]at h
 exact h
theorem opn_int {t:TypeId}(ht:P.underlying t=some (.int .i64)):Opn P t Int:=by
 intro H enc w fuel cs x h
 obtain⟨n,rfl,rfl,hw⟩:=DataW.trod_int ht h
 exact⟨n,inR_of hw,Nat.le_refl _,rfl,by simp[Value.oneCell'],fun j z hj=>by
  match j,hj with
  |0,hj=>simp[Dat.enc,Leaf.av]at hj;subst hj;exact .i .i64 fun _=>n
  |j+1,hj=>simp[Dat.enc]at hj⟩
theorem opn_str {t:TypeId}(ht:P.underlying t=some .string):Opn P t ByteArray:=by
 intro H enc w fuel cs x h
 obtain⟨s,rfl,rfl,hw⟩:=DataW.trod_string ht h
 exact⟨s,hw,by simp[Siz.bulk,bulkD],rfl,by simp[Value.oneCell'],fun j z hj=>by
  match j,hj with
  |0,hj=>simp[Dat.enc,Leaf.av]at hj;subst hj;exact .s fun _=>s
  |j+1,hj=>simp[Dat.enc]at hj⟩
theorem bulkL_app {H:Type}(l r:List (DataW H)):bulkL (l++r)=bulkL l+bulkL r:=by
 induction l with
 |nil=>simp[bulkL]
 |cons x l ih=>simp only[List.cons_append,bulkL,ih];omega
theorem bulkL_map {H α:Type} [Siz α] (D:Nat→DataW H) (g:Nat→α) (n:Nat) (h:∀i,i<n→Siz.bulk (g i)≤bulkD (D i)):((lst n g).map Siz.bulk).sum≤bulkL ((List.range n).map D):=by
 induction n with
 |zero=>simp[lst]
 |succ n ih=>
  have:=ih fun i hi=>h i (by omega)
  have h2:=h n (by omega)
  simp only[lst]at this
  simp only[lst,List.range_succ,List.map_append,List.sum_append,bulkL_app]
  simp[bulkL]
  simp at this
  omega
theorem opn_slice {t e:TypeId}{α:Type} [Dat α] [Siz α] (ht:P.underlying t=some (.slice e)) (hc:P.cellsOf e=Dat.sz α) (hpos:0<Dat.sz α) (he:Opn P e α):Opn P t (List α):=by
 intro H enc w fuel cs x h
 rcases open_slice ht h with⟨rfl,rfl⟩|⟨a,len,cap,m,n,D,Pl,rfl,_,hl,hm,hmm,rfl,hi⟩
 ·exact⟨[],⟨Nat.zero_le _,by simp⟩,by simp[Siz.bulk,bulkD],rfl,by simp[Value.oneCell'],fun j z hj=>by
   match j,hj with
   |0,hj=>simp[Dat.enc,Leaf.av]at hj;subst hj;exact .sl0 _ _ _ _ _ rfl (Nat.zero_le _)
   |j+1,hj=>simp[Dat.enc]at hj⟩
 ·have hx:∀i,∃y:α,i<len→Siz.fit y∧Siz.bulk y≤bulkD (D i)∧∃cs',w.cells? 0 (a.add (i*P.cellsOf e)) (P.cellsOf e)=some cs'∧OpenCs w cs' (Dat.enc fun _=>y):=by
   intro i
   by_cases hil:i<len
   ·obtain⟨cs',h1,h2⟩:=hi i (by rw[hmm];simp;omega)
    obtain⟨y,y1,y2,y3⟩:=he h2
    exact⟨y,fun _=>⟨y1,y2,cs',h1,y3⟩⟩
   ·exact⟨Dat.d0,fun h=>absurd h hil⟩
  have hg:=fun i=>(hx i).choose_spec
  generalize hG:(fun i=>(hx i).choose)=g
  have hg:∀i,i<len→Siz.fit (g i)∧Siz.bulk (g i)≤bulkD (D i)∧∃cs',w.cells? 0 (a.add (i*P.cellsOf e)) (P.cellsOf e)=some cs'∧OpenCs w cs' (Dat.enc fun _=>g i):=fun i=>by
   subst hG;exact hg i
  refine⟨lst len g,⟨by rw[lst_len];omega,fun y hy=> ?_⟩, ?_,rfl,by simp[Value.oneCell'],fun j z hj=> ?_⟩
  ·obtain⟨i,hi,rfl⟩:=List.mem_map.1 hy
   exact(hg i (by simpa using hi)).1
  ·have:=bulkL_map D g len fun i hi=>(hg i hi).2.1
   show _+1≤bulkL _+bulkL _+1
   omega
  ·match j,hj with
   |0,hj=>
    simp[Dat.enc,Leaf.av]at hj
    subst hj
    have key:∀i,i<len→(fun _:Unit=>(lst len g).getD i Dat.d0)=fun _=>g i:=fun i hi=>funext fun _=>lst_get hi
    have hcell:∀i j,i<len→j<Dat.sz α→∃v,w.cell? (a.add (i*Dat.sz α+j))=some v∧v.oneCell'=true∧∀z,(Dat.enc fun _:Unit=>g i)[j]? =some z→RepC w (fun _=>False) z v:=by
     intro i j hi hj
     obtain⟨_,_,cs',h1,h2,h3,h4⟩:=hg i hi
     obtain⟨_,hcl,hat⟩:=World.cells?_some h1
     have hj':j<cs'.length:=by rw[h2,Dat.hlen];exact hj
     have:=hat j (by rw[hc];exact hj)
     rw[List.getElem?_eq_getElem hj',Go.Deep.add_add,hc]at this
     exact⟨cs'[j],this,h3 _ (List.getElem_mem hj'),fun z hz=>by have:=h4 j z hz;simpa[hj']using this⟩
    simp only[List.getD_cons_zero]
    have:=lst_len len g
    rw[show Value.slice (some a) len cap=Value.slice (some a) (lst len g).length cap by rw[this]]
    refine .sl (Dat.sz α) (fun _=>(lst len g).length) _ a cap (fun i j=>(w.cell? (a.add (i*Dat.sz α+j))).getD undef) id hpos (by rw[this];exact hl) hm (fun i _=>Dat.hlen (fun _:Unit=>(lst len g).getD i Dat.d0)) (fun i j hi hj=> ?_) (fun i j hi hj=> ?_) fun i j z hi hj=> ?_
    ·rw[this]at hi
     obtain⟨v,h1,_⟩:=hcell i j hi hj
     rw[h1];rfl
    ·rw[this]at hi
     obtain⟨v,h1,h2,_⟩:=hcell i j hi hj
     rw[h1];exact h2
    ·rw[this]at hi
     have hj:(Dat.enc fun _:Unit=>(lst len g).getD i Dat.d0)[j]? =some z:=hj
     rw[key i hi]at hj
     have hjs:j<Dat.sz α:=by rw[←Dat.hlen (fun _:Unit=>g i)];exact(List.getElem?_eq_some_iff.1 hj).1
     obtain⟨v,h1,_,h3⟩:=hcell i j hi hjs
     rw[h1];exact h3 z hj
   |j+1,hj=>simp[Dat.enc]at hj
theorem arg_leaf {t:TypeId}{α:Type} [Leaf α] {D:α} [Siz α] {H:Type}{enc:TypeId×Value→H}{v:Value}{d:DataW H}{ps:List MemPlace}(ho: @Opn _ P t α (Dat.ofLeaf α D) _) (hv:v.cells.toList=[v])
  (h:DataW.Trod enc P w 0 (fun _=>true) true t v d ps):∃y:α,Siz.fit y∧Siz.bulk y≤bulkD d∧RepC w (fun _=>False) (Leaf.av fun _=>y) v:=by
 obtain⟨fuel,hf⟩:=h
 obtain⟨y,h1,h2,h3,h4,h5⟩:=ho hf
 exact⟨y,h1,h2,by have:=h5 0 _ rfl;rw[hv]at this;exact this⟩
end
end Go.Abs
namespace Go.Abs
open Go
def addAs (p:Nat×Nat) (as:As):As:=match fwd p.1 as with
 |some c=>match Nat.beq c p.2 with
  |true=>as
  |false=>p::as
 |none=>p::as
mutual
def al:AV→AV→As→As
 | .own j _,.own b _,as=>addAs (j,b) as
 | .ptr j _,.ptr b _,as=>addAs (j,b) as
 | .mr j,.mr b,as=>addAs (j,b) as
 | .agg l,.agg m,as=>alL l m as
 | .tup l,.tup m,as=>alL l m as
 | .ifc _ x,.ifc _ y,as=>al x y as
 |_,_,as=>as
def alL:List AV→List AV→As→As
 |x::l,y::m,as=>alL l m (al x y as)
 |_,_,as=>as
end
def outA (r0:AV) (H0:Hp):Kont:=fun r H _=>
 let as:=al r0 r []
 match okAs as with
 |true=>Both (le (len H0) (ren as r) r0) (leH (selH as H 0 H0) H0)
 |false=>Bad 410
variable [Kd]
section
variable {P:Program}{w:World}{M:Nat→Prop}{β:Nat→Option Nat}{cp:Nat→Nat}{h:Hp}
variable {f:FuncId}{A:List AV}{K:Kont}
variable {N:Nat}
mutual
theorem al_below:∀(x y:AV) (as:As),(∀b∈ids x,b<N)→below' N as=true→below' N (al x y as)=true:=by
 intro x y as hx ha
 have add:∀p:Nat×Nat,p.1<N→below' N (addAs p as)=true:=by
  intro p hp
  unfold addAs
  split
  ·split
   ·exact ha
   ·simp only[below'];rw[blt_iff.2 hp];exact ha
  ·simp only[below'];rw[blt_iff.2 hp];exact ha
 match x,y with
 | .own j _,y=>cases y<;>first|exact ha|exact add _ (hx j (by simp[ids]))
 | .ptr j _,y=>cases y<;>first|exact ha|exact add _ (hx j (by simp[ids]))
 | .mr j,y=>cases y<;>first|exact ha|exact add _ (hx j (by simp[ids]))
 | .agg l,y=>cases y<;>first|exact ha|exact alL_below l _ as (fun b hb=>hx b (by simpa[ids]using hb)) ha
 | .tup l,y=>cases y<;>first|exact ha|exact alL_below l _ as (fun b hb=>hx b (by simpa[ids]using hb)) ha
 | .ifc _ x,y=>cases y<;>first|exact ha|exact al_below x _ as (fun b hb=>hx b (by simpa[ids]using hb)) ha
 | .fm _ _,_=>exact ha
 | .any,_=>exact ha
 | .bc _,_=>exact ha
 | .b _,_=>exact ha
 | .i _ _,_=>exact ha
 | .s _,_=>exact ha
 | .nil,_=>exact ha
 | .con _,_=>exact ha
 | .sl _ _ _,_=>exact ha
 | .rp _,_=>exact ha
 | .fn _ _,_=>exact ha
 | .ept _ _ _ _,_=>exact ha
 | .vw _ _ _ _,_=>exact ha
 | .nn _ _,_=>exact ha
 | .ite _ _ _,_=>exact ha
theorem alL_below:∀(l m:List AV) (as:As),(∀b∈idsL l,b<N)→below' N as=true→below' N (alL l m as)=true
 |[],_,as,_,ha=>by simp[alL,ha]
 |x::l,[],as,_,ha=>by simp[alL,ha]
 |x::l,y::m,as,hx,ha=>alL_below l m _ (fun b hb=>hx b (by simp[idsL,hb])) (al_below x y as (fun b hb=>hx b (by simp[idsL,hb])) ha)
end
def allBelow (N:Nat):List Nat→Bool
 |[]=>true
 |x::r=>match Nat.blt x N with|true=>allBelow N r|false=>false
theorem allBelow_iff:∀{l:List Nat},allBelow N l=true→∀b∈l,b<N
 |[],_,b,hb=>by simp at hb
 |x::r,h,b,hb=>by
  simp only[allBelow]at h
  split at h
  ·rename_i q
   rcases List.mem_cons.1 hb with rfl|hb
   ·exact blt_iff.1 q
   ·exact allBelow_iff h b hb
  ·cases h
theorem FnOk.out {r0:AV}{H0:Hp}(h:FnOk P f A [] (outA r0 H0)) (hi:allBelow (len H0) (ids r0)=true) (hK:K r0 H0 []):FnOk P f A [] K:=by
 intro w M β cp vs hh hA
 refine(h w M β cp vs hh hA).mono ?_
 rintro e w' ⟨v,r,H',kl,M',β',cp',rfl,ho,hh',hak,hrep⟩
 unfold outA at ho
 dsimp only at ho
 split at ho
 ·rename_i hok
  cases ho with
  |mk h1 h2=>
   rw[len_eq]at h1 hi
   have hN:=below'_fwd (al_below (N:=H0.length) r0 r [] (allBelow_iff hi) rfl)
   have hr:=ren_rep (N:=H0.length) hok hN r v hrep
   have hs:=sel_heap (as:=al r0 r []) (H0:=H0) hh' hok hN
   refine⟨v,r0,H0,[],M',_,_,rfl,hK,leH_sound hs h2,⟨hak.keep,fun b hb h00=>absurd (hh.out b (Nat.zero_le _)) h00,hak.ext,fun g hg=> ?_⟩,le_sound _ _ _ _ hr h1⟩
   obtain⟨b,o,g0,hb1,hb2,hb3,hb5⟩:=hg
   unfold leH at h2
   have hb4:reβ (al r0 r []) H0.length β' b=some g0:=by
    simp only[cut]at hb3
    split at hb3
    ·exact hb3
    ·cases hb3
   have hbl:=(List.getElem?_eq_some_iff.1 hb1).1
   rcases leHs_get h2 b o hb1 with⟨x,hx,hxo⟩|⟨hlen,_⟩
   ·exact hak.own g (sel_blks ⟨b,x,g0,hx,leO_live hxo hb2,hb4,leO_foot x o (hs.obj b x hx) hb4 hxo hb5⟩)
   ·rw[selH_len]at hlen;omega
 ·cases ho
end
end Go.Abs
namespace Go.Abs
open Go Go.RowKit
variable [Kd]
theorem det_okA {P:Program}{f:FuncId}{d:Det}(h:∀A p r,d A=some (p,r)→p ()→allBelow 0 (ids r)=true∧FnOk P f A [] (outA r [])):PcOk P f (detPC d):=by
 intro A PK hp
 unfold detPC at hp
 split at hp
 ·rename_i p r hd
  cases hp with
  |mk h1 h2=>
   obtain⟨h3,h4⟩:=h A p r hd h1
   exact h4.out h3 h2
 ·cases hp
theorem det_okN {P:Program}{f:FuncId}{d:DetN}(h:∀A p r o,d A=some (p,r,o)→p ()→FnOk P f A [] fun r' H _=>r'=r∧H=[o]):PcOk P f (detNPC d):=by
 intro A PK hp
 unfold detNPC at hp
 split at hp
 ·rename_i p r o hd
  cases hp with
  |mk h1 h2=>
   refine(h A p r o hd h1).mono ?_
   rintro r' H kl ⟨rfl,rfl⟩
   exact h2
 ·cases hp
theorem law_callsA {P:Program}{f:FuncId}{A:List AV}{args:Array Value}{W:World}(h:FnOk P f A [] (outA (.bc true) [])) (hA:RepL W (fun _=>False) (fun _=>none) (fun _=>0) A args.toList) (hD:Dom W fun _=>False):
  Calls P f args W fun e W'=>e= .returned (.bool true)∧Below W.heap.size W W':=
 law_calls (h.out (K:=outLe 0 (.bc true) [] []) rfl (.mk (.mk rfl) (.mk trivial rfl))) hA hD
end Go.Abs
namespace Go.Abs
open Go
inductive Gen {α:Type}(x:Th α) (p:α→Prop):Prop where|mk (h:∀r,r=x ()→p r)
theorem Gen.out {α:Type}{x:Th α}{p:α→Prop}(h:Gen x p):p (x ()):=by cases h with|mk h=>exact h _ rfl
theorem val_sl {α:Type} [Dat α] (l:List α) (sz:Nat):slV (.sl sz (fun _=>l.length) fun i=>Dat.enc fun _=>l.getD (i ()) Dat.d0)=l:=by
 simp only[slV,Dat.hdec]
 exact lst_getD _ _
theorem val_nil {α:Type} [Dat α]:slV (α:=α) .nil=[]:=rfl
theorem val_snoc {α:Type} [Dat α] (l:List α) (cs:List AV) (sz n:Nat) (hs:sz=Dat.sz α) (hn:n=l.length+1) (hc:Dat.ok α cs):slV (α:=α) (.sl sz (fun _=>n) fun j=>rowL sz (fun _=>decide (j ()<l.length)) (Dat.enc fun _=>l.getD (j ()) Dat.d0) cs)=l++[Dat.dec cs]:=by
 subst hs hn
 simp only[slV]
 rw[←lst_snoc l (Dat.dec cs) Dat.d0 _ rfl]
 refine lst_congr fun i hi=> ?_
 rw[(Dat.hpick _ _ _ (Dat.hok _) hc).2]
 simp only[Dat.hdec]
theorem ok_row {α:Type} [Dat α] {c:Th Bool}{l m:List AV}{sz:Nat}(hs:sz=Dat.sz α) (h1:Dat.ok α l) (h2:Dat.ok α m):Dat.ok α (rowL sz c l m):=by subst hs;exact(Dat.hpick c l m h1 h2).1
end Go.Abs
namespace Go.Abs
open Go
variable [Kd]
section
variable {P:Program}{w:World}{M:Nat→Prop}{β:Nat→Option Nat}{cp:Nat→Nat}{h:Hp}{f:FuncId}{A:List AV}{K:Kont}
mutual
theorem lower_live:∀(x:AV) (q:List (Th Prop)) (d:List Nat) (y:AV),lower h x=some (q,d,y)→∀b∈d,∃o,h[b]? =some o∧o.live=true
 | .own b n,q,d,y,hl,c,hc=>by
   simp only[lower]at hl
   split at hl
   ·rename_i et sz m f hb
    split at hl
    ·simp only[Option.some.injEq,Prod.mk.injEq]at hl
     obtain⟨_,rfl,_⟩:=hl
     simp only[List.mem_singleton]at hc
     subst hc
     exact⟨_,nth_some hb rfl,rfl⟩
    ·cases hl
   ·rename_i et sz m f hb
    split at hl
    ·simp only[Option.some.injEq,Prod.mk.injEq]at hl
     obtain⟨_,rfl,_⟩:=hl
     simp only[List.mem_singleton]at hc
     subst hc
     exact⟨_,nth_some hb rfl,rfl⟩
    ·cases hl
   ·cases hl
 | .vw b _ _ n,q,d,y,hl,c,hc=>by
   simp only[lower]at hl
   split at hl
   ·rename_i et sz m f hb
    split at hl
    ·simp only[Option.some.injEq,Prod.mk.injEq]at hl
     obtain⟨_,rfl,_⟩:=hl
     simp only[List.mem_singleton]at hc
     subst hc
     exact⟨_,nth_some hb rfl,rfl⟩
    ·cases hl
   ·cases hl
 | .agg l,q,d,y,hl,c,hc=>by
   simp only[lower]at hl
   split at hl
   ·rename_i q' d' l' h1
    simp only[Option.some.injEq,Prod.mk.injEq]at hl
    obtain⟨_,rfl,_⟩:=hl
    exact lowerL_live l _ _ _ h1 c hc
   ·cases hl
 | .any,q,d,y,hl,c,hc=>by simp only[lower,Option.some.injEq,Prod.mk.injEq]at hl;obtain⟨_,rfl,_⟩:=hl;cases hc
 | .bc _,q,d,y,hl,c,hc=>by simp only[lower,Option.some.injEq,Prod.mk.injEq]at hl;obtain⟨_,rfl,_⟩:=hl;cases hc
 | .b _,q,d,y,hl,c,hc=>by simp only[lower,Option.some.injEq,Prod.mk.injEq]at hl;obtain⟨_,rfl,_⟩:=hl;cases hc
 | .i _ _,q,d,y,hl,c,hc=>by simp only[lower,Option.some.injEq,Prod.mk.injEq]at hl;obtain⟨_,rfl,_⟩:=hl;cases hc
 | .s _,q,d,y,hl,c,hc=>by simp only[lower,Option.some.injEq,Prod.mk.injEq]at hl;obtain⟨_,rfl,_⟩:=hl;cases hc
 | .nil,q,d,y,hl,c,hc=>by simp only[lower,Option.some.injEq,Prod.mk.injEq]at hl;obtain⟨_,rfl,_⟩:=hl;cases hc
 | .con _,q,d,y,hl,c,hc=>by simp only[lower,Option.some.injEq,Prod.mk.injEq]at hl;obtain⟨_,rfl,_⟩:=hl;cases hc
 | .tup _,q,d,y,hl,c,hc=>by simp only[lower,Option.some.injEq,Prod.mk.injEq]at hl;obtain⟨_,rfl,_⟩:=hl;cases hc
 | .ptr _ _,q,d,y,hl,c,hc=>by simp only[lower,Option.some.injEq,Prod.mk.injEq]at hl;obtain⟨_,rfl,_⟩:=hl;cases hc
 | .mr _,q,d,y,hl,c,hc=>by simp only[lower,Option.some.injEq,Prod.mk.injEq]at hl;obtain⟨_,rfl,_⟩:=hl;cases hc
 | .fm _ _,q,d,y,hl,c,hc=>by simp only[lower,Option.some.injEq,Prod.mk.injEq]at hl;obtain⟨_,rfl,_⟩:=hl;cases hc
 | .nn _ _,q,d,y,hl,c,hc=>by simp only[lower,Option.some.injEq,Prod.mk.injEq]at hl;obtain⟨_,rfl,_⟩:=hl;cases hc
 | .ept _ _ _ _,q,d,y,hl,c,hc=>by simp only[lower,Option.some.injEq,Prod.mk.injEq]at hl;obtain⟨_,rfl,_⟩:=hl;cases hc
 | .sl _ _ _,q,d,y,hl,c,hc=>by simp only[lower,Option.some.injEq,Prod.mk.injEq]at hl;obtain⟨_,rfl,_⟩:=hl;cases hc
 | .rp _,q,d,y,hl,c,hc=>by simp only[lower,Option.some.injEq,Prod.mk.injEq]at hl;obtain⟨_,rfl,_⟩:=hl;cases hc
 | .fn _ _,q,d,y,hl,c,hc=>by simp only[lower,Option.some.injEq,Prod.mk.injEq]at hl;obtain⟨_,rfl,_⟩:=hl;cases hc
 | .ifc _ _,q,d,y,hl,c,hc=>by simp only[lower,Option.some.injEq,Prod.mk.injEq]at hl;obtain⟨_,rfl,_⟩:=hl;cases hc
 | .ite _ _ _,q,d,y,hl,c,hc=>by simp only[lower,Option.some.injEq,Prod.mk.injEq]at hl;obtain⟨_,rfl,_⟩:=hl;cases hc
theorem lowerL_live:∀(l:List AV) (q:List (Th Prop)) (d:List Nat) (l':List AV),lower.lowerL h l=some (q,d,l')→∀b∈d,∃o,h[b]? =some o∧o.live=true
 |[],q,d,l',hl,c,hc=>by simp only[lower.lowerL,Option.some.injEq,Prod.mk.injEq]at hl;obtain⟨_,rfl,_⟩:=hl;cases hc
 |x::l,q,d,l',hl,c,hc=>by
  simp only[lower.lowerL]at hl
  split at hl
  ·rename_i q1 d1 y q2 d2 l2 h1 h2
   simp only[Option.some.injEq,Prod.mk.injEq]at hl
   obtain⟨_,rfl,_⟩:=hl
   rcases List.mem_append.1 hc with hc|hc
   ·exact lower_live x _ _ _ h1 c hc
   ·exact lowerL_live l _ _ _ h2 c hc
  ·cases hl
end
def lowerR (h:Hp):AV→Option (List (Th Prop)×List Nat×AV)
 | .tup l=>match lower.lowerL h l with
   |some (q,d,l')=>some (q,d,.tup l')
   |none=>none
 |x=>lower h x
theorem lowerR_rep (hh:HeapRel w M β cp h) {x:AV}{q:List (Th Prop)}{d:List Nat}{y:AV}(hl:lowerR h x=some (q,d,y)) (hq:∀p∈q,p ()) {v:Value}(hr:Rep w M β cp x v):
  Rep w (fun k=>M k∧¬Lent w h β d k) β cp y v∧∀b∈d,∃o,h[b]? =some o∧o.live=true:=by
 unfold lowerR at hl
 split at hl
 ·rename_i l
  split at hl
  ·rename_i q' d' l' h1
   simp only[Option.some.injEq,Prod.mk.injEq]at hl
   obtain⟨rfl,rfl,rfl⟩:=hl
   obtain⟨cs,rfl,hL⟩:=rep_tup hr
   have h2:=lowerL_rep hh l _ _ _ h1 hq _ (fun _ hb=>hb) _ hL
   exact⟨.tup _ cs (by simpa using h2.1) fun j x hj=>by rw[getD_arr];exact h2.2 j x hj,lowerL_live l _ _ _ h1⟩
  ·cases hl
 ·exact⟨lower_rep hh x _ _ _ hl hq _ (fun _ hb=>hb) v hr,lower_live x _ _ _ hl⟩
theorem FnOk.froz {r0:AV}{H0:Hp}(hf:FnOk P f A [] (outA r0 H0)) (hi:allBelow (len H0) (ids r0)=true) {q:List (Th Prop)}{d:List Nat}{r1:AV}(hl:lowerR H0 r0=some (q,d,r1)) (hq:∀p∈q,p ()) (hc:closed r1=true) (hK:K r1 [] []):FnOk P f A [] K:=by
 intro w M β cp vs hh hA
 refine(hf.out hi (K:=fun r H kl=>r=r0∧H=H0∧kl=[]) ⟨rfl,rfl,rfl⟩ w M β cp vs hh hA).mono ?_
 rintro e w' ⟨v,r,H',kl,M',β',cp',rfl,⟨rfl,rfl,rfl⟩,hh',hak,hrep⟩
 obtain⟨hr,hlv⟩:=lowerR_rep hh' hl hq hrep
 refine⟨v,r1,[],[],fun k=>M' k∧¬Lent w' H' β' d k,fun _=>none,fun _=>0,rfl,hK,⟨fun _ _=>rfl,fun b o hb=>by simp at hb,fun b b' o o' g g' k hb=>by simp at hb,hh'.dom.less fun k hk=>hk.1⟩,
  ⟨fun k hk hM=>⟨(hak.keep k hk hM).1,fun h=>(hak.keep k hk hM).2 h.1⟩,fun b _ hb=>absurd (hh.out b (Nat.zero_le _)) hb,⟨hak.ext.os,hak.ext.tape,hak.ext.output,hak.ext.size,hak.ext.block,fun k hs hB hk=>⟨hak.ext.sub k hs hB hk, ?_⟩,fun k hk=>hak.ext.new k hk.1⟩, ?_⟩,.c (closed_rep hr hc)⟩
 ·rintro⟨b,hb,g,hg,hft⟩
  obtain⟨o,ho,hol⟩:=hlv b hb
  have e9:nth .dead H' b=o:=by rw[nth_eq,List.getD_eq_getElem?_getD,ho];rfl
  rw[e9]at hft
  rcases hak.own k ⟨b,o,g,ho,hol,hg,hft⟩with⟨b',o',_,hb',_⟩|h1
  ·simp at hb'
  ·have:=hh.dom.1 k hk;omega
 ·rintro g ⟨b,o,_,hb,_⟩
  simp at hb
def noSlH2:List AObj→Prop
 |[]=>True
 |o::r=>noSlO o∧noSlH2 r
theorem noSlH2_get:∀{H:Hp},noSlH2 H→∀{c:Nat}{o:AObj},H[c]? =some o→noSlO o
 |[],_,c,o,h=>by simp at h
 |x::r,hc,c,o,ho=>by
  cases c with
  |zero=>simp at ho;subst ho;exact hc.1
  |succ c=>exact noSlH2_get hc.2 (by simpa using ho)
theorem lowF_leaf {N:Nat→Prop}{x y:AV}{q:List (Th Prop)}{d:List Nat}{v:Value}(hl:lower h x=some (q,d,y)) (hs:lower h x=some ([],[],x)) (hn:noSl x=true) (hc:closed y=true) (hr:Rep w M β cp x v):RepC w N y v:=by
 rw[hs]at hl
 simp only[Option.some.injEq,Prod.mk.injEq]at hl
 obtain⟨rfl,rfl,rfl⟩:=hl
 exact noSl_repC (closed_rep hr hc) hn
mutual
theorem lowF {N:Nat→Prop}(hh:HeapRel w M β cp h) (hH:noSlH2 h) (hN:∀b o g,h[b]? =some o→o.live=true→β b=some g→¬N g):∀(x:AV) (q:List (Th Prop)) (d:List Nat) (y:AV),lower h x=some (q,d,y)→(∀p∈q,p ())→noSl x=true→closed y=true→∀(v:Value),Rep w M β cp x v→RepC w N y v
 | .own b n,q,d,y,hl,hq,hns,hc,v,hr=>by
   simp only[lower]at hl
   split at hl
   ·rename_i et sz m f hb
    split at hl
    case h_2=>cases hl
    rename_i qs
    have hs0:0<sz:=blt_iff.1 qs
    simp only[Option.some.injEq,Prod.mk.injEq]at hl
    obtain⟨rfl,rfl,rfl⟩:=hl
    have hnm:n ()≤m ():=hq (fun _=>n ()≤m ()) (by simp)
    have hbo:=nth_some hb rfl
    rcases rep_own hr with⟨h0,rfl⟩|⟨g,hg,hn,rfl⟩
    ·exact .sl0 sz n f none 0 h0 (by unfold maxLen;omega)
    ·rcases hh.obj b _ hbo with⟨e1,_⟩|⟨g',cur,e1,e2,e3,e4,e5,e6,e7,e8,e9⟩
     ·rw[hg]at e1;cases e1
     ·rw[hg]at e1;cases e1
      by_cases h0:n ()=0
      ·rw[h0];exact .sl0 sz n f _ _ h0 e7
      ·have hlt:∀i j,i<n ()→j<sz→i*sz+j<n ()*sz:=by
        intro i j hi hj
        have:=Nat.mul_le_mul_right sz (show i+1≤n () by omega)
        rw[Nat.succ_mul]at this
        omega
       have hle:n ()*sz≤m ()*sz:=Nat.mul_le_mul_right _ hnm
       have hle2:n ()*sz≤cur.size:=by rw[e4];exact Nat.mul_le_mul_right _ (by omega)
       have hvs:∀i,i<m ()→noSlL (f fun _=>i)=true:=by
        have:=noSlH2_get hH hbo
        cases this with|mk h=>exact h
       refine .sl sz n f ⟨g,0,none⟩ (cp b) (fun i j=>cur.getD (i*sz+j) undef) (hN b _ g hbo rfl hg) hs0 hn e7 (fun i hi=>e8 i (by omega)) (fun i j hi hj=> ?_) (fun i j hi hj=>e5.one _ (by have:=hlt i j hi hj;omega)) fun i j x hi hj=>noSl_repC (e9 i j x (by omega) hj) (noSlL_get (hvs i (by omega)) hj)
       have:=hlt i j hi hj
       have h3:i*sz+j<cur.size:=by omega
       rw[addr_add,Nat.zero_add,cell_of_row e3 h3]
       simp[h3]
   ·rename_i hb
    exact nomatch (show Bad 250 from noSlH2_get hH (nth_some hb rfl))
   ·cases hl
 | .vw b sz' p n,q,d,y,hl,hq,hns,hc,v,hr=>by
   simp only[lower]at hl
   split at hl
   ·rename_i et sz m f hb
    split at hl
    case h_2=>cases hl
    rename_i qs qz
    have hs0:0<sz:=blt_iff.1 qs
    have qz:=beq_iff.1 qz
    subst qz
    simp only[Option.some.injEq,Prod.mk.injEq]at hl
    obtain⟨rfl,rfl,rfl⟩:=hl
    have hnm:p ()+n ()≤m ():=hq (fun _=>p ()+n ()≤m ()) (by simp)
    have hbo:=nth_some hb rfl
    rcases rep_vw hr with⟨h0,a,c,hc2,rfl⟩|⟨g,hg,hn,rfl⟩
    ·exact .sl0 _ n _ a c h0 hc2
    ·rcases hh.obj b _ hbo with⟨e1,_⟩|⟨g',cur,e1,e2,e3,e4,e5,e6,e7,e8,e9⟩
     ·rw[hg]at e1;cases e1
     ·rw[hg]at e1;cases e1
      by_cases h0:n ()=0
      ·rw[h0];exact .sl0 _ n _ _ _ h0 (by omega)
      ·have hlt:∀i j,i<n ()→j<sz'→(i+p ())*sz'+j<(p ()+n ())*sz':=by
        intro i j hi hj
        have:=Nat.mul_le_mul_right sz' (show i+p ()+1≤p ()+n () by omega)
        rw[Nat.succ_mul]at this
        omega
       have hle:(p ()+n ())*sz'≤m ()*sz':=Nat.mul_le_mul_right _ hnm
       have hle2:(p ()+n ())*sz'≤cur.size:=by rw[e4];exact Nat.mul_le_mul_right _ (by omega)
       have hvs:∀i,i<m ()→noSlL (f fun _=>i)=true:=by
        have:=noSlH2_get hH hbo
        cases this with|mk h=>exact h
       refine .sl sz' n (fun k=>f fun _=>k ()+p ()) ⟨g,p ()*sz',none⟩ (cp b-p ()) (fun i j=>cur.getD ((i+p ())*sz'+j) undef) (hN b _ g hbo rfl hg) hs0 (by omega) (by omega) (fun i hi=>e8 (i+p ()) (by omega)) (fun i j hi hj=> ?_) (fun i j hi hj=>e5.one _ (by have:=hlt i j hi hj;omega)) fun i j x hi hj=>noSl_repC (e9 (i+p ()) j x (by omega) hj) (noSlL_get (hvs (i+p ()) (by omega)) hj)
       have:=hlt i j hi hj
       have h3:(i+p ())*sz'+j<cur.size:=by omega
       rw[addr_add,show p ()*sz'+(i*sz'+j)=(i+p ())*sz'+j by rw[Nat.add_mul];omega,cell_of_row e3 h3]
       simp[h3]
   ·cases hl
 | .agg l,q,d,y,hl,hq,hns,hc,v,hr=>by
   simp only[lower]at hl
   split at hl
   ·rename_i q' d' l' hl'
    simp only[Option.some.injEq,Prod.mk.injEq]at hl
    obtain⟨rfl,rfl,rfl⟩:=hl
    obtain⟨cs,rfl,hL,ho⟩:=rep_agg hr
    have:=lowFL hh hH hN l q' d' l' hl' hq (by simpa[noSl]using hns) (by simpa[closed]using hc) _ hL
    exact .agg _ cs (by simpa using this.1) (fun v hv=>ho v (by simpa using hv)) fun j x hj=>by rw[getD_arr];exact this.2 j x hj
   ·cases hl
 | .any,q,d,y,hl,_,hns,hc,v,hr=>lowF_leaf hl (by rfl) hns hc hr
 | .bc _,q,d,y,hl,_,hns,hc,v,hr=>lowF_leaf hl (by rfl) hns hc hr
 | .b _,q,d,y,hl,_,hns,hc,v,hr=>lowF_leaf hl (by rfl) hns hc hr
 | .i _ _,q,d,y,hl,_,hns,hc,v,hr=>lowF_leaf hl (by rfl) hns hc hr
 | .s _,q,d,y,hl,_,hns,hc,v,hr=>lowF_leaf hl (by rfl) hns hc hr
 | .nil,q,d,y,hl,_,hns,hc,v,hr=>lowF_leaf hl (by rfl) hns hc hr
 | .con _,q,d,y,hl,_,hns,hc,v,hr=>lowF_leaf hl (by rfl) hns hc hr
 | .tup _,q,d,y,hl,_,hns,hc,v,hr=>lowF_leaf hl (by rfl) hns hc hr
 | .ptr _ _,q,d,y,hl,_,hns,hc,v,hr=>lowF_leaf hl (by rfl) hns hc hr
 | .mr _,q,d,y,hl,_,hns,hc,v,hr=>lowF_leaf hl (by rfl) hns hc hr
 | .fm _ _,q,d,y,hl,_,hns,hc,v,hr=>lowF_leaf hl (by rfl) hns hc hr
 | .nn _ _,q,d,y,hl,_,hns,hc,v,hr=>lowF_leaf hl (by rfl) hns hc hr
 | .ept _ _ _ _,q,d,y,hl,_,hns,hc,v,hr=>lowF_leaf hl (by rfl) hns hc hr
 | .sl _ _ _,q,d,y,hl,_,hns,hc,v,hr=>lowF_leaf hl (by rfl) hns hc hr
 | .rp _,q,d,y,hl,_,hns,hc,v,hr=>lowF_leaf hl (by rfl) hns hc hr
 | .fn _ _,q,d,y,hl,_,hns,hc,v,hr=>lowF_leaf hl (by rfl) hns hc hr
 | .ifc _ _,q,d,y,hl,_,hns,hc,v,hr=>lowF_leaf hl (by rfl) hns hc hr
 | .ite _ _ _,q,d,y,hl,_,hns,hc,v,hr=>lowF_leaf hl (by rfl) hns hc hr
theorem lowFL {N:Nat→Prop}(hh:HeapRel w M β cp h) (hH:noSlH2 h) (hN:∀b o g,h[b]? =some o→o.live=true→β b=some g→¬N g):∀(l:List AV) (q:List (Th Prop)) (d:List Nat) (l':List AV),lower.lowerL h l=some (q,d,l')→(∀p∈q,p ())→noSlL l=true→closedL l'=true→∀(vs:List Value),RepL w M β cp l vs→
  vs.length=l'.length∧∀(j:Nat) (x:AV),l'[j]? =some x→RepC w N x (vs.getD j undef)
 |[],q,d,l',hl,hq,hns,hc,vs,hr=>by
  simp only[lower.lowerL,Option.some.injEq,Prod.mk.injEq]at hl
  obtain⟨rfl,rfl,rfl⟩:=hl
  exact⟨hr.1,fun j x hj=>by simp at hj⟩
 |x::l,q,d,l',hl,hq,hns,hc,vs,hr=>by
  simp only[lower.lowerL]at hl
  split at hl
  ·rename_i q1 d1 y q2 d2 l2 h1 h2
   simp only[Option.some.injEq,Prod.mk.injEq]at hl
   obtain⟨rfl,rfl,rfl⟩:=hl
   simp only[noSlL]at hns
   split at hns
   case h_2=>cases hns
   rename_i hn1
   simp only[closedL]at hc
   split at hc
   case h_2=>cases hc
   rename_i hc1
   match vs,hr with
   |[],hr=>exact absurd hr.1 (by simp)
   |u::vs,hr=>
    have hx:=lowF hh hH hN x q1 d1 y h1 (fun p hp=>hq p (by simp[hp])) hn1 hc1 u (by have:=hr.2 0 x rfl;simpa using this)
    have:=lowFL hh hH hN l q2 d2 l2 h2 (fun p hp=>hq p (by simp[hp])) hns hc vs ⟨by have:=hr.1;simp at this;omega,fun j x hj=>by have:=hr.2 (j+1) x (by simpa using hj);simpa using this⟩
    refine⟨by have:=this.1;simp;omega,fun j z hj=> ?_⟩
    cases j with
    |zero=>simp at hj;subst hj;simpa using hx
    |succ j=>have:=this.2 j z (by simpa using hj);simpa using this
  ·cases hl
end
theorem FnOk.fresh {r0:AV}{H0:Hp}(hf:FnOk P f A [] (outA r0 H0)) (hi:allBelow (len H0) (ids r0)=true) {q:List (Th Prop)}{d:List Nat}{r1:AV}(hl:lowerR H0 r0=some (q,d,r1)) (hq:∀p∈q,p ()) (hc:closed r1=true) (hns:noSl r0=true) (hH:noSlH2 H0):FrOk P f A r1:=by
 intro w M vs hM hA
 refine(hf.out hi (K:=fun r H kl=>r=r0∧H=H0∧kl=[]) ⟨rfl,rfl,rfl⟩ w M (fun _=>none) (fun _=>0) vs ⟨fun _ _=>rfl,fun b o hb=>by simp at hb,fun b b' o o' g g' k hb=>by simp at hb,hM⟩ hA).mono ?_
 rintro e w' ⟨v,r,H',kl,M',β',cp',rfl,⟨rfl,rfl,rfl⟩,hh',hak,hrep⟩
 have hN:∀b o g,H'[b]? =some o→o.live=true→β' b=some g→¬g<w.heap.size:=fun b o g hb ho hg=>by
  rcases hak.own g ⟨b,o,g,hb,ho,hg,.self _⟩with⟨b',o',_,hb',_⟩|h1
  ·simp at hb'
  ·omega
 refine⟨v,rfl,⟨hak.ext.os,hak.ext.tape,hak.ext.output,hak.ext.size,fun k hk=>hak.ext.block k hk (by rintro⟨b,o,_,hb,_⟩;simp at hb)⟩, ?_⟩
 unfold lowerR at hl
 split at hl
 ·rename_i l
  split at hl
  ·rename_i q' d' l' hl'
   simp only[Option.some.injEq,Prod.mk.injEq]at hl
   obtain⟨rfl,rfl,rfl⟩:=hl
   obtain⟨cs,rfl,hL⟩:=rep_tup hrep
   have:=lowFL hh' hH hN l _ _ _ hl' hq (by simpa[noSl]using hns) (by simpa[closed]using hc) _ hL
   exact .tup _ cs (by simpa using this.1) fun j x hj=>by rw[getD_arr];exact this.2 j x hj
  ·cases hl
 ·exact lowF hh' hH hN _ _ _ _ hl hq hns hc v hrep
end
end Go.Abs
namespace Go.Abs
open Go
variable [Kd]
structure OwnS (α:Type) where
 pre:List AV→List α→Prop
 fin:List AV→List α→List α
 res:Option (List AV→List α→Nat)
 kl:Bool
 ne:Bool:=false
def OwnS.out {α:Type}(S:OwnS α) (b:Nat) (rest:List AV) (d:List α):AV:=match S.res with
 |none=> .tup []
 |some g=> .own b fun _=>g rest d
def OwnS.arg {α:Type}(S:OwnS α) (d:List α):AV:=match S.ne with
 |true=> .nn 0 fun _=>d.length
 |false=> .own 0 fun _=>d.length
def OwnS.kls {α:Type}(S:OwnS α) (b:Nat):List Nat:=match S.kl with
 |true=>[b]
 |false=>[]
def OwnS.hp {α:Type}(S:OwnS α) (b:Nat) (H:Hp):Hp:=match S.kl with
 |true=>killHp b 0 H
 |false=>H
def ownCon (α:Type) [Dat α] (e0:Nat) (S:OwnS α):Con:=fun A H K=>match A with
 | .own b n::rest=>match nth .dead H b,closedL rest with
   | .vec e sz m f,true=>match Nat.beq e e0 with
     |true=>Ob (fun _=>sz=Dat.sz α∧n ()=m ()∧(∀i,i<n ()→Dat.ok α (f fun _=>i))∧S.pre rest (slV (α:=α) (.sl sz n f)))
      (Gen (fun _=>slV (α:=α) (.sl sz n f)) fun d=>K (S.out b rest d) (S.hp b (H.set b (vecO e fun _=>S.fin rest d))) (S.kls b))
     |false=>Bad 510
   |_,_=>Bad 511
 |_=>Bad 512
section
variable {P:Program}{α:Type} [Dat α]
theorem set_get {H:Hp}{b:Nat}{O:AObj}{c:Nat}{x:AObj}(hc:(H.set b O)[c]? =some x):(c=b∧x=O)∨(c≠b∧H[c]? =some x):=by
 rw[List.getElem?_set]at hc
 split at hc
 ·split at hc
  ·exact .inl ⟨by omega,by cases hc;rfl⟩
  ·cases hc
 ·exact .inr ⟨by omega,hc⟩
theorem ownCon_ok {f:FuncId}{e0:Nat}{S:OwnS α}(hne:∀rest d,S.ne=true→S.pre rest d→0<d.length) (hF:∀rest d,closedL rest=true→S.pre rest d→FnOk P f (S.arg d::rest) [vecO e0 fun _=>d] (outLe 1 (S.out 0 rest d) [vecO e0 fun _=>S.fin rest d] (S.kls 0)))
  {A:List AV}{H:Hp}{K:Kont}(hv:ownCon α e0 S A H K):FnOk P f A H K:=by
 intro w M β cp vs hh hA
 unfold ownCon at hv
 split at hv
 case h_2=>cases hv
 rename_i b n rest
 split at hv
 case h_2=>cases hv
 rename_i e sz m g hb0 hcl
 split at hv
 case h_2=>cases hv
 rename_i qe
 have qe:=beq_iff.1 qe
 subst qe
 cases hv with
 |mk hob hK=>
 obtain⟨hsz,hnm,hok,hpre⟩:=hob
 have hK:=hK.out
 subst hsz
 have hb:=nth_some hb0 rfl
 generalize hd:slV (α:=α) (.sl (Dat.sz α) n g)=d at hK hpre
 have hdl:d.length=n ():=by rw[←hd];exact lst_len _ _
 have hdg:∀i,i<n ()→d.getD i Dat.d0=Dat.dec (g fun _=>i):=fun i hi=>by rw[←hd];exact lst_get hi
 have hobj:=hh.obj b _ hb
 have hgo:∀b' (o:AObj) g0,H[b']? =some o→o.live=true→β b'=some g0→g0<w.heap.size∧M g0:=fun b' o g0 h1 h2 h3=>blk_lt hh h1 h2 h3
 have h1obj:HeapRel w M (fun c=>if c=0 then β b else none) (fun _=>cp b) [vecO e fun _=>d]:=by
  refine⟨fun c hc=> ?_,fun c o hc=> ?_,fun c c' o o' _ _ _ hc hc' _ _ _ _ _ _=> ?_,hh.dom⟩
  ·have:c≠0:=by simp at hc;omega
   simp[this]
  ·cases c with
   |succ c=>simp at hc
   |zero=>
    simp at hc
    subst hc
    rcases hobj with⟨h1,h2⟩|⟨g0,cur,h1,h2,h3,h4,h5,h6,h7,h8,h9⟩
    ·exact .inl ⟨by simpa using h1,by show d.length=0;omega⟩
    ·refine .inr ⟨g0,cur,by simpa using h1,h2,h3,h4,⟨fun k hk=>h5.one k (by have hk:k<d.length*Dat.sz α:=hk;rw[hdl,hnm]at hk;exact hk),fun i j q1 q2 q3=>h5.sp i j (by have q1:d.length≤i:=q1;omega) q2 q3⟩,by show d.length≤cp b;omega,h7,fun i hi=>Dat.hlen _,fun i j x hi hj=> ?_⟩
     have hi:i<n ():=by have hi:i<d.length:=hi;omega
     have hj':j<Dat.sz α:=by
      have:=(List.getElem?_eq_some_iff.1 hj).1
      rwa [Dat.hlen]at this
     have hL:RepL w M (fun _=>none) (fun _=>0) (g fun _=>i) ((List.range (Dat.sz α)).map fun j=>cur.getD (i*Dat.sz α+j) undef):=⟨by simp[h8 i (by omega)],fun j x hj=>by
      have hjl:=(List.getElem?_eq_some_iff.1 hj).1
      rw[h8 i (by omega)]at hjl
      have:=h9 i j x (by omega) hj
      rw[List.getD_eq_getElem?_getD,List.getElem?_map,List.getElem?_range hjl]
      exact .c this⟩
     have hL2:=leL_sound 0 _ _ _ hL (Dat.hle _ (hok i hi))
     have hj3:(Dat.enc fun _=>(Dat.dec (g fun _=>i):α))[j]? =some x:=by
      have hj:(Dat.enc fun _=>d.getD i Dat.d0)[j]? =some x:=hj
      rwa [hdg i hi]at hj
     have h1:=closed_rep (hL2.2 j x hj3) (closedL_get (Dat.hclosed _) hj3)
     rw[List.getD_eq_getElem?_getD,List.getElem?_map,List.getElem?_range hj']at h1
     exact h1
  ·have e1:c=0:=by have:=(List.getElem?_eq_some_iff.1 hc).1;simp at this;omega
   have e2:c'=0:=by have:=(List.getElem?_eq_some_iff.1 hc').1;simp at this;omega
   omega
 have h1args:RepL w M (fun c=>if c=0 then β b else none) (fun _=>cp b) (S.arg d::rest) vs.toList:=by
  refine⟨by have:=hA.1;simpa using this,fun j x hj=> ?_⟩
  cases j with
  |zero=>
   simp at hj
   subst hj
   unfold OwnS.arg
   split
   ·rename_i hq
    have h0:=hne rest d hq hpre
    rcases rep_own (hA.2 0 _ rfl)with⟨h1,hv0⟩|⟨g0,hg0,hn0,hv0⟩
    ·omega
    ·rw[hv0,←hdl];exact .nn (cp:=fun _=>cp b) 0 _ g0 (by simpa using hg0) (by show d.length≤cp b;omega)
   ·rcases rep_own (hA.2 0 _ rfl)with⟨h0,hv0⟩|⟨g0,hg0,hn0,hv0⟩
    ·rw[hv0];exact .own0 0 _ (by show d.length=0;omega)
    ·rw[hv0,←hdl];exact .own (cp:=fun _=>cp b) 0 _ g0 (by simpa using hg0) (by show d.length≤cp b;omega)
  |succ j=>exact .c (closed_rep (hA.2 (j+1) x (by simpa using hj)) (closedL_get hcl (by simpa using hj)))
 have hcall:=FnOk.le (H:=[vecO e fun _=>d]) (hF rest d hcl hpre) (K:=fun r H kl=>r=S.out 0 rest d∧H=[vecO e fun _=>S.fin rest d]∧kl=S.kls 0) rfl ⟨rfl,rfl,rfl⟩
 refine(hcall w M _ _ vs h1obj h1args).mono ?_
 rintro ex w' ⟨v,r,H',kl,M',β',cp',rfl,⟨rfl,rfl,rfl⟩,hh',hak,hrep⟩
 let β2:Nat→Option Nat:=fun c=>if c=b then β' 0 else β c
 let cp2:Nat→Nat:=fun c=>if c=b then cp' 0 else cp c
 have hbl:b<H.length:=(List.getElem?_eq_some_iff.1 hb).1
 have hβne:∀c,c≠b→β2 c=β c∧cp2 c=cp c:=fun c hc=>by simp[β2,cp2,hc]
 have hβb:β2 b=β' 0∧cp2 b=cp' 0:=by simp[β2,cp2]
 have hkept:S.kl=false→β b≠none→β' 0=β b∧cp' 0=cp b:=by
  intro hk hb0
  have:=hak.bk 0 (by simp[OwnS.kls,hk,memN]) (by simpa using hb0)
  simpa using this
 have hblk0:∀k,Blks w (fun c=>if c=0 then β b else none) [vecO e fun _=>d] k→β b=some k:=by
  rintro k ⟨c',o,g0,hc',hl',hg',hk⟩
  have e1:c'=0:=by have:=(List.getElem?_eq_some_iff.1 hc').1;simp at this;omega
  subst e1
  simp at hc'
  subst hc'
  rw[hk.eq (by intro _ _ _ _ _ h;cases h)]
  simpa using hg'
 have hother:∀c (x:AObj),c≠b→H[c]? =some x→x.live=true→∀g0 k,β c=some g0→Foot w g0 x k→w'.heap[k]? =w.heap[k]? :=fun c x hc hx hl g0 k hg0 hk=>
  hak.ext.block k (hh.foot hx hl hg0 hk).2 fun hB=>hh.ne hc hx hb hl rfl hg0 (hblk0 k hB) hk rfl
 have hsub:∀c (x:AObj),c≠b→H[c]? =some x→x.live=true→∀g0 k,β c=some g0→Foot w g0 x k→M k→M' k:=fun c x hc hx hl g0 k hg0 hk=>
  hak.ext.sub k (hh.foot hx hl hg0 hk).2 fun hB=>hh.ne hc hx hb hl rfl hg0 (hblk0 k hB) hk rfl
 have back:∀c (x:AObj),c≠b→H[c]? =some x→x.live=true→∀g0 k,β c=some g0→Foot w' g0 x k→Foot w g0 x k:=fun c x hc hx hl g0 k hg0 hk=>
  foot_keep (hh.obj c x hx) hak.keep hg0 (fun k hk=>⟨hother c x hc hx hl g0 k hg0 hk,hsub c x hc hx hl g0 k hg0 hk⟩) hk
 have hnew:∀g0,β' 0=some g0→β b=some g0∨w.heap.size≤g0:=fun g0 hg0=>(hak.own g0 ⟨0,_,g0,rfl,rfl,hg0,.self _⟩).imp (hblk0 g0) id
 have hheap:∀(h2:Hp),h2.length=H.length→(∀c x,h2[c]? =some x→(c=b∧x=(vecO e fun _=>S.fin rest d))∨(c≠b∧∃y,H[c]? =some y∧x.live=y.live∧(∀g k,Foot w' g x k→Foot w' g y k)∧(y.live=true→ObjRel w' M' β2 cp2 c x)))→HeapRel w' M' β2 cp2 h2:=by
  intro h2 hl2 hget
  refine⟨fun c hc=> ?_,fun c x hc=> ?_,fun c c' x x' g1 g2 k hc hc' hlx hlx' hg1 hg2 hk1 hk2=> ?_,hh'.dom⟩
  ·rw[(hβne c (by omega)).1];exact hh.out c (by omega)
  ·rcases hget c x hc with⟨rfl,rfl⟩|⟨hne,y,hy,hly,_,hr⟩
   ·have:=hh'.obj 0 _ rfl
    rcases this with⟨h1,h2⟩|⟨g0,cur,h1,h2,h3,h4,h5,h6,h7,h8,h9⟩
    ·exact .inl ⟨by rw[hβb.1];exact h1,h2⟩
    ·exact .inr ⟨g0,cur,by rw[hβb.1];exact h1,h2,h3,by rw[hβb.2];exact h4,by rw[hβb.2];exact h5,by rw[hβb.2];exact h6,by rw[hβb.2];exact h7,h8,h9⟩
   ·by_cases hlx:y.live=true
    ·exact hr hlx
    ·have:¬x.live=true:=by rw[hly];exact hlx
     cases x<;>first|trivial|exact absurd rfl this
  ·have one:∀c x g k,h2[c]? =some x→x.live=true→β2 c=some g→Foot w' g x k→(c=b∧β' 0=some k)∨(c≠b∧∃y,H[c]? =some y∧y.live=true∧β c=some g∧Foot w g y k):=by
    intro c x g k hc hlx hg hk
    rcases hget c x hc with⟨rfl,rfl⟩|⟨hne,y,hy,hly,hf,_⟩
    ·rw[hk.eq (by intro _ _ _ _ _ h;cases h)]
     exact .inl ⟨rfl,by rw[←hβb.1];exact hg⟩
    ·rw[(hβne c hne).1]at hg
     have hl2:y.live=true:=by rw[←hly];exact hlx
     exact .inr ⟨hne,y,hy,hl2,hg,back c y hne hy hl2 g k hg (hf g k hk)⟩
   rcases one c x g1 k hc hlx hg1 hk1 with⟨a1,a2⟩|⟨a1,y,a2,a3,a4,a5⟩<;>rcases one c' x' g2 k hc' hlx' hg2 hk2 with⟨b1,b2⟩|⟨b1,y',b2,b3,b4,b5⟩
   ·omega
   ·rcases hnew k a2 with h|h
    ·exact absurd rfl (hh.ne b1 b2 hb b3 rfl b4 h b5)
    ·have:=(hh.foot b2 b3 b4 b5).2;omega
   ·rcases hnew k b2 with h|h
    ·exact absurd rfl (hh.ne a1 a2 hb a3 rfl a4 h a5)
    ·have:=(hh.foot a2 a3 a4 a5).2;omega
   ·exact hh.inj2 c c' y y' g1 g2 k a2 b2 a3 b3 a4 b4 a5 b5
 have hrep2:Rep w' M' β2 cp2 (S.out b rest d) v:=by
  unfold OwnS.out at hrep ⊢
  split at hrep
  ·obtain⟨cs,rfl,hL⟩:=rep_tup hrep
   exact .c (.tup [] cs (by simpa using hL.1) fun j x hj=>by simp at hj)
  ·rename_i q _
   rcases rep_own hrep with⟨h0,rfl⟩|⟨g0,hg0,hn0,rfl⟩
   ·exact .own0 b _ h0
   ·rw[←hβb.2]
    exact .own b _ g0 (by rw[hβb.1];exact hg0) (by rw[hβb.2];exact hn0)
 have hext:Ext w M (Blks w β H) w' M':=⟨hak.ext.os,hak.ext.tape,hak.ext.output,hak.ext.size,fun k hk hB=>hak.ext.block k hk fun hB2=>hB ⟨b,_,k,hb,rfl,hblk0 k hB2,.self _⟩,fun k hk hB=>hak.ext.sub k hk fun hB2=>hB ⟨b,_,k,hb,rfl,hblk0 k hB2,.self _⟩,hak.ext.new⟩
 have hobjs:S.kl=false→β b≠none→∀c x,c≠b→H[c]? =some x→x.live=true→ObjRel w' M' β2 cp2 c x:=by
  intro hk hbn c x hc hx hl
  exact(hh.obj c x hx).keep hak.keep (fun c' hc'=>by
   by_cases e1:c'=b
   ·subst e1;rw[hβb.1,hβb.2];exact hkept hk hbn
   ·exact hβne c' e1) (fun h0=>by rw[(hβne c hc).1];exact h0) fun g0 k hg0 hk=>⟨hother c x hc hx hl g0 k hg0 hk,hsub c x hc hx hl g0 k hg0 hk⟩
 have hown:∀(h2:Hp),(∀c x,h2[c]? =some x→(c=b∧x=(vecO e fun _=>S.fin rest d))∨(c≠b∧∃y,H[c]? =some y∧x.live=y.live∧∀g k,Foot w' g x k→Foot w' g y k))→∀k,Blks w' β2 h2 k→Blks w β H k∨w.heap.size≤k:=by
  rintro h2 hget k ⟨c,x,g,hc,hlx,hg,hk⟩
  rcases hget c x hc with⟨rfl,rfl⟩|⟨hne,y,hy,hly,hf⟩
  ·rw[hk.eq (by intro _ _ _ _ _ h;cases h)]
   rw[hβb.1]at hg
   rcases hnew g hg with h|h
   ·exact .inl ⟨_,_,g,hb,rfl,h,.self _⟩
   ·exact .inr h
  ·rw[(hβne c hne).1]at hg
   have hl2:y.live=true:=by rw[←hly];exact hlx
   exact .inl ⟨c,y,g,hy,hl2,hg,back c y hne hy hl2 g k hg (hf g k hk)⟩
 cases hkl:S.kl with
 |true=>
  have e1:S.hp b (H.set b (vecO e fun _=>S.fin rest d))=killHp b 0 (H.set b (vecO e fun _=>S.fin rest d)):=by simp[OwnS.hp,hkl]
  have e2:S.kls b=[b]:=by simp[OwnS.kls,hkl]
  rw[e1,e2]at hK
  have hget:∀c x,(killHp b 0 (H.set b (vecO e fun _=>S.fin rest d)))[c]? =some x→(c=b∧x=(vecO e fun _=>S.fin rest d))∨(c≠b∧∃y,H[c]? =some y∧x=y.kill b):=by
   intro c x hc
   obtain⟨y,hy,h1⟩:=killHp_get _ _ _ _ hc
   rw[Nat.zero_add]at h1
   rcases h1 with⟨rfl,rfl⟩|⟨hne,rfl⟩
   ·rcases set_get hy with⟨_,h2⟩|⟨h2,_⟩
    ·exact .inl ⟨rfl,h2⟩
    ·exact absurd rfl h2
   ·rcases set_get hy with⟨h2,_⟩|⟨_,h2⟩
    ·exact absurd h2 hne
    ·exact .inr ⟨hne,y,h2,rfl⟩
  refine⟨_,_,_,[b],M',β2,cp2,rfl,hK,hheap _ (by rw[killHp_len,List.length_set]) (fun c x hc=> ?_),⟨hak.keep,fun c hc h0=>hβne c (by rintro rfl;simp[memN]at hc),hext,hown _ fun c x hc=> ?_⟩,hrep2⟩
  ·rcases hget c x hc with h|⟨hne,y,hy,rfl⟩
   ·exact .inl h
   ·refine .inr ⟨hne,y,hy,kill_live y,fun g k hk=>kill_foot hk,fun hl=> ?_⟩
    have h1:ObjRel w' M' β cp c y:=(hh.obj c y hy).keep hak.keep (fun _ _=>⟨rfl,rfl⟩) id fun g0 k hg0 hk=>⟨hother c y hne hy hl g0 k hg0 hk,hsub c y hne hy hl g0 k hg0 hk⟩
    exact objKill_rep hβne hne h1
  ·rcases hget c x hc with h|⟨hne,y,hy,rfl⟩
   ·exact .inl h
   ·exact .inr ⟨hne,y,hy,kill_live y,fun g k hk=>kill_foot hk⟩
 |false=>
  have e1:S.hp b (H.set b (vecO e fun _=>S.fin rest d))=H.set b (vecO e fun _=>S.fin rest d):=by simp[OwnS.hp,hkl]
  have e2:S.kls b=[]:=by simp[OwnS.kls,hkl]
  rw[e1,e2]at hK
  refine⟨_,_,_,[],M',β2,cp2,rfl,hK,hheap _ (by rw[List.length_set]) (fun c x hc=> ?_),⟨hak.keep,fun c _ h0=> ?_,hext,hown _ fun c x hc=> ?_⟩,hrep2⟩
  ·rcases set_get hc with h|⟨hne,hy⟩
   ·exact .inl h
   ·refine .inr ⟨hne,x,hy,rfl,fun g k hk=>hk,fun hl=> ?_⟩
    refine(hh.obj c x hy).keep hak.keep (fun c' hc'=> ?_) (fun h0=>by rw[(hβne c hne).1];exact h0) fun g0 k hg0 hk=>⟨hother c x hne hy hl g0 k hg0 hk,hsub c x hne hy hl g0 k hg0 hk⟩
    by_cases e3:c'=b
    ·subst e3;rw[hβb.1,hβb.2];exact hkept hkl hc'
    ·exact hβne c' e3
  ·by_cases e3:c=b
   ·subst e3;rw[hβb.1,hβb.2];exact hkept hkl h0
   ·exact hβne c e3
  ·rcases set_get hc with h|⟨hne,hy⟩
   ·exact .inl h
   ·exact .inr ⟨hne,x,hy,rfl,fun g k hk=>hk⟩
end
end Go.Abs
namespace Go.Abs
open Go
variable [Kd]
section
variable {α:Type} [Dat α]
end
end Go.Abs
namespace Go.Abs
open Go
variable [Kd]
section
variable {α:Type} [Dat α]
def fillU (a:α) (k n:Nat):List α:=lst n fun i=>if i<k then a else Dat.d0
theorem fillU_len (a:α) (k n:Nat):(fillU a k n).length=n:=lst_len _ _
theorem fillU_get {a:α}{k n i:Nat}(h:i<n):(fillU a k n).getD i Dat.d0=if i<k then a else Dat.d0:=lst_get h
theorem fillU_done (a:α) {k n:Nat}(h:n≤k):fillU a k n=List.replicate n a:=by
 refine lst_eq (d:=Dat.d0) (by simp) fun i hi=> ?_
 rw[if_pos (by omega),List.getD_eq_getElem?_getD,List.getElem?_replicate,if_pos hi]
 rfl
theorem fillU_step {a:α}{k m n i:Nat}(hm:m≤k) (hi:i<n) (hkn:k+m≤n):(fillU a (k+m) n).getD i Dat.d0=bif decide (k≤i∧i<k+m)then(fillU a k n).getD (i-k) Dat.d0 else(fillU a k n).getD i Dat.d0:=by
 rw[fillU_get hi,fillU_get hi,fillU_get (show i-k<n by omega)]
 by_cases h1:k≤i∧i<k+m
 ·rw[if_pos (by omega),if_pos (by omega)];simp[h1]
 ·simp only[h1,decide_false,cond_false]
  by_cases h2:i<k
  ·rw[if_pos (by omega),if_pos h2]
  ·rw[if_neg (by omega),if_neg h2]
end
end Go.Abs
namespace Go.Abs
open Go
variable [Kd]
section
variable {α:Type} [Dat α]
end
end Go.Abs
namespace Go.Abs
open Go
variable [Kd]
section
variable {P:Program}{w w':World}{M M':Nat→Prop}{β β':Nat→Option Nat}{cp cp':Nat→Nat}{H:Hp}{d:List Nat}
end
end Go.Abs
namespace Go.Abs
open Go
def idsO:AObj→List Nat
 | .blk cs=>idsL cs
 | .nst _ _ _ _ (some (_,cs))=>idsL cs
 |_=>[]
def addN (b:Nat) (l:List Nat):List Nat:=match memN b l with|true=>l|false=>l++[b]
def addNs:List Nat→List Nat→List Nat
 |[],l=>l
 |b::r,l=>addNs r (addN b l)
def idsOs (H:Hp):List Nat→List Nat
 |[]=>[]
 |b::r=>idsO (nth .dead H b)++idsOs H r
def reach (H:Hp) (A:List AV):List Nat:=
 let l1:=addNs (idsL A) []
 let l2:=addNs (idsOs H l1) l1
 addNs (idsOs H l2) l2
def numb:Nat→List Nat→As
 |_,[]=>[]
 |i,b::r=>(i,b)::numb (Nat.succ i) r
def deads:Nat→Hp
 |0=>[]
 |n+1=> .dead::deads n
def numBack (i:Nat):List Nat→As
 |[]=>[]
 |b::r=>(b,i)::numBack (Nat.succ i) r
def numNew (N m:Nat):Nat→As
 |0=>[]
 |n+1=>(N,m)::numNew (Nat.succ N) (Nat.succ m) n
def appAs:As→As→As
 |[],l=>l
 |x::r,l=>x::appAs r l
def mapK (as:As):List Nat→List Nat
 |[]=>[]
 |i::r=>match bwd i as with|some b=>b::mapK as r|none=>mapK as r
def killAO (kl:List Nat):AObj→AObj
 | .blk cs=> .blk (cs.map (killAll kl))
 | .nst e sz n F op=> .nst e sz n F (opMap (List.map (killAll kl)) op)
 |o=>o
def mergeO (as:As) (H':Hp) (kl:List Nat) (c:Nat) (y:AObj):AObj:=match fwd c as with
 |some i=>match nth .dead H' i with
  | .blk cs=> .blk (renL as cs)
  | .nst e sz n F op=> .nst e sz n F (opMap (renL as) op)
  |o=>o
 |none=>killAO kl y
def mergeH (as:As) (H':Hp) (kl:List Nat):Nat→Hp→Hp
 |_,[]=>[]
 |c,y::r=>mergeO as H' kl c y::mergeH as H' kl (Nat.succ c) r
def subN':Nat→Nat→Nat
 |n,0=>n
 |0,_+1=>0
 |n+1,m+1=>subN' n m
def backAs (H:Hp) (bs:List Nat) (H':Hp):As:=appAs (numBack 0 bs) (numNew (len H) (len bs) (subN' (len H') (len bs)))
def subCon (c:Con):Con:=fun A H K=>
 match okAs (numb 0 (reach H A))with
 |true=>c (renL (numb 0 (reach H A)) A) (selH (numb 0 (reach H A)) H 0 (deads (len (reach H A)))) fun r H' kl=>
  match okAs (backAs H (reach H A) H'),below' (len (H++deads (subN' (len H') (len (reach H A))))) (backAs H (reach H A) H')with
  |true,true=>K (ren (backAs H (reach H A) H') r) (mergeH (backAs H (reach H A) H') H' (mapK (backAs H (reach H A) H') kl) 0 (H++deads (subN' (len H') (len (reach H A))))) (mapK (backAs H (reach H A) H') kl)
  |_,_=>Bad 710
 |false=>Bad 711
theorem numb_fwd:∀(l:List Nat) (i j b:Nat),fwd j (numb i l)=some b→i≤j∧j<i+l.length
 |[],i,j,b,h=>by simp[numb,fwd]at h
 |x::r,i,j,b,h=>by
  simp only[numb,fwd]at h
  split at h
  ·rename_i q
   have:=beq_iff.1 q
   simp only[List.length_cons];omega
  ·have:=numb_fwd r (Nat.succ i) j b h
   simp only[List.length_cons];omega
theorem deads_len:∀n,(deads n).length=n
 |0=>rfl
 |n+1=>by simp[deads,deads_len n]
theorem deads_get:∀(n j:Nat) (o:AObj),(deads n)[j]? =some o→o= .dead
 |0,j,o,h=>by simp[deads]at h
 |n+1,0,o,h=>by simp[deads]at h;exact h.symm
 |n+1,j+1,o,h=>deads_get n j o (by simpa[deads]using h)
theorem mergeH_len {as:As}{H':Hp}{kl:List Nat}:∀(H:Hp) (c:Nat),(mergeH as H' kl c H).length=H.length
 |[],_=>rfl
 |y::r,c=>by simp[mergeH,mergeH_len r]
theorem mergeH_get {as:As}{H':Hp}{kl:List Nat}:∀(H:Hp) (c j:Nat) (o:AObj),(mergeH as H' kl c H)[j]? =some o→∃y,H[j]? =some y∧o=mergeO as H' kl (c+j) y
 |[],_,_,_,h=>by simp[mergeH]at h
 |y::r,c,0,o,h=>by simp[mergeH]at h;exact⟨y,rfl,by rw[←h];rfl⟩
 |y::r,c,j+1,o,h=>by
  obtain⟨z,h1,h2⟩:=mergeH_get r (Nat.succ c) j o (by simpa[mergeH]using h)
  exact⟨z,by simpa using h1,by rw[h2,show Nat.succ c+j=c+(j+1) by omega]⟩
theorem fwd_app:∀(l m:As) (j:Nat),fwd j (appAs l m)=match fwd j l with|some b=>some b|none=>fwd j m
 |[],m,j=>by simp[appAs,fwd]
 |(i,c)::r,m,j=>by
  simp only[appAs,fwd]
  split
  ·rfl
  ·exact fwd_app r m j
theorem numBack_of:∀(l:List Nat) (i b j:Nat),fwd b (numBack i l)=some j→fwd j (numb i l)=some b
 |[],i,b,j,h=>by simp[numBack,fwd]at h
 |x::r,i,b,j,h=>by
  simp only[numBack,fwd]at h
  simp only[numb,fwd]
  split at h
  ·rename_i q
   cases h
   rw[beq_iff.2 rfl,beq_iff.1 q]
  ·have ih:=numBack_of r (Nat.succ i) b j h
   have:=(numb_fwd r _ _ _ ih).1
   split
   ·rename_i q;have:=beq_iff.1 q;omega
   ·exact ih
theorem numBack_some:∀(l:List Nat) (i j b:Nat),fwd j (numb i l)=some b→fwd b (numBack i l)≠none
 |[],i,j,b,h=>by simp[numb,fwd]at h
 |x::r,i,j,b,h=>by
  simp only[numb,fwd]at h
  simp only[numBack,fwd]
  split
  ·simp
  ·rename_i q
   split at h
   ·rename_i q2
    cases h
    rw[beq_iff.2 rfl]at q;cases q
   ·exact numBack_some r (Nat.succ i) j b h
theorem numNew_ge:∀(n N m b j:Nat),fwd b (numNew N m n)=some j→N≤b
 |0,N,m,b,j,h=>by simp[numNew,fwd]at h
 |n+1,N,m,b,j,h=>by
  simp only[numNew,fwd]at h
  split at h
  ·rename_i q;have:=beq_iff.1 q;omega
  ·have:=numNew_ge n (Nat.succ N) (Nat.succ m) b j h;omega
variable [Kd]
theorem mapK_mem {as:As}{i b:Nat}(hb:bwd i as=some b):∀{kl:List Nat},memN b (mapK as kl)=false→memN i kl=false
 |[],_=>rfl
 |k::r,h=>by
  simp only[mapK]at h
  rw[memN_cons,Bool.or_eq_false_iff]
  split at h
  ·rename_i c hc
   rw[memN_cons,Bool.or_eq_false_iff]at h
   refine⟨?_,mapK_mem hb h.2⟩
   rw[decide_eq_false_iff_not]
   rintro rfl
   rw[hb]at hc
   cases hc
   simp at h
  ·rename_i hc
   refine⟨?_,mapK_mem hb h⟩
   rw[decide_eq_false_iff_not]
   rintro rfl
   rw[hb]at hc;cases hc
section
variable {P:Program}{f:FuncId}{A:List AV}{H:Hp}{K:Kont}
theorem killAO_live {kl:List Nat}(x:AObj):(killAO kl x).live=x.live:=by cases x<;>rfl
theorem killAO_foot {kl:List Nat}{w:World}{g k:Nat}{x:AObj}(hk:Foot w g (killAO kl x) k):Foot w g x k:=by
 cases x with
 |nst e sz n F op=>exact opMap_foot hk
 |_=>cases hk;exact .self _
theorem mergeO_live {as:As}{H':Hp}{kl:List Nat}{c i:Nat}{y:AObj}(hf:fwd c as=some i) (hl:(mergeO as H' kl c y).live=true):∃x,H'[i]? =some x∧x.live=true∧∀(w:World) (g k:Nat),Foot w g (mergeO as H' kl c y) k→Foot w g x k:=by
 unfold mergeO at hl ⊢
 rw[hf]at hl ⊢
 dsimp only at hl ⊢
 cases hn:nth .dead H' i with
 |dead=>rw[hn]at hl;cases hl
 |blk cs=>exact⟨_,nth_some hn rfl,rfl,fun w g k hk=>by rw[hk.eq nofun];exact .self _⟩
 |vec e sz n f=>exact⟨_,nth_some hn rfl,rfl,fun w g k hk=>hk⟩
 |fz q n f=>exact⟨_,nth_some hn rfl,rfl,fun w g k hk=>hk⟩
 |mp T l=>exact⟨_,nth_some hn rfl,rfl,fun w g k hk=>hk⟩
 |nst e sz n F op=>exact⟨_,nth_some hn rfl,rfl,fun w g k hk=>opMap_foot hk⟩
theorem subCon_ok {c:Con}(hc:∀{A:List AV}{H:Hp}{K:Kont},c A H K→FnOk P f A H K) (hv:subCon c A H K):FnOk P f A H K:=by
 intro w M β cp vs hh hA
 unfold subCon at hv
 split at hv
 case h_2=>cases hv
 rename_i hok
 revert hv hok
 generalize hbs:reach H A=bs
 intro hok hv
 have hN:∀j b,fwd j (numb 0 bs)=some b→j<(deads (len bs)).length:=fun j b h=>by
  have:=(numb_fwd bs 0 j b h).2
  rw[deads_len,len_eq];omega
 have h1:=sel_heap (H0:=deads (len bs)) hh hok hN
 have h2:=renL_rep hok hN A vs.toList hA
 refine(hc hv w M _ _ vs h1 h2).mono ?_
 rintro ex w' ⟨v,r,H',kl,M',β',cp',rfl,hK,hh',hak,hrep⟩
 split at hK
 case h_2=>cases hK
 rename_i hok2 hbl
 revert hK hok2 hbl
 generalize has2:backAs H bs H'=as2
 generalize hH3:H++deads (subN' (len H') (len bs))=H3
 generalize hkB:mapK as2 kl=klB
 intro hok2 hbl hK
 rw[len_eq]at hbl
 have hN2:=below'_fwd hbl
 have hs:=sel_heap (as:=as2) (H0:=H3) hh' hok2 hN2
 have hr:=ren_rep hok2 hN2 r v hrep
 have hH3get:∀(b:Nat) (y:AObj),H3[b]? =some y→H[b]? =some y∨y=AObj.dead:=fun b y hy=>by
  rw[←hH3,List.getElem?_append]at hy
  split at hy
  ·exact .inl hy
  ·exact .inr (deads_get _ _ _ hy)
 let β2:Nat→Option Nat:=fun c=>match fwd c as2 with|some i=>β' i|none=>β c
 let cp2:Nat→Nat:=fun c=>match fwd c as2 with|some i=>cp' i|none=>cp c
 have e2s:∀c i,fwd c as2=some i→β2 c=β' i∧cp2 c=cp' i:=fun c i h=>by simp[β2,cp2,h]
 have e2n:∀c,fwd c as2=none→β2 c=β c∧cp2 c=cp c:=fun c h=>by simp[β2,cp2,h]
 have hold:∀b i,b<H.length→fwd b as2=some i→fwd i (numb 0 bs)=some b:=fun b i hb h=>by
  rw[←has2]at h
  unfold backAs at h
  rw[fwd_app]at h
  split at h
  ·rename_i q;cases h;exact numBack_of bs 0 b i q
  ·have:=numNew_ge _ _ _ _ _ h
   rw[len_eq]at this;omega
 have hin:∀i b,fwd i (numb 0 bs)=some b→fwd b as2≠none:=fun i b h=>by
  rw[←has2]
  unfold backAs
  rw[fwd_app]
  have:=numBack_some bs 0 i b h
  split
  ·simp
  ·rename_i q;exact absurd q this
 have hbH:∀b,β b≠none→b<H.length:=fun b hb=>Nat.lt_of_not_le fun h=>hb (hh.out b h)
 have hsub:∀b i,fwd i (numb 0 bs)=some b→reβ (numb 0 bs) (deads (len bs)).length β i=β b∧recp (numb 0 bs) cp i=cp b:=fun b i h=>reβ_of hok hN (bwd_fwd hok h)
 have hbk:∀b,memN b klB=false→β b≠none→β2 b=β b∧cp2 b=cp b:=fun b hm hb=>by
  cases hf:fwd b as2 with
  |none=>exact e2n b hf
  |some i=>
   have h3:=hold b i (hbH b hb) hf
   have h4:=hsub b i h3
   have h5:memN i kl=false:=mapK_mem (bwd_fwd hok2 hf) (by rw[hkB];exact hm)
   have h6:=hak.bk i h5 (by rw[h4.1];exact hb)
   rw[(e2s b i hf).1,(e2s b i hf).2,h6.1,h6.2,h4.1,h4.2]
   exact⟨rfl,rfl⟩
 have hext:Ext w M (Blks w β H) w' M':=⟨hak.ext.os,hak.ext.tape,hak.ext.output,hak.ext.size,fun k hk hB=>hak.ext.block k hk fun h=>hB (sel_blks h),fun k hk hB=>hak.ext.sub k hk fun h=>hB (sel_blks h),hak.ext.new⟩
 have hnewg:∀i x g k,H'[i]? =some x→x.live=true→β' i=some g→Foot w' g x k→(∃b y g,fwd b as2≠none∧H[b]? =some y∧y.live=true∧β b=some g∧Foot w g y k)∨w.heap.size≤k:=by
  intro i x g k hx hl hg hk
  rcases hak.own k ⟨i,x,g,hx,hl,hg,hk⟩with⟨j,o,gj,hj,ho,hgj,hkj⟩|h
  ·obtain⟨y,hy,rfl⟩:=selH_get (deads (len bs)) 0 j o hj
   rw[Nat.zero_add]at ho hkj
   obtain⟨b,z,q1,q2,q3,q4,q5⟩:=selO_out (List.getElem?_eq_some_iff.1 hy).1 ho hgj hkj
   exact .inl ⟨b,z,gj,hin j b q1,q2,q3,q4,q5⟩
  ·exact .inr h
 have hget:∀b o,(mergeH as2 H' klB 0 H3)[b]? =some o→∃y,H3[b]? =some y∧o=mergeO as2 H' klB b y:=fun b o h=>by
  obtain⟨y,h3,h4⟩:=mergeH_get H3 0 b o h
  exact⟨y,h3,by rw[h4,Nat.zero_add]⟩
 have hsame:∀b y g k,fwd b as2=none→H[b]? =some y→y.live=true→β b=some g→Foot w g y k→w'.heap[k]? =w.heap[k]? :=by
  intro b y g k hf hy hl hg hk
  refine hak.ext.block k (hh.foot hy hl hg hk).2 ?_
  rintro⟨j,o,gj,hj,ho,hgj,hkj⟩
  obtain⟨z,hz,rfl⟩:=selH_get (deads (len bs)) 0 j o hj
  rw[Nat.zero_add]at ho hkj
  obtain⟨b',z',q1,q2,q3,q4,q5⟩:=selO_out (List.getElem?_eq_some_iff.1 hz).1 ho hgj hkj
  have:=hh.inj2 b b' y z' g gj k hy q2 hl q3 hg q4 hk q5
  subst this
  exact hin j b q1 hf
 have hsubk:∀b y g k,fwd b as2=none→H[b]? =some y→y.live=true→β b=some g→Foot w g y k→M k→M' k:=by
  intro b y g k hf hy hl hg hk
  refine hak.ext.sub k (hh.foot hy hl hg hk).2 ?_
  rintro⟨j,o,gj,hj,ho,hgj,hkj⟩
  obtain⟨z,hz,rfl⟩:=selH_get (deads (len bs)) 0 j o hj
  rw[Nat.zero_add]at ho hkj
  obtain⟨b',z',q1,q2,q3,q4,q5⟩:=selO_out (List.getElem?_eq_some_iff.1 hz).1 ho hgj hkj
  have:=hh.inj2 b b' y z' g gj k hy q2 hl q3 hg q4 hk q5
  subst this
  exact hin j b q1 hf
 have back:∀b y g k,fwd b as2=none→H[b]? =some y→y.live=true→β b=some g→Foot w' g (killAO klB y) k→Foot w g y k:=fun b y g k hf hy hl hg hk=>
  foot_keep (hh.obj b y hy) hak.keep hg (fun k hk=>⟨hsame b y g k hf hy hl hg hk,hsubk b y g k hf hy hl hg hk⟩) (killAO_foot hk)
 have hown:∀k,Blks w' β2 (mergeH as2 H' klB 0 H3) k→Blks w β H k∨w.heap.size≤k:=by
  rintro k ⟨b,o,g,hb,hl,hg,hk⟩
  obtain⟨y,hy,rfl⟩:=hget b o hb
  cases hf:fwd b as2 with
  |some i=>
   obtain⟨x,hx,hxl,hxf⟩:=mergeO_live hf hl
   rw[(e2s b i hf).1]at hg
   rcases hnewg i x g k hx hxl hg (hxf w' g k hk)with⟨b',y',g',_,h3,h4,h5,h6⟩|h
   ·exact .inl ⟨b',y',g',h3,h4,h5,h6⟩
   ·exact .inr h
  |none=>
   simp only[mergeO,hf]at hl hk
   rw[killAO_live]at hl
   rw[(e2n b hf).1]at hg
   rcases hH3get b y hy with h3|rfl
   ·exact .inl ⟨b,y,g,h3,hl,hg,back b y g k hf h3 hl hg hk⟩
   ·cases hl
 have hAK:AK w M β cp H w' M' β2 cp2 (mergeH as2 H' klB 0 H3) klB:=⟨hak.keep,fun b h3 h4=>hbk b h3 h4,hext,hown⟩
 refine⟨v,_,_,_,M',β2,cp2,rfl,hK,⟨fun b hb=> ?_,fun b o hb=> ?_,fun b b' o o' g1 g2 k hb hb' hl hl' hg hg' hk hk'=> ?_,hh'.dom⟩,hAK, ?_⟩
 ·rw[mergeH_len]at hb
  have hf:fwd b as2=none:=by
   cases hf:fwd b as2 with
   |none=>rfl
   |some i=>have:=hN2 b i hf;omega
  rw[(e2n b hf).1]
  refine hh.out b ?_
  rw[←hH3,List.length_append]at hb
  omega
 ·obtain⟨y,hy,rfl⟩:=hget b o hb
  have hbl3:=(List.getElem?_eq_some_iff.1 hy).1
  cases hf:fwd b as2 with
  |some i=>
   have e1:(selH as2 H' 0 H3)[b]? =some (selO as2 H' b y):=by
    have h3:b<(selH as2 H' 0 H3).length:=by rw[selH_len];exact hbl3
    obtain⟨y',hy',h4⟩:=selH_get H3 0 b _ (List.getElem?_eq_getElem h3)
    rw[List.getElem?_eq_getElem h3,h4,Nat.zero_add]
    rw[hy]at hy';cases hy';rfl
   have e2:selO as2 H' b y=mergeO as2 H' klB b y:=by simp only[selO,mergeO,hf];cases nth AObj.dead H' i<;>rfl
   have h3:=hs.obj b _ e1
   rw[e2]at h3
   have e3:∀c,reβ as2 H3.length β' c≠none→β2 c=reβ as2 H3.length β' c∧cp2 c=recp as2 cp' c:=fun c hc=>by
    cases hfc:fwd c as2 with
    |none=>exfalso;apply hc;simp[reβ,hfc]
    |some j=>
     have:=hN2 c j hfc
     rw[(e2s c j hfc).1,(e2s c j hfc).2]
     simp[reβ,recp,hfc,this]
   refine h3.keep (fun k hk hM=>⟨rfl,hM⟩) e3 (fun h0=> ?_) fun g k hg hk=>⟨rfl,id⟩
   simp only[reβ,hbl3,if_true,hf]at h0
   rw[(e2s b i hf).1,h0]
  |none=>
   have e0:mergeO as2 H' klB b y=killAO klB y:=by simp only[mergeO,hf]
   rw[e0]
   rcases hH3get b y hy with h3|rfl
   ·have h4:=hh.obj b y h3
    cases y with
    |dead=>trivial
    |blk cs=>
     obtain⟨g,cur,t,g1,g2,g3,g4,g5⟩:=h4
     refine⟨g,cur,t,(e2n b hf).1.trans g1,hsubk b _ g g hf h3 rfl g1 (.self _) g2,(hsame b _ g g hf h3 rfl g1 (.self _)).trans g3,⟨by simpa using g4.1,fun j x hj=> ?_⟩,⟨g5.1,by rw[(e2n b hf).2];exact g5.2⟩⟩
     rw[List.getElem?_map]at hj
     cases hx:cs[j]? with
     |none=>rw[hx]at hj;cases hj
     |some z=>
      rw[hx]at hj
      cases hj
      exact hAK.rep (g4.2 j z hx)
    |vec e sz n f=>
     rcases h4 with⟨g1,g2⟩|⟨g,cur,g1,g2,g3,g4,g5,g6,g7,g8,g9⟩
     ·exact .inl ⟨(e2n b hf).1.trans g1,g2⟩
     ·refine .inr ⟨g,cur,(e2n b hf).1.trans g1,hsubk b _ g g hf h3 rfl g1 (.self _) g2,(hsame b _ g g hf h3 rfl g1 (.self _)).trans g3,by rw[(e2n b hf).2];exact g4,by rw[(e2n b hf).2];exact g5,by rw[(e2n b hf).2];exact g6,by rw[(e2n b hf).2];exact g7,g8,fun i j x hi hj=>(g9 i j x hi hj).keep hak.keep⟩
    |fz q n f=>
     obtain⟨g,cur,t,fr,g1,g2,g3,g4,g5,g6,g7⟩:=h4
     exact⟨g,cur,t,fr,(e2n b hf).1.trans g1,hsubk b _ g g hf h3 rfl g1 (.self _) g2,(hsame b _ g g hf h3 rfl g1 (.self _)).trans g3,g4,⟨g5.1,by rw[(e2n b hf).2];exact g5.2⟩,g6,fun i j x hi hj=>(g7 i j x hi hj).keep hak.keep⟩
    |mp T l=>
     obtain⟨g,es,clk,g1,g2,g3,g4⟩:=h4
     exact⟨g,es,clk,(e2n b hf).1.trans g1,hsubk b _ g g hf h3 rfl g1 (.self _) g2,(hsame b _ g g hf h3 rfl g1 (.self _)).trans g3,g4⟩
    |nst e sz n F op=>
     rcases h4 with⟨g1,g2,g3⟩|⟨g,cur,g1,r⟩
     ·exact .inl ⟨(e2n b hf).1.trans g1,g2,by rw[g3];rfl⟩
     ·refine .inr ⟨g,cur,(e2n b hf).1.trans g1, ?_⟩
      rw[(e2n b hf).2]
      exact NstRel.kept r hak.keep (fun k hk=>⟨hsame b _ g k hf h3 rfl g1 hk,hsubk b _ g k hf h3 rfl g1 hk⟩) (fun l vs hL=>⟨by simpa using hL.1,fun j x hj=>by
       rw[List.getElem?_map]at hj
       cases hx:l[j]? with
       |none=>rw[hx]at hj;cases hj
       |some z=>
        rw[hx]at hj
        cases hj
        exact hAK.rep (hL.2 j z hx)⟩)
   ·trivial
 ·obtain⟨y,hy,rfl⟩:=hget b o hb
  obtain⟨y',hy',rfl⟩:=hget b' o' hb'
  have clash:∀b i y b' y' g1 g2,fwd b as2=some i→(mergeO as2 H' klB b y).live=true→β2 b=some g1→Foot w' g1 (mergeO as2 H' klB b y) k→fwd b' as2=none→H3[b']? =some y'→(mergeO as2 H' klB b' y').live=true→β2 b'=some g2→Foot w' g2 (mergeO as2 H' klB b' y') k→False:=by
   intro b i y b' y' g1 g2 hf hl hg hk hf' hy' hl' hg' hk'
   obtain⟨x,hx,hxl,hxf⟩:=mergeO_live hf hl
   rw[(e2s b i hf).1]at hg
   rw[(e2n b' hf').1]at hg'
   simp only[mergeO,hf']at hl' hk'
   rw[killAO_live]at hl'
   rcases hH3get b' y' hy' with h3|rfl
   ·have hk':=back b' y' g2 k hf' h3 hl' hg' hk'
    rcases hnewg i x g1 k hx hxl hg (hxf w' g1 k hk)with⟨b2,y2,g3,h4,h5,h6,h7,h8⟩|h
    ·have:=hh.inj2 b' b2 y' y2 g2 g3 k h3 h5 hl' h6 hg' h7 hk' h8
     subst this
     exact h4 hf'
    ·have:=(hh.foot h3 hl' hg' hk').2;omega
   ·cases hl'
  cases hf:fwd b as2 with
  |some i=>
   cases hf':fwd b' as2 with
   |some i'=>
    obtain⟨x,hx,hxl,hxf⟩:=mergeO_live hf hl
    obtain⟨x',hx',hxl',hxf'⟩:=mergeO_live hf' hl'
    rw[(e2s b i hf).1]at hg
    rw[(e2s b' i' hf').1]at hg'
    have:=hh'.inj2 i i' x x' g1 g2 k hx hx' hxl hxl' hg hg' (hxf w' g1 k hk) (hxf' w' g2 k hk')
    subst this
    have p1:=bwd_fwd hok2 hf
    have p2:=bwd_fwd hok2 hf'
    rw[p1]at p2
    cases p2
    rfl
   |none=>exact(clash b i y b' y' g1 g2 hf hl hg hk hf' hy' hl' hg' hk').elim
  |none=>
   cases hf':fwd b' as2 with
   |some i'=>exact(clash b' i' y' b y g2 g1 hf' hl' hg' hk' hf hy hl hg hk).elim
   |none=>
    rw[(e2n b hf).1]at hg
    rw[(e2n b' hf').1]at hg'
    simp only[mergeO,hf]at hl hk
    simp only[mergeO,hf']at hl' hk'
    rw[killAO_live]at hl hl'
    rcases hH3get b y hy with h3|rfl
    ·rcases hH3get b' y' hy' with h4|rfl
     ·exact hh.inj2 b b' y y' g1 g2 k h3 h4 hl hl' hg hg' (back b y g1 k hf h3 hl hg hk) (back b' y' g2 k hf' h4 hl' hg' hk')
     ·cases hl'
    ·cases hl
 ·refine hr.keep (fun k hk hM=>⟨rfl,hM⟩) fun c hc=> ?_
  cases hfc:fwd c as2 with
  |none=>exfalso;apply hc;simp[reβ,hfc]
  |some j=>
   have:=hN2 c j hfc
   rw[(e2s c j hfc).1,(e2s c j hfc).2]
   simp[reβ,recp,hfc,this]
end
end Go.Abs
namespace Go.Abs
open Go
variable [Kd]
end Go.Abs
namespace Go.Abs
open Go Go.RowKit
variable [Kd]
theorem repL_1 {w:World}{M:Nat→Prop}{β:Nat→Option Nat}{cp:Nat→Nat}{x:AV}{vs:List Value}(h:RepL w M β cp [x] vs):∃v,vs=[v]∧Rep w M β cp x v:=by
 obtain⟨h1,h2⟩:=h
 match vs,h1 with
 |[v],_=>exact⟨v,rfl,by simpa using h2 0 x rfl⟩
theorem repL_2 {w:World}{M:Nat→Prop}{β:Nat→Option Nat}{cp:Nat→Nat}{x y:AV}{vs:List Value}(h:RepL w M β cp [x,y] vs):∃u v,vs=[u,v]∧Rep w M β cp x u∧Rep w M β cp y v:=by
 obtain⟨h1,h2⟩:=h
 match vs,h1 with
 |[u,v],_=>exact⟨u,v,rfl,by simpa using h2 0 x rfl,by simpa using h2 1 y rfl⟩
theorem repL_3 {w:World}{M:Nat→Prop}{β:Nat→Option Nat}{cp:Nat→Nat}{x y z:AV}{vs:List Value}(h:RepL w M β cp [x,y,z] vs):∃u v t,vs=[u,v,t]∧Rep w M β cp x u∧Rep w M β cp y v∧Rep w M β cp z t:=by
 obtain⟨h1,h2⟩:=h
 match vs,h1 with
 |[u,v,t],_=>exact⟨u,v,t,rfl,by simpa using h2 0 x rfl,by simpa using h2 1 y rfl,by simpa using h2 2 z rfl⟩
theorem fnOk_kit {P:Program}{f:FuncId}{A:List AV}{K:Kont}{r:AV}(hK:K r [] [])
  (h:∀(w:World) (M:Nat→Prop) (β:Nat→Option Nat) (cp:Nat→Nat) (vs:List Value),Dom w M→RepL w M β cp A vs→Calls P f vs.toArray w fun e w'=>∃v,e= .returned v∧RepC w' M r v∧Below w.heap.size w w'):FnOk P f A [] K:=by
 intro w M β cp vs hh hA
 refine(h w M β cp vs.toList hh.dom hA).mono ?_
 rintro e w' ⟨v,rfl,hr,hb⟩
 have hsame:∀j,j<w.heap.size→w'.heap[j]? =w.heap[j]? :=hb.block
 obtain⟨g1,g2⟩:=hh.grow hb.size hsame
 exact⟨_,_,_,_,M,β,cp,rfl,hK,g1,⟨fun j hj hM=>⟨hsame j hj,hM⟩,fun _ _ _=>⟨rfl,rfl⟩,⟨hb.os,hb.tape,hb.output,hb.size,fun j hj _=>hsame j hj,fun _ _ _ h=>h,fun _ h=> .inl h⟩,fun j hj=> .inl (g2 j hj)⟩,.c hr⟩
theorem fnOk_kitO {P:Program}{f:FuncId}{A:List AV}{K:Kont}{t:TypeId}{sz:Nat}{n:Th Nat}{F:Th Nat→List AV}(hK:K (.own 0 n) [.vec t sz n F] [])
  (h:∀(w:World) (M:Nat→Prop) (β:Nat→Option Nat) (cp:Nat→Nat) (vs:List Value),Dom w M→RepL w M β cp A vs→Calls P f vs.toArray w fun e w'=>∃g cur,e= .returned (.slice (some ⟨g,0,none⟩) (n ()) (n ()))∧w.heap.size≤g∧w'.heap[g]? =some (.cells cur t (0,0))∧Below w.heap.size w w'∧
    cur.size=n ()*sz∧n ()≤maxLen∧(∀k,k<n ()*sz→(cur.getD k undef).oneCell'=true)∧(∀i:Nat,i<n ()→(F fun _=>i).length=sz)∧∀(M':Nat→Prop) (i j:Nat) (x:AV),i<n ()→(F fun _=>i)[j]? =some x→RepC w' M' x (cur.getD (i*sz+j) undef)):FnOk P f A [] K:=by
 intro w M β cp vs hh hA
 refine(h w M β cp vs.toList hh.dom hA).mono ?_
 rintro e w' ⟨g,cur,rfl,hg,hc,hb,hs,hm,ho,hl,hr⟩
 have hsame:∀j,j<w.heap.size→w'.heap[j]? =w.heap[j]? :=hb.block
 have hlt:g<w'.heap.size:=(Array.getElem?_eq_some_iff.1 hc).1
 have hβ:∀b,β b=none:=fun b=>hh.out b (Nat.zero_le _)
 have hobj:ObjRel w' (fun k=>M k∨k=g) (fun b=>if b=0 then some g else none) (fun b=>if b=0 then n ()else cp b) 0 (.vec t sz n F):=
  .inr ⟨g,cur,rfl,.inr rfl,hc,hs,⟨ho,fun i j h1 h2 _=>absurd h2 (by show¬i<n ();omega)⟩,Nat.le_refl _,hm,hl,fun i j x hi hx=>hr _ i j x hi hx⟩
 obtain⟨g1,g2⟩:=HeapRel.put (w':=w') (M':=fun k=>M k∨k=g) (β':=fun b=>if b=0 then some g else none) (cp':=fun b=>if b=0 then n ()else cp b) (h':=[.vec t sz n F]) (nid:=0) (O:= .vec t sz n F) (Kp:=fun _=>False) hh
  (fun c o' hc=>by
    match c,hc with
    |0,hc=>exact .inl ⟨rfl,by simpa using hc.symm⟩)
  (fun c hc=>⟨by rw[if_neg hc,hβ],by rw[if_neg hc]⟩) (fun c hc=>⟨by simp at hc;omega,Nat.zero_le _⟩) (hβ 0)
  (fun k hk hM=>⟨hsame k hk,fun q=>q.elim hM fun q=>by omega⟩) hobj (fun g' k hg' _ hk=>by cases hk;rfl)
  (fun c y g k hK=>hK.elim) (fun g0 _ _ c y g hK=>hK.elim) (fun k hk=>hk.elim (fun q=>Nat.lt_of_lt_of_le (hh.dom.lt k q) hb.size) fun q=>q▸hlt)
 refine⟨_,_,_,_,_,_,_,rfl,hK,g1,⟨fun j hj hM=>⟨hsame j hj,fun q=>q.elim hM fun q=>by omega⟩,fun b _ hb=>absurd (hβ b) hb,⟨hb.os,hb.tape,hb.output,hb.size,fun j hj _=>hsame j hj,fun _ _ _ h=> .inl h,fun k h=>h.elim .inl fun q=> .inr (by omega)⟩,fun j hj=> ?_⟩,.own 0 n g rfl (Nat.le_refl _)⟩
 rcases g2 j hj with⟨q,-⟩|q
 ·refine .inr ?_
  have:g=j:=by simpa using q
  omega
 ·exact .inl q
end Go.Abs
