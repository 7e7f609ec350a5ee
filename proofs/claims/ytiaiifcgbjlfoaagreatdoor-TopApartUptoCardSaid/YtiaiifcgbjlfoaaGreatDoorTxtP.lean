/- Texts cut into pieces, joined and turned, plain: over lists of bytes. -/
import Derived.Test.YtiaiifcgbjlfoaaGreatDoorTy
import Derived.Lib.Split
import Derived.Lib.SplitLaws
import Derived.Lib.Replace
import Derived.Lib.ParseIntB
import Derived.Lib.ItoaNum
import Derived.Lib.Join
set_option linter.all false
namespace Go.Proofs.YtiaiifcgbjlfoaaGreatDoor
open Go Go.Abs
def qBb (c:UInt8):List UInt8→List (List UInt8)
 |[]=>[[]]
 |b::r=>if b=c then []::qBb c r else match qBb c r with
  |[]=>[[b]]
  |x::t=>(b::x)::t
theorem qJD {c:UInt8}:∀l,qBb c l≠[]
 |[]=>by simp[qBb]
 |b::r=>by
  unfold qBb
  split
  ·simp
  ·split<;>simp
theorem qES {c:UInt8}:∀l,(qBb c l).length=l.count c+1
 |[]=>rfl
 |b::r=>by
  unfold qBb
  split
  ·rename_i h;subst h;simp[qES r]
  ·rename_i h
   rw[List.count_cons_of_ne (by simpa using h),←qES r]
   split
   ·rename_i e;exact absurd e (qJD r)
   ·rename_i e;rw[e];rfl
theorem qG8 {c:UInt8}:∀{a:List UInt8},c∉a→qBb c a=[a]
 |[],_=>rfl
 |b::r,h=>by
  have h1:¬b=c:=fun e=>h (by simp[e])
  have h2:c∉r:=fun e=>h (by simp[e])
  unfold qBb
  rw[if_neg h1,qG8 h2]
theorem qG9 {c:UInt8}:∀{a b:List UInt8},c∉a→qBb c (a++c::b)=a::qBb c b
 |[],b,_=>by rw[List.nil_append,qBb,if_pos rfl]
 |x::r,b,h=>by
  have h1:¬x=c:=fun e=>h (by simp[e])
  have h2:c∉r:=fun e=>h (by simp[e])
  rw[List.cons_append,qBb,if_neg h1,qG9 h2]
theorem index_one {c:UInt8}:∀(l:List UInt8),(c∉l∧Lib.index l [c]= -1)∨∃a b,l=a++c::b∧c∉a∧Lib.index l [c]=(a.length:Nat)
 |[]=> .inl ⟨by simp,rfl⟩
 |x::r=>by
  by_cases h:x=c
  ·subst h
   exact .inr ⟨[],r,rfl,by simp,by rw[Lib.index];simp[List.isPrefixOf]⟩
  ·have hx:Lib.index (x::r) [c]=if Lib.index r [c]== -1 then -1 else Lib.index r [c]+1:=by
    rw[Lib.index]
    have:([c]:List UInt8).isPrefixOf (x::r)=false:=by simp[List.isPrefixOf,Ne.symm h]
    rw[this];simp
   rcases index_one r with⟨h1,h2⟩|⟨a,b,e,h1,h2⟩
   ·refine .inl ⟨fun q=> ?_,by rw[hx,h2];rfl⟩
    rcases List.mem_cons.1 q with q|q
    ·exact h q.symm
    ·exact h1 q
   ·refine .inr ⟨x::a,b,by rw[e,List.cons_append],fun q=> ?_, ?_⟩
    ·rcases List.mem_cons.1 q with q|q
     ·exact h q.symm
     ·exact h1 q
    ·rw[hx,h2,if_neg (by simp)];simp
theorem qHa {c:UInt8}:∀(k:Nat) (l:List UInt8),l.count c=k→Lib.splitK [c] 0 k l=qBb c l
 |0,l,h=>by
  have:c∉l:=List.count_eq_zero.1 h
  rw[qG8 this];rfl
 |k+1,l,h=>by
  rcases index_one (c:=c) l with⟨h1,h2⟩|⟨a,b,e,h1,h2⟩
  ·rw[List.count_eq_zero.2 h1]at h;cases h
  ·subst e
   rw[Lib.splitK,if_neg (by rw[h2];simp),h2,qG9 h1]
   have ha:a.count c=0:=List.count_eq_zero.2 h1
   simp only[List.count_append,List.count_cons_self,ha]at h
   rw[←qHa k b (by omega)]
   simp
theorem qOn {c:UInt8}(s:ByteArray):Lib.splitB ⟨#[c]⟩ 0 (Lib.countB s ⟨#[c]⟩) s=(qBb c s.data.toList).map fun l=>(⟨l.toArray⟩:ByteArray):=by
 have e:=Lib.splitB_data ⟨#[c]⟩ 0 (Lib.countB s ⟨#[c]⟩) s
 have hc:Lib.countB s ⟨#[c]⟩=s.data.toList.count c:=by
  show Lib.count s.data.toList [c]=_
  exact Lib.count_one c _
 rw[hc]at e ⊢
 rw[show(⟨#[c]⟩:ByteArray).data.toList=[c]from rfl,qHa _ _ rfl]at e
 rw[←e,List.map_map]
 have:((fun l:List UInt8=>(⟨l.toArray⟩:ByteArray))∘fun x:ByteArray=>x.data.toList)=id:=by funext x;simp
 rw[this,List.map_id]
def qV4 (c:UInt8) (l:List UInt8):List UInt8:=l.takeWhile (· ≠c)
theorem qOo {c:UInt8}:∀{l:List UInt8},c∉l→qV4 c l=l
 |[],_=>rfl
 |b::r,h=>by
  have h1:b≠c:=fun e=>h (by simp[e])
  have:=qOo (c:=c) (l:=r) fun e=>h (by simp[e])
  unfold qV4 at this ⊢
  rw[List.takeWhile_cons,if_pos (decide_eq_true h1),this]
theorem qQs {c:UInt8}{a b:List UInt8}(h:c∉a):qV4 c (a++c::b)=a:=by
 unfold qV4
 rw[List.takeWhile_append_of_pos]
 ·simp
 ·intro x hx;exact decide_eq_true fun e=>h (e▸hx)
theorem qTe {c:UInt8}(l:List UInt8):(Lib.cut l [c]).1=qV4 c l:=by
 unfold Lib.cut
 rcases index_one (c:=c) l with⟨h1,h2⟩|⟨a,b,e,h1,h2⟩
 ·rw[if_neg (by rw[h2];decide),qOo h1]
 ·rw[if_pos (by rw[h2];omega),h2,e,qQs h1];simp
end Go.Proofs.YtiaiifcgbjlfoaaGreatDoor
