/- An owner's times, as a set. -/
import Derived.Test.YtiaiifcgbjlfoaaGreatDoorPTab
import Derived.Test.YtiaiifcgbjlfoaaGreatDoorIndP
import Derived.Test.YtiaiifcgbjlfoaaGreatDoorOfQ
set_option linter.all false
namespace Go.Proofs.YtiaiifcgbjlfoaaGreatDoor
open Go Go.Abs
def qXl (t:Table) (y:Int):Int:=(atV t (y.tmod t.frame)).1
end Go.Proofs.YtiaiifcgbjlfoaaGreatDoor

namespace Go.Proofs.YtiaiifcgbjlfoaaGreatDoor
open Go Go.Abs
theorem qSw {f:Int}:∀{l:List Window}{e:Int},okW f e l=true→∀x∈l,e≤x.frm
 |[],_,_=>by simp
 |w::r,e,h=>by
  rw[okW,Bool.and_eq_true]at h
  have hw:=qCg.1 h.1
  intro x hx
  rcases List.mem_cons.1 hx with rfl|hx
  ·omega
  ·have:=qSw h.2 x hx;omega
def tmL (n:Int):List Window→List Span
 |[]=>[]
 |w::r=>if w.owner=n then⟨w.frm,w.frm+w.long⟩::tmL n r else tmL n r
theorem qMl {n:Int}{l:List Window}{k:Nat}(hk:k<l.length):tmL n (l.drop k)=if(l.getD k Dat.d0).owner=n then⟨(l.getD k Dat.d0).frm,(l.getD k Dat.d0).frm+(l.getD k Dat.d0).long⟩::tmL n (l.drop (k+1))else tmL n (l.drop (k+1)):=by
 rw[qX Dat.d0 hk,tmL]
theorem qIr {n:Int}{x:Span}:∀{l:List Window},x∈tmL n l→∃w∈l,x=⟨w.frm,w.frm+w.long⟩∧w.owner=n
 |[],h=>by simp[tmL]at h
 |w::r,h=>by
  rw[tmL]at h
  by_cases hn:w.owner=n
  ·rw[if_pos hn]at h
   rcases List.mem_cons.1 h with rfl|h
   ·exact⟨w,by simp,rfl,hn⟩
   ·obtain⟨z,hz,h2⟩:=qIr h
    exact⟨z,by simp[hz],h2⟩
  ·rw[if_neg hn]at h
   obtain⟨z,hz,h2⟩:=qIr h
   exact⟨z,by simp[hz],h2⟩
theorem qPB {n:Int}:∀{l:List Window},(tmL n l).length≤l.length
 |[]=>Nat.le_refl _
 |w::r=>by
  have:=qPB (n:=n) (l:=r)
  rw[tmL]
  split<;>simp only[List.length_cons]<;>omega
theorem qSx {n f y:Int}(hn:0≤n):∀{l:List Window}{e:Int},okW f e l=true→inB (tmL n l) y=decide ((atW f y l).1=n)
 |[],_,_=>by
  rw[tmL,atW,decide_eq_false (by show¬(-1:Int)=n;omega)];rfl
 |w::r,e,h=>by
  rw[okW,Bool.and_eq_true]at h
  have hw:=qCg.1 h.1
  have ih:=qSx (n:=n) (y:=y) hn h.2
  have hr:y<w.frm+w.long→inB (tmL n r) y=false:=fun hy=>by
   apply Bool.eq_false_iff.2
   intro q
   obtain⟨x,hx,q1,q2⟩:=qDN.1 q
   obtain⟨z,hz,rfl,_⟩:=qIr hx
   have:=qSw h.2 z hz
   have q1:z.frm≤y:=q1
   omega
  rw[tmL,atW]
  by_cases h1:y<w.frm
  ·rw[if_pos h1,decide_eq_false (by show¬(-1:Int)=n;omega)]
   split
   ·rw[qCI,hr (by omega),Bool.or_false,decide_eq_false (by show¬w.frm≤y;omega)];rfl
   ·exact hr (by omega)
  ·rw[if_neg h1]
   by_cases h2:y<w.frm+w.long
   ·rw[if_pos h2]
    split
    ·rename_i hq
     rw[qCI,decide_eq_true (by show w.frm≤y;omega),decide_eq_true h2,decide_eq_true hq];rfl
    ·rename_i hq
     rw[hr h2,decide_eq_false hq]
   ·rw[if_neg h2]
    split
    ·rw[qCI,ih,decide_eq_false (show¬y<w.frm+w.long from h2),Bool.and_false,Bool.false_or]
    ·exact ih
theorem qUo {n f:Int}{l:List Window}(h:okW f 0 l=true):∀x∈tmL n l,¬qGC f x:=by
 intro x hx
 obtain⟨w,hw,rfl,_⟩:=qIr hx
 have:=qCg.1 (qKR (Int.le_refl 0) h w hw)
 unfold qGC
 show¬(w.frm<0∨w.frm+w.long<w.frm∨f<w.frm+w.long)
 omega
def qAw (t:Table) (n:Int):Set×Int:=if qBJ t=0 then(if ownB n=true then ofV t.frame (tmL n t.windows)else(⟨0,[]⟩,1))else(⟨0,[]⟩,qBJ t)
structure TmOk (t:Table) (n:Int):Prop where
 e:(qAw t n).2=0
 rt:Right (qAw t n).1
 sz:(qAw t n).1.size=t.frame
 inn:∀y,inB (qAw t n).1.spans y=decide ((atW t.frame y t.windows).1=n)
 of:ofV t.frame (tmL n t.windows)=qAw t n
theorem qFC {t:Table}(h:RightT t) {n:Int}(hn:ownB n=true):TmOk t n:=by
 have hb:0≤n:=by unfold ownB at hn;have:=of_decide_eq_true hn;omega
 have e:qAw t n=ofV t.frame (tmL n t.windows):=by rw[qAw,if_pos (qBA.2 h),if_pos hn]
 obtain⟨o,o1,o2,o3,o4⟩:=qSv (qUo (n:=n) h.ok)
 have s1:=h.s1
 have s2:=h.s2
 have hl:=qPB (n:=n) (l:=t.windows)
 have hl2:=h.len
 have ev:=qIq (show¬(t.frame<1∨1000000<t.frame) by omega) (by omega) o1
 have e0:(ofV t.frame (tmL n t.windows)).2=0:=by rw[ev]
 obtain⟨q1,q2,q3,q4⟩:=qRu e0
 exact⟨by rw[e];exact e0,by rw[e];exact q1,by rw[e];exact q2,fun y=>by rw[e,q4,qSx hb h.ok],e.symm⟩
theorem qRv {t:Table}(h:RightT t) {y:Int}(hy:0≤y):qXl t y=(atW t.frame (y%t.frame) t.windows).1:=by
 unfold qXl atV
 rw[Int.tmod_eq_emod_of_nonneg hy]
theorem qM8 {t:Table}(h:RightT t) {n:Int}(hn:ownB n=true) {y:Int}(hy:0≤y):qCl (qAw t n).1 (y+1)=qCl (qAw t n).1 y+if qXl t y=n then 1 else 0:=by
 have q:=qFC h hn
 rw[qRt q.rt hy,q.sz,q.inn,qRv h hy]
 simp only[decide_eq_true_eq]
end Go.Proofs.YtiaiifcgbjlfoaaGreatDoor
