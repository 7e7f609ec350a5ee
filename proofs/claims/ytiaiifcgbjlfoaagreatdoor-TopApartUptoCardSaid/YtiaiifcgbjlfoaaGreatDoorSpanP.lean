/- The program's functions, walked: SpanP. -/
import Derived.Test.YtiaiifcgbjlfoaaGreatDoorSpan
set_option linter.all false
namespace Go.Proofs.YtiaiifcgbjlfoaaGreatDoor
open Go Go.Abs
theorem qUk {t:Int}:∀{l:List Span},(∀x∈l,t≤x.frm∧x.frm<x.to)→part t l=0
 |[],_=>rfl
 |x::r,h=>by
  have h1:=h x (by simp)
  rw[part,qUk fun y hy=>h y (by simp[hy])]
  unfold mx0 mn
  repeat' split
  all_goals omega
theorem qXj {t:Int}:∀{l:List Span},(∀x∈l,x.frm<x.to∧x.to≤t)→part t l=long l
 |[],_=>rfl
 |x::r,h=>by
  have h1:=h x (by simp)
  rw[part,long,qXj fun y hy=>h y (by simp[hy])]
  unfold mx0 mn
  repeat' split
  all_goals omega
theorem qSu {s:Set}(h:Right s) {t:Int}(h0:0≤t):t.tdiv s.size=t/s.size∧t.tmod s.size=t%s.size∧0≤t%s.size∧t%s.size<s.size∧t=t/s.size*s.size+t%s.size:=by
 have:=h.s1
 refine⟨Int.tdiv_eq_ediv_of_nonneg h0,Int.tmod_eq_emod_of_nonneg h0,Int.emod_nonneg _ (by omega),Int.emod_lt_of_pos _ (by omega), ?_⟩
 have:=Int.mul_ediv_add_emod t s.size
 rw[Int.mul_comm]at this;omega
theorem upto_at {s:Set}(h:Right s) {q m:Int}(hq:0≤q) (hm:0≤m) (hm2:m≤s.size):qCl s (q*s.size+m)=q*long s.spans+part m s.spans:=by
 have h1:=h.s1
 have h3:0≤q*s.size:=Int.mul_nonneg hq (by omega)
 obtain⟨e1,e2,-,-,-⟩:=qSu h (t:=q*s.size+m) (by omega)
 unfold qCl
 rw[e1,e2]
 by_cases hlt:m<s.size
 ·rw[show q*s.size+m=m+q*s.size by omega,Int.add_mul_ediv_right _ _ (by omega),Int.add_mul_emod_self_right,Int.ediv_eq_zero_of_lt hm hlt,Int.emod_eq_of_lt hm hlt,Int.zero_add]
 ·have:m=s.size:=by omega
  subst this
  rw[show q*s.size+s.size=(q+1)*s.size by rw[Int.add_mul];omega,Int.mul_ediv_cancel _ (by omega),Int.mul_emod_left]
  rw[qUk (t:=0) fun x hx=>by have:=(qBI h.ok).2.2 x hx;omega,qXj (t:=s.size) fun x hx=>by have:=(qBI h.ok).2.2 x hx;omega]
  rw[Int.add_mul];omega
theorem qRq {s:Set}(h:Right s) {a b:Int}(h0:0≤a) (hab:a≤b) (hb:b≤1099511627776):qDz s a b=(qCl s b-qCl s a,0):=by
 rw[qDz,if_pos (qJH.2 h),if_neg (by omega)]
end Go.Proofs.YtiaiifcgbjlfoaaGreatDoor
