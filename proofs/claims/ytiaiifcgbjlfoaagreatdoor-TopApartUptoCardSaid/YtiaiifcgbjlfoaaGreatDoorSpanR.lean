/- The plain laws of counting. -/
import Derived.Test.YtiaiifcgbjlfoaaGreatDoorHasP
set_option linter.all false
namespace Go.Proofs.YtiaiifcgbjlfoaaGreatDoor
open Go Go.Abs
theorem qMk {m m':Int}(hm:m≤m'):∀{l:List Span},(∀x∈l,x.frm<x.to)→(∀x∈l,x.to≤m∨m'≤x.frm)→part m' l=part m l
 |[],_,_=>rfl
 |x::r,h0,h=>by
  have a:=h0 x (by simp)
  have b:=h x (by simp)
  rw[part,part,qMk hm (fun y hy=>h0 y (by simp[hy])) fun y hy=>h y (by simp[hy])]
  congr 1
  unfold mx0 mn
  repeat' split
  all_goals omega
theorem qJQ {size m:Int}:∀{l:List Span}{last:Int}{x:Span},qFu size last l=true→x∈l→x.frm≤m→m<x.to→part (m+1) l=part m l+1
 |[],_,_,_,h,_,_=>by simp at h
 |y::r,last,x,h,hx,a,b=>by
  obtain⟨h1,h2,h3,h4⟩:=qBP.1 h
  have bd:=(qBI h4).2.2
  rcases List.mem_cons.1 hx with rfl|hx
  ·have z:∀t,t≤x.to→part t r=0:=fun t ht=>qUk fun y hy=>by have:=bd y hy;omega
   rw[part,part,z m (by omega),z (m+1) (by omega)]
   unfold mx0 mn
   repeat' split
   all_goals omega
  ·have i:=qJQ h4 hx a b
   have bx:=bd x hx
   have e:mx0 (mn y.to (m+1)-y.frm)=mx0 (mn y.to m-y.frm):=by
    unfold mx0 mn
    repeat' split
    all_goals omega
   rw[part,part,e];omega
end Go.Proofs.YtiaiifcgbjlfoaaGreatDoor
