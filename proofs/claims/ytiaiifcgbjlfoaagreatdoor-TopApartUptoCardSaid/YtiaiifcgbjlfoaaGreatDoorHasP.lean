/- The program's functions, walked: HasP. -/
import Derived.Test.YtiaiifcgbjlfoaaGreatDoorSpanP
import Derived.Test.YtiaiifcgbjlfoaaGreatDoorBs
set_option linter.all false
namespace Go.Proofs.YtiaiifcgbjlfoaaGreatDoor
open Go Go.Abs
theorem qDd {m:Int}:∀{l:List Span},part (m+1) l-part m l=1→∃k,k<l.length∧(l.getD k Dat.d0).frm≤m∧m<(l.getD k Dat.d0).to
 |[],h=>by simp[part]at h
 |x::r,h=>by
  by_cases hx:x.frm≤m∧m<x.to
  ·exact⟨0,by simp,by simpa using hx.1,by simpa using hx.2⟩
  ·have e:mx0 (mn x.to (m+1)-x.frm)=mx0 (mn x.to m-x.frm):=by
    unfold mx0 mn
    repeat' split
    all_goals omega
   rw[part,part,e]at h
   obtain⟨k,h1,h2,h3⟩:=qDd (m:=m) (l:=r) (by omega)
   exact⟨k+1,by simpa using h1,by simpa using h2,by simpa using h3⟩
end Go.Proofs.YtiaiifcgbjlfoaaGreatDoor
