/- Counting, by what is in a set. -/
import Derived.Test.YtiaiifcgbjlfoaaGreatDoorOfP
import Derived.Test.YtiaiifcgbjlfoaaGreatDoorSpanR
set_option linter.all false
namespace Go.Proofs.YtiaiifcgbjlfoaaGreatDoor
open Go Go.Abs
theorem qRs {size m:Int}{l:List Span}{last:Int}(h:qFu size last l=true):part (m+1) l=part m l+if inB l m=true then 1 else 0:=by
 by_cases hi:inB l m=true
 ·rw[if_pos hi]
  obtain⟨x,hx,h1,h2⟩:=qDN.1 hi
  exact qJQ h hx h1 h2
 ·rw[if_neg hi,Int.add_zero]
  refine qMk (by omega) (fun x hx=>((qBI h).2.2 x hx).2.1) fun x hx=> ?_
  by_cases h1:x.to≤m
  ·exact .inl h1
  ·by_cases h2:x.frm≤m
   ·exact absurd (qDN.2 ⟨x,hx,h2,by omega⟩) hi
   ·exact .inr (by omega)
theorem qRt {s:Set}(h:Right s) {t:Int}(h0:0≤t):qCl s (t+1)=qCl s t+if inB s.spans (t%s.size)=true then 1 else 0:=by
 obtain⟨e1,e2,e3,e4,e5⟩:=qSu h h0
 have hq:0≤t/s.size:=Int.ediv_nonneg h0 (by have:=h.s1;omega)
 have a:=upto_at h hq e3 (by omega)
 have b:=upto_at h hq (show 0≤t%s.size+1 by omega) (by omega)
 rw[←e5]at a
 rw[←Int.add_assoc,←e5]at b
 have:=qRs (m:=t%s.size) h.ok
 omega
end Go.Proofs.YtiaiifcgbjlfoaaGreatDoor
