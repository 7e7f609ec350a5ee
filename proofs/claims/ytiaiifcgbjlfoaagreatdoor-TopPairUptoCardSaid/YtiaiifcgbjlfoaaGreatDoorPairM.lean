/- A pair's laws, plain. -/
import Derived.Test.YtiaiifcgbjlfoaaGreatDoorPairL
set_option linter.all false
namespace Go.Proofs.YtiaiifcgbjlfoaaGreatDoor
open Go Go.Abs
theorem play_ok {code:List Ins}{n:Int}{l:List PairAct}(h:(playA code n l).2.2=0):checkP code=0∧1≤n∧n≤4∧l.length≤100∧playA code n l=(runA code (p0 n) l,ansA code (p0 n) l,0):=by
 unfold playA at h ⊢
 by_cases h1:checkP code=0
 ·rw[if_neg (fun q=>q h1)]at h ⊢
  by_cases h2:n<1∨4<n
  ·rw[if_pos h2]at h;cases h
  ·rw[if_neg h2]at h ⊢
   by_cases h3:100<l.length
   ·rw[if_pos h3]at h;cases h
   ·rw[if_neg h3]
    exact⟨h1,by omega,by omega,by omega,rfl⟩
 ·rw[if_pos h1]at h;exact absurd h h1
theorem play_st {code:List Ins}{n:Int}{l:List PairAct}(h:(playA code n l).2.2=0):PrOk code n l.length (playA code n l).1:=by
 obtain⟨h1,h2,h3,h4,h5⟩:=play_ok h
 rw[h5]
 have:=(run_prok h1 h3 (l:=l) (p0_ok (code:=code) h2) (by omega)).1
 rwa [Nat.zero_add]at this
end Go.Proofs.YtiaiifcgbjlfoaaGreatDoor
