/- The plain laws of wants. -/
import Derived.Test.YtnjngpjkhddnfaaGreatDoorMake
import Derived.Test.YtnjngpjkhddnfaaGreatDoorAbsG4
import Derived.Test.YtnjngpjkhddnfaaGreatDoorTy
set_option linter.all false
namespace Go.Proofs.YtnjngpjkhddnfaaGreatDoor
open Go Go.Abs

structure MkOk (size : Int) (l : List Want) : Prop where
  s : sizeB size = true
  len : l.length ≤ 200
  all : l.all (wantB size) = true
  sum : sumQ size l ≤ 200
  rt : RightT ⟨size, sortWl (genL size l)⟩
theorem make_rt {size : Int} {l : List Want} (h : (makeV size l).2 = 0) : MkOk size l := by
  unfold makeV at h
  by_cases h1 : ¬ sizeB size = true
  · rw [if_pos h1] at h; exact absurd h (by decide)
  · rw [if_neg h1] at h
    by_cases h2 : 200 < l.length
    · rw [if_pos h2] at h; exact absurd h (by decide)
    · rw [if_neg h2] at h
      by_cases h3 : ¬ l.all (wantB size) = true
      · rw [if_pos h3] at h; exact absurd h (by decide)
      · rw [if_neg h3] at h
        by_cases h4 : 200 < sumQ size l
        · rw [if_pos h4] at h; exact absurd h (by decide)
        · rw [if_neg h4] at h
          by_cases h5 : wchkV ⟨size, sortWl (genL size l)⟩ = 0
          · exact ⟨Decidable.not_not.1 h1, by omega, Decidable.not_not.1 h3, by omega, wchk_iff.1 h5⟩
          · rw [if_neg h5] at h; exact absurd h (by decide)
theorem make_go {size : Int} {l : List Want} (h : MkOk size l) : makeV size l = (⟨size, sortWl (genL size l)⟩, 0) := by
  rw [makeV, if_neg (fun q => q h.s), if_neg (by have := h.len; omega), if_neg (fun q => q h.all), if_neg (by have := h.sum; omega), if_pos (wchk_iff.2 h.rt)]
theorem make_len (size : Int) (l : List Want) : (makeV size l).1.windows.length ≤ 9223372036854775807 := by
  by_cases h : (makeV size l).2 = 0
  · have hm := make_rt h
    rw [make_go hm]
    have := hm.rt.len
    exact Nat.le_trans this (by decide)
  · unfold makeV at *
    split
    · exact Nat.zero_le _
    · rename_i h1
      rw [if_neg h1] at h
      split
      · exact Nat.zero_le _
      · rename_i h2
        rw [if_neg h2] at h
        split
        · exact Nat.zero_le _
        · rename_i h3
          rw [if_neg h3] at h
          split
          · exact Nat.zero_le _
          · rename_i h4
            rw [if_neg h4] at h
            split
            · rename_i h5; rw [if_pos h5] at h; exact absurd rfl h
            · exact Nat.zero_le _

end Go.Proofs.YtnjngpjkhddnfaaGreatDoor
