/- The least there is of so many in a row: plain. -/
import Derived.Test.YtnjngpjkhddnfaaGreatDoorSupP
import Derived.Test.YtnjngpjkhddnfaaGreatDoorBs
set_option linter.all false
namespace Go.Proofs.YtnjngpjkhddnfaaGreatDoor
open Go Go.Abs

theorem win_split {s : Set} (h : Right s) {n t : Int} (hn : 0 ≤ n) (h0 : 0 ≤ t) : win s n t = n / s.size * long s.spans + win s (n % s.size) t := by
 obtain ⟨-, -, e3, e4, e5⟩ := divmod h hn
 have hq : 0 ≤ n / s.size := Int.ediv_nonneg hn (by have := h.s1; omega)
 obtain ⟨q, hqn⟩ : ∃ q : Nat, n / s.size = q := ⟨(n / s.size).toNat, by omega⟩
 have := upto_frames h (show 0 ≤ t + n % s.size by omega) q
 unfold win
 rw [← hqn] at this
 rw [show t + n = t + n % s.size + n / s.size * s.size by omega, this]
 omega
theorem leastV_spec {s : Set} (h : Right s) {n : Int} (hn : 0 ≤ n) : (∀ t, 0 ≤ t → leastV s n ≤ win s n t) ∧ ∃ t, 0 ≤ t ∧ leastV s n = win s n t := by
 obtain ⟨e1, e2, e3, e4, e5⟩ := divmod h hn
 have hs2 := h.s2
 obtain ⟨L, hL, hL2, t, ht0, ht1, ht2⟩ := least_spec h e3 (by omega)
 have e : leastV s n = n / s.size * long s.spans + L := by
   rw [leastV, e1, e2, hL, count0 h, uptoS h, upto0 h, Int.sub_zero]
 refine ⟨fun t ht => ?_, t, ht0, ?_⟩
 · rw [win_split h hn ht, e]
   have := hL2 t ht; omega
 · rw [win_split h hn ht0, e]; omega
theorem leastV_bound {s : Set} (h : Right s) {n : Int} (hn : 0 ≤ n) (hn2 : n ≤ 549755813888) : boundV s n false = (leastV s n, 0) := by
 obtain ⟨L, hL, hL2, t, ht0, ht1, ht2⟩ := least_spec h hn hn2
 obtain ⟨h1, u, hu, h2⟩ := leastV_spec h hn
 have := h1 t ht0
 have := hL2 u hu
 rw [hL]
 congr 1
 omega
theorem leastV_step {s : Set} (h : Right s) {n : Int} (hn : 0 ≤ n) : leastV s n ≤ leastV s (n + 1) ∧ leastV s (n + 1) ≤ leastV s n + 1 := by
 obtain ⟨a1, t, a2, a3⟩ := leastV_spec h hn
 obtain ⟨b1, u, b2, b3⟩ := leastV_spec h (show 0 ≤ n + 1 by omega)
 have h1 := a1 u b2
 have h2 := b1 t a2
 have e : ∀ t, 0 ≤ t → win s n t ≤ win s (n + 1) t ∧ win s (n + 1) t ≤ win s n t + 1 := fun t ht => by
   have := upto_step h (t := t + n) (by omega)
   unfold win; rw [show t + (n + 1) = t + n + 1 by omega]; omega
 have := e u b2
 have := e t a2
 omega

end Go.Proofs.YtnjngpjkhddnfaaGreatDoor
