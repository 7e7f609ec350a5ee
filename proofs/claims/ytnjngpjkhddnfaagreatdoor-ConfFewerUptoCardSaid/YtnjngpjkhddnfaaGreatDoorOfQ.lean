/- What span.Of makes. -/
import Derived.Test.YtnjngpjkhddnfaaGreatDoorOfP
set_option linter.all false
namespace Go.Proofs.YtnjngpjkhddnfaaGreatDoor
open Go Go.Abs

theorem of_ok {n : Int} {l : List Span} (h : (ofV n l).2 = 0) : ∃ o, ofN n l = some o ∧ 1 ≤ n ∧ n ≤ 1000000 ∧ l.length ≤ 200 ∧ ofV n l = (⟨n, o⟩, 0) := by
 by_cases h1 : n < 1 ∨ 1000000 < n
 · rw [ofV_arg h1] at h; exact absurd h (by decide)
 by_cases h2 : 200 < l.length
 · rw [ofV_large h1 h2] at h; exact absurd h (by decide)
 cases h3 : ofN n l with
 | none => rw [ofV_none h1 h2 h3] at h; exact absurd h (by decide)
 | some o => exact ⟨o, rfl, by omega, by omega, by omega, ofV_some h1 h2 h3⟩
theorem of_right {n : Int} {r : List Span} (h : (ofV n r).2 = 0) : Right (ofV n r).1 ∧ (ofV n r).1.size = n ∧ (∀ x ∈ r, ¬ badS n x) ∧ (∀ t, inB (ofV n r).1.spans t = inB r t) := by
 obtain ⟨o, h1, h2, h3, h4, h5⟩ := of_ok h
 have hb : ∀ x ∈ r, ¬ badS n x := fun x hx hx' => by rw [ofN_bad ⟨x, hx, hx'⟩] at h1; cases h1
 obtain ⟨o', k1, k2, k3, k4⟩ := ofN_ok hb
 have : o' = o := Option.some.inj (k1.symm.trans h1)
 subst this
 rw [h5]
 exact ⟨⟨h2, h3, Nat.le_trans k4 h4, k2⟩, rfl, hb, k3⟩

end Go.Proofs.YtnjngpjkhddnfaaGreatDoor
