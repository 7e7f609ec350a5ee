import Derived.Test.YtpooooomhnehfaaFence5
set_option linter.all false
namespace Go.Proofs.Ytpooooomhnehfaa
open Go Go.Abs

/- The plain laws of a fence. -/
theorem mayV0 {e o w n : Int} (h : chB e o = true) (hw : whoB w = true) (hn : epB n = true) : mayV e o w n = 0 := by simp [mayV, h, hw, hn]

theorem st_step {g : Nat → Tr} {k i : Nat} {n : Int} (hv : valid n (g k) = true) (hc : chB (st g k i).1 (st g k i).2 = true) :
    st g (k + 1) i = if (g k).k = 1 ∧ (g k).f = (i : Int) ∧ (st g k i).1 < (g k).e then ((g k).e, (g k).w) else st g k i := by
  obtain ⟨h1, h2, h3, h4, h5⟩ := valid_true.1 hv
  have h0 := mayV0 hc h4 h5
  simp only [st]
  by_cases h : (g k).k = 1 ∧ (g k).f = (i : Int)
  · rw [if_pos h]
    by_cases hl : (st g k i).1 < (g k).e
    · rw [if_pos ⟨h.1, h.2, hl⟩]; simp [clE, clO, h0, hl]
    · rw [if_neg fun x => hl x.2.2]; simp [clE, clO, h0, hl]
  · rw [if_neg h, if_neg fun x => h ⟨x.1, x.2.1⟩]

theorem st_ok {g : Nat → Tr} {n : Int} {i : Nat} : ∀ {k : Nat}, (∀ j, j < k → valid n (g j) = true) → chB (st g k i).1 (st g k i).2 = true
  | 0, _ => by simp [st, chB]
  | k + 1, hv => by
    have ih := st_ok (i := i) (k := k) fun j hj => hv j (by omega)
    obtain ⟨h1, h2, h3, h4, h5⟩ := valid_true.1 (hv k (by omega))
    rw [st_step (hv k (by omega)) ih]
    split
    · simp [chB, h4, h5]
    · exact ih

theorem st_mono {g : Nat → Tr} {n : Int} {i k : Nat} : ∀ {j : Nat}, k ≤ j → (∀ x, x < j → valid n (g x) = true) → (st g k i).1 ≤ (st g j i).1 ∧ ((st g k i).1 = (st g j i).1 → st g k i = st g j i)
  | 0, hk, _ => by have : k = 0 := by omega
                   subst this; exact ⟨Int.le_refl _, fun _ => rfl⟩
  | j + 1, hk, hv => by
    by_cases he : k = j + 1
    · subst he; exact ⟨Int.le_refl _, fun _ => rfl⟩
    · obtain ⟨i1, i2⟩ := st_mono (i := i) (k := k) (j := j) (by omega) fun x hx => hv x (by omega)
      rw [st_step (hv j (by omega)) (st_ok fun x hx => hv x (by omega))]
      split
      · rename_i h
        refine ⟨by have := h.2.2; show _ ≤ (g j).e; omega, fun h' => ?_⟩
        have h' : (st g k i).1 = (g j).e := h'
        have := h.2.2
        omega
      · exact ⟨i1, i2⟩

theorem outB_iff {g : Nat → Tr} {k : Nat} {n : Int} (hv : ∀ j, j < k + 1 → valid n (g j) = true) :
    outB g k = true ↔ ((g k).k = 1 ∧ (st g k (g k).f.toNat).1 < (g k).e) ∨ st g k (g k).f.toNat = ((g k).e, (g k).w) := by
  obtain ⟨h1, h2, h3, h4, h5⟩ := valid_true.1 (hv k (by omega))
  have hc := st_ok (g := g) (n := n) (i := (g k).f.toNat) (k := k) fun j hj => hv j (by omega)
  have h0 := mayV0 hc h4 h5
  unfold outB
  generalize st g k (g k).f.toNat = s at *
  obtain ⟨a, b⟩ := s
  dsimp only at *
  split
  · rename_i hk; simp [clB, h0, hk]
  · rename_i hk; simp [paB, h0, hk]

theorem out_after {g : Nat → Tr} {k : Nat} {n : Int} (hv : ∀ j, j < k + 1 → valid n (g j) = true) (h : outB g k = true) : st g (k + 1) (g k).f.toNat = ((g k).e, (g k).w) := by
  obtain ⟨h1, h2, h3, h4, h5⟩ := valid_true.1 (hv k (by omega))
  rw [st_step (hv k (by omega)) (st_ok fun j hj => hv j (by omega))]
  rcases (outB_iff hv).1 h with ⟨h6, h7⟩ | h6
  · rw [if_pos ⟨h6, by omega, h7⟩]
  · split
    · rfl
    · exact h6

theorem one_law {g : Nat → Tr} {n : Int} {k i : Nat} (hk : k < i) (hv : ∀ j, j < i + 1 → valid n (g j) = true) (h1 : outB g i = true) (h2 : outB g k = true) (hf : (g i).f = (g k).f) (he : (g i).e = (g k).e) : (g i).w = (g k).w := by
  have a := out_after (fun j hj => hv j (by omega)) h2
  obtain ⟨m1, m2⟩ := st_mono (g := g) (n := n) (i := (g k).f.toNat) (k := k + 1) (j := i) (by omega) fun x hx => hv x (by omega)
  rw [a] at m1 m2
  rcases (outB_iff hv).1 h1 with ⟨h6, h7⟩ | h6
  · rw [hf] at h7
    have m1 : (g k).e ≤ (st g i (g k).f.toNat).1 := m1
    omega
  · rw [hf] at h6
    rw [h6] at m2
    have := m2 he.symm
    simp only [Prod.mk.injEq] at this
    exact this.2.symm

end Go.Proofs.Ytpooooomhnehfaa
