/- Two middles of lists that share those who are right are no farther apart than half of what these measured, or one more: plain. -/
import Derived.Test.YtpofgnocliaahaaMedP
set_option linter.all false
namespace Go.Proofs.Ytpofgnocliaahaa
open Go Go.Abs

theorem getD_of {m : List Int} {i : Nat} (h : i < m.length) : m.getD i Dat.d0 = m[i] := by
  rw [List.getD_eq_getElem?_getD, List.getElem?_eq_getElem h]; rfl
theorem low_few {m : List Int} (h : m.Pairwise (· ≤ ·)) {f : Nat} (hf : f < m.length) : m.countP (fun y => decide (y < m.getD f Dat.d0)) ≤ f := by
  have h1 : (m.drop f).countP (fun y => decide (y < m.getD f Dat.d0)) = 0 := by
    rw [List.countP_eq_zero]
    intro y hy
    obtain ⟨i, hi, rfl⟩ := List.mem_iff_getElem.1 hy
    have hi2 : f + i < m.length := by simp at hi; omega
    have h2 := sorted_get h (show f ≤ f + i by omega) hi2
    rw [getD_of hi2] at h2
    rw [List.getElem_drop]
    simp only [decide_eq_true_eq]
    omega
  have h2 := List.countP_append (p := fun y => decide (y < m.getD f Dat.d0)) (l₁ := m.take f) (l₂ := m.drop f)
  rw [List.take_append_drop, h1] at h2
  have h3 := List.countP_le_length (p := fun y => decide (y < m.getD f Dat.d0)) (l := m.take f)
  rw [List.length_take] at h3
  omega
theorem high_few {m : List Int} (h : m.Pairwise (· ≤ ·)) {f : Nat} (hf : f < m.length) : m.countP (fun y => decide (m.getD (m.length - 1 - f) Dat.d0 < y)) ≤ f := by
  have h1 : (m.take (m.length - f)).countP (fun y => decide (m.getD (m.length - 1 - f) Dat.d0 < y)) = 0 := by
    rw [List.countP_eq_zero]
    intro y hy
    obtain ⟨i, hi, rfl⟩ := List.mem_iff_getElem.1 hy
    have hi2 : i < m.length - f := by simp at hi; omega
    have h2 := sorted_get h (show i ≤ m.length - 1 - f by omega) (by omega)
    rw [getD_of (show i < m.length by omega)] at h2
    rw [List.getElem_take]
    simp only [decide_eq_true_eq]
    omega
  have h2 := List.countP_append (p := fun y => decide (m.getD (m.length - 1 - f) Dat.d0 < y)) (l₁ := m.take (m.length - f)) (l₂ := m.drop (m.length - f))
  rw [List.take_append_drop, h1] at h2
  have h3 := List.countP_le_length (p := fun y => decide (m.getD (m.length - 1 - f) Dat.d0 < y)) (l := m.drop (m.length - f))
  rw [List.length_drop] at h3
  omega
/-- What is left of either list overlaps. -/
theorem mid_meet {r a b : List Int} {f : Nat} (ha : a.length ≤ f) (hab : a.length = b.length) (hn : 3 * f < r.length + a.length) :
    (sortL (r ++ a)).getD f Dat.d0 ≤ (sortL (r ++ b)).getD ((sortL (r ++ b)).length - 1 - f) Dat.d0 := by
  apply Int.not_lt.1
  intro hlt
  have l1 : (sortL (r ++ a)).length = r.length + a.length := by rw [sortL_len, List.length_append]
  have l2 : (sortL (r ++ b)).length = r.length + b.length := by rw [sortL_len, List.length_append]
  have c1 := low_few (sortL_sorted (r ++ a)) (f := f) (by omega)
  have c2 := high_few (sortL_sorted (r ++ b)) (f := f) (by omega)
  generalize (sortL (r ++ a)).getD f Dat.d0 = x at hlt c1
  generalize (sortL (r ++ b)).getD ((sortL (r ++ b)).length - 1 - f) Dat.d0 = y at hlt c2
  rw [(sortL_perm _).countP_eq, List.countP_append] at c1 c2
  have h3 := List.length_eq_countP_add_countP (fun z : Int => decide (y < z)) (l := r)
  have h4 : r.countP (fun z => decide ¬ (decide (y < z)) = true) ≤ r.countP (fun z => decide (z < x)) := by
    refine List.countP_mono_left fun z _ hz => ?_
    have hz := of_decide_eq_true hz
    simp only [decide_eq_true_eq] at hz
    exact decide_eq_true (by omega)
  omega
theorem mid_halves {r a b : List Int} {f : Int} (h1 : (midV (r ++ a) f).2.2 = 0) (h2 : (midV (r ++ b) f).2.2 = 0) (hab : a.length = b.length) (ha : (a.length : Int) ≤ f) (hn : 3 * f < (r.length : Int) + a.length) :
    (midV (r ++ a) f).1 - (midV (r ++ b) f).1 ≤ (maxL r - minL r + 1).tdiv 2 ∧ (midV (r ++ b) f).1 - (midV (r ++ a) f).1 ≤ (maxL r - minL r + 1).tdiv 2 ∧ 0 ≤ maxL r - minL r := by
  obtain ⟨a1, a2, a3, a4, a5, a6, a7⟩ := mid_tell h1
  obtain ⟨b1, b2, b3, b4, b5, b6, b7⟩ := mid_tell h2
  obtain ⟨p1, p2⟩ := mid_among h1 ha (fun y hy => minL_le y hy) (fun y hy => maxL_ge y hy)
  obtain ⟨q1, q2⟩ := mid_among h2 (by omega) (fun y hy => minL_le y hy) (fun y hy => maxL_ge y hy)
  have l1 : (sortL (r ++ a)).length = r.length + a.length := by rw [sortL_len, List.length_append]
  have l2 : (sortL (r ++ b)).length = r.length + b.length := by rw [sortL_len, List.length_append]
  have m1 := mid_meet (r := r) (a := a) (b := b) (f := f.toNat) (by omega) hab (by omega)
  have m2 := mid_meet (r := r) (a := b) (b := a) (f := f.toNat) (by omega) hab.symm (by omega)
  have e1 : (((r ++ a).length : Int) - f - 1).toNat = (sortL (r ++ a)).length - 1 - f.toNat := by rw [l1, List.length_append]; omega
  have e2 : (((r ++ b).length : Int) - f - 1).toNat = (sortL (r ++ b)).length - 1 - f.toNat := by rw [l2, List.length_append]; omega
  rw [a6, b6]
  rw [e1] at a7 p2 ⊢
  rw [e2] at b7 q2 ⊢
  dsimp only
  generalize (sortL (r ++ a)).getD f.toNat Dat.d0 = x1 at *
  generalize (sortL (r ++ b)).getD f.toNat Dat.d0 = x2 at *
  generalize (sortL (r ++ a)).getD ((sortL (r ++ a)).length - 1 - f.toNat) Dat.d0 = y1 at *
  generalize (sortL (r ++ b)).getD ((sortL (r ++ b)).length - 1 - f.toNat) Dat.d0 = y2 at *
  generalize maxL r = B at *
  generalize minL r = A at *
  rw [Int.tdiv_eq_ediv_of_nonneg (by omega), Int.tdiv_eq_ediv_of_nonneg (by omega), Int.tdiv_eq_ediv_of_nonneg (by omega)]
  omega

end Go.Proofs.Ytpofgnocliaahaa
