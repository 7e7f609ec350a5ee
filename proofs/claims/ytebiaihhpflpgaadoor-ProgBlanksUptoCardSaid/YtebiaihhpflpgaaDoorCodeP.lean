/- Right instructions, plain: what they may hold. -/
import Derived.Test.YtebiaihhpflpgaaDoorVm
set_option linter.all false
namespace Go.Proofs.YtebiaihhpflpgaaDoor
open Go Go.Abs

theorem numB_bd {n : Int} (h : numB n = true) : -2147483648 ≤ n ∧ n ≤ 2147483647 := by
  have h1 : n = IntKind.i64.wrap (IntKind.i32.wrap n) := of_decide_eq_true h
  have h2 : -2147483648 ≤ IntKind.i32.wrap n ∧ IntKind.i32.wrap n ≤ 2147483647 := by
    simp only [IntKind.wrap, IntKind.bits, IntKind.signed]
    simp
    omega
  have h3 : IntKind.i64.wrap (IntKind.i32.wrap n) = IntKind.i32.wrap n := by
    generalize IntKind.i32.wrap n = z at h2
    simp [IntKind.wrap, IntKind.bits, IntKind.signed]
    omega
  omega
theorem rightB_all {i : Ins} {n : Int} (hn : n ≤ 100) (h : rightB i n = true) : (1 ≤ i.code ∧ i.code ≤ 11) ∧ (0 ≤ i.a ∧ i.a ≤ 7) ∧ -2147483648 ≤ i.b ∧ i.b ≤ 2147483647 := by
  unfold rightB regB winB at h
  split at h
  · simp only [Bool.and_eq_true, decide_eq_true_eq] at h
    have := numB_bd h.2
    omega
  split at h
  · simp only [Bool.and_eq_true, decide_eq_true_eq] at h
    omega
  split at h
  · simp only [Bool.and_eq_true, decide_eq_true_eq] at h
    omega
  split at h
  · simp only [Bool.and_eq_true, decide_eq_true_eq] at h
    omega
  split at h
  · simp only [Bool.and_eq_true, decide_eq_true_eq] at h
    omega
  split at h
  · simp only [Bool.and_eq_true, decide_eq_true_eq] at h
    omega
  split at h
  · simp only [Bool.and_eq_true, decide_eq_true_eq] at h
    omega
  · cases h
theorem check_iff {p : List Ins} : checkP p = 0 ↔ p.length ≤ 100 ∧ ∀ i ∈ p, rightB i p.length = true := by
  unfold checkP
  split
  · constructor
    · intro h; cases h
    · intro h; omega
  · split
    · rename_i h1 h2
      exact ⟨fun _ => ⟨by omega, List.all_eq_true.1 h2⟩, fun _ => rfl⟩
    · rename_i h1 h2
      exact ⟨fun h => (by cases h), fun h => absurd (List.all_eq_true.2 h.2) h2⟩
theorem check_at {p : List Ins} (h : checkP p = 0) {k : Nat} (hk : k < p.length) : rightB (p.getD k Dat.d0) p.length = true := by
  refine (check_iff.1 h).2 _ ?_
  rw [List.getD_eq_getElem?_getD, List.getElem?_eq_getElem hk]; exact List.getElem_mem _
theorem rightB_up {i : Ins} {n m : Int} (hnm : n ≤ m) (h : rightB i n = true) : rightB i m = true := by
  unfold rightB regB winB at h ⊢
  split
  · rename_i c; rw [if_pos c] at h; exact h
  rename_i c1; rw [if_neg c1] at h
  split
  · rename_i c; rw [if_pos c] at h; exact h
  rename_i c2; rw [if_neg c2] at h
  split
  · rename_i c; rw [if_pos c] at h
    simp only [Bool.and_eq_true, decide_eq_true_eq] at h ⊢
    omega
  rename_i c3; rw [if_neg c3] at h
  split
  · rename_i c; rw [if_pos c] at h
    simp only [Bool.and_eq_true, decide_eq_true_eq] at h ⊢
    omega
  rename_i c4; rw [if_neg c4] at h
  exact h

end Go.Proofs.YtebiaihhpflpgaaDoor
