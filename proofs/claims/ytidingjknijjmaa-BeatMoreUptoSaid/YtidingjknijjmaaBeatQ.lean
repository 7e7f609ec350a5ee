/- What is heard; plain. -/
import Derived.Test.YtidingjknijjmaaBeat
import Derived.Test.YtidingjknijjmaaBeatP
set_option linter.all false
namespace Go.Proofs.Ytidingjknijjmaa
open Go Go.Abs

theorem sortL_perm (l : List Int) : (sortL l).Perm l := List.mergeSort_perm _ _
theorem sortL_rise (l : List Int) : (sortL l).Pairwise (· ≤ ·) := by
  have := List.pairwise_mergeSort (le := fun x y : Int => decide (x ≤ y)) (fun a b c h1 h2 => by simp at *; omega) (fun a b => by simp; omega) l
  exact this.imp fun h => by simpa using h
theorem heardR_mem {every ends : Int} : ∀ {l : List Int} {k x : Int}, x ∈ heardR every ends k l ↔ ∃ j : Nat, j < l.length ∧ 0 ≤ l.getD j Dat.d0 ∧ (k + j) * every < ends ∧ x = (k + j) * every + l.getD j Dat.d0
  | [], k, x => by simp [heardR]
  | d :: l, k, x => by
    rw [heardR, List.mem_append, heardR_mem]
    constructor
    · rintro (h | ⟨j, h1, h2, h3, h4⟩)
      · split at h
        · rename_i hc
          refine ⟨0, by simp, hc.1, by simpa using hc.2, ?_⟩
          rw [List.mem_singleton.1 h]; simp
        · simp at h
      · have e : k + ((j + 1 : Nat) : Int) = k + 1 + j := by omega
        exact ⟨j + 1, by simpa using h1, by simpa using h2, by rw [e]; exact h3, by rw [e]; simpa using h4⟩
    · rintro ⟨j, h1, h2, h3, h4⟩
      cases j with
      | zero =>
        left
        have h2 : 0 ≤ d := h2
        have h3 : k * every < ends := by simpa using h3
        rw [if_pos ⟨h2, h3⟩, List.mem_singleton, h4]; simp
      | succ j =>
        right
        have e : k + ((j + 1 : Nat) : Int) = k + 1 + j := by omega
        exact ⟨j, by simpa using h1, by simpa using h2, by rw [← e]; exact h3, by rw [← e]; simpa using h4⟩
/-- Nobody that beats in time is doubted. -/
theorem beat_never {every most u : Int} {l : List Int} {m : List Int} (he : 1 ≤ every) (hm0 : 0 ≤ most) (hl : ∀ j : Nat, j < l.length → 0 ≤ l.getD j Dat.d0 ∧ l.getD j Dat.d0 ≤ most) (hn : l.length * every ≤ 1000000) (hu : u ≤ l.length * every)
    (hp : ∀ x, x ∈ m ↔ x ∈ heardR every 1000000 0 l) (hr : riseB 0 m = true) : dubR (every + most) u 0 (m ++ [u]) = [] := by
  rcases h : dubR (every + most) u 0 (m ++ [u]) with _ | ⟨x, r⟩
  · rfl
  · exfalso
    have hx : x ∈ dubR (every + most) u 0 (m ++ [u]) := by rw [h]; exact List.mem_cons_self ..
    obtain ⟨a, b, c⟩ := dub_bd (by omega) hr x hx
    have k := (dub_in (t := x.frm) (by omega) (by omega) hr (by omega)).1 (inSp_iff.2 ⟨x, hx, Int.le_refl _, b⟩)
    obtain ⟨p1, p2, p3⟩ := lastB_spec m 0 x.frm
    have q1 := Int.emod_nonneg (x.frm - most) (show every ≠ 0 by omega)
    have q2 := Int.emod_lt_of_pos (x.frm - most) (show 0 < every by omega)
    have q3 := Int.emod_add_mul_ediv (x.frm - most) every
    have q4 : 0 ≤ (x.frm - most) / every := Int.ediv_nonneg (by omega) (by omega)
    obtain ⟨j, hj⟩ := Int.eq_ofNat_of_zero_le q4
    rw [hj] at q3
    have hjl : j < l.length := by
      rcases Nat.lt_or_ge j l.length with h5 | h5
      · exact h5
      · have : (l.length : Int) * every ≤ (j : Int) * every := Int.mul_le_mul_of_nonneg_right (by omega) (by omega)
        rw [Int.mul_comm every] at q3
        omega
    obtain ⟨d0, d1⟩ := hl j hjl
    have hle : (j : Int) * every < 1000000 := by
      have : ((j : Int) + 1) * every ≤ (l.length : Int) * every := Int.mul_le_mul_of_nonneg_right (by omega) (by omega)
      rw [Int.add_mul] at this
      omega
    have hmem := (hp ((j : Int) * every + l.getD j Dat.d0)).2 (heardR_mem.2 ⟨j, hjl, d0, by rw [Int.zero_add]; exact hle, by rw [Int.zero_add]⟩)
    rw [Int.mul_comm every] at q3
    have := p2 _ hmem (by omega)
    omega

end Go.Proofs.Ytidingjknijjmaa
