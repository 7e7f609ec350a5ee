/- What is heard is right to be doubted; plain. -/
import Derived.Test.YtidingjknijjmaaBeatL
set_option linter.all false
namespace Go.Proofs.Ytidingjknijjmaa
open Go Go.Abs

theorem heardR_len {every ends : Int} : ∀ (l : List Int) (k : Int), (heardR every ends k l).length ≤ l.length
  | [], _ => Nat.le_refl _
  | d :: l, k => by
    have := heardR_len (every := every) (ends := ends) l (k + 1)
    rw [heardR, List.length_append, List.length_cons]
    have hc : (if 0 ≤ d ∧ k * every < ends then [k * every + d] else []).length ≤ 1 := by
      by_cases hc : 0 ≤ d ∧ k * every < ends
      · rw [if_pos hc]; exact Nat.le_refl _
      · rw [if_neg hc]; exact Nat.zero_le _
    omega
structure HeardF (every : Int) (delays : List Int) (ends : Int) (m : List Int) : Prop where
  e1 : 1 ≤ every
  e2 : every ≤ 10000
  n0 : 0 ≤ ends
  n1 : ends ≤ 1000000
  len : delays.length ≤ 500
  ok : ∀ j : Nat, j < delays.length → -1 ≤ delays.getD j Dat.d0 ∧ delays.getD j Dat.d0 ≤ 10000
  mem : ∀ x, x ∈ m ↔ x ∈ heardR every ends 0 delays
  rise : riseB 0 m = true
  mlen : m.length ≤ 500
theorem heard_ok {every ends : Int} {delays : List Int} (h : (heardV every delays ends).2 = 0) : HeardF every delays ends (heardV every delays ends).1 := by
  unfold heardV at h ⊢
  split at h
  · cases h
  · rename_i h1
    rw [if_neg h1]
    split at h
    · cases h
    · rename_i h2
      rw [if_neg h2]
      split at h
      · cases h
      · rename_i h3
        rw [if_neg h3]
        have hall : delays.all okD = true := by simpa using h3
        have hok : ∀ j : Nat, j < delays.length → -1 ≤ delays.getD j Dat.d0 ∧ delays.getD j Dat.d0 ≤ 10000 := fun j hj => by
          rw [List.getD_eq_getElem?_getD, List.getElem?_eq_getElem hj]
          simpa [okD] using List.all_eq_true.1 hall delays[j] (List.getElem_mem _)
        have hmem : ∀ x, x ∈ sortL (heardR every ends 0 delays) ↔ x ∈ heardR every ends 0 delays := fun x => (sortL_perm _).mem_iff
        refine ⟨by omega, by omega, by omega, by omega, by omega, hok, hmem, riseB_of (fun x hx => ?_) (sortL_rise _), ?_⟩
        · obtain ⟨j, j1, j2, j3, rfl⟩ := heardR_mem.1 ((hmem x).1 hx)
          have := hok j j1
          rw [Int.zero_add]
          have k1 : (j : Int) * 1 ≤ (j : Int) * every := Int.mul_le_mul_of_nonneg_left (by omega) (by omega)
          have k2 : (j : Int) * every ≤ (j : Int) * 10000 := Int.mul_le_mul_of_nonneg_left (by omega) (by omega)
          omega
        · have hl : (sortL (heardR every ends 0 delays)).length = (heardR every ends 0 delays).length := List.length_mergeSort _
          have := heardR_len (every := every) (ends := ends) delays 0
          show (sortL (heardR every ends 0 delays)).length ≤ 500
          omega
theorem doubts_is {m : List Int} {limit u : Int} (h1 : m.length ≤ 500) (h2 : riseB 0 m = true) (h3 : 0 ≤ limit) (h4 : limit ≤ 1000000) (h5 : 0 ≤ u) (h6 : u ≤ 1099511627776) : doubtsV m limit u = (dubR limit u 0 (m ++ [u]), 0) := by
  rw [doubtsV, if_neg (by omega), if_neg (by simp [h2]), if_neg (by omega)]
theorem doubts_ok2 {heard : List Int} {limit u : Int} (h : (doubtsV heard limit u).2 = 0) : heard.length ≤ 500 ∧ riseB 0 heard = true ∧ 0 ≤ limit ∧ limit ≤ 1000000 ∧ 0 ≤ u ∧ u ≤ 1099511627776 ∧ (doubtsV heard limit u).1 = dubR limit u 0 (heard ++ [u]) := by
  unfold doubtsV at h ⊢
  split at h
  · cases h
  · rename_i h1
    rw [if_neg h1]
    split at h
    · cases h
    · rename_i h2
      rw [if_neg h2]
      split at h
      · cases h
      · rename_i h3
        rw [if_neg h3]
        exact ⟨by omega, by simpa using h2, by omega, by omega, by omega, by omega, rfl⟩
theorem dub_len2 {limit u : Int} : ∀ (l : List Int) (q : Int), (dubR limit u q l).length ≤ l.length
  | [], _ => Nat.le_refl _
  | h :: l, q => by
    have := dub_len2 (limit := limit) (u := u) l h
    rw [dubR, List.length_append, List.length_cons]
    have hc : (if q + limit + 1 < (if u < h then u else h) then [(⟨q + limit + 1, if u < h then u else h⟩ : Span)] else []).length ≤ 1 := by
      by_cases hc : q + limit + 1 < (if u < h then u else h)
      · rw [if_pos hc]; exact Nat.le_refl _
      · rw [if_neg hc]; exact Nat.zero_le _
    omega
theorem soon {every ends limit t q : Int} {delays m : List Int} (hH : HeardF every delays ends m) (l0 : 0 ≤ limit) (l1 : limit ≤ 1000000) (hq : ends + limit ≤ q ∧ ∀ j : Nat, j < delays.length → ends + delays.getD j Dat.d0 + limit ≤ q) (ht : q < t) (ht2 : t ≤ 1073741824) :
    ∃ d p, doubtsV m limit (t + 1) = (d ++ [⟨p + limit + 1, t + 1⟩], 0) ∧ p + limit < t ∧ d.length ≤ 500 := by
  obtain ⟨e1, e2, n0, n1, hlen, hok, hmem, hrise, hml⟩ := hH
  have hb : ∀ x ∈ m, x + limit + 1 < t + 1 := fun x hx => by
    obtain ⟨j, j1, j2, j3, rfl⟩ := heardR_mem.1 ((hmem x).1 hx)
    have := hq.2 j j1
    omega
  obtain ⟨d, p, hd, hp⟩ := dub_last (limit := limit) (u := t + 1) m 0 hb (by omega)
  have hl := dub_len2 (limit := limit) (u := t + 1) (m ++ [t + 1]) 0
  rw [hd, List.length_append, List.length_append] at hl
  refine ⟨d, p, ?_, ?_, by simp at hl; omega⟩
  · rw [doubts_is hml hrise l0 l1 (by omega) (by omega), hd]
  · rcases hp with rfl | hp
    · omega
    · have := hb p hp; omega

end Go.Proofs.Ytidingjknijjmaa
