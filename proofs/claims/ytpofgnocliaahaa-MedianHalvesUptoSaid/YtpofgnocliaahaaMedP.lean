/- Facts of the middle, and of who stands there most often: plain. -/
import Derived.Test.YtpofgnocliaahaaMedianL
import Derived.Test.YtpofgnocliaahaaMinMax
set_option linter.all false
namespace Go.Proofs.Ytpofgnocliaahaa
open Go Go.Abs

theorem sortL_perm (l : List Int) : (sortL l).Perm l := List.mergeSort_perm l _
theorem sortL_sorted (l : List Int) : (sortL l).Pairwise (· ≤ ·) := by
  have h := List.pairwise_mergeSort (le := fun x y : Int => decide (x ≤ y)) (by intro a b c; simp; omega) (by intro a b; simp; omega) l
  exact h.imp fun h => by simpa using h
theorem sorted_get {m : List Int} (h : m.Pairwise (· ≤ ·)) {i j : Nat} (hij : i ≤ j) (hj : j < m.length) : m.getD i Dat.d0 ≤ m.getD j Dat.d0 := by
  rw [List.getD_eq_getElem?_getD, List.getD_eq_getElem?_getD, List.getElem?_eq_getElem (by omega), List.getElem?_eq_getElem hj]
  rcases Nat.lt_or_ge i j with h1 | h1
  · exact List.pairwise_iff_getElem.1 h i j (by omega) hj h1
  · have : i = j := by omega
    subst this; exact Int.le_refl _
theorem count_low {m : List Int} (h : m.Pairwise (· ≤ ·)) {f : Nat} (hf : f < m.length) {x : Int} (hc : m.countP (fun y => decide (y < x)) ≤ f) : x ≤ m.getD f Dat.d0 := by
  apply Int.not_lt.1
  intro hlt
  have h1 : (m.take (f + 1)).countP (fun y => decide (y < x)) = (m.take (f + 1)).length := by
    rw [List.countP_eq_length]
    intro y hy
    obtain ⟨i, hi, rfl⟩ := List.mem_iff_getElem.1 hy
    have hi2 : i < f + 1 := by simp at hi; omega
    have h2 := sorted_get h (show i ≤ f by omega) hf
    rw [List.getElem_take]
    rw [List.getD_eq_getElem?_getD, List.getElem?_eq_getElem (show i < m.length by omega)] at h2
    apply decide_eq_true
    exact Int.lt_of_le_of_lt h2 hlt
  have h2 : (m.take (f + 1)).countP (fun y => decide (y < x)) ≤ m.countP (fun y => decide (y < x)) := (List.take_sublist _ _).countP_le
  rw [h1, List.length_take] at h2
  omega
theorem count_high {m : List Int} (h : m.Pairwise (· ≤ ·)) {f : Nat} (hf : f < m.length) {x : Int} (hc : m.countP (fun y => decide (x < y)) ≤ f) : m.getD (m.length - 1 - f) Dat.d0 ≤ x := by
  apply Int.not_lt.1
  intro hlt
  have h1 : (m.drop (m.length - 1 - f)).countP (fun y => decide (x < y)) = (m.drop (m.length - 1 - f)).length := by
    rw [List.countP_eq_length]
    intro y hy
    obtain ⟨i, hi, rfl⟩ := List.mem_iff_getElem.1 hy
    have hi2 : m.length - 1 - f + i < m.length := by simp at hi; omega
    have h2 := sorted_get h (show m.length - 1 - f ≤ m.length - 1 - f + i by omega) hi2
    rw [List.getElem_drop]
    rw [List.getD_eq_getElem?_getD (i := m.length - 1 - f + i), List.getElem?_eq_getElem hi2] at h2
    apply decide_eq_true
    exact Int.lt_of_lt_of_le hlt h2
  have h2 : (m.drop (m.length - 1 - f)).countP (fun y => decide (x < y)) ≤ m.countP (fun y => decide (x < y)) := (List.drop_sublist _ _).countP_le
  rw [h1, List.length_drop] at h2
  omega
/-- What a middle that is told is. -/
theorem mid_tell {l : List Int} {f : Int} (h : (midV l f).2.2 = 0) : l.length ≤ 64 ∧ 0 ≤ f ∧ f ≤ 20 ∧ l.any wideI = false ∧ 2 * f < l.length ∧
    midV l f = ((sortL l).getD f.toNat Dat.d0 + ((sortL l).getD ((l.length : Int) - f - 1).toNat Dat.d0 - (sortL l).getD f.toNat Dat.d0).tdiv 2, (sortL l).getD ((l.length : Int) - f - 1).toNat Dat.d0 - (sortL l).getD f.toNat Dat.d0, 0) ∧
    (sortL l).getD f.toNat Dat.d0 ≤ (sortL l).getD ((l.length : Int) - f - 1).toNat Dat.d0 := by
  unfold midV at h ⊢
  by_cases c1 : 64 < l.length
  · rw [if_pos c1] at h; cases h
  · rw [if_neg c1] at h ⊢
    by_cases c2 : f < 0 ∨ 20 < f
    · rw [if_pos c2] at h; cases h
    · rw [if_neg c2] at h ⊢
      by_cases c3 : l.any wideI = true
      · rw [if_pos c3] at h; cases h
      · rw [if_neg c3] at h ⊢
        by_cases c4 : (l.length : Int) ≤ 2 * f
        · rw [if_pos c4] at h; cases h
        · rw [if_neg c4]
          refine ⟨by omega, by omega, by omega, by simpa using c3, by omega, rfl, sorted_get (sortL_sorted l) (by omega) (by rw [sortL_len]; omega)⟩
theorem mid_no {l : List Int} {f : Int} (h : ¬ (midV l f).2.2 = 0) : (midV l f).1 = 0 ∧ (midV l f).2.1 = 0 := by
  unfold midV at h ⊢
  by_cases c1 : 64 < l.length
  · rw [if_pos c1]; exact ⟨rfl, rfl⟩
  · rw [if_neg c1] at h ⊢
    by_cases c2 : f < 0 ∨ 20 < f
    · rw [if_pos c2]; exact ⟨rfl, rfl⟩
    · rw [if_neg c2] at h ⊢
      by_cases c3 : l.any wideI = true
      · rw [if_pos c3]; exact ⟨rfl, rfl⟩
      · rw [if_neg c3] at h ⊢
        by_cases c4 : (l.length : Int) ≤ 2 * f
        · rw [if_pos c4]; exact ⟨rfl, rfl⟩
        · rw [if_neg c4] at h; exact absurd rfl h
theorem tdiv2 {x : Int} (h : 0 ≤ x) : 0 ≤ x.tdiv 2 ∧ x.tdiv 2 ≤ x ∧ x - x.tdiv 2 ≤ x.tdiv 2 + 1 ∧ x.tdiv 2 * 2 ≤ x := by
  rw [Int.tdiv_eq_ediv_of_nonneg h]; omega
/-- With no more wrong ones than may be left out, what is left lies among the right ones. -/
theorem mid_among {r w : List Int} {f : Int} (h : (midV (r ++ w) f).2.2 = 0) (hw : (w.length : Int) ≤ f) {lo hi : Int} (h1 : ∀ y ∈ r, lo ≤ y) (h2 : ∀ y ∈ r, y ≤ hi) :
    lo ≤ (sortL (r ++ w)).getD f.toNat Dat.d0 ∧ (sortL (r ++ w)).getD (((r ++ w).length : Int) - f - 1).toNat Dat.d0 ≤ hi := by
  obtain ⟨a1, a2, a3, a4, a5, a6, a7⟩ := mid_tell h
  have hl : (sortL (r ++ w)).length = (r ++ w).length := sortL_len _
  refine ⟨count_low (sortL_sorted _) (by omega) ?_, ?_⟩
  · rw [(sortL_perm _).countP_eq, List.countP_append]
    have e1 : r.countP (fun y => decide (y < lo)) = 0 := by
      rw [List.countP_eq_zero]
      intro y hy
      have := h1 y hy
      simp; omega
    have e2 := List.countP_le_length (p := fun y => decide (y < lo)) (l := w)
    omega
  · have e0 : (((r ++ w).length : Int) - f - 1).toNat = (sortL (r ++ w)).length - 1 - f.toNat := by omega
    rw [e0]
    refine count_high (sortL_sorted _) (by omega) ?_
    rw [(sortL_perm _).countP_eq, List.countP_append]
    have e1 : r.countP (fun y => decide (hi < y)) = 0 := by
      rw [List.countP_eq_zero]
      intro y hy
      have := h2 y hy
      simp; omega
    have e2 := List.countP_le_length (p := fun y => decide (hi < y)) (l := w)
    omega
theorem mid_within {r w : List Int} {f : Int} (h : (midV (r ++ w) f).2.2 = 0) (hw : (w.length : Int) ≤ f) : minL r ≤ (midV (r ++ w) f).1 ∧ (midV (r ++ w) f).1 ≤ maxL r := by
  obtain ⟨a1, a2, a3, a4, a5, a6, a7⟩ := mid_tell h
  obtain ⟨b1, b2⟩ := mid_among h hw (fun y hy => minL_le y hy) (fun y hy => maxL_ge y hy)
  rw [a6]
  have := tdiv2 (x := (sortL (r ++ w)).getD (((r ++ w).length : Int) - f - 1).toNat Dat.d0 - (sortL (r ++ w)).getD f.toNat Dat.d0) (by omega)
  show minL r ≤ _ + _ ∧ _ + _ ≤ maxL r
  omega
theorem sortL_eq {l m : List Int} (hp : m.Perm l) (hs : m.Pairwise (· ≤ ·)) : sortL l = m :=
  ((sortL_perm l).trans hp.symm).eq_of_pairwise (fun a b _ _ h1 h2 => Int.le_antisymm h1 h2) (sortL_sorted l) hs
theorem sortL_add {l m : List Int} (c : Int) (hp : m.Perm l) : sortL (m.map (· + c)) = (sortL l).map (· + c) := by
  refine sortL_eq ((sortL_perm l).map _ |>.trans (hp.symm.map _)) ?_
  rw [List.pairwise_map]
  exact (sortL_sorted l).imp fun h => by omega
theorem map_getD {l : List Int} {c : Int} {i : Nat} (h : i < l.length) : (l.map (· + c)).getD i Dat.d0 = l.getD i Dat.d0 + c := by
  rw [List.getD_eq_getElem?_getD, List.getD_eq_getElem?_getD, List.getElem?_map, List.getElem?_eq_getElem h]; rfl
theorem mid_moved {l m : List Int} {f c : Int} (h : (midV l f).2.2 = 0) (hp : m.Perm l) (hg : (midV (m.map (· + c)) f).2.2 = 0) : (midV (m.map (· + c)) f).1 = (midV l f).1 + c ∧ (midV (m.map (· + c)) f).2.1 = (midV l f).2.1 := by
  obtain ⟨a1, a2, a3, a4, a5, a6, a7⟩ := mid_tell h
  obtain ⟨b1, b2, b3, b4, b5, b6, b7⟩ := mid_tell hg
  have hl : (m.map (· + c)).length = l.length := by rw [List.length_map]; exact hp.length_eq
  have hs : (sortL l).length = l.length := sortL_len _
  rw [b6, a6, sortL_add c hp, hl, map_getD (by omega), map_getD (by omega)]
  have e : (sortL l).getD ((l.length : Int) - f - 1).toNat Dat.d0 + c - ((sortL l).getD f.toNat Dat.d0 + c) = (sortL l).getD ((l.length : Int) - f - 1).toNat Dat.d0 - (sortL l).getD f.toNat Dat.d0 := by omega
  rw [e]
  exact ⟨by show _ + _ + _ = _; omega, rfl⟩
theorem mid_more {l : List Int} {f : Int} (h : (midV l f).2.2 = 0) (hg : (midV l (f + 1)).2.2 = 0) : (midV l (f + 1)).2.1 ≤ (midV l f).2.1 ∧ minL l ≤ (midV l (f + 1)).1 ∧ (midV l (f + 1)).1 ≤ maxL l := by
  obtain ⟨a1, a2, a3, a4, a5, a6, a7⟩ := mid_tell h
  obtain ⟨b1, b2, b3, b4, b5, b6, b7⟩ := mid_tell hg
  have hs : (sortL l).length = l.length := sortL_len _
  have g1 := sorted_get (sortL_sorted l) (show f.toNat ≤ (f + 1).toNat by omega) (by omega)
  have g2 := sorted_get (sortL_sorted l) (show ((l.length : Int) - (f + 1) - 1).toNat ≤ ((l.length : Int) - f - 1).toNat by omega) (by omega)
  have mem : ∀ i, i < l.length → minL l ≤ (sortL l).getD i Dat.d0 ∧ (sortL l).getD i Dat.d0 ≤ maxL l := by
    intro i hi
    rw [List.getD_eq_getElem?_getD, List.getElem?_eq_getElem (show i < (sortL l).length by omega)]
    have hm := (sortL_perm l).mem_iff.1 (List.getElem_mem (show i < (sortL l).length by omega))
    exact ⟨minL_le _ hm, maxL_ge _ hm⟩
  have m1 := mem (f + 1).toNat (by omega)
  have m2 := mem ((l.length : Int) - (f + 1) - 1).toNat (by omega)
  rw [b6, a6]
  have := tdiv2 (x := (sortL l).getD ((l.length : Int) - (f + 1) - 1).toNat Dat.d0 - (sortL l).getD (f + 1).toNat Dat.d0) (by omega)
  show _ - _ ≤ _ - _ ∧ minL l ≤ _ + _ ∧ _ + _ ≤ maxL l
  omega
theorem mid_far {l : List Int} {f : Int} (h : (midV l f).2.2 = 0) : 0 ≤ (midV l f).2.1 := by
  obtain ⟨a1, a2, a3, a4, a5, a6, a7⟩ := mid_tell h
  rw [a6]
  show 0 ≤ _ - _
  omega
theorem vote_major (c : ByteArray) : ∀ (l : List ByteArray) (b : ByteArray) (n : Int), 0 ≤ n → (l.length : Int) < 2 * cntS c l + (if b = c then n else -n) → voteV b n l = c
  | [], b, n, hn, h => by
    simp only [cntS, List.length_nil] at h
    by_cases hb : b = c
    · rw [voteV, hb]
    · rw [if_neg hb] at h; omega
  | s :: r, b, n, hn, h => by
    simp only [cntS, List.length_cons] at h
    rw [voteV]
    by_cases h0 : n = 0
    · rw [if_pos h0]
      refine vote_major c r s 1 (by omega) ?_
      subst h0
      by_cases hs : s = c
      · rw [if_pos hs] at h ⊢
        split at h <;> omega
      · rw [if_neg hs] at h ⊢
        split at h <;> omega
    · rw [if_neg h0]
      by_cases hsb : s = b
      · rw [if_pos hsb]
        refine vote_major c r b (n + 1) (by omega) ?_
        subst hsb
        by_cases hs : s = c
        · rw [if_pos hs] at h ⊢
          rw [if_pos hs] at h
          omega
        · rw [if_neg hs] at h ⊢
          rw [if_neg hs] at h
          omega
      · rw [if_neg hsb]
        refine vote_major c r b (n - 1) (by omega) ?_
        by_cases hb : b = c
        · rw [if_pos hb] at h ⊢
          have : ¬ s = c := fun e => hsb (e.trans hb.symm)
          rw [if_neg this] at h
          omega
        · rw [if_neg hb] at h ⊢
          split at h <;> omega
theorem most_major {l : List ByteArray} {c : ByteArray} (hl : l.length ≤ 1000) (h : (l.length : Int) < 2 * cntS c l) : mostV l = (c, cntS c l, true, 0) := by
  have hv : voteV .empty 0 l = c := vote_major c l .empty 0 (Int.le_refl _) (by split <;> omega)
  rw [mostV, if_neg (by omega), hv, if_neg (by omega)]
theorem most_tell {l : List ByteArray} (h : (mostV l).2.2.1 = true) : l.length ≤ 1000 ∧ (mostV l).2.1 = cntS (mostV l).1 l ∧ (l.length : Int) < 2 * cntS (mostV l).1 l := by
  unfold mostV at h ⊢
  by_cases c1 : 1000 < l.length
  · rw [if_pos c1] at h; cases h
  · rw [if_neg c1] at h ⊢
    by_cases c2 : 2 * cntS (voteV .empty 0 l) l ≤ (l.length : Int)
    · rw [if_pos c2] at h; cases h
    · rw [if_neg c2]
      exact ⟨by omega, rfl, by show _ < 2 * cntS (voteV .empty 0 l) l; omega⟩
theorem most_none {l : List ByteArray} (h : ¬ (mostV l).2.2.1 = true) : (mostV l).1 = .empty ∧ (mostV l).2.1 = 0 := by
  unfold mostV at h ⊢
  by_cases c1 : 1000 < l.length
  · rw [if_pos c1]; exact ⟨rfl, rfl⟩
  · rw [if_neg c1] at h ⊢
    by_cases c2 : 2 * cntS (voteV .empty 0 l) l ≤ (l.length : Int)
    · rw [if_pos c2]; exact ⟨rfl, rfl⟩
    · rw [if_neg c2] at h; exact absurd rfl h
theorem most_err {l : List ByteArray} : (mostV l).2.2.2 = 0 ↔ l.length ≤ 1000 := by
  unfold mostV
  by_cases c1 : 1000 < l.length
  · rw [if_pos c1]; constructor
    · intro h; cases h
    · intro h; omega
  · rw [if_neg c1]
    refine ⟨fun _ => by omega, fun _ => ?_⟩
    split <;> rfl
theorem cntS_app (c : ByteArray) : ∀ a b : List ByteArray, cntS c (a ++ b) = cntS c a + cntS c b
  | [], b => by simp [cntS]
  | s :: r, b => by
    have := cntS_app c r b
    simp only [List.cons_append, cntS]
    omega
theorem cntS_perm {c : ByteArray} {a b : List ByteArray} (h : a.Perm b) : cntS c a = cntS c b := by
  induction h with
  | nil => rfl
  | cons x _ ih => simp only [cntS]; omega
  | swap x y l => simp only [cntS]; omega
  | trans _ _ h1 h2 => omega
theorem cntS_rep (c : ByteArray) : ∀ n : Nat, cntS c (List.replicate n c) = n
  | 0 => rfl
  | n + 1 => by
    have := cntS_rep c n
    simp only [List.replicate_succ, cntS, if_true]
    omega
theorem join_ok {a b : List ByteArray} (h1 : (mostV a).2.2.1 = true) (h2 : (mostV b).2.2.1 = true) (he : (mostV a).1 = (mostV b).1) (hg : (mostV (a ++ b)).2.2.2 = 0) : mostV (a ++ b) = ((mostV a).1, (mostV a).2.1 + (mostV b).2.1, true, 0) := by
  obtain ⟨a1, a2, a3⟩ := most_tell h1
  obtain ⟨b1, b2, b3⟩ := most_tell h2
  have hl := most_err.1 hg
  rw [← he] at b2 b3
  have hl2 : (a ++ b).length = a.length + b.length := List.length_append
  have := most_major (c := (mostV a).1) hl (by rw [cntS_app]; omega)
  rw [this, cntS_app, a2, b2]
theorem best_ok {s : ByteArray} {n : Int} {o : List ByteArray} (h0 : 0 ≤ n) (h1 : n ≤ 400) (h2 : o.length ≤ 500) (h3 : (o.length : Int) < n) : (mostV (List.replicate n.toNat s ++ o).reverse).2.2.1 = true ∧ (mostV (List.replicate n.toNat s ++ o).reverse).1 = s ∧ n ≤ (mostV (List.replicate n.toNat s ++ o).reverse).2.1 := by
  have hl : (List.replicate n.toNat s ++ o).reverse.length = n.toNat + o.length := by simp; omega
  have hc : cntS s (List.replicate n.toNat s ++ o).reverse = n.toNat + cntS s o := by
    rw [cntS_perm (List.reverse_perm _), cntS_app, cntS_rep]
  have hb := cntS_bd s o
  rw [most_major (c := s) (by omega) (by omega)]
  exact ⟨rfl, rfl, by show n ≤ cntS s _; omega⟩

end Go.Proofs.Ytpofgnocliaahaa
