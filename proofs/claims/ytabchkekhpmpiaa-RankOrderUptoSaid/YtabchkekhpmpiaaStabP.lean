/- A stable sort by insertion; what it leaves. -/
import Derived.Test.YtabchkekhpmpiaaTy
set_option linter.all false
namespace Go.Proofs.Ytabchkekhpmpiaa
open Go Go.Abs

def insR (ky : Int → Int) (x : Int) : List Int → List Int
  | [] => [x]
  | y :: r => if ky x < ky y then y :: insR ky x r else x :: y :: r
def srtR (ky : Int → Int) : List Int → List Int → List Int
  | acc, [] => acc
  | acc, x :: r => srtR ky (insR ky x acc) r
def stabL (ky : Int → Int) (d : List Int) : List Int := (srtR ky [] d).reverse
theorem insR_perm {ky : Int → Int} {x : Int} : ∀ {l : List Int}, (insR ky x l).Perm (x :: l)
  | [] => List.Perm.refl _
  | y :: r => by
    rw [insR]
    split
    · exact ((insR_perm (l := r)).cons y).trans (List.Perm.swap x y r)
    · exact List.Perm.refl _
theorem srtR_perm {ky : Int → Int} : ∀ {l acc : List Int}, (srtR ky acc l).Perm (acc ++ l)
  | [], acc => by rw [srtR, List.append_nil]
  | x :: r, acc => by
    rw [srtR]
    refine (srtR_perm (l := r)).trans ?_
    refine (insR_perm.append_right r).trans ?_
    exact (List.perm_middle (l₁ := acc) (a := x) (l₂ := r)).symm
theorem stabL_perm {ky : Int → Int} {d : List Int} : (stabL ky d).Perm d := (List.reverse_perm _).trans (by simpa using srtR_perm (ky := ky) (l := d) (acc := []))
theorem insR_srt {ky : Int → Int} {x : Int} : ∀ {l : List Int}, l.Pairwise (fun a b => ky b ≤ ky a) → (insR ky x l).Pairwise fun a b => ky b ≤ ky a
  | [], _ => by simp [insR]
  | y :: r, h => by
    rw [List.pairwise_cons] at h
    rw [insR]
    split
    · rename_i hxy
      refine List.pairwise_cons.2 ⟨fun z hz => ?_, insR_srt h.2⟩
      rcases List.mem_cons.1 (insR_perm.mem_iff.1 hz) with rfl | hz
      · omega
      · exact h.1 z hz
    · rename_i hxy
      refine List.pairwise_cons.2 ⟨fun z hz => ?_, List.pairwise_cons.2 h⟩
      rcases List.mem_cons.1 hz with rfl | hz
      · omega
      · have := h.1 z hz; omega
theorem srtR_srt {ky : Int → Int} : ∀ {l acc : List Int}, acc.Pairwise (fun a b => ky b ≤ ky a) → (srtR ky acc l).Pairwise fun a b => ky b ≤ ky a
  | [], acc, h => by rw [srtR]; exact h
  | x :: r, acc, h => by rw [srtR]; exact srtR_srt (insR_srt h)
theorem stabL_srt {ky : Int → Int} {d : List Int} : (stabL ky d).Pairwise fun a b => ky a ≤ ky b := List.pairwise_reverse.2 (srtR_srt List.Pairwise.nil)
theorem stabL_len {ky : Int → Int} {d : List Int} : (stabL ky d).length = d.length := stabL_perm.length_eq
theorem insR_past {ky : Int → Int} {x : Int} {m : List Int} : ∀ {l : List Int}, (∀ y ∈ l, ky x < ky y) → insR ky x (l ++ m) = l ++ insR ky x m
  | [], _ => rfl
  | y :: r, h => by
    rw [List.cons_append, insR, if_pos (h y (by simp)), insR_past fun z hz => h z (by simp [hz])]; rfl
theorem insR_stop {ky : Int → Int} {x : Int} {l : List Int} (h : ∀ y, l.head? = some y → ¬ ky x < ky y) : insR ky x l = x :: l := by
  cases l with
  | nil => rfl
  | cons y r => rw [insR, if_neg (h y rfl)]
/-- The row while an element goes down from place i, now at place j. -/
def mvd (D : List Int) (i j k : Nat) : Int := if k < j then D.getD k 0 else if k = j then D.getD i 0 else if k ≤ i then D.getD (k - 1) 0 else D.getD k 0
def mvL (D : List Int) (i j : Nat) : List Int := lst D.length (mvd D i j)
theorem mvL_len (D : List Int) (i j : Nat) : (mvL D i j).length = D.length := lst_len _ _
theorem mvL_get {D : List Int} {i j k : Nat} (h : k < D.length) : (mvL D i j).getD k 0 = mvd D i j k := lst_get h
theorem mvL_same {D : List Int} {i : Nat} : mvL D i i = D := by
  refine lst_eq (d := 0) rfl fun k hk => ?_
  unfold mvd
  by_cases h1 : k < i
  · rw [if_pos h1]
  · rw [if_neg h1]
    by_cases h2 : k = i
    · rw [if_pos h2, h2]
    · rw [if_neg h2, if_neg (by omega)]
theorem mvd_step {D : List Int} {i j k : Nat} (hj : 0 < j) (hji : j ≤ i) : mvd D i (j - 1) k = if k = j - 1 then mvd D i j j else if k = j then mvd D i j (j - 1) else mvd D i j k := by
  unfold mvd
  by_cases h1 : k = j - 1
  · subst h1; simp
  · rw [if_neg h1]
    by_cases h2 : k = j
    · subst h2
      have a : ¬ k < k - 1 := by omega
      have b : ¬ k = k - 1 := by omega
      have c : k - 1 < k := by omega
      simp [a, b, c, hji]
    · rw [if_neg h2]
      by_cases h3 : k < j
      · have a : k < j - 1 := by omega
        simp [a, h1, h3]
      · have a : ¬ k < j - 1 := by omega
        simp [a, h1, h2, h3]
theorem mvL_split {D : List Int} {i j : Nat} (hi : i < D.length) (hj : j ≤ i) : (mvL D i j).take (i + 1) = D.take j ++ D.getD i 0 :: (D.take i).drop j ∧ (mvL D i j).drop (i + 1) = D.drop (i + 1) := by
  constructor
  · apply List.ext_getElem
    · simp only [List.length_take, mvL_len, List.length_append, List.length_cons, List.length_drop]; omega
    · intro k h1 h2
      have hk : k < i + 1 := by simp only [List.length_take] at h1; omega
      have hkD : k < D.length := by omega
      have e1 : ((mvL D i j).take (i + 1))[k] = mvd D i j k := by
        rw [List.getElem_take]
        have := mvL_get (D := D) (i := i) (j := j) hkD
        rwa [List.getD_eq_getElem?_getD, List.getElem?_eq_getElem (by rw [mvL_len]; exact hkD)] at this
      rw [e1]
      unfold mvd
      have g : ∀ m, (hm : m < D.length) → D.getD m 0 = D[m] := fun m hm => by rw [List.getD_eq_getElem?_getD, List.getElem?_eq_getElem hm]; rfl
      have hlj : (D.take j).length = j := by rw [List.length_take]; omega
      by_cases c1 : k < j
      · rw [if_pos c1, g k hkD, List.getElem_append_left (by omega), List.getElem_take]
      · rw [if_neg c1, List.getElem_append_right (by omega)]
        by_cases c2 : k = j
        · subst c2
          rw [if_pos rfl]
          simp [hlj]
        · rw [if_neg c2, if_pos (by omega)]
          obtain ⟨m, rfl⟩ : ∃ m, k = j + m + 1 := ⟨k - j - 1, by omega⟩
          have : j + m + 1 - (D.take j).length = m + 1 := by omega
          simp only [this, List.getElem_cons_succ, List.getElem_drop, List.getElem_take]
          rw [g _ (by omega)]
          congr 1
  · apply List.ext_getElem
    · simp only [List.length_drop, mvL_len]
    · intro k h1 h2
      have hkD : i + 1 + k < D.length := by simp only [List.length_drop] at h2; omega
      rw [List.getElem_drop, List.getElem_drop]
      have := mvL_get (D := D) (i := i) (j := j) hkD
      rw [List.getD_eq_getElem?_getD, List.getElem?_eq_getElem (by rw [mvL_len]; exact hkD)] at this
      refine Eq.trans this ?_
      unfold mvd
      rw [if_neg (by omega), if_neg (by omega), if_neg (by omega), List.getD_eq_getElem?_getD, List.getElem?_eq_getElem hkD]; rfl
/-- Where the element stops the row is sorted one place further on. -/
theorem mvL_srt {ky : Int → Int} {D : List Int} {i j : Nat} (hi : i < D.length) (hj : j ≤ i) (hp : ∀ k, j ≤ k → k < i → ky (D.getD i 0) < ky (D.getD k 0)) (hs : j = 0 ∨ ¬ ky (D.getD i 0) < ky (D.getD (j - 1) 0)) :
    srtR ky ((mvL D i j).take (i + 1)).reverse ((mvL D i j).drop (i + 1)) = srtR ky (D.take i).reverse (D.drop i) := by
  obtain ⟨e1, e2⟩ := mvL_split hi hj
  have e3 : D.drop i = D.getD i 0 :: D.drop (i + 1) := drop_cons 0 hi
  rw [e1, e2, e3, srtR]
  congr 1
  have e4 : D.take i = D.take j ++ (D.take i).drop j := by
    conv => lhs; rw [← List.take_append_drop j (D.take i)]
    rw [List.take_take, Nat.min_eq_left hj]
  generalize hq : (D.take i).drop j = Q at *
  rw [e4, List.reverse_append, List.reverse_append, insR_past, insR_stop]
  · simp
  · intro y hy
    rcases hs with rfl | hs
    · simp at hy
    · rw [List.head?_reverse, List.getLast?_eq_getElem?, List.getElem?_take] at hy
      have hlj : (D.take j).length = j := by rw [List.length_take]; omega
      rw [hlj] at hy
      by_cases h0 : j = 0
      · subst h0; simp at hy
      · rw [if_pos (by omega)] at hy
        have : D.getD (j - 1) 0 = y := by rw [List.getD_eq_getElem?_getD, hy]; rfl
        rw [← this]; exact hs
  · intro y hy
    rw [List.mem_reverse, ← hq] at hy
    obtain ⟨m, hm, rfl⟩ := List.getElem_of_mem hy
    rw [List.length_drop, List.length_take] at hm
    rw [List.getElem_drop, List.getElem_take]
    have := hp (j + m) (by omega) (by omega)
    rwa [List.getD_eq_getElem?_getD (l := D) (i := j + m), List.getElem?_eq_getElem (by omega)] at this
theorem mvL_mem {D : List Int} {i j : Nat} (hi : i < D.length) (hj : j ≤ i) {x : Int} (h : x ∈ mvL D i j) : x ∈ D := by
  obtain ⟨k, hk, rfl⟩ := List.getElem_of_mem h
  rw [mvL_len] at hk
  have := mvL_get (D := D) (i := i) (j := j) hk
  rw [List.getD_eq_getElem?_getD, List.getElem?_eq_getElem (by rw [mvL_len]; exact hk)] at this
  have e : (mvL D i j)[k] = mvd D i j k := this
  rw [e]
  have g : ∀ m, m < D.length → D.getD m 0 ∈ D := fun m hm => by rw [List.getD_eq_getElem?_getD, List.getElem?_eq_getElem hm]; exact List.getElem_mem hm
  unfold mvd
  repeat' split
  all_goals exact g _ (by omega)
theorem _root_.Int.lt_of_toNat_lt' {a : Int} {n : Nat} (_ : 0 ≤ a) (h : a.toNat < n) : a < n := by omega
theorem tn1 (j : Nat) : ((j : Int) - 1).toNat = j - 1 := by omega
theorem mvL_step {D : List Int} {i j k : Nat} (hi : i < D.length) (hj : 0 < j) (hji : j ≤ i) (hk : k < D.length) : (bif decide (k = j - 1) then (mvL D i j).getD j 0 else bif decide (k = j) then (mvL D i j).getD (j - 1) 0 else (mvL D i j).getD k 0) = (mvL D i (j - 1)).getD k 0 := by
  rw [mvL_get hk, mvL_get (show j < D.length by omega), mvL_get (show j - 1 < D.length by omega), mvL_get hk, mvd_step hj hji]
  by_cases h1 : k = j - 1
  · simp [h1]
  · by_cases h2 : k = j
    · simp [h1, h2]
    · simp [h1, h2]

end Go.Proofs.Ytabchkekhpmpiaa
