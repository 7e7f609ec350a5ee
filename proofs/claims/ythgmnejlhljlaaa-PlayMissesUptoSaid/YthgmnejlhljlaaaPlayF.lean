/- Where it fits nothing is late, and where it does not something is: plain. -/
import Derived.Test.YthgmnejlhljlaaaPlayN
import Derived.Test.YthgmnejlhljlaaaTaskP
set_option linter.all false
namespace Go.Proofs.Ythgmnejlhljlaaa
open Go Go.Abs

theorem dem1_add {t : Task} {n : Int} (h : okT t = true) (hn : t.due ≤ n) : dem1 t n = t.long + dem1 t (n - t.every) := by
  have ho := okT_iff.1 h
  unfold dem1
  rw [if_pos hn, Int.tdiv_eq_ediv_of_nonneg (by omega)]
  by_cases h2 : t.due ≤ n - t.every
  · rw [if_pos h2, Int.tdiv_eq_ediv_of_nonneg (by omega)]
    have e : n - t.due = (n - t.every - t.due) + 1 * t.every := by omega
    rw [e, Int.add_mul_ediv_right _ _ (by omega), Int.add_mul, Int.add_mul]
    omega
  · rw [if_neg h2, Int.ediv_eq_zero_of_lt (by omega) (by omega)]
    omega
theorem dem1_nn {t : Task} {n : Int} (h : okT t = true) : 0 ≤ dem1 t n := by
  have ho := okT_iff.1 h
  unfold dem1
  split
  · rw [Int.tdiv_eq_ediv_of_nonneg (by omega)]
    have := Int.ediv_nonneg (show 0 ≤ n - t.due by omega) (show 0 ≤ t.every by omega)
    exact Int.mul_nonneg (by omega) (by omega)
  · exact Int.le_refl _
theorem dem1_le {t : Task} {n m : Int} (h : okT t = true) (hm : n ≤ m) : dem1 t n ≤ dem1 t m := by
  by_cases h0 : 0 ≤ n
  · exact dem1_mono h h0 hm
  · have ho := okT_iff.1 h
    have e : dem1 t n = 0 := by unfold dem1; rw [if_neg (by omega)]
    rw [e]; exact dem1_nn h
theorem sumPJ_app {l : List Task} {P : Done → Bool} : ∀ (a b : List job), sumPJ l P (a ++ b) = sumPJ l P a + sumPJ l P b
  | [], b => by simp [sumPJ]
  | x :: a, b => by rw [List.cons_append, sumPJ, sumPJ, sumPJ_app]; omega
theorem sumPJ_perm {l : List Task} {P : Done → Bool} {a b : List job} (h : a.Perm b) : sumPJ l P a = sumPJ l P b := by
  induction h with
  | nil => rfl
  | cons x _ ih => rw [sumPJ, sumPJ, ih]
  | swap x y l => rw [sumPJ, sumPJ, sumPJ, sumPJ]; omega
  | trans _ _ i1 i2 => rw [i1, i2]
theorem inW_job {l : List Task} {i : Nat} {t : Task} (hi : l.getD i Dat.d0 = t) {a b k c : Int} : inW l a b ⟨(i : Int), k, c, 0⟩ = (decide (a ≤ c) && decide (c + t.due ≤ b)) := by
  unfold inW dueD
  dsimp only
  rw [Int.toNat_natCast, hi]
theorem long_job {l : List Task} {i : Nat} {t : Task} (hi : l.getD i Dat.d0 = t) {k c : Int} : longD l ⟨(i : Int), k, c, 0⟩ = t.long := by
  unfold longD
  dsimp only
  rw [Int.toNat_natCast, hi]
theorem sumF_le {l : List Task} {i : Nat} {t : Task} (h : okT t = true) (hi : l.getD i Dat.d0 = t) {a b u : Int} : ∀ {f : Nat} {k c : Int}, sumPJ l (inW l a b) (jobsF i t u f k c) ≤ dem1 t (b - max a c)
  | 0, k, c => dem1_nn h
  | f + 1, k, c => by
    have ho := okT_iff.1 h
    rw [jobsF]
    split
    · have ih := sumF_le (l := l) (a := a) (b := b) (u := u) h hi (f := f) (k := k + 1) (c := c + t.every)
      rw [sumPJ, long_job hi, inW_job hi]
      by_cases ha : a ≤ c
      · rw [show max a c = c by omega]
        rw [show max a (c + t.every) = c + t.every by omega, show b - (c + t.every) = b - c - t.every by omega] at ih
        by_cases hb : c + t.due ≤ b
        · rw [decide_eq_true ha, decide_eq_true hb, if_pos (by decide), dem1_add h (show t.due ≤ b - c by omega)]
          omega
        · rw [decide_eq_true ha, decide_eq_false hb, if_neg (by decide)]
          have := dem1_le h (show b - c - t.every ≤ b - c by omega)
          omega
      · rw [decide_eq_false ha, Bool.false_and, if_neg (by decide)]
        have := dem1_le h (show b - max a (c + t.every) ≤ b - max a c by omega)
        omega
    · exact dem1_nn h
theorem jobsF_long {l : List Task} {i : Nat} {t : Task} (h : okT t = true) (hi : l.getD i Dat.d0 = t) {u : Int} : ∀ {f : Nat} {k c : Int}, ∀ y ∈ jobsF i t u f k c, 0 ≤ longD l y.done
  | 0, k, c, y, hy => by cases hy
  | f + 1, k, c, y, hy => by
    rw [jobsF] at hy
    split at hy
    · rcases List.mem_cons.1 hy with rfl | hy
      · have ho := okT_iff.1 h
        rw [long_job hi]; omega
      · exact jobsF_long h hi y hy
    · cases hy
theorem sumF_ge {l : List Task} {i : Nat} {t : Task} (h : okT t = true) (hi : l.getD i Dat.d0 = t) {a b u : Int} (hb : b ≤ u) : ∀ {f : Nat} {k c : Int}, a ≤ c → (u - c).toNat ≤ f → dem1 t (b - c) ≤ sumPJ l (inW l a b) (jobsF i t u f k c)
  | 0, k, c, ha, hf => by
    have ho := okT_iff.1 h
    unfold dem1; rw [if_neg (by omega)]; exact Int.le_refl _
  | f + 1, k, c, ha, hf => by
    have ho := okT_iff.1 h
    by_cases hd : t.due ≤ b - c
    · rw [jobsF, if_pos (by omega), sumPJ, long_job hi, inW_job hi, decide_eq_true ha, decide_eq_true (by omega), if_pos (by decide), dem1_add h hd]
      have ih := sumF_ge (l := l) (a := a) h hi hb (f := f) (k := k + 1) (c := c + t.every) (by omega) (by omega)
      rw [show b - (c + t.every) = b - c - t.every by omega] at ih
      omega
    · have e : dem1 t (b - c) = 0 := by unfold dem1; rw [if_neg hd]
      rw [e]
      exact sumPJ_nonneg (jobsF_long h hi)
theorem sumL_le {l : List Task} (hl : l.all okT = true) {a b u : Int} (hab : a ≤ b) : ∀ {m : List Task} {first : List Int} {i : Nat}, l.drop i = m → sumPJ l (inW l a b) (jobsL u i m first) ≤ demS (b - a) m
  | [], first, i, _ => by simp [jobsL, demS, sumPJ]
  | t :: m, [], i, hm => by
    have : (t :: m).all okT = true := by
      rw [← hm, List.all_eq_true]
      exact fun x hx => List.all_eq_true.1 hl x (List.mem_of_mem_drop hx)
    have e : jobsL u i (t :: m) [] = [] := by simp [jobsL]
    rw [e, sumPJ]
    exact demS_nn (by omega) this
  | t :: m, c :: r, i, hm => by
    have hi : i < l.length := by
      have := congrArg List.length hm
      rw [List.length_drop, List.length_cons] at this; omega
    have e1 := drop_cons Dat.d0 hi
    rw [hm] at e1
    have e2 := List.cons.inj e1
    have ht : okT t = true := by rw [e2.1]; exact tk_get hi hl
    rw [jobsL, sumPJ_app, demS]
    have h1 := sumF_le (l := l) (i := i) (t := t) ht e2.1.symm (a := a) (b := b) (u := u) (f := (u - c).toNat) (k := 0) (c := c)
    have h2 := sumL_le hl (a := a) (b := b) (u := u) hab (m := m) (first := r) (i := i + 1) e2.2.symm
    have h3 := dem1_le ht (show b - max a c ≤ b - a by omega)
    unfold jobsN
    omega
theorem sumL_ge {l : List Task} (hl : l.all okT = true) {a b u : Int} (hab : a ≤ b) (hb : b ≤ u) : ∀ {m : List Task} {first : List Int} {i : Nat}, l.drop i = m → first.length = m.length → (∀ x ∈ first, x = a) → demS (b - a) m ≤ sumPJ l (inW l a b) (jobsL u i m first)
  | [], first, i, _, _, _ => by simp [jobsL, demS, sumPJ]
  | t :: m, [], i, _, h, _ => by simp at h
  | t :: m, c :: r, i, hm, hlen, hc => by
    have hi : i < l.length := by
      have := congrArg List.length hm
      rw [List.length_drop, List.length_cons] at this; omega
    have e1 := drop_cons Dat.d0 hi
    rw [hm] at e1
    have e2 := List.cons.inj e1
    have ht : okT t = true := by rw [e2.1]; exact tk_get hi hl
    have ec := hc c (List.mem_cons_self ..)
    rw [jobsL, sumPJ_app, demS]
    have h1 := sumF_ge (l := l) (i := i) (t := t) ht e2.1.symm (a := a) (b := b) (u := u) hb (f := (u - c).toNat) (k := 0) (c := c) (by omega) (Nat.le_refl _)
    have h2 := sumL_ge hl (a := a) (b := b) (u := u) hab hb (m := m) (first := r) (i := i + 1) e2.2.symm (by simpa using hlen) fun x hx => hc x (List.mem_cons_of_mem _ hx)
    unfold jobsN
    rw [show b - a = b - c by omega] at *
    omega
theorem enough_fit {l : List Task} {first : List Int} {s : Set} {u : Int} (hl : l.all okT = true) (hR : Right s) (h : ∀ n, 0 ≤ n → demS n l ≤ leastV s n) : Enough l first s u := by
  intro a b ha hab hbu
  rw [sumPJ_perm (sortS_perm _)]
  have h1 := sumL_le (l := l) hl (a := a) (b := b) (u := u) hab (m := l) (first := first) (i := 0) rfl
  have h2 := h (b - a) (by omega)
  have h3 := (leastV_spec hR (n := b - a) (by omega)).1 a ha
  unfold win at h3
  rw [show a + (b - a) = b by omega] at h3
  omega
theorem play_fits {l : List Task} {first : List Int} {s : Set} {u : Int} (h : (fitsV l s).2.2 = 0) (hy : (fitsV l s).1 = true) (hp : (lateV l s first 1 u).2 = true) : (lateV l s first 1 u).1 = 0 := by
  have hp2 : (playJ l s first 1 u).2.2 = 0 := by
    by_cases q : (playJ l s first 1 u).2.2 = 0
    · exact q
    · rw [late_err q] at hp; cases hp
  have G := good0_of hp2
  exact (late_ok hp2).2.2 (edf_ok G (enough_fit G.ok G.R (fits_yes h hy).2))
theorem play_misses {l : List Task} {s : Set} (h : (fitsV l s).2.2 = 0) (hy : (fitsV l s).1 = false) (hb : (fitsV l s).2.1 ≤ 10000) (hs : s.size ≤ 10000)
    (hall : ∀ a ∈ 0 :: s.spans.map (fun x => x.to), (lateV l s (List.replicate l.length a) 1 (min (a + (fitsV l s).2.1) 20000)).2 = true ∧ (lateV l s (List.replicate l.length a) 1 (min (a + (fitsV l s).2.1) 20000)).1 = 0) : False := by
  obtain ⟨b1, -, b3, -⟩ := fits_not h hy
  obtain ⟨-, -, -, F, -⟩ := fits_rt h
  generalize (fitsV l s).2.1 = by_ at *
  have key : ∀ a ∈ 0 :: s.spans.map (fun x => x.to), 0 ≤ a → a ≤ 10000 → demS by_ l ≤ win s by_ a := fun a ha h0 h1 => by
    obtain ⟨p1, p2⟩ := hall a ha
    rw [show min (a + by_) 20000 = a + by_ by omega] at p1 p2
    have hp2 : (playJ l s (List.replicate l.length a) 1 (a + by_)).2.2 = 0 := by
      by_cases q : (playJ l s (List.replicate l.length a) 1 (a + by_)).2.2 = 0
      · exact q
      · rw [late_err q] at p1; cases p1
    have G := good0_of hp2
    have hE := enough_of G ((late_ok hp2).2.1 p2) a (a + by_) h0 (by omega) (Int.le_refl _)
    rw [sumPJ_perm (sortS_perm _)] at hE
    have h2 := sumL_ge (l := l) G.ok (a := a) (b := a + by_) (u := a + by_) (by omega) (Int.le_refl _) (m := l) (first := List.replicate l.length a) (i := 0) rfl (by simp) fun x hx => (List.mem_replicate.1 hx).2
    rw [show a + by_ - a = by_ by omega] at h2
    unfold win
    omega
  obtain ⟨-, t, ht, e⟩ := leastV_spec F.rt (n := by_) (by omega)
  by_cases hne : s.spans = []
  · have h2 := key 0 (List.mem_cons_self ..) (Int.le_refl _) (by omega)
    rw [win_none F.rt hne] at h2 e
    omega
  · obtain ⟨x, hx, h2⟩ := win_end F.rt hne (n := by_) (by omega) ht
    have h3 := right_all F.rt x hx
    have h4 := key x.to (List.mem_cons_of_mem _ (List.mem_map_of_mem hx)) (by omega) (by omega)
    omega

end Go.Proofs.Ythgmnejlhljlaaa
