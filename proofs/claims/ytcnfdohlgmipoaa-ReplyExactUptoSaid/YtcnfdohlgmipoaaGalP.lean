/- The least there is of so many in a row: plain. -/
import Derived.Test.YtcnfdohlgmipoaaWait
set_option linter.all false
namespace Go.Proofs.Ytcnfdohlgmipoaa
open Go Go.Abs

theorem bnd_ok {s : Set} {n : Int} {m : Bool} (h : (boundV s n m).2 = 0) : Right s ∧ 0 ≤ n ∧ n ≤ 549755813888 := by
  unfold boundV at h
  split at h
  · rename_i hc
    split at h
    · cases h
    · exact ⟨check_iff.1 hc, by omega, by omega⟩
  · rename_i hc; exact absurd h hc
theorem bnd_err {s : Set} {n : Int} {m : Bool} (h : ¬ (boundV s n m).2 = 0) : (boundV s n m).1 = 0 := by
  unfold boundV at *
  split
  · rename_i hc
    rw [if_pos hc] at h
    split
    · rfl
    · rename_i h1; rw [if_neg h1] at h; exact absurd rfl h
  · rfl
theorem win_split {s : Set} (h : Right s) {n t : Int} (hn : 0 ≤ n) (h0 : 0 ≤ t) : win s n t = n / s.size * long s.spans + win s (n % s.size) t := by
  obtain ⟨-, -, e3, e4, e5⟩ := divmod h hn
  have hq : 0 ≤ n / s.size := Int.ediv_nonneg hn (by have := h.s1; omega)
  obtain ⟨q, hqn⟩ : ∃ q : Nat, n / s.size = q := ⟨(n / s.size).toNat, by omega⟩
  have := upto_frames h (show 0 ≤ t + n % s.size by omega) q
  unfold win
  rw [← hqn] at this
  rw [show t + n = t + n % s.size + n / s.size * s.size by omega, this]
  omega
theorem leastV_spec {s : Set} (h : Right s) {n : Int} (hn : 0 ≤ n) : (∀ t, 0 ≤ t → leastV s n ≤ win s n t) ∧ ∃ t, 0 ≤ t ∧ leastV s n = win s n t := by
  obtain ⟨e1, e2, e3, e4, e5⟩ := divmod h hn
  have hs2 := h.s2
  obtain ⟨L, hL, hL2, t, ht0, ht1, ht2⟩ := least_spec h e3 (by omega)
  have e : leastV s n = n / s.size * long s.spans + L := by
    rw [leastV, e1, e2, hL, count0 h, uptoS h, upto0 h, Int.sub_zero]
  refine ⟨fun t ht => ?_, t, ht0, ?_⟩
  · rw [win_split h hn ht, e]
    have := hL2 t ht; omega
  · rw [win_split h hn ht0, e]; omega
theorem leastV_bound {s : Set} (h : Right s) {n : Int} (hn : 0 ≤ n) (hn2 : n ≤ 549755813888) : boundV s n false = (leastV s n, 0) := by
  obtain ⟨L, hL, hL2, t, ht0, ht1, ht2⟩ := least_spec h hn hn2
  obtain ⟨h1, u, hu, h2⟩ := leastV_spec h hn
  have := h1 t ht0
  have := hL2 u hu
  rw [hL]
  congr 1
  omega
theorem leastV_step {s : Set} (h : Right s) {n : Int} (hn : 0 ≤ n) : leastV s n ≤ leastV s (n + 1) ∧ leastV s (n + 1) ≤ leastV s n + 1 := by
  obtain ⟨a1, t, a2, a3⟩ := leastV_spec h hn
  obtain ⟨b1, u, b2, b3⟩ := leastV_spec h (show 0 ≤ n + 1 by omega)
  have h1 := a1 u b2
  have h2 := b1 t a2
  have e : ∀ t, 0 ≤ t → win s n t ≤ win s (n + 1) t ∧ win s (n + 1) t ≤ win s n t + 1 := fun t ht => by
    have := upto_step h (t := t + n) (by omega)
    unfold win; rw [show t + (n + 1) = t + n + 1 by omega]; omega
  have := e u b2
  have := e t a2
  omega
theorem leastV_mono {s : Set} (h : Right s) {a b : Int} (h0 : 0 ≤ a) (hab : a ≤ b) : leastV s a ≤ leastV s b := by
  have key : ∀ k : Nat, leastV s a ≤ leastV s (a + k) := by
    intro k
    induction k with
    | zero => simp
    | succ k ih =>
      have := (leastV_step h (n := a + k) (by omega)).1
      rw [Int.natCast_add, Int.natCast_one, ← Int.add_assoc]; omega
  have := key (b - a).toNat
  rwa [show a + ((b - a).toNat : Int) = b by omega] at this
theorem leastV_zero {s : Set} (h : Right s) : leastV s 0 = 0 := by
  obtain ⟨a1, t, a2, a3⟩ := leastV_spec h (Int.le_refl 0)
  rw [a3]; unfold win; rw [Int.add_zero]; omega
theorem long_pos {s : Set} (h : Right s) (hne : s.spans.length ≠ 0) : 1 ≤ long s.spans := by
  match hs : s.spans, hne with
  | x :: r, _ =>
    have b := (okSp_bd h.ok).2.2 x (by rw [hs]; simp)
    have : 0 ≤ long r := long_nn (size := s.size) (last := -1) fun y hy => (okSp_bd h.ok).2.2 y (by rw [hs]; simp [hy])
    rw [long]; omega
theorem wait_spec {s : Set} (h : Right s) (hne : s.spans.length ≠ 0) {need : Int} (h0 : 0 < need) (h1 : need ≤ 1000000) :
    ∃ W, waitV s need = (W, 0) ∧ 0 < W ∧ W ≤ 1000002000000 ∧ need ≤ leastV s W ∧ ∀ m, 0 ≤ m → m < W → leastV s m < need := by
  have hN := nbd h (show 0 ≤ need by omega) h1
  have hs1 := h.s1
  have hlp := long_pos h hne
  have e : waitV s need = (bsN (fun n => decide (need ≤ leastV s n)) 0 (s.size * (need + 2)), 0) := by
    unfold waitV fewV
    rw [if_pos (check_iff.2 h), if_neg (by omega), if_neg (by omega), if_neg hne]
  generalize hNN : s.size * (need + 2) = N at *
  -- p, from 0 on alone, rises
  have hbs : bsN (fun n => decide (need ≤ leastV s n)) 0 N = bsN (fun n => decide (0 ≤ n ∧ need ≤ leastV s n)) 0 N := by
    have key : ∀ (f : Nat) (lo hi : Int), 0 ≤ lo → (hi - lo).toNat ≤ f → bsN (fun n => decide (need ≤ leastV s n)) lo hi = bsN (fun n => decide (0 ≤ n ∧ need ≤ leastV s n)) lo hi := by
      intro f
      induction f with
      | zero => intro lo hi _ hf; rw [bsN_ge (by omega), bsN_ge (by omega)]
      | succ f ih =>
        intro lo hi hlo hf
        by_cases hlt : lo < hi
        · rw [bsN_lt hlt, bsN_lt hlt, ih lo ((lo + hi) / 2) hlo (by omega), ih ((lo + hi) / 2 + 1) hi (by omega) (by omega)]
          have : 0 ≤ (lo + hi) / 2 := by omega
          simp [this]
        · rw [bsN_ge hlt, bsN_ge hlt]
    exact key _ 0 N (Int.le_refl _) (Nat.le_refl _)
  rw [hbs] at e
  obtain ⟨i1, i2, i3, i4⟩ := bsN_spec (p := fun n => decide (0 ≤ n ∧ need ≤ leastV s n)) (fun a b hab ha => by
    simp only [decide_eq_true_eq] at ha ⊢
    exact ⟨by omega, by have := leastV_mono h ha.1 hab; omega⟩) (N - 0).toNat 0 N (Nat.le_refl _) (by omega)
  generalize bsN (fun n => decide (0 ≤ n ∧ need ≤ leastV s n)) 0 N = W at *
  have hlast : need ≤ leastV s N := by
    obtain ⟨a1, t, a2, a3⟩ := leastV_spec h (show 0 ≤ N by omega)
    rw [a3, win_split h (by omega) a2, ← hNN, show s.size * (need + 2) = (need + 2) * s.size from Int.mul_comm _ _, Int.mul_ediv_cancel _ (by omega)]
    have hb := (win_bd h (Int.emod_nonneg ((need + 2) * s.size) (show s.size ≠ 0 by omega)) a2).1
    have : (need + 2) * 1 ≤ (need + 2) * long s.spans := Int.mul_le_mul_of_nonneg_left hlp (by omega)
    omega
  have hW : need ≤ leastV s W := by
    by_cases hlt : W < N
    · have := i4 hlt
      simp only [decide_eq_true_eq] at this
      exact this.2
    · rw [show W = N by omega]; exact hlast
  refine ⟨W, e, ?_, by omega, hW, fun m hm hmW => ?_⟩
  · by_cases hz : W = 0
    · rw [hz, leastV_zero h] at hW; omega
    · omega
  · have := i3 m hm hmW
    simp only [decide_eq_false_iff_not, not_and] at this
    have := this hm
    omega
theorem waitV_ok {s : Set} {need : Int} (h : (waitV s need).2 = 0) : Right s ∧ 0 ≤ need ∧ need ≤ 1000000 ∧ (need = 0 ∧ (waitV s need).1 = 0 ∨ s.spans.length ≠ 0) := by
  unfold waitV at *
  split at h
  · rename_i hc
    split at h
    · cases h
    · refine ⟨check_iff.1 hc, by omega, by omega, ?_⟩
      rw [if_pos hc, if_neg (by assumption)]
      unfold fewV at *
      split at h
      · rename_i h0; rw [if_pos h0]; exact .inl ⟨h0, rfl⟩
      · split at h
        · cases h
        · right; assumption
  · rename_i hc; exact absurd h hc
theorem waitV_err {s : Set} {need : Int} (h : ¬ (waitV s need).2 = 0) : (waitV s need).1 = 0 := by
  unfold waitV at *
  split
  · rename_i hc
    rw [if_pos hc] at h
    split
    · rfl
    · rename_i h1
      rw [if_neg h1] at h
      unfold fewV at *
      split
      · rfl
      · rename_i h2
        rw [if_neg h2] at h
        split
        · rfl
        · rename_i h3; rw [if_neg h3] at h; exact absurd rfl h
  · rfl
theorem galois {s : Set} {need n : Int} (h : (waitV s need).2 = 0) (hn : 0 ≤ n) : (need ≤ leastV s n ↔ (waitV s need).1 ≤ n) ∧ ((waitV s (need + 1)).2 = 0 → (waitV s need).1 < (waitV s (need + 1)).1) := by
  obtain ⟨hR, h0, h1, h2⟩ := waitV_ok h
  have hz := leastV_zero hR
  by_cases hne : need = 0
  · have hw : (waitV s need).1 = 0 := by
      rw [hne]; unfold waitV fewV; rw [if_pos (check_iff.2 hR), if_neg (by omega), if_pos rfl]
    have := leastV_mono hR (Int.le_refl 0) hn
    refine ⟨by rw [hw]; omega, fun h3 => ?_⟩
    obtain ⟨-, k1, k2, k3⟩ := waitV_ok h3
    rcases k3 with ⟨k3, -⟩ | k3
    · omega
    · obtain ⟨W, w1, w2, -⟩ := wait_spec hR k3 (show 0 < need + 1 by omega) (by omega)
      rw [w1, hw]; exact w2
  · have hl : s.spans.length ≠ 0 := by
      rcases h2 with ⟨h2, -⟩ | h2
      · exact absurd h2 hne
      · exact h2
    obtain ⟨W, w1, w2, w3, w4, w5⟩ := wait_spec hR hl (show 0 < need by omega) h1
    rw [w1]
    refine ⟨⟨fun h3 => ?_, fun h3 => ?_⟩, fun h3 => ?_⟩
    · rcases Int.lt_or_le n W with h4 | h4
      · have := w5 n hn h4; omega
      · exact h4
    · have := leastV_mono hR (show 0 ≤ W by omega) h3; omega
    · obtain ⟨-, k1, k2, -⟩ := waitV_ok h3
      obtain ⟨V, v1, v2, v3, v4, v5⟩ := wait_spec hR hl (show 0 < need + 1 by omega) k2
      rw [v1]
      show W < V
      rcases Int.lt_or_le W V with h4 | h4
      · exact h4
      · have a := leastV_step hR (n := V - 1) (by omega)
        rw [show V - 1 + 1 = V by omega] at a
        have := w5 (V - 1) (by omega) (by omega)
        omega

end Go.Proofs.Ytcnfdohlgmipoaa
