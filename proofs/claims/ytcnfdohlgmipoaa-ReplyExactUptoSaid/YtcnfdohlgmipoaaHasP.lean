/- The program's functions, walked: HasP. -/
import Derived.Test.YtcnfdohlgmipoaaHas
set_option linter.all false
namespace Go.Proofs.Ytcnfdohlgmipoaa
open Go Go.Abs
theorem okSp_get {size : Int} : ∀ {l : List Span} {last : Int} {i j : Nat}, okSp size last l = true → i < j → j < l.length → (l.getD i Dat.d0).to < (l.getD j Dat.d0).frm
  | [], _, _, _, _, _, h => by simp at h
  | x :: r, last, i, 0, _, h, _ => by omega
  | x :: r, last, 0, j + 1, ho, _, hj => by
    obtain ⟨h1, h2, h3, h4⟩ := okSp_iff.1 ho
    have hj' : j < r.length := by simpa using hj
    have := (okSp_bd h4).2.2 (r.getD j Dat.d0) (by rw [List.getD_eq_getElem?_getD, List.getElem?_eq_getElem hj']; exact List.getElem_mem hj')
    simp only [List.getD_cons_zero, List.getD_cons_succ]
    omega
  | x :: r, last, i + 1, j + 1, ho, hij, hj => by
    obtain ⟨h1, h2, h3, h4⟩ := okSp_iff.1 ho
    have := okSp_get (i := i) (j := j) h4 (by omega) (by simpa using hj)
    simpa only [List.getD_cons_succ] using this
theorem part_one {m : Int} : ∀ {l : List Span}, part (m + 1) l - part m l = 1 → ∃ k, k < l.length ∧ (l.getD k Dat.d0).frm ≤ m ∧ m < (l.getD k Dat.d0).to
  | [], h => by simp [part] at h
  | x :: r, h => by
    by_cases hx : x.frm ≤ m ∧ m < x.to
    · exact ⟨0, by simp, by simpa using hx.1, by simpa using hx.2⟩
    · have e : mx0 (mn x.to (m + 1) - x.frm) = mx0 (mn x.to m - x.frm) := by
        unfold mx0 mn
        repeat' split
        all_goals omega
      rw [part, part, e] at h
      obtain ⟨k, h1, h2, h3⟩ := part_one (m := m) (l := r) (by omega)
      exact ⟨k + 1, by simpa using h1, by simpa using h2, by simpa using h3⟩
theorem place_spec {s : Set} (h : Right s) {m : Int} {k : Nat} (hk : k < s.spans.length) (h1 : (s.spans.getD k Dat.d0).frm ≤ m) (h2 : m < (s.spans.getD k Dat.d0).to) : placeV s.spans m = k := by
  have e : placeV s.spans m = bsN (fun i => decide ((s.spans.length : Int) ≤ i ∨ 0 ≤ i ∧ m < (s.spans.getD i.toNat Dat.d0).to)) 0 s.spans.length := by
    refine bsN_congr _ 0 _ (Nat.le_refl _) fun i a b => ?_
    refine decide_eq_decide.2 ⟨fun c => .inr ⟨a, c⟩, fun c => ?_⟩
    rcases c with c | c
    · omega
    · exact c.2
  obtain ⟨i1, i2, i3, i4⟩ := bsN_spec (p := fun i => decide ((s.spans.length : Int) ≤ i ∨ 0 ≤ i ∧ m < (s.spans.getD i.toNat Dat.d0).to)) (fun a b hab ha => by
    simp only [decide_eq_true_eq] at ha ⊢
    rcases Int.lt_or_le b s.spans.length with hb | hb
    · right
      rcases ha with ha | ⟨ha, ha2⟩
      · omega
      · refine ⟨by omega, ?_⟩
        by_cases hq : a = b
        · rw [← hq]; exact ha2
        · have := okSp_get (i := a.toNat) (j := b.toNat) h.ok (by omega) (by omega)
          have := right_get h (k := b.toNat) (by omega)
          omega
    · exact .inl hb) _ 0 s.spans.length (Nat.le_refl _) (by omega)
  rw [e]
  generalize bsN (fun i => decide ((s.spans.length : Int) ≤ i ∨ 0 ≤ i ∧ m < (s.spans.getD i.toNat Dat.d0).to)) 0 s.spans.length = q at *
  rcases Int.lt_or_le (k : Int) q with hq | hq
  · have := i3 k (by omega) hq
    simp only [decide_eq_false_iff_not, not_or, not_and, Int.toNat_natCast] at this
    exact absurd h2 (this.2 (by omega))
  · have := i4 (by omega)
    simp only [decide_eq_true_eq] at this
    rcases this with h3 | ⟨h3, h4⟩
    · omega
    · by_cases hqk : q = k
      · exact hqk
      · have := okSp_get (i := q.toNat) (j := k) h.ok (by omega) hk
        omega
theorem has_one {s : Set} (h : Right s) {t : Int} (h0 : 0 ≤ t) (h1 : t ≤ 1099511627776) (hu : uptoV s (t + 1) - uptoV s t = 1) : hasV s t = (true, 0) := by
  obtain ⟨e1, e2, e3, e4, e5⟩ := divmod h h0
  have hq : 0 ≤ t / s.size := Int.ediv_nonneg h0 (by have := h.s1; omega)
  have a := upto_at h hq e3 (by omega)
  have b := upto_at h hq (show 0 ≤ t % s.size + 1 by omega) (by omega)
  rw [← e5] at a
  rw [← Int.add_assoc, ← e5] at b
  obtain ⟨k, k1, k2, k3⟩ := part_one (l := s.spans) (m := t % s.size) (by omega)
  have hp := place_spec h k1 k2 k3
  unfold hasV
  rw [if_pos (check_iff.2 h), if_neg (by omega), e2, hp, Int.toNat_natCast, decide_eq_true (by omega), decide_eq_true k2]
  rfl

end Go.Proofs.Ytcnfdohlgmipoaa
