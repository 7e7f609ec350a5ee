/- The plain laws of counting. -/
import Derived.Test.YtcnfdohlgmipoaaHasP
set_option linter.all false
namespace Go.Proofs.Ytcnfdohlgmipoaa
open Go Go.Abs

theorem place_first {s : Set} (h : Right s) (m : Int) : (∀ k : Nat, (k : Int) < placeV s.spans m → (s.spans.getD k Dat.d0).to ≤ m) ∧ (placeV s.spans m < s.spans.length → m < (s.spans.getD (placeV s.spans m).toNat Dat.d0).to) := by
  have e : placeV s.spans m = bsN (fun i => decide ((s.spans.length : Int) ≤ i ∨ 0 ≤ i ∧ m < (s.spans.getD i.toNat Dat.d0).to)) 0 s.spans.length := by
    refine bsN_congr _ 0 _ (Nat.le_refl _) fun i a b => ?_
    refine decide_eq_decide.2 ⟨fun c => .inr ⟨a, c⟩, fun c => ?_⟩
    rcases c with c | c
    · omega
    · exact c.2
  obtain ⟨i1, i2, i3, i4⟩ := bsN_spec (p := fun i => decide ((s.spans.length : Int) ≤ i ∨ 0 ≤ i ∧ m < (s.spans.getD i.toNat Dat.d0).to)) (fun a b hab ha => by
    simp only [decide_eq_true_eq] at ha ⊢
    rcases Int.lt_or_le b s.spans.length with hb | hb
    · right
      rcases ha with ha | ⟨ha, ha2⟩
      · omega
      · refine ⟨by omega, ?_⟩
        by_cases hq : a = b
        · rw [← hq]; exact ha2
        · have := okSp_get (i := a.toNat) (j := b.toNat) h.ok (by omega) (by omega)
          have := right_get h (k := b.toNat) (by omega)
          omega
    · exact .inl hb) _ 0 s.spans.length (Nat.le_refl _) (by omega)
  rw [e]
  generalize bsN (fun i => decide ((s.spans.length : Int) ≤ i ∨ 0 ≤ i ∧ m < (s.spans.getD i.toNat Dat.d0).to)) 0 s.spans.length = q at *
  refine ⟨fun k hk => ?_, fun hq => ?_⟩
  · have := i3 k (by omega) hk
    simp only [decide_eq_false_iff_not, not_or, not_and, Int.toNat_natCast] at this
    have := this.2 (by omega)
    omega
  · have := i4 hq
    simp only [decide_eq_true_eq] at this
    rcases this with h3 | ⟨h3, h4⟩
    · omega
    · exact h4
theorem part_gap {m m' : Int} (hm : m ≤ m') : ∀ {l : List Span}, (∀ x ∈ l, x.frm < x.to) → (∀ x ∈ l, x.to ≤ m ∨ m' ≤ x.frm) → part m' l = part m l
  | [], _, _ => rfl
  | x :: r, h0, h => by
    have a := h0 x (by simp)
    have b := h x (by simp)
    rw [part, part, part_gap hm (fun y hy => h0 y (by simp [hy])) fun y hy => h y (by simp [hy])]
    congr 1
    unfold mx0 mn
    repeat' split
    all_goals omega
theorem part_oneR {size m : Int} : ∀ {l : List Span} {last : Int} {x : Span}, okSp size last l = true → x ∈ l → x.frm ≤ m → m < x.to → part (m + 1) l = part m l + 1
  | [], _, _, _, h, _, _ => by simp at h
  | y :: r, last, x, h, hx, a, b => by
    obtain ⟨h1, h2, h3, h4⟩ := okSp_iff.1 h
    have bd := (okSp_bd h4).2.2
    rcases List.mem_cons.1 hx with rfl | hx
    · have z : ∀ t, t ≤ x.to → part t r = 0 := fun t ht => part0 fun y hy => by have := bd y hy; omega
      rw [part, part, z m (by omega), z (m + 1) (by omega)]
      unfold mx0 mn
      repeat' split
      all_goals omega
    · have i := part_oneR h4 hx a b
      have bx := bd x hx
      have e : mx0 (mn y.to (m + 1) - y.frm) = mx0 (mn y.to m - y.frm) := by
        unfold mx0 mn
        repeat' split
        all_goals omega
      rw [part, part, e]; omega
theorem gd_mem {l : List Span} {k : Nat} (h : k < l.length) : l.getD k Dat.d0 ∈ l := by
  rw [List.getD_eq_getElem?_getD, List.getElem?_eq_getElem h]; exact List.getElem_mem h
theorem mem_gd {l : List Span} {x : Span} (h : x ∈ l) : ∃ k, k < l.length ∧ l.getD k Dat.d0 = x := by
  obtain ⟨i, hi, hx⟩ := List.getElem_of_mem h
  exact ⟨i, hi, by rw [List.getD_eq_getElem?_getD, List.getElem?_eq_getElem hi, hx]; rfl⟩
theorem has_iff {s : Set} (h : Right s) {t : Int} (h0 : 0 ≤ t) (h1 : t ≤ 1099511627776) : hasV s t = (decide (uptoV s (t + 1) - uptoV s t = 1), 0) := by
  by_cases hu : uptoV s (t + 1) - uptoV s t = 1
  · rw [has_one h h0 h1 hu, decide_eq_true hu]
  · rw [decide_eq_false hu]
    obtain ⟨e1, e2, e3, e4, e5⟩ := divmod h h0
    unfold hasV
    rw [if_pos (check_iff.2 h), if_neg (by omega), e2]
    congr 1
    apply Bool.eq_false_iff.2
    intro hc
    simp only [Bool.and_eq_true, decide_eq_true_eq] at hc
    obtain ⟨c1, c2⟩ := hc
    obtain ⟨p1, p2⟩ := placeV_bd s.spans (t % s.size)
    obtain ⟨p3, p4⟩ := place_first h (t % s.size)
    have hq : 0 ≤ t / s.size := Int.ediv_nonneg h0 (by have := h.s1; omega)
    have a := upto_at h hq e3 (by omega)
    have b := upto_at h hq (show 0 ≤ t % s.size + 1 by omega) (by omega)
    rw [← e5] at a
    rw [← Int.add_assoc, ← e5] at b
    have := part_oneR (m := t % s.size) h.ok (gd_mem (k := (placeV s.spans (t % s.size)).toNat) (by omega)) c2 (p4 c1)
    omega

end Go.Proofs.Ytcnfdohlgmipoaa
