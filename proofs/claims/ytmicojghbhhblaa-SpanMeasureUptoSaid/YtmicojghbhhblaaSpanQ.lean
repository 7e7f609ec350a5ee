/- The program's functions, walked: SpanQ. -/
import Derived.Test.YtmicojghbhhblaaNext
set_option linter.all false
namespace Go.Proofs.Ytmicojghbhhblaa
open Go Go.Abs
/- The plain laws of counting and of what is next. -/
theorem place_first {s : Set} (h : Right s) (m : Int) : (∀ k : Nat, (k : Int) < placeV s.spans m → (s.spans.getD k Dat.d0).to ≤ m) ∧ (placeV s.spans m < s.spans.length → m < (s.spans.getD (placeV s.spans m).toNat Dat.d0).to) := by
  have e : placeV s.spans m = bsN (fun i => decide ((s.spans.length : Int) ≤ i ∨ 0 ≤ i ∧ m < (s.spans.getD i.toNat Dat.d0).to)) 0 s.spans.length := by
    refine bsN_congr _ 0 _ (Nat.le_refl _) fun i a b => ?_
    refine decide_eq_decide.2 ⟨fun c => .inr ⟨a, c⟩, fun c => ?_⟩
    rcases c with c | c
    · omega
    · exact c.2
  obtain ⟨i1, i2, i3, i4⟩ := bsN_spec (p := fun i => decide ((s.spans.length : Int) ≤ i ∨ 0 ≤ i ∧ m < (s.spans.getD i.toNat Dat.d0).to)) (fun a b hab ha => by
    simp only [decide_eq_true_eq] at ha ⊢
    rcases Int.lt_or_le b s.spans.length with hb | hb
    · right
      rcases ha with ha | ⟨ha, ha2⟩
      · omega
      · refine ⟨by omega, ?_⟩
        by_cases hq : a = b
        · rw [← hq]; exact ha2
        · have := okSp_get (i := a.toNat) (j := b.toNat) h.ok (by omega) (by omega)
          have := right_get h (k := b.toNat) (by omega)
          omega
    · exact .inl hb) _ 0 s.spans.length (Nat.le_refl _) (by omega)
  rw [e]
  generalize bsN (fun i => decide ((s.spans.length : Int) ≤ i ∨ 0 ≤ i ∧ m < (s.spans.getD i.toNat Dat.d0).to)) 0 s.spans.length = q at *
  refine ⟨fun k hk => ?_, fun hq => ?_⟩
  · have := i3 k (by omega) hk
    simp only [decide_eq_false_iff_not, not_or, not_and, Int.toNat_natCast] at this
    have := this.2 (by omega)
    omega
  · have := i4 hq
    simp only [decide_eq_true_eq] at this
    rcases this with h3 | ⟨h3, h4⟩
    · omega
    · exact h4
theorem part_gap {m m' : Int} (hm : m ≤ m') : ∀ {l : List Span}, (∀ x ∈ l, x.frm < x.to) → (∀ x ∈ l, x.to ≤ m ∨ m' ≤ x.frm) → part m' l = part m l
  | [], _, _ => rfl
  | x :: r, h0, h => by
    have a := h0 x (by simp)
    have b := h x (by simp)
    rw [part, part, part_gap hm (fun y hy => h0 y (by simp [hy])) fun y hy => h y (by simp [hy])]
    congr 1
    unfold mx0 mn
    repeat' split
    all_goals omega
theorem part_oneR {size m : Int} : ∀ {l : List Span} {last : Int} {x : Span}, okSp size last l = true → x ∈ l → x.frm ≤ m → m < x.to → part (m + 1) l = part m l + 1
  | [], _, _, _, h, _, _ => by simp at h
  | y :: r, last, x, h, hx, a, b => by
    obtain ⟨h1, h2, h3, h4⟩ := okSp_iff.1 h
    have bd := (okSp_bd h4).2.2
    rcases List.mem_cons.1 hx with rfl | hx
    · have z : ∀ t, t ≤ x.to → part t r = 0 := fun t ht => part0 fun y hy => by have := bd y hy; omega
      rw [part, part, z m (by omega), z (m + 1) (by omega)]
      unfold mx0 mn
      repeat' split
      all_goals omega
    · have i := part_oneR h4 hx a b
      have bx := bd x hx
      have e : mx0 (mn y.to (m + 1) - y.frm) = mx0 (mn y.to m - y.frm) := by
        unfold mx0 mn
        repeat' split
        all_goals omega
      rw [part, part, e]; omega
theorem gd_mem {l : List Span} {k : Nat} (h : k < l.length) : l.getD k Dat.d0 ∈ l := by
  rw [List.getD_eq_getElem?_getD, List.getElem?_eq_getElem h]; exact List.getElem_mem h
theorem mem_gd {l : List Span} {x : Span} (h : x ∈ l) : ∃ k, k < l.length ∧ l.getD k Dat.d0 = x := by
  obtain ⟨i, hi, hx⟩ := List.getElem_of_mem h
  exact ⟨i, hi, by rw [List.getD_eq_getElem?_getD, List.getElem?_eq_getElem hi, hx]; rfl⟩
/-- What is true of the next time. -/
theorem next_law {s : Set} {t n : Int} (hn : nextV s t = (n, 0)) : Right s ∧ 0 ≤ t ∧ t ≤ 1099511627776 ∧ t ≤ n ∧ n < t + s.size ∧ (n ≤ 1099511627776 → hasV s n = (true, 0) ∧ countV s t n = (0, 0) ∧ nextV s n = (n, 0)) := by
  unfold nextV at hn
  split at hn
  case isFalse hc => simp only [Prod.mk.injEq] at hn; omega
  rename_i hc
  have hR := check_iff.1 hc
  split at hn
  · simp at hn
  rename_i ht
  split at hn
  · simp at hn
  rename_i hl
  have ht0 : 0 ≤ t := by omega
  have hs1 := hR.s1
  obtain ⟨d1, d2, d3, d4, d5⟩ := divmod hR ht0
  have em : t - (t - t.tmod s.size) = t % s.size := by omega
  rw [em, d2] at hn
  obtain ⟨p1, p2⟩ := placeV_bd s.spans (t % s.size)
  obtain ⟨p3, p4⟩ := place_first hR (t % s.size)
  have hq : 0 ≤ t / s.size := Int.ediv_nonneg ht0 (by omega)
  have hmod : ∀ q r : Int, 0 ≤ q → 0 ≤ r → r < s.size → (q * s.size + r) % s.size = r ∧ (q * s.size + r).tmod s.size = r ∧ 0 ≤ q * s.size := fun q r a b c => by
    have h0 : 0 ≤ q * s.size := Int.mul_nonneg a (by omega)
    have e : (q * s.size + r) % s.size = r := by rw [show q * s.size + r = r + q * s.size by omega, Int.add_mul_emod_self_right]; exact Int.emod_eq_of_lt b c
    exact ⟨e, by rw [Int.tmod_eq_emod_of_nonneg (by omega)]; exact e, h0⟩
  have hhas : ∀ (q : Int) (r : Int) (k : Nat), 0 ≤ q → k < s.spans.length → (s.spans.getD k Dat.d0).frm ≤ r → r < (s.spans.getD k Dat.d0).to → q * s.size + r ≤ 1099511627776 → hasV s (q * s.size + r) = (true, 0) ∧ nextV s (q * s.size + r) = (q * s.size + r, 0) := fun q r k a hk b c d => by
    have g := right_get hR hk
    obtain ⟨m1, m2, m3⟩ := hmod q r a (by omega) (by omega)
    have pl := place_spec hR hk b c
    constructor
    · unfold hasV
      rw [if_pos hc, if_neg (by omega), m2, pl, Int.toNat_natCast, decide_eq_true (by omega), decide_eq_true b]
      rfl
    · unfold nextV
      rw [if_pos hc, if_neg (by omega), if_neg (by omega), m2, show q * s.size + r - (q * s.size + r - r) = r by omega, pl, if_pos (by omega), Int.toNat_natCast, if_neg (by omega)]
  generalize hbq : t / s.size = Q at *
  split at hn
  · rename_i hp
    have g := right_get hR (k := (placeV s.spans (t % s.size)).toNat) (by omega)
    have p5 := p4 hp
    generalize hK : (placeV s.spans (t % s.size)).toNat = k at *
    have hk : k < s.spans.length := by omega
    generalize hx : s.spans.getD k Dat.d0 = x at *
    simp only [Prod.mk.injEq, and_true] at hn
    have hbase : t - t % s.size = Q * s.size := by omega
    rw [hbase] at hn
    obtain ⟨r, hr, r1, r2, r3⟩ : ∃ r, n = Q * s.size + r ∧ t % s.size ≤ r ∧ x.frm ≤ r ∧ (r = t % s.size ∨ r = x.frm) := by
      split at hn
      · exact ⟨x.frm, by omega, by omega, by omega, .inr rfl⟩
      · exact ⟨t % s.size, by omega, by omega, by omega, .inl rfl⟩
    have hrx : r < x.to := by omega
    refine ⟨hR, ht0, by omega, by omega, by omega, fun hM => ?_⟩
    subst hr
    obtain ⟨a1, a2⟩ := hhas Q r k hq hk (by rw [hx]; exact r2) (by rw [hx]; exact hrx) hM
    refine ⟨a1, ?_, a2⟩
    rw [count_of hR ht0 (by omega) hM, upto_at hR hq (by omega) (by omega)]
    have u := upto_at hR (m := t % s.size) hq d3 (by omega)
    rw [← d5] at u
    rw [u]
    have : part r s.spans = part (t % s.size) s.spans := by
      rcases r3 with r3 | r3
      · rw [r3]
      refine part_gap r1 (fun y hy => ((okSp_bd hR.ok).2.2 y hy).2.1) fun y hy => ?_
      obtain ⟨j, hj, rfl⟩ := mem_gd hy
      rcases Nat.lt_trichotomy j k with c | c | c
      · exact .inl (p3 j (by omega))
      · subst c; rw [hx]; right; omega
      · have := okSp_get (i := k) (j := j) hR.ok c hj
        rw [hx] at this
        right; omega
    rw [this]
    congr 1; omega
  · rename_i hp
    have hk : 0 < s.spans.length := by omega
    have g := right_get hR hk
    simp only [Prod.mk.injEq, and_true] at hn
    have hto : (s.spans.getD 0 Dat.d0).to ≤ t % s.size := p3 0 (by omega)
    generalize hx : s.spans.getD 0 Dat.d0 = x at *
    have hbase : t - t % s.size + s.size = (Q + 1) * s.size := by rw [Int.add_mul]; omega
    rw [hbase] at hn
    subst hn
    have e1 : (Q + 1) * s.size = Q * s.size + s.size := by rw [Int.add_mul]; omega
    refine ⟨hR, ht0, by omega, by omega, by omega, fun hM => ?_⟩
    obtain ⟨a1, a2⟩ := hhas (Q + 1) x.frm 0 (by omega) hk (by rw [hx]; exact Int.le_refl _) (by rw [hx]; omega) hM
    refine ⟨a1, ?_, a2⟩
    rw [count_of hR ht0 (by omega) hM, upto_at hR (by omega) (by omega) (by omega)]
    have u := upto_at hR (m := t % s.size) hq d3 (by omega)
    rw [← d5] at u
    rw [u, part0 (t := x.frm) fun y hy => ?_, partS (t := t % s.size) fun y hy => ?_]
    · rw [Int.add_mul]; congr 1; omega
    · obtain ⟨j, hj, rfl⟩ := mem_gd hy
      exact ⟨(right_get hR hj).2.1, p3 j (by omega)⟩
    · obtain ⟨j, hj, rfl⟩ := mem_gd hy
      refine ⟨?_, (right_get hR hj).2.1⟩
      rcases Nat.eq_zero_or_pos j with c | c
      · subst c; rw [hx]; exact Int.le_refl _
      · have := okSp_get (i := 0) (j := j) hR.ok c hj
        rw [hx] at this; omega
theorem has_iff {s : Set} (h : Right s) {t : Int} (h0 : 0 ≤ t) (h1 : t ≤ 1099511627776) : hasV s t = (decide (uptoV s (t + 1) - uptoV s t = 1), 0) := by
  by_cases hu : uptoV s (t + 1) - uptoV s t = 1
  · rw [has_one h h0 h1 hu, decide_eq_true hu]
  · rw [decide_eq_false hu]
    obtain ⟨e1, e2, e3, e4, e5⟩ := divmod h h0
    unfold hasV
    rw [if_pos (check_iff.2 h), if_neg (by omega), e2]
    congr 1
    apply Bool.eq_false_iff.2
    intro hc
    simp only [Bool.and_eq_true, decide_eq_true_eq] at hc
    obtain ⟨c1, c2⟩ := hc
    obtain ⟨p1, p2⟩ := placeV_bd s.spans (t % s.size)
    obtain ⟨p3, p4⟩ := place_first h (t % s.size)
    have hq : 0 ≤ t / s.size := Int.ediv_nonneg h0 (by have := h.s1; omega)
    have a := upto_at h hq e3 (by omega)
    have b := upto_at h hq (show 0 ≤ t % s.size + 1 by omega) (by omega)
    rw [← e5] at a
    rw [← Int.add_assoc, ← e5] at b
    have := part_oneR (m := t % s.size) h.ok (gd_mem (k := (placeV s.spans (t % s.size)).toNat) (by omega)) c2 (p4 c1)
    omega

end Go.Proofs.Ytmicojghbhhblaa
