/- What is in both sets. -/
import Derived.Test.YtadjemhbfaonbaaOfP
import Derived.Test.YtadjemhbfaonbaaBothB
set_option linter.all false
namespace Go.Proofs.Ytadjemhbfaonbaa
open Go Go.Abs

theorem inB_bd {n q : Int} {l : List Span} (h : okSp n q l = true) {t : Int} (ht : inB l t = true) : q < t ∧ t < n := by
  obtain ⟨x, hx, h1, h2⟩ := inB_iff.1 ht
  have := (okSp_bd h).2.2 x hx
  omega
theorem both_in {n : Int} : ∀ (k : Nat) (l m : List Span) (p q : Int), l.length + m.length ≤ k → okSp n p l = true → okSp n q m = true → (∀ r, (r ≤ p ∨ r ≤ q) → okSp n r (bothR l m) = true) ∧ ∀ t, inB (bothR l m) t = (inB l t && inB m t)
  | _, [], m, p, q, _, _, _ => by rw [bothR_nil (.inl rfl)]; exact ⟨fun _ _ => rfl, fun t => by simp [inB]⟩
  | _, x :: l, [], p, q, _, _, _ => by rw [bothR_nil (.inr rfl)]; exact ⟨fun _ _ => rfl, fun t => by simp [inB]⟩
  | 0, x :: l, y :: m, p, q, hk, _, _ => by simp at hk
  | k + 1, x :: l, y :: m, p, q, hk, h1, h2 => by
    obtain ⟨a1, a2, a3, a4⟩ := okSp_iff.1 h1
    obtain ⟨b1, b2, b3, b4⟩ := okSp_iff.1 h2
    simp only [List.length_cons] at hk
    have hl := fun t ht => inB_bd (t := t) a4 ht
    have hm := fun t ht => inB_bd (t := t) b4 ht
    have ez : (capS x y).frm = mx x.frm y.frm ∧ (capS x y).to = mn x.to y.to := ⟨rfl, rfl⟩
    have em : x.frm ≤ mx x.frm y.frm ∧ y.frm ≤ mx x.frm y.frm ∧ (mx x.frm y.frm = x.frm ∨ mx x.frm y.frm = y.frm) := by unfold mx; split <;> omega
    have en : mn x.to y.to ≤ x.to ∧ mn x.to y.to ≤ y.to ∧ (x.to < y.to → mn x.to y.to = x.to) ∧ (¬ x.to < y.to → mn x.to y.to = y.to) := by unfold mn; split <;> omega
    have hz : ∀ t, inB (if (capS x y).frm < (capS x y).to then [capS x y] else []) t = (decide (x.frm ≤ t) && decide (t < x.to) && (decide (y.frm ≤ t) && decide (t < y.to))) := by
      intro t
      rw [Bool.eq_iff_iff]
      split
      · simp only [inB, List.any_cons, List.any_nil, Bool.or_false, Bool.and_eq_true, decide_eq_true_eq]
        by_cases hc : x.to < y.to
        · have := en.2.2.1 hc; omega
        · have := en.2.2.2 hc; omega
      · simp only [inB, List.any_nil, Bool.false_eq_true, Bool.and_eq_true, decide_eq_true_eq, false_iff]
        by_cases hc : x.to < y.to
        · have := en.2.2.1 hc; omega
        · have := en.2.2.2 hc; omega
    rw [bothR]
    by_cases hc : x.to < y.to
    · rw [if_pos hc]
      obtain ⟨i1, i2⟩ := both_in k l (y :: m) x.to q (by simp only [List.length_cons]; omega) a4 h2
      refine ⟨fun r hr => ?_, fun t => ?_⟩
      · by_cases hc2 : (capS x y).frm < (capS x y).to
        · rw [if_pos hc2]
          show okSp n r (capS x y :: _) = true
          rw [okSp_iff]
          have := en.2.2.1 hc
          exact ⟨by omega, hc2, by omega, i1 _ (by omega)⟩
        · rw [if_neg hc2]
          exact i1 r (by omega)
      · rw [inB_app, hz, i2, inB_cons, inB_cons]
        have := hl t
        have := hm t
        rw [Bool.eq_iff_iff]
        simp only [Bool.or_eq_true, Bool.and_eq_true, decide_eq_true_eq]
        constructor
        · rintro (h | h)
          · exact ⟨.inl h.1, .inl h.2⟩
          · exact ⟨.inr h.1, h.2⟩
        · rintro ⟨h | h, h' | h'⟩
          · exact .inl ⟨h, h'⟩
          · have := hm t h'; omega
          · exact .inr ⟨h, .inl h'⟩
          · exact .inr ⟨h, .inr h'⟩
    · rw [if_neg hc]
      obtain ⟨i1, i2⟩ := both_in k (x :: l) m p y.to (by simp only [List.length_cons]; omega) h1 b4
      refine ⟨fun r hr => ?_, fun t => ?_⟩
      · by_cases hc2 : (capS x y).frm < (capS x y).to
        · rw [if_pos hc2]
          show okSp n r (capS x y :: _) = true
          rw [okSp_iff]
          have := en.2.2.2 hc
          exact ⟨by omega, hc2, by omega, i1 _ (by omega)⟩
        · rw [if_neg hc2]
          exact i1 r (by omega)
      · rw [inB_app, hz, i2, inB_cons, inB_cons]
        rw [Bool.eq_iff_iff]
        simp only [Bool.or_eq_true, Bool.and_eq_true, decide_eq_true_eq]
        constructor
        · rintro (h | h)
          · exact ⟨.inl h.1, .inl h.2⟩
          · exact ⟨h.1, .inr h.2⟩
        · rintro ⟨h | h, h' | h'⟩
          · exact .inl ⟨h, h'⟩
          · exact .inr ⟨.inl h, h'⟩
          · have := hl t h; omega
          · exact .inr ⟨.inr h, h'⟩

end Go.Proofs.Ytadjemhbfaonbaa
