/- The program's functions, walked: AlgP. -/
import Derived.Test.YtmicojghbhhblaaOf
import Derived.Test.YtmicojghbhhblaaBoth
import Derived.Test.YtmicojghbhhblaaNotP
import Derived.Test.YtmicojghbhhblaaSpanQ
set_option linter.all false
namespace Go.Proofs.Ytmicojghbhhblaa
open Go Go.Abs
/- Sets of times as what is in them. -/
theorem inB_bd {n q : Int} {l : List Span} (h : okSp n q l = true) {t : Int} (ht : inB l t = true) : q < t ∧ t < n := by
  obtain ⟨x, hx, h1, h2⟩ := inB_iff.1 ht
  have := (okSp_bd h).2.2 x hx
  omega
theorem inB_not {n : Int} : ∀ {l : List Span} {p a : Int}, okSp n p l = true → a - 1 ≤ p → ∀ t, inB (notS n a l) t = (decide (a ≤ t) && decide (t < n) && !inB l t)
  | [], p, a, h, h1, t => by
    unfold notS; split
    · simp [inB]
    · simp [inB]; omega
  | x :: r, p, a, h, h1, t => by
    obtain ⟨g1, g2, g3, g4⟩ := okSp_iff.1 h
    have ih := inB_not g4 (a := x.to) (by omega) t
    have hb := fun ht => inB_bd (t := t) g4 ht
    rw [inB_cons]
    unfold notS; split
    · rw [inB_cons, ih]
      cases hr : inB r t with
      | false =>
        simp only [Bool.not_false, Bool.and_true, Bool.or_false]
        rw [Bool.eq_iff_iff]
        simp
        omega
      | true =>
        have := hb hr
        rw [Bool.eq_iff_iff]
        simp
        omega
    · rw [ih]
      cases hr : inB r t with
      | false =>
        rw [Bool.eq_iff_iff]
        simp
        omega
      | true => simp
theorem both_in {n : Int} : ∀ (k : Nat) (l m : List Span) (p q : Int), l.length + m.length ≤ k → okSp n p l = true → okSp n q m = true → (∀ r, (r ≤ p ∨ r ≤ q) → okSp n r (bothR l m) = true) ∧ ∀ t, inB (bothR l m) t = (inB l t && inB m t)
  | _, [], m, p, q, _, _, _ => by rw [bothR_nil (.inl rfl)]; exact ⟨fun _ _ => rfl, fun t => by simp [inB]⟩
  | _, x :: l, [], p, q, _, _, _ => by rw [bothR_nil (.inr rfl)]; exact ⟨fun _ _ => rfl, fun t => by simp [inB]⟩
  | 0, x :: l, y :: m, p, q, hk, _, _ => by simp at hk
  | k + 1, x :: l, y :: m, p, q, hk, h1, h2 => by
    obtain ⟨a1, a2, a3, a4⟩ := okSp_iff.1 h1
    obtain ⟨b1, b2, b3, b4⟩ := okSp_iff.1 h2
    simp only [List.length_cons] at hk
    have hl := fun t ht => inB_bd (t := t) a4 ht
    have hm := fun t ht => inB_bd (t := t) b4 ht
    have ez : (capS x y).frm = mx x.frm y.frm ∧ (capS x y).to = mn x.to y.to := ⟨rfl, rfl⟩
    have em : x.frm ≤ mx x.frm y.frm ∧ y.frm ≤ mx x.frm y.frm ∧ (mx x.frm y.frm = x.frm ∨ mx x.frm y.frm = y.frm) := by unfold mx; split <;> omega
    have en : mn x.to y.to ≤ x.to ∧ mn x.to y.to ≤ y.to ∧ (x.to < y.to → mn x.to y.to = x.to) ∧ (¬ x.to < y.to → mn x.to y.to = y.to) := by unfold mn; split <;> omega
    have hz : ∀ t, inB (if (capS x y).frm < (capS x y).to then [capS x y] else []) t = (decide (x.frm ≤ t) && decide (t < x.to) && (decide (y.frm ≤ t) && decide (t < y.to))) := by
      intro t
      rw [Bool.eq_iff_iff]
      split
      · simp only [inB, List.any_cons, List.any_nil, Bool.or_false, Bool.and_eq_true, decide_eq_true_eq]
        by_cases hc : x.to < y.to
        · have := en.2.2.1 hc; omega
        · have := en.2.2.2 hc; omega
      · simp only [inB, List.any_nil, Bool.false_eq_true, Bool.and_eq_true, decide_eq_true_eq, false_iff]
        by_cases hc : x.to < y.to
        · have := en.2.2.1 hc; omega
        · have := en.2.2.2 hc; omega
    rw [bothR]
    by_cases hc : x.to < y.to
    · rw [if_pos hc]
      obtain ⟨i1, i2⟩ := both_in k l (y :: m) x.to q (by simp only [List.length_cons]; omega) a4 h2
      refine ⟨fun r hr => ?_, fun t => ?_⟩
      · by_cases hc2 : (capS x y).frm < (capS x y).to
        · rw [if_pos hc2]
          show okSp n r (capS x y :: _) = true
          rw [okSp_iff]
          have := en.2.2.1 hc
          exact ⟨by omega, hc2, by omega, i1 _ (by omega)⟩
        · rw [if_neg hc2]
          exact i1 r (by omega)
      · rw [inB_app, hz, i2, inB_cons, inB_cons]
        have := hl t
        have := hm t
        rw [Bool.eq_iff_iff]
        simp only [Bool.or_eq_true, Bool.and_eq_true, decide_eq_true_eq]
        constructor
        · rintro (h | h)
          · exact ⟨.inl h.1, .inl h.2⟩
          · exact ⟨.inr h.1, h.2⟩
        · rintro ⟨h | h, h' | h'⟩
          · exact .inl ⟨h, h'⟩
          · have := hm t h'; omega
          · exact .inr ⟨h, .inl h'⟩
          · exact .inr ⟨h, .inr h'⟩
    · rw [if_neg hc]
      obtain ⟨i1, i2⟩ := both_in k (x :: l) m p y.to (by simp only [List.length_cons]; omega) h1 b4
      refine ⟨fun r hr => ?_, fun t => ?_⟩
      · by_cases hc2 : (capS x y).frm < (capS x y).to
        · rw [if_pos hc2]
          show okSp n r (capS x y :: _) = true
          rw [okSp_iff]
          have := en.2.2.2 hc
          exact ⟨by omega, hc2, by omega, i1 _ (by omega)⟩
        · rw [if_neg hc2]
          exact i1 r (by omega)
      · rw [inB_app, hz, i2, inB_cons, inB_cons]
        rw [Bool.eq_iff_iff]
        simp only [Bool.or_eq_true, Bool.and_eq_true, decide_eq_true_eq]
        constructor
        · rintro (h | h)
          · exact ⟨.inl h.1, .inl h.2⟩
          · exact ⟨h.1, .inr h.2⟩
        · rintro ⟨h | h, h' | h'⟩
          · exact .inl ⟨h, h'⟩
          · exact .inr ⟨.inl h, h'⟩
          · have := hl t h; omega
          · exact .inr ⟨.inr h, h'⟩
/-- A right row of spans, of a frame. -/
def Nm (n : Int) (l : List Span) : Prop := okSp n (-1) l = true
theorem Nm.not {n : Int} {l : List Span} (h : Nm n l) : Nm n (notS n 0 l) := notS_ok h (by omega) (by omega)
theorem Nm.both {n : Int} {l m : List Span} (h : Nm n l) (k : Nm n m) : Nm n (bothR l m) := (both_in _ l m _ _ (Nat.le_refl _) h k).1 _ (.inl (Int.le_refl _))
def rng (n t : Int) : Bool := decide (0 ≤ t) && decide (t < n)
theorem Nm.inN {n : Int} {l : List Span} (h : Nm n l) (t : Int) : inB (notS n 0 l) t = (rng n t && !inB l t) := inB_not h (by omega) t
theorem Nm.inA {n : Int} {l m : List Span} (h : Nm n l) (k : Nm n m) (t : Int) : inB (bothR l m) t = (inB l t && inB m t) := (both_in _ l m _ _ (Nat.le_refl _) h k).2 t
theorem Nm.inR {n : Int} {l : List Span} (h : Nm n l) (t : Int) : inB l t = true → rng n t = true := fun ht => by
  have := inB_bd h ht
  simp [rng]; omega
theorem Nm.eq {n : Int} {l m : List Span} (h : Nm n l) (k : Nm n m) (ht : ∀ t, inB l t = inB m t) : l = m := norm_unique h k ht
def orR (n : Int) (l m : List Span) : List Span := notS n 0 (bothR (notS n 0 l) (notS n 0 m))
theorem Nm.or {n : Int} {l m : List Span} (h : Nm n l) (k : Nm n m) : Nm n (orR n l m) := (h.not.both k.not).not
theorem Nm.inO {n : Int} {l m : List Span} (h : Nm n l) (k : Nm n m) (t : Int) : inB (orR n l m) t = (inB l t || inB m t) := by
  have a := h.inR t
  have b := k.inR t
  unfold orR
  rw [(h.not.both k.not).inN, h.not.inA k.not, h.inN, k.inN]
  revert a b
  cases inB l t <;> cases inB m t <;> cases rng n t <;> simp
section
variable {n : Int} {l m : List Span}
theorem alg_comm (h : Nm n l) (k : Nm n m) : bothR l m = bothR m l := (h.both k).eq (k.both h) fun t => by rw [h.inA k, k.inA h, Bool.and_comm]
theorem alg_back (h : Nm n l) : notS n 0 (notS n 0 l) = l := h.not.not.eq h fun t => by
  have a := h.inR t
  rw [h.not.inN, h.inN]
  revert a
  cases inB l t <;> cases rng n t <;> simp
theorem alg_none (h : Nm n l) : bothR l (notS n 0 l) = [] := (h.both h.not).eq (n := n) (show Nm n [] from rfl) fun t => by
  rw [h.inA h.not, h.inN]
  cases h2 : inB l t <;> simp [inB]
theorem alg_all (hn : 1 ≤ n) (h : Nm n l) : orR n l (notS n 0 l) = [⟨0, n⟩] := (h.or h.not).eq (n := n) (by unfold Nm; simp [okSp]; omega) fun t => by
  have a := h.inR t
  rw [h.inO h.not, h.inN]
  have : inB [⟨0, n⟩] t = rng n t := by simp [inB, rng]
  rw [this]
  revert a
  cases inB l t <;> cases rng n t <;> simp
theorem alg_swallow (h : Nm n l) (k : Nm n m) : orR n l (bothR l m) = l := (h.or (h.both k)).eq h fun t => by
  rw [h.inO (h.both k), h.inA k]
  cases inB l t <;> simp
theorem alg_again (h : Nm n l) (k : Nm n m) : bothR l (orR n l m) = l := (h.both (h.or k)).eq h fun t => by
  rw [h.inA (h.or k), h.inO k]
  cases inB l t <;> simp
theorem alg_morgan (h : Nm n l) (k : Nm n m) : notS n 0 (bothR l m) = orR n (notS n 0 l) (notS n 0 m) := (h.both k).not.eq (h.not.or k.not) fun t => by
  rw [(h.both k).inN, h.inA k, h.not.inO k.not, h.inN, k.inN]
  cases inB l t <;> cases inB m t <;> cases rng n t <;> simp
end
theorem part_ind {size m : Int} {l : List Span} {last : Int} (h : okSp size last l = true) : part (m + 1) l = part m l + if inB l m = true then 1 else 0 := by
  by_cases hi : inB l m = true
  · rw [if_pos hi]
    obtain ⟨x, hx, h1, h2⟩ := inB_iff.1 hi
    exact part_oneR h hx h1 h2
  · rw [if_neg hi, Int.add_zero]
    refine part_gap (by omega) (fun x hx => ((okSp_bd h).2.2 x hx).2.1) fun x hx => ?_
    by_cases h1 : x.to ≤ m
    · exact .inl h1
    · by_cases h2 : x.frm ≤ m
      · exact absurd (inB_iff.2 ⟨x, hx, h2, by omega⟩) hi
      · exact .inr (by omega)
theorem upto_ind {s : Set} (h : Right s) {t : Int} (h0 : 0 ≤ t) : uptoV s (t + 1) = uptoV s t + if inB s.spans (t % s.size) = true then 1 else 0 := by
  obtain ⟨e1, e2, e3, e4, e5⟩ := divmod h h0
  have hq : 0 ≤ t / s.size := Int.ediv_nonneg h0 (by have := h.s1; omega)
  have a := upto_at h hq e3 (by omega)
  have b := upto_at h hq (show 0 ≤ t % s.size + 1 by omega) (by omega)
  rw [← e5] at a
  rw [← Int.add_assoc, ← e5] at b
  have := part_ind (m := t % s.size) h.ok
  omega
theorem upto_zero {s : Set} (h : Right s) : uptoV s 0 = 0 := by
  have a := upto_at h (q := 0) (m := 0) (Int.le_refl _) (Int.le_refl _) (by have := h.s1; omega)
  rw [part0 fun x hx => by have := (okSp_bd h.ok).2.2 x hx; omega] at a
  simpa using a
theorem upto_sum {a b c d : Set} (ha : Right a) (hb : Right b) (hc : Right c) (hd : Right d) (e1 : b.size = a.size) (e2 : c.size = a.size) (e3 : d.size = a.size)
    (hi : ∀ t, inB a.spans t = (inB c.spans t && inB d.spans t)) (hj : ∀ t, inB b.spans t = (inB c.spans t || inB d.spans t)) : ∀ k : Nat, uptoV a k + uptoV b k = uptoV c k + uptoV d k
  | 0 => by
    have := upto_zero ha
    have := upto_zero hb
    have := upto_zero hc
    have := upto_zero hd
    simp only [Int.natCast_zero] at *
    omega
  | k + 1 => by
    have ih := upto_sum ha hb hc hd e1 e2 e3 hi hj k
    have u1 := upto_ind ha (t := k) (by omega)
    have u2 := upto_ind hb (t := k) (by omega)
    have u3 := upto_ind hc (t := k) (by omega)
    have u4 := upto_ind hd (t := k) (by omega)
    rw [e1, hj] at u2
    rw [hi] at u1
    rw [e2] at u3
    rw [e3] at u4
    rw [Int.natCast_add, Int.natCast_one, u1, u2, u3, u4]
    revert ih
    cases inB c.spans ((k : Int) % a.size) <;> cases inB d.spans ((k : Int) % a.size) <;> simp <;> omega
theorem Right.nm {s : Set} (h : Right s) : Nm s.size s.spans := h.ok
theorem two_iff {a b : Set} : twoV a b = 0 ↔ Right a ∧ Right b ∧ a.size = b.size := ⟨two_right, fun ⟨h1, h2, h3⟩ => by rw [twoV, if_pos (check_iff.2 h1), if_pos (check_iff.2 h2), if_pos h3]⟩
theorem bothP_iff {a b : Set} : (bothP a b).2 = 0 ↔ Right a ∧ Right b ∧ a.size = b.size ∧ (bothR a.spans b.spans).length ≤ 200 := by
  unfold bothP
  split
  · rename_i h
    obtain ⟨h1, h2, h3⟩ := two_iff.1 h
    unfold fewV bothV
    dsimp only
    split
    · exact ⟨fun h => by simp at h, fun h => by omega⟩
    · exact ⟨fun _ => ⟨h1, h2, h3, by omega⟩, fun _ => rfl⟩
  · rename_i h
    exact ⟨fun h' => absurd h' h, fun h' => absurd (two_iff.2 ⟨h'.1, h'.2.1, h'.2.2.1⟩) h⟩
theorem bothP_val {a b : Set} (h1 : Right a) (h2 : Right b) (h3 : a.size = b.size) (h4 : (bothR a.spans b.spans).length ≤ 200) : bothP a b = (⟨a.size, bothR a.spans b.spans⟩, 0) := by
  rw [bothP, if_pos (two_iff.2 ⟨h1, h2, h3⟩), fewV, if_neg (show ¬ 200 < (bothV a b).spans.length from Nat.not_lt.2 h4)]; rfl
theorem eith_eq {a b : Set} (h3 : a.size = b.size) : notV (bothV (notV a) (notV b)) = ⟨a.size, orR a.size a.spans b.spans⟩ := by
  unfold notV bothV orR
  rw [h3]
theorem eithP_iff {a b : Set} : (eitherP a b).2 = 0 ↔ Right a ∧ Right b ∧ a.size = b.size ∧ (orR a.size a.spans b.spans).length ≤ 200 := by
  unfold eitherP
  split
  · rename_i h
    obtain ⟨h1, h2, h3⟩ := two_iff.1 h
    rw [eith_eq h3]
    unfold fewV
    dsimp only
    split
    · exact ⟨fun h => by simp at h, fun h => by omega⟩
    · exact ⟨fun _ => ⟨h1, h2, h3, by omega⟩, fun _ => rfl⟩
  · rename_i h
    exact ⟨fun h' => absurd h' h, fun h' => absurd (two_iff.2 ⟨h'.1, h'.2.1, h'.2.2.1⟩) h⟩
theorem eithP_val {a b : Set} (h1 : Right a) (h2 : Right b) (h3 : a.size = b.size) (h4 : (orR a.size a.spans b.spans).length ≤ 200) : eitherP a b = (⟨a.size, orR a.size a.spans b.spans⟩, 0) := by
  rw [eitherP, if_pos (two_iff.2 ⟨h1, h2, h3⟩), eith_eq h3, fewV, if_neg (show ¬ 200 < (orR a.size a.spans b.spans).length by omega)]
theorem notP_iff {s : Set} : (notP s).2 = 0 ↔ Right s ∧ (notS s.size 0 s.spans).length ≤ 200 := by
  constructor
  · intro h
    obtain ⟨h1, h2, h3⟩ := notP_ok h
    exact ⟨h1, h2.len⟩
  · rintro ⟨h1, h2⟩
    rw [notP, if_pos (check_iff.2 h1), if_neg (show ¬ 200 < (notV s).spans.length from Nat.not_lt.2 h2)]
theorem notP_val {s : Set} (h1 : Right s) (h2 : (notS s.size 0 s.spans).length ≤ 200) : notP s = (⟨s.size, notS s.size 0 s.spans⟩, 0) := by
  rw [notP, if_pos (check_iff.2 h1), if_neg (show ¬ 200 < (notV s).spans.length from Nat.not_lt.2 h2)]; rfl
theorem right_of {s : Set} (h : Right s) {l : List Span} (hl : Nm s.size l) (h2 : l.length ≤ 200) : Right ⟨s.size, l⟩ := ⟨h.s1, h.s2, h2, hl⟩
theorem both_swap {a b : Set} : ((bothP a b).2 == 0) = ((bothP b a).2 == 0) := by
  rw [Bool.eq_iff_iff, beq_iff_eq, beq_iff_eq, bothP_iff, bothP_iff]
  constructor
  · rintro ⟨h1, h2, h3, h4⟩
    exact ⟨h2, h1, h3.symm, by rw [← alg_comm (n := a.size) h1.nm (by rw [h3]; exact h2.nm)]; exact h4⟩
  · rintro ⟨h1, h2, h3, h4⟩
    exact ⟨h2, h1, h3.symm, by rw [alg_comm (n := b.size) (by rw [h3]; exact h2.nm) h1.nm]; exact h4⟩
theorem alg_law {a b : Set} (e1 : (bothP a b).2 = 0) (e2 : (eitherP a b).2 = 0) (e3 : (notP a).2 = 0) (e4 : (notP b).2 = 0) :
    (bothP b a).2 = 0 ∧ (bothP a b).1 = (bothP b a).1 ∧ notP (notP a).1 = (a, 0) ∧ (bothP a (notP a).1) = (⟨a.size, []⟩, 0) ∧ eitherP a (notP a).1 = (⟨a.size, [⟨0, a.size⟩]⟩, 0) ∧ eitherP a (bothP a b).1 = (a, 0) ∧ bothP a (eitherP a b).1 = (a, 0) ∧
    ((notP (bothP a b).1).2 = 0 → (eitherP (notP a).1 (notP b).1).2 = 0 → (notP (bothP a b).1).1 = (eitherP (notP a).1 (notP b).1).1) := by
  obtain ⟨ha, hb, hs, hl⟩ := bothP_iff.1 e1
  obtain ⟨-, -, -, ho⟩ := eithP_iff.1 e2
  obtain ⟨-, hna⟩ := notP_iff.1 e3
  obtain ⟨-, hnb⟩ := notP_iff.1 e4
  have na := ha.nm
  have nb : Nm a.size b.spans := by rw [hs]; exact hb.nm
  have ea : (⟨a.size, a.spans⟩ : Set) = a := rfl
  rw [bothP_val ha hb hs hl, eithP_val ha hb hs ho, notP_val ha hna, notP_val hb hnb]
  have hc := alg_comm na nb
  have rB : Right ⟨a.size, bothR a.spans b.spans⟩ := ⟨ha.s1, ha.s2, hl, na.both nb⟩
  have rO : Right ⟨a.size, orR a.size a.spans b.spans⟩ := ⟨ha.s1, ha.s2, ho, na.or nb⟩
  have rA : Right ⟨a.size, notS a.size 0 a.spans⟩ := ⟨ha.s1, ha.s2, hna, na.not⟩
  have rN : Right ⟨b.size, notS b.size 0 b.spans⟩ := ⟨hb.s1, hb.s2, hnb, hb.nm.not⟩
  have q1 := bothP_val hb ha hs.symm (by rw [← hc]; exact hl)
  rw [q1]
  refine ⟨rfl, by dsimp only; rw [hc, hs], ?_, ?_, ?_, ?_, ?_, fun h1 h2 => ?_⟩
  · have := alg_back na
    rw [notP_val rA (by dsimp only; rw [this]; exact ha.len)]
    dsimp only
    rw [this]
  · have := alg_none na
    rw [bothP_val ha rA rfl (by dsimp only; rw [this]; simp)]
    dsimp only
    rw [this]
  · have := alg_all ha.s1 na
    rw [eithP_val ha rA rfl (by dsimp only; rw [this]; simp)]
    dsimp only
    rw [this]
  · have := alg_swallow na nb
    rw [eithP_val ha rB rfl (by dsimp only; rw [this]; exact ha.len)]
    dsimp only
    rw [this]
  · have := alg_again na nb
    rw [bothP_val ha rO rfl (by dsimp only; rw [this]; exact ha.len)]
    dsimp only
    rw [this]
  · obtain ⟨-, k1⟩ := notP_iff.1 h1
    obtain ⟨-, -, -, k2⟩ := eithP_iff.1 h2
    rw [notP_val rB k1, eithP_val rA rN hs k2]
    dsimp only
    rw [alg_morgan na nb, hs]
theorem fewV_len (s : Set) : (fewV s).1.spans.length ≤ 200 := by
  unfold fewV; split
  · simp
  · dsimp only; omega
theorem bothP_len (a b : Set) : (bothP a b).1.spans.length ≤ 200 := by
  unfold bothP; split
  · exact fewV_len _
  · simp
theorem eithP_len (a b : Set) : (eitherP a b).1.spans.length ≤ 200 := by
  unfold eitherP; split
  · exact fewV_len _
  · simp

end Go.Proofs.Ytmicojghbhhblaa
