/- What is doubted; plain. -/
import Derived.Test.YtidingjknijjmaaTy
set_option linter.all false
namespace Go.Proofs.Ytidingjknijjmaa
open Go Go.Abs

def dubR (limit until_ : Int) : Int → List Int → List Span
  | _, [] => []
  | last, t :: l => (if last + limit + 1 < (if until_ < t then until_ else t) then [⟨last + limit + 1, if until_ < t then until_ else t⟩] else []) ++ dubR limit until_ t l
/-- The last beat up to a time. -/
def lastB (t : Int) : Int → List Int → Int
  | q, [] => q
  | q, h :: l => lastB t (if h ≤ t then (if h > q then h else q) else q) l
def riseB : Int → List Int → Bool
  | _, [] => true
  | q, h :: l => decide (q ≤ h ∧ h ≤ 10000000) && riseB h l
theorem riseB_iff {q h : Int} {l : List Int} : riseB q (h :: l) = true ↔ q ≤ h ∧ h ≤ 10000000 ∧ riseB h l = true := by
  simp [riseB, and_assoc]
theorem riseB_le : ∀ {l : List Int} {q x : Int}, riseB q l = true → x ∈ l → q ≤ x
  | h :: l, q, x, hr, hx => by
    obtain ⟨h1, h2, h3⟩ := riseB_iff.1 hr
    rcases List.mem_cons.1 hx with rfl | hx
    · exact h1
    · have := riseB_le h3 hx; omega
theorem lastB_high : ∀ {l : List Int} {q t : Int}, (∀ x ∈ l, t < x) → lastB t q l = q
  | [], _, _, _ => rfl
  | h :: l, q, t, hx => by
    rw [lastB, if_neg (by have := hx h (List.mem_cons_self ..); omega)]
    exact lastB_high fun x hm => hx x (List.mem_cons_of_mem _ hm)
theorem lastB_spec : ∀ (l : List Int) (q t : Int), q ≤ lastB t q l ∧ (∀ x ∈ l, x ≤ t → x ≤ lastB t q l) ∧ (lastB t q l = q ∨ (lastB t q l ∈ l ∧ lastB t q l ≤ t))
  | [], q, t => ⟨Int.le_refl _, fun x hx => by simp at hx, .inl rfl⟩
  | h :: l, q, t => by
    rw [lastB]
    by_cases h1 : h ≤ t
    · rw [if_pos h1]
      obtain ⟨a, b, c⟩ := lastB_spec l (if h > q then h else q) t
      have hq : q ≤ (if h > q then h else q) ∧ h ≤ (if h > q then h else q) ∧ ((if h > q then h else q) = q ∨ (if h > q then h else q) = h) := by split <;> omega
      refine ⟨by omega, fun x hx hxt => ?_, ?_⟩
      · rcases List.mem_cons.1 hx with rfl | hx
        · omega
        · exact b x hx hxt
      · rcases c with c | c
        · rcases hq.2.2 with e | e
          · exact .inl (by omega)
          · exact .inr ⟨by rw [c, e]; exact List.mem_cons_self .., by omega⟩
        · exact .inr ⟨List.mem_cons_of_mem _ c.1, c.2⟩
    · rw [if_neg h1]
      obtain ⟨a, b, c⟩ := lastB_spec l q t
      refine ⟨a, fun x hx hxt => ?_, c.imp id fun c => ⟨List.mem_cons_of_mem _ c.1, c.2⟩⟩
      rcases List.mem_cons.1 hx with rfl | hx
      · omega
      · exact b x hx hxt
def inSp (l : List Span) (t : Int) : Bool := l.any fun x => decide (x.frm ≤ t) && decide (t < x.to)
theorem inSp_iff {l : List Span} {t : Int} : inSp l t = true ↔ ∃ x ∈ l, x.frm ≤ t ∧ t < x.to := by simp [inSp]
/-- Spans begin behind the last beat, and end by the next one. -/
theorem dub_bd {limit u : Int} (hl : 0 ≤ limit) : ∀ {l : List Int} {q : Int}, riseB q l = true → ∀ x ∈ dubR limit u q (l ++ [u]), q + limit + 1 ≤ x.frm ∧ x.frm < x.to ∧ x.to ≤ u
  | [], q, _, x, hx => by
    simp only [List.nil_append, dubR, List.append_nil] at hx
    rw [if_neg (show ¬ u < u by omega)] at hx
    by_cases hc : q + limit + 1 < u
    · rw [if_pos hc] at hx
      rw [List.mem_singleton.1 hx]
      exact ⟨Int.le_refl _, hc, Int.le_refl _⟩
    · rw [if_neg hc] at hx; simp at hx
  | h :: l, q, hr, x, hx => by
    obtain ⟨h1, h2, h3⟩ := riseB_iff.1 hr
    rw [List.cons_append, dubR] at hx
    rcases List.mem_append.1 hx with hx | hx
    · by_cases hc : q + limit + 1 < (if u < h then u else h)
      · rw [if_pos hc] at hx
        rw [List.mem_singleton.1 hx]
        refine ⟨Int.le_refl _, hc, ?_⟩
        show (if u < h then u else h) ≤ u
        split <;> omega
      · rw [if_neg hc] at hx; simp at hx
    · obtain ⟨a, b, c⟩ := dub_bd hl h3 x hx
      exact ⟨by omega, b, c⟩
/-- Spans rise, and none is beside another one. -/
def gapB : Int → List Span → Bool
  | _, [] => true
  | q, x :: l => decide (q < x.frm ∧ x.frm < x.to) && gapB x.to l
theorem gapB_iff {q : Int} {x : Span} {l : List Span} : gapB q (x :: l) = true ↔ q < x.frm ∧ x.frm < x.to ∧ gapB x.to l = true := by simp [gapB, and_assoc]
theorem gapB_low : ∀ {l : List Span} {q p : Int}, gapB q l = true → (∀ x ∈ l, p < x.frm) → gapB p l = true
  | [], _, _, _, _ => rfl
  | x :: l, q, p, h, hx => by
    obtain ⟨h1, h2, h3⟩ := gapB_iff.1 h
    exact gapB_iff.2 ⟨hx x (List.mem_cons_self ..), h2, h3⟩
theorem dub_gap {limit u : Int} (hl : 0 ≤ limit) : ∀ {l : List Int} {q : Int}, riseB q l = true → gapB q (dubR limit u q (l ++ [u])) = true
  | [], q, _ => by
    simp only [List.nil_append, dubR, List.append_nil]
    rw [if_neg (show ¬ u < u by omega)]
    by_cases hc : q + limit + 1 < u
    · rw [if_pos hc]
      exact gapB_iff.2 ⟨by show q < q + limit + 1; omega, hc, rfl⟩
    · rw [if_neg hc]; rfl
  | h :: l, q, hr => by
    obtain ⟨h1, h2, h3⟩ := riseB_iff.1 hr
    rw [List.cons_append, dubR]
    have hb := dub_bd (u := u) hl h3
    have hg := dub_gap (u := u) hl h3
    by_cases hc : q + limit + 1 < (if u < h then u else h)
    · rw [if_pos hc]
      refine gapB_iff.2 ⟨by show q < q + limit + 1; omega, hc, gapB_low hg fun x hx => ?_⟩
      have := (hb x hx).1
      show (if u < h then u else h) < x.frm
      split <;> omega
    · rw [if_neg hc]
      exact gapB_low hg fun x hx => by have := (hb x hx).1; omega
/-- A time is in a span just if it is doubted. -/
theorem dub_in {limit u t : Int} (hl : 0 ≤ limit) (hu : t < u) : ∀ {l : List Int} {q : Int}, riseB q l = true → q ≤ t → (inSp (dubR limit u q (l ++ [u])) t = true ↔ lastB t q l + limit < t)
  | [], q, _, hq => by
    simp only [List.nil_append, dubR, List.append_nil, lastB]
    rw [if_neg (show ¬ u < u by omega)]
    split
    · rw [inSp_iff]
      constructor
      · rintro ⟨x, hx, h1, h2⟩
        rw [List.mem_singleton.1 hx] at h1
        have h1 : q + limit + 1 ≤ t := h1
        omega
      · intro h
        exact ⟨_, List.mem_singleton.2 rfl, by show q + limit + 1 ≤ t; omega, hu⟩
    · rw [inSp_iff]
      constructor
      · rintro ⟨x, hx, _⟩; simp at hx
      · intro h; omega
  | h :: l, q, hr, hq => by
    obtain ⟨h1, h2, h3⟩ := riseB_iff.1 hr
    rw [List.cons_append, dubR, lastB]
    by_cases ht : h ≤ t
    · rw [if_pos ht]
      have e : (if h > q then h else q) = h := by split <;> omega
      rw [e, ← dub_in hl hu h3 ht, inSp_iff, inSp_iff]
      constructor
      · rintro ⟨x, hx, h4, h5⟩
        rcases List.mem_append.1 hx with hx | hx
        · exfalso
          by_cases hc : q + limit + 1 < (if u < h then u else h)
          · rw [if_pos hc] at hx
            rw [List.mem_singleton.1 hx] at h5
            have h5 : t < (if u < h then u else h) := h5
            split at h5 <;> omega
          · rw [if_neg hc] at hx; simp at hx
        · exact ⟨x, hx, h4, h5⟩
      · rintro ⟨x, hx, h4⟩
        exact ⟨x, List.mem_append_right _ hx, h4⟩
    · rw [if_neg ht, lastB_high fun x hx => by have := riseB_le h3 hx; omega, inSp_iff]
      constructor
      · rintro ⟨x, hx, h4, h5⟩
        rcases List.mem_append.1 hx with hx | hx
        · by_cases hc : q + limit + 1 < (if u < h then u else h)
          · rw [if_pos hc] at hx
            rw [List.mem_singleton.1 hx] at h4
            have h4 : q + limit + 1 ≤ t := h4
            omega
          · rw [if_neg hc] at hx; simp at hx
        · have := (dub_bd hl h3 x hx).1
          omega
      · intro h4
        have hm : t < (if u < h then u else h) := by split <;> omega
        refine ⟨⟨q + limit + 1, if u < h then u else h⟩, List.mem_append_left _ ?_, by show q + limit + 1 ≤ t; omega, hm⟩
        rw [if_pos (by omega)]
        exact List.mem_singleton.2 rfl
/-- A row of times without a gap lies in one span, if each of it lies in some. -/
theorem in_one : ∀ {l : List Span} {q a b : Int}, gapB q l = true → a < b → (∀ t, a ≤ t → t < b → inSp l t = true) → ∃ y ∈ l, y.frm ≤ a ∧ b ≤ y.to
  | [], _, a, b, _, hab, h => by
    have := h a (Int.le_refl _) hab
    simp [inSp] at this
  | x :: l, q, a, b, hg, hab, h => by
    obtain ⟨h1, h2, h3⟩ := gapB_iff.1 hg
    have low : ∀ y ∈ l, x.to < y.frm := fun y hy => by
      have key : ∀ {l : List Span} {q : Int}, gapB q l = true → ∀ y ∈ l, q < y.frm := by
        intro l
        induction l with
        | nil => intro q _ y hy; simp at hy
        | cons z l ih =>
          intro q hq y hy
          obtain ⟨k1, k2, k3⟩ := gapB_iff.1 hq
          rcases List.mem_cons.1 hy with rfl | hy
          · exact k1
          · have := ih k3 y hy; omega
      exact key h3 y hy
    have split1 : ∀ t, inSp (x :: l) t = true → (x.frm ≤ t ∧ t < x.to) ∨ (inSp l t = true ∧ x.to < t) := fun t ht => by
      obtain ⟨y, hy, k1, k2⟩ := inSp_iff.1 ht
      rcases List.mem_cons.1 hy with rfl | hy
      · exact .inl ⟨k1, k2⟩
      · exact .inr ⟨inSp_iff.2 ⟨y, hy, k1, k2⟩, by have := low y hy; omega⟩
    rcases split1 a (h a (Int.le_refl _) hab) with ha | ha
    · refine ⟨x, List.mem_cons_self .., ha.1, ?_⟩
      rcases Int.lt_or_le x.to b with hb | hb
      · have := split1 x.to (h x.to (by omega) hb)
        omega
      · exact hb
    · obtain ⟨y, hy, k1, k2⟩ := in_one (l := l) (a := a) (b := b) h3 hab fun t ht1 ht2 => by
        rcases split1 t (h t ht1 ht2) with k | k
        · omega
        · exact k.1
      exact ⟨y, List.mem_cons_of_mem _ hy, k1, k2⟩
/-- With a greater limit each span lies in one that was there. -/
theorem dub_more {limit lim2 u : Int} (hl : limit ≤ lim2) : ∀ (l : List Int) (q : Int), ∀ x ∈ dubR lim2 u q l, ∃ y ∈ dubR limit u q l, y.frm ≤ x.frm ∧ x.to ≤ y.to
  | [], _, x, hx => by simp [dubR] at hx
  | h :: l, q, x, hx => by
    rw [dubR] at hx ⊢
    rcases List.mem_append.1 hx with hx | hx
    · by_cases hc : q + lim2 + 1 < (if u < h then u else h)
      · rw [if_pos hc] at hx
        refine ⟨⟨q + limit + 1, if u < h then u else h⟩, List.mem_append_left _ ?_, ?_⟩
        · rw [if_pos (by omega)]; exact List.mem_singleton.2 rfl
        · rw [List.mem_singleton.1 hx]
          exact ⟨by show q + limit + 1 ≤ q + lim2 + 1; omega, Int.le_refl _⟩
      · rw [if_neg hc] at hx; simp at hx
    · obtain ⟨y, hy, k⟩ := dub_more hl l h x hx
      exact ⟨y, List.mem_append_right _ hy, k⟩
/-- With more beats each span lies in one that was there. -/
theorem dub_beats {limit u : Int} (hl : 0 ≤ limit) {l m : List Int} (h1 : riseB 0 l = true) (h2 : riseB 0 m = true) (hs : ∀ x ∈ l, x ∈ m) : ∀ x ∈ dubR limit u 0 (m ++ [u]), ∃ y ∈ dubR limit u 0 (l ++ [u]), y.frm ≤ x.frm ∧ x.to ≤ y.to := by
  intro x hx
  obtain ⟨a, b, c⟩ := dub_bd hl h2 x hx
  refine in_one (dub_gap hl h1) b fun t ht1 ht2 => ?_
  have hin : inSp (dubR limit u 0 (m ++ [u])) t = true := inSp_iff.2 ⟨x, hx, ht1, ht2⟩
  have k := (dub_in hl (by omega) h2 (by omega)).1 hin
  refine (dub_in hl (by omega) h1 (by omega)).2 ?_
  obtain ⟨p1, p2, p3⟩ := lastB_spec l 0 t
  obtain ⟨r1, r2, r3⟩ := lastB_spec m 0 t
  rcases p3 with p3 | p3
  · omega
  · have := r2 _ (hs _ p3.1) p3.2; omega
/-- What is doubted last. -/
theorem dub_last {limit u : Int} : ∀ (l : List Int) (q : Int), (∀ x ∈ l, x + limit + 1 < u) → q + limit + 1 < u → ∃ d p, dubR limit u q (l ++ [u]) = d ++ [⟨p + limit + 1, u⟩] ∧ (p = q ∨ p ∈ l)
  | [], q, _, hq => by
    refine ⟨[], q, ?_, .inl rfl⟩
    simp only [List.nil_append, dubR, List.append_nil]
    rw [if_neg (show ¬ u < u by omega), if_pos hq]
  | h :: l, q, hx, hq => by
    obtain ⟨d, p, e, hp⟩ := dub_last l h (fun x hm => hx x (List.mem_cons_of_mem _ hm)) (hx h (List.mem_cons_self ..))
    refine ⟨(if q + limit + 1 < (if u < h then u else h) then [⟨q + limit + 1, if u < h then u else h⟩] else []) ++ d, p, ?_, .inr (hp.elim (fun e => e ▸ List.mem_cons_self ..) fun h => List.mem_cons_of_mem _ h)⟩
    rw [List.cons_append, dubR, e, List.append_assoc]
theorem riseB_of {l : List Int} (h0 : ∀ x ∈ l, 0 ≤ x ∧ x ≤ 10000000) (hs : l.Pairwise (· ≤ ·)) : riseB 0 l = true := by
  have key : ∀ (l : List Int) (q : Int), (∀ x ∈ l, q ≤ x ∧ x ≤ 10000000) → l.Pairwise (· ≤ ·) → riseB q l = true := by
    intro l
    induction l with
    | nil => intro q _ _; rfl
    | cons h l ih =>
      intro q hq hp
      rw [List.pairwise_cons] at hp
      exact riseB_iff.2 ⟨(hq h (List.mem_cons_self ..)).1, (hq h (List.mem_cons_self ..)).2, ih h (fun x hx => ⟨hp.1 x hx, (hq x (List.mem_cons_of_mem _ hx)).2⟩) hp.2⟩
  exact key l 0 h0 hs

end Go.Proofs.Ytidingjknijjmaa
