/- What a call made, and nobody writes any more, is data. -/
import Derived.Test.YtadjemhbfaonbaaAbsOut
set_option linter.all false
namespace Go.Abs
open Go
section
variable {P : Program} {w : World} {M : Nat → Prop} {β : Nat → Option Nat} {cp : Nat → Nat} {h : Hp} {f : FuncId} {A : List AV} {K : Kont}

mutual
theorem lower_live : ∀ (x : AV) (q : List (Th Prop)) (d : List Nat) (y : AV), lower h x = some (q, d, y) → ∀ b ∈ d, ∃ o, h[b]? = some o ∧ o.live = true
  | .own b n, q, d, y, hl, c, hc => by
    simp only [lower] at hl
    split at hl
    · rename_i et sz m f hb
      split at hl
      · simp only [Option.some.injEq, Prod.mk.injEq] at hl
        obtain ⟨_, rfl, _⟩ := hl
        simp only [List.mem_singleton] at hc
        subst hc
        exact ⟨_, nth_some hb rfl, rfl⟩
      · cases hl
    · cases hl
  | .vw b _ _ n, q, d, y, hl, c, hc => by
    simp only [lower] at hl
    split at hl
    · rename_i et sz m f hb
      split at hl
      · simp only [Option.some.injEq, Prod.mk.injEq] at hl
        obtain ⟨_, rfl, _⟩ := hl
        simp only [List.mem_singleton] at hc
        subst hc
        exact ⟨_, nth_some hb rfl, rfl⟩
      · cases hl
    · cases hl
  | .agg l, q, d, y, hl, c, hc => by
    simp only [lower] at hl
    split at hl
    · rename_i q' d' l' h1
      simp only [Option.some.injEq, Prod.mk.injEq] at hl
      obtain ⟨_, rfl, _⟩ := hl
      exact lowerL_live l _ _ _ h1 c hc
    · cases hl
  | .any, q, d, y, hl, c, hc => by simp only [lower, Option.some.injEq, Prod.mk.injEq] at hl; obtain ⟨_, rfl, _⟩ := hl; cases hc
  | .bc _, q, d, y, hl, c, hc => by simp only [lower, Option.some.injEq, Prod.mk.injEq] at hl; obtain ⟨_, rfl, _⟩ := hl; cases hc
  | .b _, q, d, y, hl, c, hc => by simp only [lower, Option.some.injEq, Prod.mk.injEq] at hl; obtain ⟨_, rfl, _⟩ := hl; cases hc
  | .i _ _, q, d, y, hl, c, hc => by simp only [lower, Option.some.injEq, Prod.mk.injEq] at hl; obtain ⟨_, rfl, _⟩ := hl; cases hc
  | .s _, q, d, y, hl, c, hc => by simp only [lower, Option.some.injEq, Prod.mk.injEq] at hl; obtain ⟨_, rfl, _⟩ := hl; cases hc
  | .nil, q, d, y, hl, c, hc => by simp only [lower, Option.some.injEq, Prod.mk.injEq] at hl; obtain ⟨_, rfl, _⟩ := hl; cases hc
  | .con _, q, d, y, hl, c, hc => by simp only [lower, Option.some.injEq, Prod.mk.injEq] at hl; obtain ⟨_, rfl, _⟩ := hl; cases hc
  | .tup _, q, d, y, hl, c, hc => by simp only [lower, Option.some.injEq, Prod.mk.injEq] at hl; obtain ⟨_, rfl, _⟩ := hl; cases hc
  | .ptr _ _, q, d, y, hl, c, hc => by simp only [lower, Option.some.injEq, Prod.mk.injEq] at hl; obtain ⟨_, rfl, _⟩ := hl; cases hc
  | .nn _ _, q, d, y, hl, c, hc => by simp only [lower, Option.some.injEq, Prod.mk.injEq] at hl; obtain ⟨_, rfl, _⟩ := hl; cases hc
  | .ept _ _ _ _, q, d, y, hl, c, hc => by simp only [lower, Option.some.injEq, Prod.mk.injEq] at hl; obtain ⟨_, rfl, _⟩ := hl; cases hc
  | .sl _ _ _, q, d, y, hl, c, hc => by simp only [lower, Option.some.injEq, Prod.mk.injEq] at hl; obtain ⟨_, rfl, _⟩ := hl; cases hc
  | .rp _, q, d, y, hl, c, hc => by simp only [lower, Option.some.injEq, Prod.mk.injEq] at hl; obtain ⟨_, rfl, _⟩ := hl; cases hc
  | .fn _ _, q, d, y, hl, c, hc => by simp only [lower, Option.some.injEq, Prod.mk.injEq] at hl; obtain ⟨_, rfl, _⟩ := hl; cases hc
  | .ite _ _ _, q, d, y, hl, c, hc => by simp only [lower, Option.some.injEq, Prod.mk.injEq] at hl; obtain ⟨_, rfl, _⟩ := hl; cases hc
theorem lowerL_live : ∀ (l : List AV) (q : List (Th Prop)) (d : List Nat) (l' : List AV), lower.lowerL h l = some (q, d, l') → ∀ b ∈ d, ∃ o, h[b]? = some o ∧ o.live = true
  | [], q, d, l', hl, c, hc => by simp only [lower.lowerL, Option.some.injEq, Prod.mk.injEq] at hl; obtain ⟨_, rfl, _⟩ := hl; cases hc
  | x :: l, q, d, l', hl, c, hc => by
    simp only [lower.lowerL] at hl
    split at hl
    · rename_i q1 d1 y q2 d2 l2 h1 h2
      simp only [Option.some.injEq, Prod.mk.injEq] at hl
      obtain ⟨_, rfl, _⟩ := hl
      rcases List.mem_append.1 hc with hc | hc
      · exact lower_live x _ _ _ h1 c hc
      · exact lowerL_live l _ _ _ h2 c hc
    · cases hl
end

def lowerR (h : Hp) : AV → Option (List (Th Prop) × List Nat × AV)
  | .tup l => match lower.lowerL h l with
    | some (q, d, l') => some (q, d, .tup l')
    | none => none
  | x => lower h x

theorem lowerR_rep (hh : HeapRel w M β cp h) {x : AV} {q : List (Th Prop)} {d : List Nat} {y : AV} (hl : lowerR h x = some (q, d, y)) (hq : ∀ p ∈ q, p ()) {v : Value} (hr : Rep w M β cp x v) :
    Rep w (fun k => M k ∧ ¬ Lent β d k) β cp y v ∧ ∀ b ∈ d, ∃ o, h[b]? = some o ∧ o.live = true := by
  unfold lowerR at hl
  split at hl
  · rename_i l
    split at hl
    · rename_i q' d' l' h1
      simp only [Option.some.injEq, Prod.mk.injEq] at hl
      obtain ⟨rfl, rfl, rfl⟩ := hl
      obtain ⟨cs, rfl, hL⟩ := rep_tup hr
      have h2 := lowerL_rep hh l _ _ _ h1 hq _ (fun _ hb => hb) _ hL
      exact ⟨.tup _ cs (by simpa using h2.1) fun j x hj => by rw [getD_arr]; exact h2.2 j x hj, lowerL_live l _ _ _ h1⟩
    · cases hl
  · exact ⟨lower_rep hh x _ _ _ hl hq _ (fun _ hb => hb) v hr, lower_live x _ _ _ hl⟩

theorem FnOk.froz {r0 : AV} {H0 : Hp} (hf : FnOk P f A [] (outA r0 H0)) (hi : allBelow (len H0) (ids r0) = true) {q : List (Th Prop)} {d : List Nat} {r1 : AV} (hl : lowerR H0 r0 = some (q, d, r1)) (hq : ∀ p ∈ q, p ()) (hc : closed r1 = true) (hK : K r1 [] []) : FnOk P f A [] K := by
  intro w M β cp vs hh hA
  refine (hf.out hi (K := fun r H kl => r = r0 ∧ H = H0 ∧ kl = []) ⟨rfl, rfl, rfl⟩ w M β cp vs hh hA).mono ?_
  rintro e w' ⟨v, r, H', kl, M', β', cp', rfl, ⟨rfl, rfl, rfl⟩, hh', hak, hrep⟩
  obtain ⟨hr, hlv⟩ := lowerR_rep hh' hl hq hrep
  refine ⟨v, r1, [], [], fun k => M' k ∧ ¬ Lent β' d k, fun _ => none, fun _ => 0, rfl, hK, ⟨fun _ _ => rfl, fun b o hb => by simp at hb, fun b b' o o' g hb => by simp at hb, fun k hk => hh'.dom k hk.1⟩,
    ⟨fun k hk hM => ⟨(hak.keep k hk hM).1, fun h => (hak.keep k hk hM).2 h.1⟩, fun b _ hb => absurd (hh.out b (Nat.zero_le _)) hb, ⟨hak.ext.os, hak.ext.tape, hak.ext.output, hak.ext.size, hak.ext.block, fun k hk => ⟨hak.ext.sub k hk, ?_⟩, fun k hk => hak.ext.new k hk.1⟩, ?_⟩, .c (closed_rep hr hc)⟩
  · rintro ⟨b, hb, hg⟩
    obtain ⟨o, ho, hol⟩ := hlv b hb
    rcases hak.own k ⟨b, o, ho, hol, hg⟩ with ⟨b', o', hb', _⟩ | h1
    · simp at hb'
    · have := hh.dom k hk; omega
  · rintro g ⟨b, o, hb, _⟩
    simp at hb

def noSlH2 : List AObj → Prop
  | [] => True
  | o :: r => noSlO o ∧ noSlH2 r
theorem noSlH2_get : ∀ {H : Hp}, noSlH2 H → ∀ {c : Nat} {o : AObj}, H[c]? = some o → noSlO o
  | [], _, c, o, h => by simp at h
  | x :: r, hc, c, o, ho => by
    cases c with
    | zero => simp at ho; subst ho; exact hc.1
    | succ c => exact noSlH2_get hc.2 (by simpa using ho)
theorem lowF_leaf {N : Nat → Prop} {x y : AV} {q : List (Th Prop)} {d : List Nat} {v : Value} (hl : lower h x = some (q, d, y)) (hs : lower h x = some ([], [], x)) (hn : noSl x = true) (hc : closed y = true) (hr : Rep w M β cp x v) : RepC w N y v := by
  rw [hs] at hl
  simp only [Option.some.injEq, Prod.mk.injEq] at hl
  obtain ⟨rfl, rfl, rfl⟩ := hl
  exact noSl_repC (closed_rep hr hc) hn
mutual
theorem lowF {N : Nat → Prop} (hh : HeapRel w M β cp h) (hH : noSlH2 h) (hN : ∀ b o g, h[b]? = some o → o.live = true → β b = some g → ¬ N g) : ∀ (x : AV) (q : List (Th Prop)) (d : List Nat) (y : AV), lower h x = some (q, d, y) → (∀ p ∈ q, p ()) → noSl x = true → closed y = true → ∀ (v : Value), Rep w M β cp x v → RepC w N y v
  | .own b n, q, d, y, hl, hq, hns, hc, v, hr => by
    simp only [lower] at hl
    split at hl
    · rename_i et sz m f hb
      split at hl
      case h_2 => cases hl
      rename_i qs
      have hs0 : 0 < sz := blt_iff.1 qs
      simp only [Option.some.injEq, Prod.mk.injEq] at hl
      obtain ⟨rfl, rfl, rfl⟩ := hl
      have hnm : n () ≤ m () := hq (fun _ => n () ≤ m ()) (by simp)
      have hbo := nth_some hb rfl
      rcases rep_own hr with ⟨h0, rfl⟩ | ⟨g, hg, hn, rfl⟩
      · exact .sl0 sz n f none 0 h0 (by unfold maxLen; omega)
      · rcases hh.obj b _ hbo with ⟨e1, _⟩ | ⟨g', cur, e1, e2, e3, e4, e5, e6, e7, e8, e9⟩
        · rw [hg] at e1; cases e1
        · rw [hg] at e1; cases e1
          by_cases h0 : n () = 0
          · rw [h0]; exact .sl0 sz n f _ _ h0 e7
          · have hlt : ∀ i j, i < n () → j < sz → i * sz + j < n () * sz := by
              intro i j hi hj
              have := Nat.mul_le_mul_right sz (show i + 1 ≤ n () by omega)
              rw [Nat.succ_mul] at this
              omega
            have hle : n () * sz ≤ m () * sz := Nat.mul_le_mul_right _ hnm
            have hle2 : n () * sz ≤ cur.size := by rw [e4]; exact Nat.mul_le_mul_right _ (by omega)
            have hvs : ∀ i, i < m () → noSlL (f fun _ => i) = true := by
              have := noSlH2_get hH hbo
              cases this with | mk h => exact h
            refine .sl sz n f ⟨g, 0, none⟩ (cp b) (fun i j => cur.getD (i * sz + j) undef) (hN b _ g hbo rfl hg) hs0 hn e7 (fun i hi => e8 i (by omega)) (fun i j hi hj => ?_) (fun i j hi hj => e5 _ (by have := hlt i j hi hj; omega)) fun i j x hi hj => noSl_repC (e9 i j x (by omega) hj) (noSlL_get (hvs i (by omega)) hj)
            have := hlt i j hi hj
            have h3 : i * sz + j < cur.size := by omega
            rw [addr_add, Nat.zero_add, cell_of_row e3 h3]
            simp [h3]
    · cases hl
  | .vw b sz' p n, q, d, y, hl, hq, hns, hc, v, hr => by
    simp only [lower] at hl
    split at hl
    · rename_i et sz m f hb
      split at hl
      case h_2 => cases hl
      rename_i qs qz
      have hs0 : 0 < sz := blt_iff.1 qs
      have qz := beq_iff.1 qz
      subst qz
      simp only [Option.some.injEq, Prod.mk.injEq] at hl
      obtain ⟨rfl, rfl, rfl⟩ := hl
      have hnm : p () + n () ≤ m () := hq (fun _ => p () + n () ≤ m ()) (by simp)
      have hbo := nth_some hb rfl
      rcases rep_vw hr with ⟨h0, a, c, hc2, rfl⟩ | ⟨g, hg, hn, rfl⟩
      · exact .sl0 _ n _ a c h0 hc2
      · rcases hh.obj b _ hbo with ⟨e1, _⟩ | ⟨g', cur, e1, e2, e3, e4, e5, e6, e7, e8, e9⟩
        · rw [hg] at e1; cases e1
        · rw [hg] at e1; cases e1
          by_cases h0 : n () = 0
          · rw [h0]; exact .sl0 _ n _ _ _ h0 (by omega)
          · have hlt : ∀ i j, i < n () → j < sz' → (i + p ()) * sz' + j < (p () + n ()) * sz' := by
              intro i j hi hj
              have := Nat.mul_le_mul_right sz' (show i + p () + 1 ≤ p () + n () by omega)
              rw [Nat.succ_mul] at this
              omega
            have hle : (p () + n ()) * sz' ≤ m () * sz' := Nat.mul_le_mul_right _ hnm
            have hle2 : (p () + n ()) * sz' ≤ cur.size := by rw [e4]; exact Nat.mul_le_mul_right _ (by omega)
            have hvs : ∀ i, i < m () → noSlL (f fun _ => i) = true := by
              have := noSlH2_get hH hbo
              cases this with | mk h => exact h
            refine .sl sz' n (fun k => f fun _ => k () + p ()) ⟨g, p () * sz', none⟩ (cp b - p ()) (fun i j => cur.getD ((i + p ()) * sz' + j) undef) (hN b _ g hbo rfl hg) hs0 (by omega) (by omega) (fun i hi => e8 (i + p ()) (by omega)) (fun i j hi hj => ?_) (fun i j hi hj => e5 _ (by have := hlt i j hi hj; omega)) fun i j x hi hj => noSl_repC (e9 (i + p ()) j x (by omega) hj) (noSlL_get (hvs (i + p ()) (by omega)) hj)
            have := hlt i j hi hj
            have h3 : (i + p ()) * sz' + j < cur.size := by omega
            rw [addr_add, show p () * sz' + (i * sz' + j) = (i + p ()) * sz' + j by rw [Nat.add_mul]; omega, cell_of_row e3 h3]
            simp [h3]
    · cases hl
  | .agg l, q, d, y, hl, hq, hns, hc, v, hr => by
    simp only [lower] at hl
    split at hl
    · rename_i q' d' l' hl'
      simp only [Option.some.injEq, Prod.mk.injEq] at hl
      obtain ⟨rfl, rfl, rfl⟩ := hl
      obtain ⟨cs, rfl, hL, ho⟩ := rep_agg hr
      have := lowFL hh hH hN l q' d' l' hl' hq (by simpa [noSl] using hns) (by simpa [closed] using hc) _ hL
      exact .agg _ cs (by simpa using this.1) (fun v hv => ho v (by simpa using hv)) fun j x hj => by rw [getD_arr]; exact this.2 j x hj
    · cases hl
  | .any, q, d, y, hl, _, hns, hc, v, hr => lowF_leaf hl (by rfl) hns hc hr
  | .bc _, q, d, y, hl, _, hns, hc, v, hr => lowF_leaf hl (by rfl) hns hc hr
  | .b _, q, d, y, hl, _, hns, hc, v, hr => lowF_leaf hl (by rfl) hns hc hr
  | .i _ _, q, d, y, hl, _, hns, hc, v, hr => lowF_leaf hl (by rfl) hns hc hr
  | .s _, q, d, y, hl, _, hns, hc, v, hr => lowF_leaf hl (by rfl) hns hc hr
  | .nil, q, d, y, hl, _, hns, hc, v, hr => lowF_leaf hl (by rfl) hns hc hr
  | .con _, q, d, y, hl, _, hns, hc, v, hr => lowF_leaf hl (by rfl) hns hc hr
  | .tup _, q, d, y, hl, _, hns, hc, v, hr => lowF_leaf hl (by rfl) hns hc hr
  | .ptr _ _, q, d, y, hl, _, hns, hc, v, hr => lowF_leaf hl (by rfl) hns hc hr
  | .nn _ _, q, d, y, hl, _, hns, hc, v, hr => lowF_leaf hl (by rfl) hns hc hr
  | .ept _ _ _ _, q, d, y, hl, _, hns, hc, v, hr => lowF_leaf hl (by rfl) hns hc hr
  | .sl _ _ _, q, d, y, hl, _, hns, hc, v, hr => lowF_leaf hl (by rfl) hns hc hr
  | .rp _, q, d, y, hl, _, hns, hc, v, hr => lowF_leaf hl (by rfl) hns hc hr
  | .fn _ _, q, d, y, hl, _, hns, hc, v, hr => lowF_leaf hl (by rfl) hns hc hr
  | .ite _ _ _, q, d, y, hl, _, hns, hc, v, hr => lowF_leaf hl (by rfl) hns hc hr
theorem lowFL {N : Nat → Prop} (hh : HeapRel w M β cp h) (hH : noSlH2 h) (hN : ∀ b o g, h[b]? = some o → o.live = true → β b = some g → ¬ N g) : ∀ (l : List AV) (q : List (Th Prop)) (d : List Nat) (l' : List AV), lower.lowerL h l = some (q, d, l') → (∀ p ∈ q, p ()) → noSlL l = true → closedL l' = true → ∀ (vs : List Value), RepL w M β cp l vs →
    vs.length = l'.length ∧ ∀ (j : Nat) (x : AV), l'[j]? = some x → RepC w N x (vs.getD j undef)
  | [], q, d, l', hl, hq, hns, hc, vs, hr => by
    simp only [lower.lowerL, Option.some.injEq, Prod.mk.injEq] at hl
    obtain ⟨rfl, rfl, rfl⟩ := hl
    exact ⟨hr.1, fun j x hj => by simp at hj⟩
  | x :: l, q, d, l', hl, hq, hns, hc, vs, hr => by
    simp only [lower.lowerL] at hl
    split at hl
    · rename_i q1 d1 y q2 d2 l2 h1 h2
      simp only [Option.some.injEq, Prod.mk.injEq] at hl
      obtain ⟨rfl, rfl, rfl⟩ := hl
      simp only [noSlL] at hns
      split at hns
      case h_2 => cases hns
      rename_i hn1
      simp only [closedL] at hc
      split at hc
      case h_2 => cases hc
      rename_i hc1
      match vs, hr with
      | [], hr => exact absurd hr.1 (by simp)
      | u :: vs, hr =>
        have hx := lowF hh hH hN x q1 d1 y h1 (fun p hp => hq p (by simp [hp])) hn1 hc1 u (by have := hr.2 0 x rfl; simpa using this)
        have := lowFL hh hH hN l q2 d2 l2 h2 (fun p hp => hq p (by simp [hp])) hns hc vs ⟨by have := hr.1; simp at this; omega, fun j x hj => by have := hr.2 (j + 1) x (by simpa using hj); simpa using this⟩
        refine ⟨by have := this.1; simp; omega, fun j z hj => ?_⟩
        cases j with
        | zero => simp at hj; subst hj; simpa using hx
        | succ j => have := this.2 j z (by simpa using hj); simpa using this
    · cases hl
end
/-- What a function made, and hands on, is data in blocks of its own. -/
theorem FnOk.fresh {r0 : AV} {H0 : Hp} (hf : FnOk P f A [] (outA r0 H0)) (hi : allBelow (len H0) (ids r0) = true) {q : List (Th Prop)} {d : List Nat} {r1 : AV} (hl : lowerR H0 r0 = some (q, d, r1)) (hq : ∀ p ∈ q, p ()) (hc : closed r1 = true) (hns : noSl r0 = true) (hH : noSlH2 H0) : FrOk P f A r1 := by
  intro w M vs hM hA
  refine (hf.out hi (K := fun r H kl => r = r0 ∧ H = H0 ∧ kl = []) ⟨rfl, rfl, rfl⟩ w M (fun _ => none) (fun _ => 0) vs ⟨fun _ _ => rfl, fun b o hb => by simp at hb, fun b b' o o' g hb => by simp at hb, hM⟩ hA).mono ?_
  rintro e w' ⟨v, r, H', kl, M', β', cp', rfl, ⟨rfl, rfl, rfl⟩, hh', hak, hrep⟩
  have hN : ∀ b o g, H'[b]? = some o → o.live = true → β' b = some g → ¬ g < w.heap.size := fun b o g hb ho hg => by
    rcases hak.own g ⟨b, o, hb, ho, hg⟩ with ⟨b', o', hb', _⟩ | h1
    · simp at hb'
    · omega
  refine ⟨v, rfl, ⟨hak.ext.os, hak.ext.tape, hak.ext.output, hak.ext.size, fun k hk => hak.ext.block k hk (by rintro ⟨b, o, hb, _⟩; simp at hb)⟩, ?_⟩
  unfold lowerR at hl
  split at hl
  · rename_i l
    split at hl
    · rename_i q' d' l' hl'
      simp only [Option.some.injEq, Prod.mk.injEq] at hl
      obtain ⟨rfl, rfl, rfl⟩ := hl
      obtain ⟨cs, rfl, hL⟩ := rep_tup hrep
      have := lowFL hh' hH hN l _ _ _ hl' hq (by simpa [noSl] using hns) (by simpa [closed] using hc) _ hL
      exact .tup _ cs (by simpa using this.1) fun j x hj => by rw [getD_arr]; exact this.2 j x hj
    · cases hl
  · exact lowF hh' hH hN _ _ _ _ hl hq hns hc v hrep

/-- A contract with one outcome that is data. -/
theorem det_okF {d : Det} (h : ∀ A p r, d A = some (p, r) → p () → FnOk P f A [] fun r' H _ => r' = r ∧ H = []) : PcOk P f (detPC d) := by
  intro A PK hp
  unfold detPC at hp
  split at hp
  · rename_i p r hd
    cases hp with
    | mk h1 h2 =>
      refine (h A p r hd h1).mono ?_
      rintro r' H' kl ⟨rfl, rfl⟩
      exact h2
  · cases hp
end
end Go.Abs
