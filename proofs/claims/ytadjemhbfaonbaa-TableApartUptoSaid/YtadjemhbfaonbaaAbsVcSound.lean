/- What is to be proved of a piece of code is enough. -/
import Derived.Test.YtadjemhbfaonbaaAbsVc
import Derived.Maps.AppendAt
set_option linter.all false
namespace Go.Abs
open Go
section
variable {P : Program} {E : Env} {w w' : World} {M M' : Nat → Prop} {β β' : Nat → Option Nat} {cp cp' : Nat → Nat} {h h' : Hp}

/-- β below a number. -/
def cut (nb : Nat) (β : Nat → Option Nat) : Nat → Option Nat := fun b => if b < nb then β b else none

theorem closed_cut {x : AV} {v : Value} (hr : Rep w M β cp x v) (hc : closed x = true) : RepC w M x v := closed_rep hr hc

mutual
theorem le_sound (nb : Nat) : ∀ (x y : AV) (v : Value), Rep w M β cp x v → le nb x y → Rep w M (cut nb β) cp y v
  | x, .any, v, _, _ => .c (.any v)
  | .bc p, .bc q, v, hr, hl => by cases hl with | mk hl => rw [rep_bc hr]; rw [show p = q from hl]; exact .c (.bc q)
  | .bc p, .b q, v, hr, hl => by cases hl with | mk hl => rw [rep_bc hr]; rw [show p = q () from hl]; exact .c (.b q)
  | .b p, .bc q, v, hr, hl => by cases hl with | mk hl => rw [rep_b hr]; rw [show p () = q from hl]; exact .c (.bc q)
  | .b p, .b q, v, hr, hl => by cases hl with | mk hl => rw [rep_b hr]; rw [show p () = q () from hl]; exact .c (.b q)
  | .i k p, .i k' q, v, hr, hl => by
    cases hl with | mk h1 h2 => cases h1 with | mk h1 => cases h2 with | mk h2 => rw [rep_i hr]; rw [show k = k' from h1, show p () = q () from h2]; exact .c (.i k' q)
  | .s p, .s q, v, hr, hl => by cases hl with | mk hl => rw [rep_s hr]; rw [show p () = q () from hl]; exact .c (.s q)
  | .nil, .nil, v, hr, _ => by rw [rep_nil hr]; exact .c .nil
  | .nil, .sl sz n f, v, hr, hl => by cases hl with | mk hl => rw [rep_nil hr]; exact .c (.sl0 sz n f none 0 hl (by unfold maxLen; omega))
  | .nil, .own b n, v, hr, hl => by cases hl with | mk hl => rw [rep_nil hr]; exact .own0 b n hl
  | .nil, .vw b sz p n, v, hr, hl => by cases hl with | mk hl => rw [rep_nil hr]; exact .vw0 b sz p n none 0 hl (by unfold maxLen; omega)
  | .vw b sz p n, .vw c sz' p' m, v, hr, hl => by
    simp only [le] at hl
    split at hl
    · rename_i q1 q2 q3
      have q1 := beq_iff.1 q1
      have q2 := beq_iff.1 q2
      subst q1 q2
      cases hl with
      | mk h1 h2 =>
        cases h1 with | mk h1 => cases h2 with | mk h2 =>
        rcases rep_vw hr with ⟨h0, a, c', hc', rfl⟩ | ⟨g, hg, hn, rfl⟩
        · exact .vw0 b sz p' m a c' (by rw [← h2]; exact h0) hc'
        · rw [h1, h2] at hn ⊢
          exact .vw b sz p' m g (by simp [cut, blt_iff.1 q3, hg]) hn
    · cases hl
  | .nn b n, .nn c m, v, hr, hl => by
    simp only [le] at hl
    split at hl
    · rename_i q1 q3
      have q1 := beq_iff.1 q1
      subst q1
      cases hl with
      | mk hl =>
        obtain ⟨g, hg, hn, rfl⟩ := rep_nn hr
        rw [hl] at hn ⊢
        exact .nn b m g (by simp [cut, blt_iff.1 q3, hg]) hn
    · cases hl
  | .nn b n, .own c m, v, hr, hl => by
    simp only [le] at hl
    split at hl
    · rename_i q1 q3
      have q1 := beq_iff.1 q1
      subst q1
      cases hl with
      | mk hl =>
        obtain ⟨g, hg, hn, rfl⟩ := rep_nn hr
        rw [hl] at hn ⊢
        exact .own b m g (by simp [cut, blt_iff.1 q3, hg]) hn
    · cases hl
  | .own b n, .vw c sz p m, v, hr, hl => by
    simp only [le] at hl
    split at hl
    · rename_i q1 q3
      have q1 := beq_iff.1 q1
      subst q1
      cases hl with
      | mk h1 h2 =>
        cases h1 with | mk h1 => cases h2 with | mk h2 =>
        rcases rep_own hr with ⟨h0, rfl⟩ | ⟨g, hg, hn, rfl⟩
        · exact .vw0 b sz p m none 0 (by rw [← h2]; exact h0) (by unfold maxLen; omega)
        · have := Rep.vw (w := w) (M := M) (β := cut nb β) (cp := cp) b sz p m g (by simp [cut, blt_iff.1 q3, hg]) (by rw [← h1, ← h2]; omega)
          rw [← h1, ← h2] at this
          simpa using this
    · cases hl
  | .con p, .con q, v, hr, hl => by
    cases hl with | mk hl => cases hr with | c hr => cases hr with | con _ hx => rw [show p () = q () from hl] at *; exact .c (.con q hx)
  | .agg l, .agg m, v, hr, hl => by
    obtain ⟨cs, rfl, hL, ho⟩ := rep_agg hr
    have := leL_sound nb l m cs.toList hL hl
    exact .agg m cs (by simpa using this.1) (fun v hv => ho v (by simpa using hv)) fun j x hj => by rw [getD_arr]; exact this.2 j x hj
  | .tup l, .tup m, v, hr, hl => by
    obtain ⟨cs, rfl, hL⟩ := rep_tup hr
    have := leL_sound nb l m cs.toList hL hl
    exact .tup m cs (by simpa using this.1) fun j x hj => by rw [getD_arr]; exact this.2 j x hj
  | .ptr b o, .ptr c p, v, hr, hl => by
    simp only [le] at hl
    split at hl
    · rename_i q1 q2 q3
      have q1 := beq_iff.1 q1
      have q2 := beq_iff.1 q2
      subst q1 q2
      obtain ⟨g, hg, rfl⟩ := rep_ptr hr
      exact .ptr b o g (by simp [cut, blt_iff.1 q3, hg])
    · cases hl
  | .ept b sz i o, .ept c sz' j p, v, hr, hl => by
    simp only [le] at hl
    split at hl
    · rename_i q1 q2 q4 q3
      have q1 := beq_iff.1 q1
      have q2 := beq_iff.1 q2
      have q4 := beq_iff.1 q4
      subst q1 q2 q4
      cases hl with
      | mk hl =>
        obtain ⟨g, hg, rfl⟩ := rep_ept hr
        rw [hl]
        exact .ept b sz j o g (by simp [cut, blt_iff.1 q3, hg])
    · cases hl
  | .own b n, .own c m, v, hr, hl => by
    simp only [le] at hl
    split at hl
    · rename_i q1 q3
      have q1 := beq_iff.1 q1
      subst q1
      cases hl with
      | mk hl =>
        rcases rep_own hr with ⟨h0, rfl⟩ | ⟨g, hg, hn, rfl⟩
        · exact .own0 b m (by rw [← hl]; exact h0)
        · rw [hl] at hn ⊢
          exact .own b m g (by simp [cut, blt_iff.1 q3, hg]) hn
    · cases hl
  | .sl sz n f, .sl sz' m g, v, hr, hl => by
    simp only [le] at hl
    split at hl
    · rename_i q1
      have q1 := beq_iff.1 q1
      subst q1
      cases hl with
      | mk h1 h2 =>
        cases h1 with
        | mk h1 =>
          cases h2 with
          | mk h2 =>
            obtain ⟨ao, c, rfl, hnc, hcm, hrr⟩ := rep_sl hr
            by_cases h0 : n () = 0
            · rw [h0]
              exact .c (.sl0 sz m g ao c (by rw [← h1]; exact h0) hcm)
            · obtain ⟨ad, u, rfl, hM, hs, hlen, hcell, ho, hrep⟩ := hrr (by omega)
              rw [h1]
              have e : ∀ i : Nat, i < m () → ∃ vs : List Value, vs.length = sz ∧ (∀ j, vs.getD j undef = if j < sz then u i j else undef) ∧ RepL w M β cp (f fun _ => i) vs := by
                intro i hi
                refine ⟨(List.range sz).map (u i), by simp, fun j => ?_, by simp [hlen i (by omega)], fun j x hj => ?_⟩
                · by_cases hj : j < sz <;> simp [List.getD_eq_getElem?_getD, hj]
                · have hjs : j < sz := by rw [← hlen i (by omega)]; exact (List.getElem?_eq_some_iff.1 hj).1
                  have := hrep i j x (by omega) hj
                  simpa [List.getD_eq_getElem?_getD, hjs] using Rep.c this
              have hg : ∀ i : Nat, i < m () → (g fun _ => i).length = sz ∧ ∀ (j : Nat) (x : AV), (g fun _ => i)[j]? = some x → RepC w M x (u i j) := by
                intro i hi
                obtain ⟨vs, hv1, hv2, hv3⟩ := e i hi
                cases h2 i (by rw [h1]; exact hi) with
                | mk h3 h4 =>
                  have := leL_sound nb (f fun _ => i) (g fun _ => i) vs hv3 h3
                  refine ⟨by have := this.1; omega, fun j x hj => ?_⟩
                  have hjs : j < sz := by
                    have h5 := this.1
                    have h6 := (List.getElem?_eq_some_iff.1 hj).1
                    omega
                  have h7 := closed_rep (this.2 j x hj) (closedL_get h4 hj)
                  rw [hv2 j, if_pos hjs] at h7
                  exact h7
              exact .c (.sl sz m g ad c u hM hs (by omega) hcm (fun i hi => (hg i hi).1) (fun i j hi hj => hcell i j (by omega) hj) (fun i j hi hj => ho i j (by omega) hj) fun i j x hi hj => (hg i hi).2 j x hj)
    · cases hl
  | .rp l, .rp m, v, hr, hl => by
    obtain ⟨ad, u, rfl, hM, hl0, hc, ho, hrep⟩ := rep_rp hr
    cases hl with
    | mk h1 h2 =>
      have hL : RepL w M β cp l ((List.range l.length).map u) := ⟨by simp, fun j x hj => by
        have hjl := (List.getElem?_eq_some_iff.1 hj).1
        simpa [List.getD_eq_getElem?_getD, hjl] using Rep.c (hrep j x hj)⟩
      have := leL_sound nb l m _ hL h1
      have hml : m.length = l.length := by have := this.1; simp at this; omega
      refine .c (.rp m ad u hM (by omega) (fun j hj => hc j (by omega)) (fun j hj => ho j (by omega)) fun j x hj => ?_)
      have hjl := (List.getElem?_eq_some_iff.1 hj).1
      have h7 := closed_rep (this.2 j x hj) (closedL_get h2 hj)
      simpa [List.getD_eq_getElem?_getD, show j < l.length by omega] using h7
  | .fn f l, .fn g m, v, hr, hl => by
    simp only [le] at hl
    split at hl
    · rename_i q1
      have q1 := beq_iff.1 q1
      subst q1
      cases hr with
      | c h => cases h
      | fn _ _ cs hl1 h =>
        have := leL_sound nb l m cs.toList ⟨by simpa using hl1, fun j x hj => by rw [← getD_arr]; exact h j x hj⟩ hl
        exact .fn f m cs (by simpa using this.1) fun j x hj => by rw [getD_arr]; exact this.2 j x hj
    · cases hl
  | .ite c x y, z, v, hr, hl => by
    have key : (c () = true → Rep w M β cp x v) ∧ (c () = false → Rep w M β cp y v) := by
      cases hr with
      | c h => cases h with | ite _ _ _ _ h1 h2 => exact ⟨fun h => .c (h1 h), fun h => .c (h2 h)⟩
      | ite _ _ _ _ h1 h2 => exact ⟨h1, h2⟩
    cases z with
    | any => exact .c (.any v)
    | _ =>
      cases hl with
      | mk h1 h2 =>
        cases h1 with
        | mk h1 =>
          cases h2 with
          | mk h2 =>
            cases hc : c () with
            | true => exact le_sound nb x _ v (key.1 hc) (h1 hc)
            | false => exact le_sound nb y _ v (key.2 hc) (h2 hc)
theorem leL_sound (nb : Nat) : ∀ (l m : List AV) (vs : List Value), RepL w M β cp l vs → leL nb l m → RepL w M (cut nb β) cp m vs
  | [], [], vs, hr, _ => ⟨hr.1, fun j x hj => by simp at hj⟩
  | x :: l, y :: m, vs, hr, hl => by
    cases hl with
    | mk h1 h2 =>
      match vs, hr with
      | [], hr => exact absurd hr.1 (by simp)
      | u :: vs, hr =>
        have hx := le_sound nb x y u (by have := hr.2 0 x rfl; simpa using this) h1
        have := leL_sound nb l m vs ⟨by have := hr.1; simp at this; omega, fun j x hj => by have := hr.2 (j + 1) x (by simpa using hj); simpa using this⟩ h2
        refine ⟨by have := this.1; simp; omega, fun j z hj => ?_⟩
        cases j with
        | zero => simp at hj; subst hj; simpa using hx
        | succ j => have := this.2 j z (by simpa using hj); simpa using this
end

end
end Go.Abs
