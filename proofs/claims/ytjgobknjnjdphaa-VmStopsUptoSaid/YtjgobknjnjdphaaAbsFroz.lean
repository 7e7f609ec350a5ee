/- What a call made, and nobody writes any more, is data. -/
import Derived.Test.YtjgobknjnjdphaaAbsOut
set_option linter.all false
namespace Go.Abs
open Go
section
variable {P : Program} {w : World} {M : Nat → Prop} {β : Nat → Option Nat} {cp : Nat → Nat} {h : Hp} {f : FuncId} {A : List AV} {K : Kont}

mutual
theorem lower_live : ∀ (x : AV) (q : List (Th Prop)) (d : List Nat) (y : AV), lower h x = some (q, d, y) → ∀ b ∈ d, ∃ o, h[b]? = some o ∧ o.live = true
  | .own b n, q, d, y, hl, c, hc => by
    simp only [lower] at hl
    split at hl
    · rename_i et sz m f hb
      split at hl
      · simp only [Option.some.injEq, Prod.mk.injEq] at hl
        obtain ⟨_, rfl, _⟩ := hl
        simp only [List.mem_singleton] at hc
        subst hc
        exact ⟨_, nth_some hb rfl, rfl⟩
      · cases hl
    · cases hl
  | .agg l, q, d, y, hl, c, hc => by
    simp only [lower] at hl
    split at hl
    · rename_i q' d' l' h1
      simp only [Option.some.injEq, Prod.mk.injEq] at hl
      obtain ⟨_, rfl, _⟩ := hl
      exact lowerL_live l _ _ _ h1 c hc
    · cases hl
  | .any, q, d, y, hl, c, hc => by simp only [lower, Option.some.injEq, Prod.mk.injEq] at hl; obtain ⟨_, rfl, _⟩ := hl; cases hc
  | .bc _, q, d, y, hl, c, hc => by simp only [lower, Option.some.injEq, Prod.mk.injEq] at hl; obtain ⟨_, rfl, _⟩ := hl; cases hc
  | .b _, q, d, y, hl, c, hc => by simp only [lower, Option.some.injEq, Prod.mk.injEq] at hl; obtain ⟨_, rfl, _⟩ := hl; cases hc
  | .i _ _, q, d, y, hl, c, hc => by simp only [lower, Option.some.injEq, Prod.mk.injEq] at hl; obtain ⟨_, rfl, _⟩ := hl; cases hc
  | .s _, q, d, y, hl, c, hc => by simp only [lower, Option.some.injEq, Prod.mk.injEq] at hl; obtain ⟨_, rfl, _⟩ := hl; cases hc
  | .nil, q, d, y, hl, c, hc => by simp only [lower, Option.some.injEq, Prod.mk.injEq] at hl; obtain ⟨_, rfl, _⟩ := hl; cases hc
  | .con _, q, d, y, hl, c, hc => by simp only [lower, Option.some.injEq, Prod.mk.injEq] at hl; obtain ⟨_, rfl, _⟩ := hl; cases hc
  | .tup _, q, d, y, hl, c, hc => by simp only [lower, Option.some.injEq, Prod.mk.injEq] at hl; obtain ⟨_, rfl, _⟩ := hl; cases hc
  | .ptr _ _, q, d, y, hl, c, hc => by simp only [lower, Option.some.injEq, Prod.mk.injEq] at hl; obtain ⟨_, rfl, _⟩ := hl; cases hc
  | .ept _ _ _ _, q, d, y, hl, c, hc => by simp only [lower, Option.some.injEq, Prod.mk.injEq] at hl; obtain ⟨_, rfl, _⟩ := hl; cases hc
  | .sl _ _ _, q, d, y, hl, c, hc => by simp only [lower, Option.some.injEq, Prod.mk.injEq] at hl; obtain ⟨_, rfl, _⟩ := hl; cases hc
  | .rp _, q, d, y, hl, c, hc => by simp only [lower, Option.some.injEq, Prod.mk.injEq] at hl; obtain ⟨_, rfl, _⟩ := hl; cases hc
  | .fn _ _, q, d, y, hl, c, hc => by simp only [lower, Option.some.injEq, Prod.mk.injEq] at hl; obtain ⟨_, rfl, _⟩ := hl; cases hc
  | .ite _ _ _, q, d, y, hl, c, hc => by simp only [lower, Option.some.injEq, Prod.mk.injEq] at hl; obtain ⟨_, rfl, _⟩ := hl; cases hc
theorem lowerL_live : ∀ (l : List AV) (q : List (Th Prop)) (d : List Nat) (l' : List AV), lower.lowerL h l = some (q, d, l') → ∀ b ∈ d, ∃ o, h[b]? = some o ∧ o.live = true
  | [], q, d, l', hl, c, hc => by simp only [lower.lowerL, Option.some.injEq, Prod.mk.injEq] at hl; obtain ⟨_, rfl, _⟩ := hl; cases hc
  | x :: l, q, d, l', hl, c, hc => by
    simp only [lower.lowerL] at hl
    split at hl
    · rename_i q1 d1 y q2 d2 l2 h1 h2
      simp only [Option.some.injEq, Prod.mk.injEq] at hl
      obtain ⟨_, rfl, _⟩ := hl
      rcases List.mem_append.1 hc with hc | hc
      · exact lower_live x _ _ _ h1 c hc
      · exact lowerL_live l _ _ _ h2 c hc
    · cases hl
end

def lowerR (h : Hp) : AV → Option (List (Th Prop) × List Nat × AV)
  | .tup l => match lower.lowerL h l with
    | some (q, d, l') => some (q, d, .tup l')
    | none => none
  | x => lower h x

theorem lowerR_rep (hh : HeapRel w M β cp h) {x : AV} {q : List (Th Prop)} {d : List Nat} {y : AV} (hl : lowerR h x = some (q, d, y)) (hq : ∀ p ∈ q, p ()) {v : Value} (hr : Rep w M β cp x v) :
    Rep w (fun k => M k ∧ ¬ Lent β d k) β cp y v ∧ ∀ b ∈ d, ∃ o, h[b]? = some o ∧ o.live = true := by
  unfold lowerR at hl
  split at hl
  · rename_i l
    split at hl
    · rename_i q' d' l' h1
      simp only [Option.some.injEq, Prod.mk.injEq] at hl
      obtain ⟨rfl, rfl, rfl⟩ := hl
      obtain ⟨cs, rfl, hL⟩ := rep_tup hr
      have h2 := lowerL_rep hh l _ _ _ h1 hq _ (fun _ hb => hb) _ hL
      exact ⟨.tup _ cs (by simpa using h2.1) fun j x hj => by rw [getD_arr]; exact h2.2 j x hj, lowerL_live l _ _ _ h1⟩
    · cases hl
  · exact ⟨lower_rep hh x _ _ _ hl hq _ (fun _ hb => hb) v hr, lower_live x _ _ _ hl⟩

theorem FnOk.froz {r0 : AV} {H0 : Hp} (hf : FnOk P f A [] (outA r0 H0)) (hi : allBelow (len H0) (ids r0) = true) {q : List (Th Prop)} {d : List Nat} {r1 : AV} (hl : lowerR H0 r0 = some (q, d, r1)) (hq : ∀ p ∈ q, p ()) (hc : closed r1 = true) (hK : K r1 [] []) : FnOk P f A [] K := by
  intro w M β cp vs hh hA
  refine (hf.out hi (K := fun r H kl => r = r0 ∧ H = H0 ∧ kl = []) ⟨rfl, rfl, rfl⟩ w M β cp vs hh hA).mono ?_
  rintro e w' ⟨v, r, H', kl, M', β', cp', rfl, ⟨rfl, rfl, rfl⟩, hh', hak, hrep⟩
  obtain ⟨hr, hlv⟩ := lowerR_rep hh' hl hq hrep
  refine ⟨v, r1, [], [], fun k => M' k ∧ ¬ Lent β' d k, fun _ => none, fun _ => 0, rfl, hK, ⟨fun _ _ => rfl, fun b o hb => by simp at hb, fun b b' o o' g hb => by simp at hb, fun k hk => hh'.dom k hk.1⟩,
    ⟨fun k hk hM => ⟨(hak.keep k hk hM).1, fun h => (hak.keep k hk hM).2 h.1⟩, fun b _ hb => absurd (hh.out b (Nat.zero_le _)) hb, ⟨hak.ext.os, hak.ext.tape, hak.ext.output, hak.ext.size, hak.ext.block, fun k hk => ⟨hak.ext.sub k hk, ?_⟩, fun k hk => hak.ext.new k hk.1⟩, ?_⟩, .c (closed_rep hr hc)⟩
  · rintro ⟨b, hb, hg⟩
    obtain ⟨o, ho, hol⟩ := hlv b hb
    rcases hak.own k ⟨b, o, ho, hol, hg⟩ with ⟨b', o', hb', _⟩ | h1
    · simp at hb'
    · have := hh.dom k hk; omega
  · rintro g ⟨b, o, hb, _⟩
    simp at hb

/-- A contract with one outcome that is data. -/
theorem det_okF {d : Det} (h : ∀ A p r, d A = some (p, r) → p () → FnOk P f A [] fun r' H _ => r' = r ∧ H = []) : PcOk P f (detPC d) := by
  intro A PK hp
  unfold detPC at hp
  split at hp
  · rename_i p r hd
    cases hp with
    | mk h1 h2 =>
      refine (h A p r hd h1).mono ?_
      rintro r' H' kl ⟨rfl, rfl⟩
      exact h2
  · cases hp
end
end Go.Abs
