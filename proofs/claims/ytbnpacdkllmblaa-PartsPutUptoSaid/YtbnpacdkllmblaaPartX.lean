/- Parts, plain: runs, one behind the other. -/
import Derived.Test.YtbnpacdkllmblaaPartL
set_option linter.all false
namespace Go.Proofs.Ytbnpacdkllmblaa
open Go Go.Abs

theorem fit_pre {m : Module} (h : Siz.fit m) : mchkC_P m := by
  have e : maxLen ≤ 9223372036854775807 := by unfold maxLen; decide
  obtain ⟨⟨_, ⟨h1, _⟩⟩, ⟨h2, h3⟩, ⟨h4, _⟩, _, _⟩ := h
  refine ⟨Nat.le_trans h1 e, Nat.le_trans h2 e, Nat.le_trans h4 e, fun p hp => ?_⟩
  obtain ⟨⟨q1, _⟩, ⟨_, ⟨q2, _⟩, _, _⟩, ⟨q3, _⟩⟩ := h3 p hp
  exact ⟨Nat.le_trans q1 e, Nat.le_trans q2 e, Nat.le_trans q3 e⟩
theorem ok_len {p : Part} (P : POk p) : p.code.length ≤ 9223372036854775807 ∧ p.vm.regs.length ≤ 9223372036854775807 ∧ p.box.length ≤ 9223372036854775807 :=
  ⟨Nat.le_trans (check_len P.c) (by decide), Nat.le_trans (Nat.le_of_eq (rightV_ok P.v).2.1) (by decide), Nat.le_trans P.l (by decide)⟩
theorem ok_pre {m : Module} (M : MOk m) : mchkC_P m :=
  ⟨Nat.le_trans (wchk_iff.1 M.t).len (by decide), Nat.le_trans M.lp (by decide), Nat.le_trans M.lw (by decide), fun p hp => ok_len (prt_iff.1 (M.p p hp))⟩
theorem ticks_ok : ∀ {n : Nat} {m : Module}, MOk m → (ticksV n m).2 = 0 → MOk (ticksV n m).1 ∧ (ticksV n m).1.now = m.now + n ∧ (ticksV n m).1.table = m.table ∧ (ticksV n m).1.wires = m.wires ∧ (ticksV n m).1.parts.length = m.parts.length ∧ m.lost ≤ (ticksV n m).1.lost
  | 0, m, M, _ => ⟨M, by show m.now = m.now + 0; omega, rfl, rfl, rfl, Int.le_refl _⟩
  | n + 1, m, M, h => by
    by_cases h1 : (tickV m).2 = 0
    · rw [ticks_step h1] at h ⊢
      obtain ⟨a1, a2, a3, a4, a5, a6⟩ := tick_ok M h1
      obtain ⟨b1, b2, b3, b4, b5, b6⟩ := ticks_ok a1 h
      exact ⟨b1, by rw [b2, a2]; omega, b3.trans a3, b4.trans a4, b5.trans a5, by omega⟩
    · rw [ticks_bad h1] at h; exact absurd h h1
theorem ticks_fst {n : Nat} {m : Module} (h : ¬ (ticksV n m).2 = 0) : (ticksV n m).1 = zM ∧ (ticksV n m).2 = 6 := by
  induction n generalizing m with
  | zero => exact absurd rfl h
  | succ n ih =>
    by_cases h1 : (tickV m).2 = 0
    · rw [ticks_step h1] at h ⊢; exact ih h
    · rw [ticks_bad h1]; exact ⟨rfl, (tick_err h1).2⟩
theorem runP_ok {m : Module} {n : Int} (h : (runPV m n).2 = 0) : mchkV m = 0 ∧ 0 ≤ n ∧ n ≤ 5000 ∧ runPV m n = ticksV n.toNat m := by
  unfold runPV at h ⊢
  by_cases h1 : mchkV m = 0
  · rw [if_neg (by omega)] at h ⊢
    by_cases h2 : n < 0 ∨ 5000 < n
    · rw [if_pos h2] at h; cases h
    · rw [if_neg h2]; exact ⟨h1, by omega, by omega, rfl⟩
  · rw [if_pos h1] at h; exact absurd h h1
theorem zM_pre : mchkC_P zM := ⟨Nat.zero_le _, Nat.zero_le _, Nat.zero_le _, fun p hp => by cases hp⟩
theorem run_pre (m : Module) (n : Int) : mchkC_P (runPV m n).1 := by
  by_cases h : (runPV m n).2 = 0
  · obtain ⟨h1, _, _, e⟩ := runP_ok h
    rw [e] at h ⊢
    exact ok_pre (ticks_ok (mchk_iff.1 h1) h).1
  · have : (runPV m n).1 = zM := by
      unfold runPV at h ⊢
      split
      · rfl
      · rename_i q1
        rw [if_neg q1] at h
        split
        · rfl
        · rename_i q2
          rw [if_neg q2] at h
          exact (ticks_fst h).1
    rw [this]; exact zM_pre
theorem ticks_add : ∀ {a b : Nat} {m : Module}, (ticksV a m).2 = 0 → ticksV (a + b) m = ticksV b (ticksV a m).1
  | 0, b, m, _ => by rw [Nat.zero_add, ticksV]
  | a + 1, b, m, h => by
    by_cases h1 : (tickV m).2 = 0
    · rw [ticks_step h1] at h
      rw [show a + 1 + b = (a + b) + 1 by omega, ticks_step h1, ticks_step h1, ticks_add h]
    · rw [ticks_bad h1] at h; exact absurd h h1
theorem run_cut {m : Module} {a b : Int} (h : (runPV m a).2 = 0) (g : (runPV (runPV m a).1 b).2 = 0) (hab : a + b ≤ 5000) : runPV m (a + b) = runPV (runPV m a).1 b := by
  obtain ⟨h1, h2, h3, e⟩ := runP_ok h
  obtain ⟨g1, g2, g3, e2⟩ := runP_ok g
  rw [e2]
  rw [e] at h ⊢
  rw [runPV, if_neg (by omega), if_neg (by omega), show (a + b).toNat = a.toNat + b.toNat by omega, ticks_add h]

end Go.Proofs.Ytbnpacdkllmblaa
