/- Parts, plain: those that do not feed a part. -/
import Derived.Test.YtbnpacdkllmblaaFeedO
import Derived.Test.YtbnpacdkllmblaaSimP
set_option linter.all false
namespace Go.Proofs.Ytbnpacdkllmblaa
open Go Go.Abs

theorem feeds_ok {m : Module} {i : Int} (h : (feedsV m i).2 = 0) : MOk m ∧ partB m i = true ∧ (feedsV m i).1.length = m.parts.length ∧ FOk m.wires (feedsV m i).1 ∧ (feedsV m i).1.getD i.toNat Dat.d0 = true := by
  unfold feedsV at h ⊢
  by_cases h1 : mchkV m = 0
  · rw [if_neg (fun q => q h1)] at h ⊢
    by_cases h2 : partB m i = false
    · rw [if_pos h2] at h; cases h
    · rw [if_neg h2]
      have M := mchk_iff.1 h1
      have h2 : partB m i = true := by simpa using h2
      have h3 := of_decide_eq_true h2
      obtain ⟨a, b⟩ := feedN_ok (ws := m.wires) (f := m.parts.length) (out := feed0 m.parts.length i) (fun w hw => by
        have := of_decide_eq_true (M.w w hw)
        rw [feed0_len]; omega) (Nat.le_trans (cntF_le _) (Nat.le_of_eq feed0_len))
      exact ⟨M, h2, by show (feedN ..).length = _; rw [feedN_len, feed0_len], a, b _ (by rw [feed0_getD (by omega)]; simp)⟩
  · rw [if_pos h1] at h; exact absurd h h1
theorem run_sim {F : List Bool} {a b : Module} {n : Int} (s : Sim F a b) (hw : FOk a.wires F) (ho : OwnR F a.parts.length a.table b.table) (ha : (runPV a n).2 = 0) (hb : (runPV b n).2 = 0) : Sim F (runPV a n).1 (runPV b n).1 := by
  obtain ⟨a1, a2, a3, a4⟩ := runP_ok ha
  obtain ⟨b1, b2, b3, b4⟩ := runP_ok hb
  rw [a4] at ha ⊢
  rw [b4] at hb ⊢
  exact ticks_sim s (mchk_iff.1 a1) hw ho (mchk_iff.1 b1) ha hb
theorem run_bad {a b : Module} {n : Int} (ha : (runPV a n).2 = 0) (hb : ¬ (runPV b n).2 = 0) : ¬ mchkV b = 0 ∨ (runPV b n).2 = 6 := by
  obtain ⟨a1, a2, a3, a4⟩ := runP_ok ha
  by_cases h : mchkV b = 0
  · refine .inr ?_
    have e : runPV b n = ticksV n.toNat b := by rw [runPV, if_neg (fun q => q h), if_neg (by omega)]
    rw [e] at hb ⊢
    exact (ticks_fst hb).2
  · exact .inl h
theorem run_part {m : Module} {n : Int} (h : (runPV m n).2 = 0) : (runPV m n).1.parts.length = m.parts.length := by
  obtain ⟨a1, a2, a3, a4⟩ := runP_ok h
  rw [a4] at h ⊢
  exact (ticks_ok (mchk_iff.1 a1) h).2.2.2.2.1
theorem run_mok {m : Module} {n : Int} (h : (runPV m n).2 = 0) : MOk (runPV m n).1 := by
  obtain ⟨a1, a2, a3, a4⟩ := runP_ok h
  rw [a4] at h ⊢
  exact (ticks_ok (mchk_iff.1 a1) h).1
theorem OwnR.refl {F : List Bool} {n : Nat} {t : Table} : OwnR F n t t := fun _ _ _ => .inl rfl
theorem getD_mem {α : Type} {l : List α} {k : Nat} {d : α} (h : k < l.length) : l.getD k d ∈ l := by
  rw [List.getD_eq_getElem?_getD, List.getElem?_eq_getElem h]; exact List.getElem_mem h
theorem set_mem {α : Type} {l : List α} {k : Nat} {a : α} {P : α → Prop} (h : ∀ x ∈ l, P x) (ha : P a) : ∀ x ∈ l.set k a, P x := fun x hx => by
  rcases List.mem_or_eq_of_mem_set hx with h1 | rfl
  · exact h x h1
  · exact ha
theorem fit_parts {l : List Part} (h : Siz.fit l) : PLen l := fun p hp => by
  have e : maxLen ≤ 9223372036854775807 := by unfold maxLen; decide
  obtain ⟨_, h3⟩ := h
  obtain ⟨⟨q1, _⟩, ⟨_, ⟨q2, _⟩, _, _⟩, ⟨q3, _⟩⟩ := h3 p hp
  exact ⟨Nat.le_trans q1 e, Nat.le_trans q2 e, Nat.le_trans q3 e⟩

end Go.Proofs.Ytbnpacdkllmblaa
