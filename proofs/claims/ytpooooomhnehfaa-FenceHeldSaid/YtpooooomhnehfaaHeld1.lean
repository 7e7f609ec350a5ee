import Derived.Test.YtpooooomhnehfaaFence5
set_option linter.all false
namespace Go.Proofs.Ytpooooomhnehfaa
open Go Go.Abs

def con6 : FuncId → Con := fun f => match f with
  | 13 => pureCon (detPC livesD)
  | 14 => pureCon (detPC clD)
  | 15 => pureCon (detPC paD)
  | _ => fun _ _ _ => Bad 1001
theorem con6_ok : ConOk Try.prog con6 := fun f A H K h => by
  unfold con6 at h
  split at h
  · exact ⟨⟨Try.f13, Try.func13, by kernel_rfl, by kernel_rfl⟩, pureCon_ok lives_ok h⟩
  · exact ⟨⟨Try.f14, Try.func14, by kernel_rfl, by kernel_rfl⟩, pureCon_ok cl_ok h⟩
  · exact ⟨⟨Try.f15, Try.func15, by kernel_rfl, by kernel_rfl⟩, pureCon_ok pa_ok h⟩
  · cases h

theorem held1 {e o w n : Int} (h : mayV e o w n = 0) : mayV (clE e o w n) (clO e o w n) w n = 0 ∧ clE (clE e o w n) (clO e o w n) w n = clE e o w n ∧ clO (clE e o w n) (clO e o w n) w n = clO e o w n ∧
    paB (clE e o w n) (clO e o w n) w n = clB e o w n ∧ clB (clE e o w n) (clO e o w n) w n = clB e o w n := by
  have hm : chB e o = true ∧ whoB w = true ∧ epB n = true := by
    unfold mayV at h
    split at h
    · split at h
      · rename_i h1 h2; rw [Bool.and_eq_true] at h2; exact ⟨h1, h2⟩
      · cases h
    · cases h
  obtain ⟨h1, h2, h3⟩ := hm
  have hc : chB n w = true := by simp [chB, h2, h3]
  by_cases hlt : e < n
  · have e1 : clE e o w n = n := by simp [clE, h, hlt]
    have e2 : clO e o w n = w := by simp [clO, h, hlt]
    have e3 : mayV n w w n = 0 := by simp [mayV, hc, h2, h3]
    rw [e1, e2]
    simp [e3, clE, clO, paB, clB, h, hlt]
  · have e1 : clE e o w n = e := by simp [clE, h, hlt]
    have e2 : clO e o w n = o := by simp [clO, h, hlt]
    rw [e1, e2]
    simp [h, e1, e2, paB, clB, hlt]

theorem held2 {E O x m : Int} (h : mayV E O x m = 0) (hb : clB E O x m = true) (hlt : ¬ E < m) : clE E O x m = E ∧ clO E O x m = O ∧ x = O ∧ m = E := by
  simp [clB, h, hlt] at hb
  exact ⟨by simp [clE, h, hlt], by simp [clO, h, hlt], hb.2.symm, hb.1.symm⟩

set_option maxRecDepth 100000
theorem held_vc (e o w n x m : Int) : FnOk Try.prog 4 [.agg [.i .i64 fun _ => e, .i .i64 fun _ => o], .i .i64 fun _ => w, .i .i64 fun _ => n, .i .i64 fun _ => x, .i .i64 fun _ => m] [] (outLe 0 (.bc true) [] []) := by
  refine fn_ok envOk zl con6_ok noDraws_ok (keep := [0, 1, 2, 3, 4, 5, 10, 11, 12, 13, 14, 15, 16, 17, 18, 19, 20, 21, 35, 76]) Try.func4 rfl ?_
  cbv
  repeat' first | exact trivial | rfl | refine Both.mk ?_ ?_ | refine Imp.mk fun h => ?_ | refine Ob.mk ?_ ?_ | refine Eq'.mk ?_ | (refine AllN.mk fun i hi => ?_; cbv)
  all_goals try dsimp only at *
  all_goals simp only [Bool.not_eq_true', Bool.not_eq_false', decide_eq_true_eq, decide_eq_false_iff_not, Bool.and_true, beq_iff_eq, beq_eq_false_iff_ne] at *
  all_goals first
    | (have hM : mayV e o w n = 0 := by assumption
       obtain ⟨k1, k2, k3, k4, k5⟩ := held1 hM
       first
         | (simp_all; done)
         | (obtain ⟨j1, j2, j3, j4⟩ := held2 (x := x) (m := m) ‹_› ‹_› ‹_›
            first
              | exact j4
              | exact absurd j3 ‹_›
              | (rw [j1, j2] at h; simp at h)))
    | (simp [clB, *]; done)

end Go.Proofs.Ytpooooomhnehfaa
