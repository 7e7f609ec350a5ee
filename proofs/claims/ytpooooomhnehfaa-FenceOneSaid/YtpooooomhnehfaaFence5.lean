import Derived.Test.YtpooooomhnehfaaFence4
set_option linter.all false
namespace Go.Proofs.Ytpooooomhnehfaa
open Go Go.Abs

def livesD : Det := fun A => match A with
  | [] => some (fun _ => True, .bc true)
  | _ => none

def con5 : FuncId → Con := fun f => match f with
  | 12 => pureCon playC
  | 16 => pureCon (detPC eqBD)
  | 27 => pureCon (detPC eqFD)
  | _ => fun _ _ _ => Bad 1001
theorem con5_ok : ConOk Try.prog con5 := fun f A H K h => by
  unfold con5 at h
  split at h
  · exact ⟨⟨Try.f12, Try.func12, by kernel_rfl, by kernel_rfl⟩, pureCon_ok play_ok h⟩
  · exact ⟨⟨Try.f16, Try.func16, by kernel_rfl, by kernel_rfl⟩, pureCon_ok eqB_ok h⟩
  · exact ⟨⟨Try.f27, Try.func27, by kernel_rfl, by kernel_rfl⟩, pureCon_ok eqF_ok h⟩
  · cases h

set_option maxRecDepth 100000
theorem lives_ok : PcOk Try.prog 13 (detPC livesD) := det_ok fun A p r h _ => by
  unfold livesD at h
  split at h
  · cases h
    refine fn_ok envOk zl con5_ok noDraws_ok (keep := [0, 1, 2, 3]) Try.func13 rfl ?_
    cbv
    repeat' first | exact trivial | rfl | refine Both.mk ?_ ?_ | refine Imp.mk fun h => ?_ | refine Ob.mk ?_ ?_ | refine Eq'.mk ?_ | refine AllN.mk fun i hi => ?_
    all_goals first
      | decide
      | (exfalso; revert h; decide)
      | (exfalso; rename_i h'; revert h'; decide)
  · cases h

/-- A copy. -/
def cloneC : PC := fun A K => match A with
  | [.sl 4 n f] => Ob (fun _ => (∀ i, i < n () → shape4 (f fun _ => i) = true) ∧ n () ≤ 4000000000000) (K (.own 0 n) [.vec 30 4 (fun _ => n ()) fun i => tryL (trOf (f fun _ => i ()))])
  | _ => Bad 1003

theorem clone_vc (n : Nat) (g : Nat → Tr) (hn : n ≤ 4000000000000) : FnOk Try.prog 17 [.sl 4 (fun _ => n) fun i => tryL (g (i ()))] [] (outLe 0 (.own 0 fun _ => n) [.vec 30 4 (fun _ => n) fun i => tryL (g (i ()))] []) := by
  refine fn_ok envOk zl noCon noDraws_ok (keep := [0, 2, 4]) Try.func17 rfl ?_
  cbv
  repeat' first | exact trivial | rfl | refine Both.mk ?_ ?_ | refine Imp.mk fun h => ?_ | refine Ob.mk ?_ ?_ | refine Eq'.mk ?_ | (refine AllN.mk fun i hi => ?_; cbv)
  all_goals first
    | (exact absurd (of_decide_eq_true h) (Nat.not_lt_zero _))
    | (simp only [Nat.zero_add]; done)
    | exact h
    | (dsimp only; omega)
    | (dsimp only; exact ⟨Nat.le_refl _, trivial, by omega, by omega⟩)

theorem clone_ok : PcOk Try.prog 17 cloneC := fun A K h => by
  unfold cloneC at h
  split at h
  · rename_i n f
    cases h with
    | mk h1 h2 =>
      refine FnOk.pre ?_ (A' := [.sl 4 (fun _ => n ()) fun i => tryL (trOf (f fun _ => i ()))]) (.mk (sl_le h1.1) trivial)
      exact FnOk.le (K := fun r H _ => K r H) (clone_vc (n ()) (fun i => trOf (f fun _ => i)) h1.2) rfl h2
  · cases h

end Go.Proofs.Ytpooooomhnehfaa
