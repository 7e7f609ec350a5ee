import Derived.Test.YtpooooomhnehfaaPlain
set_option linter.all false
namespace Go.Proofs.Ytpooooomhnehfaa
open Go Go.Abs

def con7 : FuncId → Con := fun f => match f with
  | 12 => pureCon playC
  | 13 => pureCon (detPC livesD)
  | 16 => pureCon (detPC eqBD)
  | 17 => pureCon cloneC
  | _ => fun _ _ _ => Bad 1001
theorem con7_ok : ConOk Try.prog con7 := fun f A H K h => by
  unfold con7 at h
  split at h
  · exact ⟨⟨Try.f12, Try.func12, by kernel_rfl, by kernel_rfl⟩, pureCon_ok play_ok h⟩
  · exact ⟨⟨Try.f13, Try.func13, by kernel_rfl, by kernel_rfl⟩, pureCon_ok lives_ok h⟩
  · exact ⟨⟨Try.f16, Try.func16, by kernel_rfl, by kernel_rfl⟩, pureCon_ok eqB_ok h⟩
  · exact ⟨⟨Try.f17, Try.func17, by kernel_rfl, by kernel_rfl⟩, pureCon_ok clone_ok h⟩
  · cases h

theorem errV_ne {n : Int} {m : Nat} : (errV n m == 0) = false := by
  unfold errV
  split
  · rfl
  · split <;> rfl

structure IX (m : Nat) where
  k : Nat
  hk : k ≤ m

set_option maxRecDepth 100000
theorem one_vc (n : Int) (m : Nat) (g : Nat → Tr) : FnOk Try.prog 3 [.i .i64 fun _ => n, .sl 4 (fun _ => m) fun i => tryL (g (i ()))] [] (outLe 0 (.bc true) [] []) := by
  refine fn_ok envOk zl con7_ok noDraws_ok (keep := [0, 1, 4, 6, 7, 8, 9, 10, 11, 31, 37, 38, 39, 40, 46, 47, 48, 49, 83]) Try.func3 rfl ?_
  have fin : ∀ (b : Th Bool) H kl, b () = true → outLe 0 (.bc true) [] [] (.b b) H kl := by
    intro b H kl h
    unfold outLe
    rw [below_zero]
    exact .mk (.mk h) (.mk trivial rfl)
  have finc : ∀ H kl, outLe 0 (.bc true) [] [] (.bc true) H kl := by
    intro H kl
    unfold outLe
    rw [below_zero]
    exact .mk (.mk rfl) (.mk trivial rfl)
  generalize hK : outLe 0 (.bc true) [] [] = K at fin finc ⊢
  cbv
  refine Ob.mk ?_ ?_
  · intro i _; rfl
  refine Both.mk (Imp.mk fun hok => ?_) (Imp.mk fun hok => ?_)
  · have hok : okB n m g = true := hok
    simp only [okB, Bool.and_eq_true, decide_eq_true_eq] at hok
    obtain ⟨⟨⟨hn0, hn8⟩, hm⟩, hall⟩ := hok
    have hall := allB_iff.1 hall
    refine Ob.mk trivial (Both.mk (Imp.mk fun h => (by cases h)) (Imp.mk fun _ => Both.mk (Imp.mk fun h => ?_) (Imp.mk fun _ => ?_)))
    · simp at h
    refine LoopVC.mk (IX m) (fun x => [(0, .i .i64 fun _ => n), (1, .sl 4 (fun _ => m) fun i => tryL (g (i ()))), (6, .own 1 fun _ => m), (37, .sl 4 (fun _ => m) fun i => tryL (g (i ()))), (38, .i .i64 fun _ => m), (39, .i .i64 fun _ => x.k)])
      (fun x => [fenceObj n g m, outObj m g]) [] (fun x => m - x.k) ⟨0, Nat.zero_le _⟩ rfl (fun _ => rfl) ?_ ?_ fun ⟨i, hi⟩ => ?_
    · cbv
      repeat' first | exact trivial | rfl | refine Both.mk ?_ ?_ | refine Imp.mk fun _ => ?_ | refine Ob.mk ?_ ?_ | refine Eq'.mk ?_ | (refine AllN.mk fun i hi => ?_; cbv)
    · cbv
      repeat' first | exact trivial | rfl | refine Both.mk ?_ ?_ | refine Imp.mk fun _ => ?_ | refine Ob.mk ?_ ?_ | refine Eq'.mk ?_ | (refine AllN.mk fun i hi => ?_; cbv)
    · cbv
      refine Both.mk (Imp.mk fun h1 => ?_) (Imp.mk fun h1 => ?_)
      · simp only [nc, decide_eq_true_eq] at h1
        have him : i < m := by omega
        refine Ob.mk (by dsimp only [nc]; omega) (Ob.mk (by dsimp only [nc]; omega) ?_)
        refine LoopVC.mk (IX i) (fun x => [(0, .i .i64 fun _ => n), (1, .sl 4 (fun _ => m) fun i => tryL (g (i ()))), (6, .own 1 fun _ => m), (37, .sl 4 (fun _ => m) fun i => tryL (g (i ()))), (38, .i .i64 fun _ => m), (39, .i .i64 fun _ => i),
            (8, .i .i64 fun _ => i), (9, .ptr 2 0), (46, .sl 4 (fun _ => i) fun i => tryL (g (i ()))), (47, .i .i64 fun _ => i), (48, .i .i64 fun _ => x.k)])
          (fun x => [fenceObj n g m, outObj m g, .blk (tryL (g i))]) [] (fun x => i - x.k) ⟨0, Nat.zero_le _⟩ rfl (fun _ => rfl) ?_ ?_ fun ⟨k, hk⟩ => ?_
        · cbv
          repeat' first | exact trivial | rfl | refine Both.mk ?_ ?_ | refine Imp.mk fun _ => ?_ | refine Ob.mk ?_ ?_ | refine Eq'.mk ?_ | (refine AllN.mk fun i hi => ?_; cbv)
        · cbv
          repeat' first | exact trivial | rfl | refine Both.mk ?_ ?_ | refine Imp.mk fun _ => ?_ | refine Ob.mk ?_ ?_ | refine Eq'.mk ?_ | (refine AllN.mk fun i hi => ?_; cbv)
        · cbv
          repeat' first | exact trivial | rfl | refine Both.mk ?_ ?_ | refine Imp.mk fun _ => ?_ | refine Ob.mk ?_ ?_ | refine Eq'.mk ?_
          all_goals try dsimp only at *
          all_goals simp only [nc, Int.toNat_natCast, Bool.not_eq_true', Bool.not_eq_false', decide_eq_true_eq, decide_eq_false_iff_not, beq_iff_eq, beq_eq_false_iff_ne] at *
          all_goals first
            | omega
            | (simp only [InR]; omega)
            | (exact absurd (one_law (n := n) (g := g) (k := k) (i := i) (by omega) (fun j hj => hall j (by omega)) ‹_› ‹_› ‹_› ‹_›) ‹_›)
            | (refine ⟨⟨k + 1, by omega⟩, ?_, ?_, rfl, by dsimp only; omega⟩
               · cbv
                 repeat' first | exact trivial | rfl | refine Both.mk ?_ ?_ | refine Imp.mk fun _ => ?_ | refine Ob.mk ?_ ?_ | refine Eq'.mk ?_ | (refine AllN.mk fun i hi => ?_; cbv)
               · cbv
                 repeat' first | exact trivial | rfl | refine Both.mk ?_ ?_ | refine Imp.mk fun _ => ?_ | refine Ob.mk ?_ ?_ | refine Eq'.mk ?_ | (refine AllN.mk fun i hi => ?_; cbv))
            | (refine ⟨⟨i + 1, by omega⟩, ?_, ?_, rfl, by dsimp only; omega⟩
               · cbv
                 repeat' first | exact trivial | rfl | refine Both.mk ?_ ?_ | refine Imp.mk fun _ => ?_ | refine Ob.mk ?_ ?_ | refine Eq'.mk ?_ | (refine AllN.mk fun i hi => ?_; cbv)
               · cbv
                 repeat' first | exact trivial | rfl | refine Both.mk ?_ ?_ | refine Imp.mk fun _ => ?_ | refine Ob.mk ?_ ?_ | refine Eq'.mk ?_ | (refine AllN.mk fun i hi => ?_; cbv))
            | trace_state
      · exact finc _ _
  · refine Ob.mk trivial (Both.mk (Imp.mk fun h => Ob.mk trivial (fin _ _ _ h)) (Imp.mk fun h => ?_))
    have he : (!errV n m == 0) = false := h
    rw [errV_ne] at he
    cases he

end Go.Proofs.Ytpooooomhnehfaa
