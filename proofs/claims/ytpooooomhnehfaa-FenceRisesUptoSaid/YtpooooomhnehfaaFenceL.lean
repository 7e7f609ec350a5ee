/- The program's functions, walked: FenceL. -/
import Derived.Test.YtpooooomhnehfaaPlay
import Derived.Test.YtpooooomhnehfaaLib1
set_option linter.all false
namespace Go.Proofs.Ytpooooomhnehfaa
open Go Go.Abs
noncomputable def con5 : FuncId → Con := fun f => match f with
  | 12 => pureCon play_C
  | 16 => pureCon (detPC eqB_D)
  | 27 => pureCon (detPC eqFence_D)
  | _ => fun _ _ _ => Bad 1001
theorem con5_ok : ConOk Try.prog con5 := fun f A H K h => by
  unfold con5 at h
  split at h
  · exact ⟨⟨Try.f12, Try.func12, by kernel_rfl, by kernel_rfl⟩, pureCon_ok play_ok h⟩
  · exact ⟨⟨Try.f16, Try.func16, by kernel_rfl, by kernel_rfl⟩, pureCon_ok eqB_ok h⟩
  · exact ⟨⟨Try.f27, Try.func27, by kernel_rfl, by kernel_rfl⟩, pureCon_ok eqFence_ok h⟩
  · cases h
def lives_R (r : Th (Bool)) : AV := .bc true
def lives_D : Det := fun A => match A with
  | [] => some (fun _ => True, lives_R fun _ => true )
  | _ => none
set_option maxRecDepth 100000 in
set_option maxHeartbeats 4000000 in
theorem lives_vc  : FnOk Try.prog 13 [] [] (outA (lives_R fun _ => true ) []) := by
  refine fn_ok envOk zl con5_ok noDraws_ok (keep := [0, 1, 2, 3]) Try.func13 rfl ?_
  cbv
  repeat' first | (refine Stp.mk ?_; cbv) | (refine Gen.mk fun r hr => ?_; (try simp only [Dat.ok, Dat.dec, Leaf.ok, Leaf.val, Try.eta, Fence.eta, Give.eta, GateOp.eta, GateAns.eta, Gate.eta, val_sl, val_nil] at hr); cbv) | exact trivial | rfl | refine Both.mk ?_ ?_ | (refine Imp.mk fun h => ?_; (try dsimp only at h); (try simp only [nc, Int.toNat_natCast, Bool.not_eq_true', Bool.not_eq_false', decide_eq_true_eq, decide_eq_false_iff_not, beq_iff_eq, beq_eq_false_iff_ne, bne_iff_ne, ne_eq, Bool.and_eq_true, Bool.or_eq_true, Bool.and_eq_false_iff, Bool.or_eq_false_iff, Int.not_le, Int.not_lt, Nat.not_le, Nat.not_lt] at h); (try simp only [nc] at h)) | refine Ob.mk ?_ ?_ | refine Eq'.mk ?_ | (refine AllN.mk fun i hi => ?_; cbv)
  all_goals first
    | exact Nat.le_refl _
    | (subst_vars; refine ⟨rfl, fun i hi => ?_⟩; rcases i with _ | _ | _ | _ | _ | _ | _ | _ | i <;> first | trivial | exact ⟨trivial, trivial⟩ | exact ⟨trivial, trivial, trivial⟩ | exact ⟨trivial, trivial, trivial, trivial⟩ | exact ⟨trivial, trivial, trivial, trivial, trivial⟩ | (exfalso; (try simp only [] at hi); omega))
    | (refine ⟨?_, ⟨rfl, fun i hi => ?_⟩, ?_⟩
       · first | trivial | (refine ⟨rfl, fun i hi => ?_⟩; first | exact Dat.hok _ | exact ok_row rfl (Dat.hok _) (Dat.hok _) | exact ok_row rfl (Dat.hok _) (by simp only [Dat.ok, Dat.dec, Leaf.ok, Leaf.val, Try.eta, Fence.eta, Give.eta, GateOp.eta, GateAns.eta, Gate.eta, and_self]) | (simp only [Dat.ok, Dat.dec, Leaf.ok, Leaf.val, Try.eta, Fence.eta, Give.eta, GateOp.eta, GateAns.eta, Gate.eta, and_self]; done) | (revert i; decide)) | (simp only [Dat.ok, Dat.dec, Leaf.ok, Leaf.val, Try.eta, Fence.eta, Give.eta, GateOp.eta, GateAns.eta, Gate.eta, and_self]; done)
       · rcases i with _ | _ | _ | _ | _ | _ | _ | _ | i <;> first | trivial | exact ⟨trivial, trivial⟩ | exact ⟨trivial, trivial, trivial⟩ | exact ⟨trivial, trivial, trivial, trivial⟩ | exact ⟨trivial, trivial, trivial, trivial, trivial⟩ | (exfalso; (try simp only [] at hi); omega)
       · subst_vars; (try (show _ ≤ _)); decide)
    | (refine ⟨?_, ⟨rfl, fun i hi => ?_⟩⟩
       · first | trivial | (refine ⟨rfl, fun i hi => ?_⟩; first | exact Dat.hok _ | exact ok_row rfl (Dat.hok _) (Dat.hok _) | exact ok_row rfl (Dat.hok _) (by simp only [Dat.ok, Dat.dec, Leaf.ok, Leaf.val, Try.eta, Fence.eta, Give.eta, GateOp.eta, GateAns.eta, Gate.eta, and_self]) | (simp only [Dat.ok, Dat.dec, Leaf.ok, Leaf.val, Try.eta, Fence.eta, Give.eta, GateOp.eta, GateAns.eta, Gate.eta, and_self]; done) | (revert i; decide)) | (simp only [Dat.ok, Dat.dec, Leaf.ok, Leaf.val, Try.eta, Fence.eta, Give.eta, GateOp.eta, GateAns.eta, Gate.eta, and_self]; done)
       · rcases i with _ | _ | _ | _ | _ | _ | _ | _ | i <;> first | trivial | exact ⟨trivial, trivial⟩ | exact ⟨trivial, trivial, trivial⟩ | exact ⟨trivial, trivial, trivial, trivial⟩ | exact ⟨trivial, trivial, trivial, trivial, trivial⟩ | (exfalso; (try simp only [] at hi); omega))
    | (first | trivial | (refine ⟨rfl, fun i hi => ?_⟩; first | exact Dat.hok _ | exact ok_row rfl (Dat.hok _) (Dat.hok _) | exact ok_row rfl (Dat.hok _) (by simp only [Dat.ok, Dat.dec, Leaf.ok, Leaf.val, Try.eta, Fence.eta, Give.eta, GateOp.eta, GateAns.eta, Gate.eta, and_self]) | (simp only [Dat.ok, Dat.dec, Leaf.ok, Leaf.val, Try.eta, Fence.eta, Give.eta, GateOp.eta, GateAns.eta, Gate.eta, and_self]; done) | (revert i; decide)) | (simp only [Dat.ok, Dat.dec, Leaf.ok, Leaf.val, Try.eta, Fence.eta, Give.eta, GateOp.eta, GateAns.eta, Gate.eta, and_self]; done))
    | (subst_vars; decide)
    | (exfalso; subst_vars; revert h; decide)
    | (exfalso; rename_i h'; subst_vars; revert h'; decide)
    | (exfalso; rename_i h' _; subst_vars; revert h'; decide)
    | (trace_state; fail)
theorem lives_ok : PcOk Try.prog 13 (detPC lives_D) := det_okA fun A p r h hp0 => by
  unfold lives_D at h
  split at h
  · cases h
    exact ⟨rfl, FnOk.pre (A' := []) (lives_vc ) (trivial)⟩
  · cases h
noncomputable def con7 : FuncId → Con := fun f => match f with
  | 12 => pureCon play_C
  | 13 => pureCon (detPC lives_D)
  | 16 => pureCon (detPC eqB_D)
  | 27 => pureCon (detPC eqFence_D)
  | 17 => pureCon clTry_C
  | _ => fun _ _ _ => Bad 1001
theorem con7_ok : ConOk Try.prog con7 := fun f A H K h => by
  unfold con7 at h
  split at h
  · exact ⟨⟨Try.f12, Try.func12, by kernel_rfl, by kernel_rfl⟩, pureCon_ok play_ok h⟩
  · exact ⟨⟨Try.f13, Try.func13, by kernel_rfl, by kernel_rfl⟩, pureCon_ok lives_ok h⟩
  · exact ⟨⟨Try.f16, Try.func16, by kernel_rfl, by kernel_rfl⟩, pureCon_ok eqB_ok h⟩
  · exact ⟨⟨Try.f27, Try.func27, by kernel_rfl, by kernel_rfl⟩, pureCon_ok eqFence_ok h⟩
  · exact ⟨⟨Try.f17, Try.func17, by kernel_rfl, by kernel_rfl⟩, pureCon_ok clTry_ok h⟩
  · cases h
theorem fin_b {b : Th Bool} {H : Hp} {kl : List Nat} (h : b () = true) : outA (.bc true) [] (.b b) H kl := by
  cbv
  repeat' first | (refine Stp.mk ?_; cbv) | (refine Gen.mk fun r hr => ?_; (try simp only [Dat.ok, Dat.dec, Leaf.ok, Leaf.val, Try.eta, Fence.eta, Give.eta, GateOp.eta, GateAns.eta, Gate.eta, val_sl, val_nil] at hr); cbv) | exact trivial | rfl | refine Both.mk ?_ ?_ | (refine Imp.mk fun h => ?_; (try dsimp only at h); (try simp only [nc, Int.toNat_natCast, Bool.not_eq_true', Bool.not_eq_false', decide_eq_true_eq, decide_eq_false_iff_not, beq_iff_eq, beq_eq_false_iff_ne, bne_iff_ne, ne_eq, Bool.and_eq_true, Bool.or_eq_true, Bool.and_eq_false_iff, Bool.or_eq_false_iff, Int.not_le, Int.not_lt, Nat.not_le, Nat.not_lt] at h); (try simp only [nc] at h)) | refine Ob.mk ?_ ?_ | refine Eq'.mk ?_ | (refine AllN.mk fun i hi => ?_; cbv)
  exact h
theorem fin_t {H : Hp} {kl : List Nat} : outA (.bc true) [] (.bc true) H kl := by
  cbv
  repeat' first | (refine Stp.mk ?_; cbv) | (refine Gen.mk fun r hr => ?_; (try simp only [Dat.ok, Dat.dec, Leaf.ok, Leaf.val, Try.eta, Fence.eta, Give.eta, GateOp.eta, GateAns.eta, Gate.eta, val_sl, val_nil] at hr); cbv) | exact trivial | rfl | refine Both.mk ?_ ?_ | (refine Imp.mk fun h => ?_; (try dsimp only at h); (try simp only [nc, Int.toNat_natCast, Bool.not_eq_true', Bool.not_eq_false', decide_eq_true_eq, decide_eq_false_iff_not, beq_iff_eq, beq_eq_false_iff_ne, bne_iff_ne, ne_eq, Bool.and_eq_true, Bool.or_eq_true, Bool.and_eq_false_iff, Bool.or_eq_false_iff, Int.not_le, Int.not_lt, Nat.not_le, Nat.not_lt] at h); (try simp only [nc] at h)) | refine Ob.mk ?_ ?_ | refine Eq'.mk ?_ | (refine AllN.mk fun i hi => ?_; cbv)

end Go.Proofs.Ytpooooomhnehfaa
