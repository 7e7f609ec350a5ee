/- The lives function of median. -/
import Derived.Test.YtpofgnocliaahaaMost
set_option linter.all false
namespace Go.Proofs.Ytpofgnocliaahaa
open Go Go.Abs

theorem sort_live : sortL [10, 999, 13, 12] = [10, 12, 13, 999] :=
  ((List.mergeSort_perm [10, 999, 13, 12] _).trans (by decide : ([10, 999, 13, 12] : List Int).Perm [10, 12, 13, 999])).eq_of_pairwise (le := fun a b => decide (a ≤ b) = true) (fun a b _ _ h1 h2 => by simp at h1 h2; omega) (List.pairwise_mergeSort (by intro a b c; simp; omega) (by intro a b; simp; omega) _) (by decide)
theorem mid_live : midV [10, 999, 13, 12] 1 = (12, 1, 0) := by
  rw [midV, if_neg (by decide), if_neg (by decide), if_neg (by decide), if_neg (by decide), sort_live]
  rfl
def bA : ByteArray := ⟨#[97]⟩
def bB : ByteArray := ⟨#[98]⟩
theorem most_live : mostV [bA, bB, bA] = (bA, 2, true, 0) := by decide
noncomputable def cML : FuncId → Con := fun f => match f with
  | 11 => pureCon (detPC mid_D)
  | 8 => pureCon (detPC most_D)
  | _ => fun _ _ _ => Bad 1001
theorem cML_ok : ConOk Try.prog cML := fun f A H K h => by
  unfold cML at h
  split at h
  · exact ⟨⟨Try.f11, Try.func11, by kernel_rfl, by kernel_rfl⟩, pureCon_ok mid_ok h⟩
  · exact ⟨⟨Try.f8, Try.func8, by kernel_rfl, by kernel_rfl⟩, pureCon_ok most_ok h⟩
  · cases h
def mlives_R (r : Th (Bool)) : AV := .bc true
def mlives_D : Det := fun A => match A with
  | [] => some (fun _ => True, mlives_R fun _ => true )
  | _ => none
set_option maxRecDepth 100000 in
set_option maxHeartbeats 4000000 in
theorem mlives_vc  : FnOk Try.prog 9 [] [] (outA (mlives_R fun _ => true ) []) := by
  refine fn_ok envOk zl cML_ok noDraws_ok (keep := [0, 1, 2, 3, 4, 5, 6, 7]) Try.func9 rfl ?_
  cbv
  repeat' first | (show Stp _; exfalso; first | omega | (exact h ‹_›) | (exact absurd ‹_› h) | (exact Bool.false_ne_true (h.symm.trans (show _ = true by assumption)))) | (refine Stp.mk ?_; cbv) | (refine Gen.mk fun r hr => ?_; (try simp only [Dat.ok, Dat.dec, Leaf.ok, Leaf.val, val_sl, val_nil] at hr); cbv) | exact trivial | rfl | refine Both.mk ?_ ?_ | (refine Imp.mk fun h => ?_; (try dsimp only at h); (try simp only [nc, Int.toNat_natCast, Bool.not_eq_true', Bool.not_eq_false', decide_eq_true_eq, decide_eq_false_iff_not, beq_iff_eq, beq_eq_false_iff_ne, ba_inj, bne_iff_ne, ne_eq, Bool.and_eq_true, Bool.or_eq_true, Bool.and_eq_false_iff, Bool.or_eq_false_iff, Int.not_le, Int.not_lt, Nat.not_le, Nat.not_lt] at h); (try simp only [nc] at h)) | refine Ob.mk ?_ ?_ | refine Chk.mk (by kernel_rfl) ?_ | refine Eq'.mk ?_ | (refine AllN.mk fun i hi => ?_; cbv) | (refine AllC.mk fun c hc hcm => ?_; (try dsimp only at hc); cbv) | (refine AllS.mk fun r hr => ?_; (try simp only [Dat.ok, Dat.dec, Leaf.ok, Leaf.val, val_sl] at hr); cbv)
  all_goals ((try dsimp only at *); (try simp only [nc, Int.toNat_natCast, Bool.not_eq_true', Bool.not_eq_false', decide_eq_true_eq, decide_eq_false_iff_not, beq_iff_eq, beq_eq_false_iff_ne, ba_inj, bne_iff_ne, ne_eq, Bool.and_eq_true, Bool.or_eq_true, Bool.and_eq_false_iff, Bool.or_eq_false_iff, Int.not_le, Int.not_lt, Nat.not_le, Nat.not_lt] at *); (try simp only [nc] at *))
  all_goals have v1 : (Leaf.val (.sl 1 (fun _ => 4) (rowN 1 [.i .i64 fun _ => 10, .i .i64 fun _ => 999, .i .i64 fun _ => 13, .i .i64 fun _ => 12])) : List Int) = [10, 999, 13, 12] := rfl
  all_goals try simp only [v1, mid_live]
  all_goals try simp only [v1, mid_live] at h
  all_goals have v2 : (Leaf.val (.sl 1 (fun _ => 3) (rowN 1 [.s fun _ => ⟨#[97]⟩, .s fun _ => ⟨#[98]⟩, .s fun _ => ⟨#[97]⟩])) : List ByteArray) = [bA, bB, bA] := rfl
  all_goals try simp only [v2, most_live]
  all_goals try simp only [v2, most_live] at h
  all_goals first
    | exact Nat.le_refl _
    | rfl
    | exact ⟨⟨rfl, fun i (hi : i < 4) => by rcases i with _ | _ | _ | _ | i; all_goals first | trivial | omega⟩, show (4 : Nat) ≤ _ by decide⟩
    | exact ⟨⟨rfl, fun i (hi : i < 3) => by rcases i with _ | _ | _ | i; all_goals first | trivial | omega⟩, show (3 : Nat) ≤ _ by decide⟩
    | (exfalso; apply h; rfl)
    | (exfalso; revert h; decide)
    | fail
theorem mlives_ok : PcOk Try.prog 9 (detPC mlives_D) := det_okA fun A p r h hp0 => by
  unfold mlives_D at h
  split at h
  · cases h
    exact ⟨rfl, FnOk.pre (A' := []) (mlives_vc ) (trivial)⟩
  · cases h

end Go.Proofs.Ytpofgnocliaahaa
