/- rankLives, walked. -/
import Derived.Test.YtabchkekhpmpiaaRankP
set_option linter.all false
namespace Go.Proofs.Ytabchkekhpmpiaa
open Go Go.Abs

def rkA : List Task := [⟨3, 9, 8⟩, ⟨2, 5, 2⟩]
def rkS : Set := ⟨1, [⟨0, 1⟩]⟩
theorem rk_due : bVByDue rkA = ([1, 0], 0) := by decide
theorem rk_find : findV rkA rkS = ([1, 0], 0) := by decide +kernel
noncomputable def cRkL : FuncId → Con := fun f => match f with
  | 22 => pureCon rByDue_C
  | 27 => pureCon find_C
  | 46 => pureCon (detPC eqInt_D)
  | _ => fun _ _ _ => Bad 1001
theorem cRkL_ok : ConOk Try.prog cRkL := fun f A H K h => by
  unfold cRkL at h
  split at h
  · exact ⟨⟨Try.f22, Try.func22, by kernel_rfl, by kernel_rfl⟩, pureCon_ok rByDue_ok h⟩
  · exact ⟨⟨Try.f27, Try.func27, by kernel_rfl, by kernel_rfl⟩, pureCon_ok find_ok h⟩
  · exact ⟨⟨Try.f46, Try.func46, by kernel_rfl, by kernel_rfl⟩, pureCon_ok eqInt_ok h⟩
  · cases h
def rklives_R (r : Th (Bool)) : AV := .bc true
def rklives_D : Det := fun A => match A with
  | [] => some (fun _ => True, rklives_R fun _ => true )
  | _ => none
set_option maxRecDepth 100000 in
set_option maxHeartbeats 4000000 in
theorem rklives_vc  : FnOk Try.prog 21 [] [] (outA (rklives_R fun _ => true ) []) := by
  refine fn_ok envOk zl cRkL_ok noDraws_ok (keep := [0, 1, 2, 3, 4, 5]) Try.func21 rfl ?_
  cbv
  repeat' first | (show Stp _; exfalso; first | omega | (exact h ‹_›) | (exact absurd ‹_› h) | (exact Bool.false_ne_true (h.symm.trans (show _ = true by assumption)))) | (refine Stp.mk ?_; cbv) | (refine Gen.mk fun r hr => ?_; (try simp only [Dat.ok, Dat.dec, Leaf.ok, Leaf.val, Span.eta, Set.eta, Task.eta, Done.eta, Late.eta, val_sl, val_nil] at hr); cbv) | exact trivial | rfl | refine Both.mk ?_ ?_ | (refine Imp.mk fun h => ?_; (try dsimp only at h); (try simp only [nc, Int.toNat_natCast, Bool.not_eq_true', Bool.not_eq_false', decide_eq_true_eq, decide_eq_false_iff_not, beq_iff_eq, beq_eq_false_iff_ne, ba_inj, bne_iff_ne, ne_eq, Bool.and_eq_true, Bool.or_eq_true, Bool.and_eq_false_iff, Bool.or_eq_false_iff, Int.not_le, Int.not_lt, Nat.not_le, Nat.not_lt] at h); (try simp only [nc] at h)) | refine Ob.mk ?_ ?_ | refine Chk.mk (by kernel_rfl) ?_ | refine Eq'.mk ?_ | (refine AllN.mk fun i hi => ?_; cbv) | (refine AllS.mk fun r hr => ?_; (try simp only [Dat.ok, Dat.dec, Leaf.ok, Leaf.val, Span.eta, Set.eta, Task.eta, Done.eta, Late.eta, val_sl] at hr); cbv)
  all_goals ((try dsimp only at *); (try simp only [nc, Int.toNat_natCast, Bool.not_eq_true', Bool.not_eq_false', decide_eq_true_eq, decide_eq_false_iff_not, beq_iff_eq, beq_eq_false_iff_ne, ba_inj, bne_iff_ne, ne_eq, Bool.and_eq_true, Bool.or_eq_true, Bool.and_eq_false_iff, Bool.or_eq_false_iff, Int.not_le, Int.not_lt, Nat.not_le, Nat.not_lt] at *); (try simp only [nc] at *))
  all_goals have v1 : (Leaf.val (.sl 3 (fun _ => 2) (rowN 3 [.i .i64 fun _ => 3, .i .i64 fun _ => 9, .i .i64 fun _ => 8, .i .i64 fun _ => 2, .i .i64 fun _ => 5, .i .i64 fun _ => 2])) : List Task) = rkA := rfl
  all_goals have v2 : (Dat.dec [.i .i64 fun _ => 1, .sl 2 (fun _ => 1) fun _ => [.i .i64 fun _ => 0, .i .i64 fun _ => 1]] : Set) = rkS := rfl
  all_goals try (have hq : r = ([1, 0], 0) := hr.trans rk_due
                 clear hr
                 subst hq)
  all_goals try (have hq : r = ([1, 0], 0) := hr.trans rk_find
                 clear hr
                 subst hq)
  all_goals first
    | exact Nat.le_refl _
    | rfl
    | exact ⟨⟨rfl, fun i (hi : i < 2) => by rcases i with _ | _ | i; all_goals first | exact ⟨trivial, trivial, trivial⟩ | omega⟩, show (2 : Nat) ≤ _ by decide⟩
    | exact ⟨⟨rfl, fun i (hi : i < 2) => by rcases i with _ | _ | i; all_goals first | exact ⟨trivial, trivial, trivial⟩ | omega⟩, ⟨trivial, rfl, fun i _ => ⟨trivial, trivial⟩⟩, show (2 : Nat) ≤ _ by decide, show (1 : Nat) ≤ _ by decide⟩
    | exact ⟨⟨rfl, fun i _ => Dat.hok _⟩, ⟨rfl, fun i (hi : i < 2) => by rcases i with _ | _ | i; all_goals first | trivial | omega⟩, show (2 : Nat) ≤ _ by decide⟩
    | (exfalso; exact h rfl)
    | (exfalso; exact h trivial)
    | (exfalso; exact absurd rfl (by assumption))
    | (exfalso; exact absurd h (by decide))
    | fail
theorem rklives_ok : PcOk Try.prog 21 (detPC rklives_D) := det_okA fun A p r h hp0 => by
  unfold rklives_D at h
  split at h
  · cases h
    exact ⟨rfl, FnOk.pre (A' := []) (rklives_vc ) (trivial)⟩
  · cases h

end Go.Proofs.Ytabchkekhpmpiaa
