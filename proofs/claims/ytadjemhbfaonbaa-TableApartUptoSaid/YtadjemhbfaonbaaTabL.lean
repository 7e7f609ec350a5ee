/- tableLives, walked. -/
import Derived.Test.YtadjemhbfaonbaaMake
set_option linter.all false
namespace Go.Proofs.Ytadjemhbfaonbaa
open Go Go.Abs

def twA : List Want := [⟨3, 2, 3, 10⟩, ⟨1, 0, 2, 5⟩]
theorem tw_sort : sortWl [⟨2, 3, 3⟩, ⟨0, 2, 1⟩, ⟨5, 2, 1⟩] = [⟨0, 2, 1⟩, ⟨2, 3, 3⟩, ⟨5, 2, 1⟩] := by
  refine (uniqW ?_ ?_ (sortWl_pw _)).symm
  · exact (by decide : ([⟨0, 2, 1⟩, ⟨2, 3, 3⟩, ⟨5, 2, 1⟩] : List Window).Perm [⟨2, 3, 3⟩, ⟨0, 2, 1⟩, ⟨5, 2, 1⟩]).trans (List.mergeSort_perm _ _).symm
  · decide
theorem tw_make : makeV 10 twA = (⟨10, [⟨0, 2, 1⟩, ⟨2, 3, 3⟩, ⟨5, 2, 1⟩]⟩, 0) := by
  have e1 : genL 10 twA = [⟨2, 3, 3⟩, ⟨0, 2, 1⟩, ⟨5, 2, 1⟩] := by decide
  rw [makeV, if_neg (by decide), if_neg (by decide), if_neg (by decide), if_neg (by decide), e1, tw_sort, if_pos (by decide)]
theorem tw_own1 : ownerV ⟨10, [⟨0, 2, 1⟩, ⟨2, 3, 3⟩, ⟨5, 2, 1⟩]⟩ 16 = (1, 0) := by decide
theorem tw_own2 : ownerV ⟨10, [⟨0, 2, 1⟩, ⟨2, 3, 3⟩, ⟨5, 2, 1⟩]⟩ 22 = (3, 0) := by decide
noncomputable def cTl : FuncId → Con := fun f => match f with
  | 9 => pureCon make_C
  | 10 => pureCon (detPC wowner_D)
  | _ => fun _ _ _ => Bad 1001
theorem cTl_ok : ConOk Try.prog cTl := fun f A H K h => by
  unfold cTl at h
  split at h
  · exact ⟨⟨Try.f9, Try.func9, by kernel_rfl, by kernel_rfl⟩, pureCon_ok make_ok h⟩
  · exact ⟨⟨Try.f10, Try.func10, by kernel_rfl, by kernel_rfl⟩, pureCon_ok wowner_ok h⟩
  · cases h
def tablives_R (r : Th (Bool)) : AV := .bc true
def tablives_D : Det := fun A => match A with
  | [] => some (fun _ => True, tablives_R fun _ => true )
  | _ => none
set_option maxRecDepth 100000 in
set_option maxHeartbeats 4000000 in
theorem tablives_vc  : FnOk Try.prog 8 [] [] (outA (tablives_R fun _ => true ) []) := by
  refine fn_ok envOk zl cTl_ok noDraws_ok (keep := [0, 1, 2, 3, 4, 5, 6]) Try.func8 rfl ?_
  cbv
  repeat' first | (show Stp _; exfalso; first | omega | (exact h ‹_›) | (exact absurd ‹_› h) | (exact Bool.false_ne_true (h.symm.trans (show _ = true by assumption)))) | (refine Stp.mk ?_; cbv) | (refine Gen.mk fun r hr => ?_; (try simp only [Dat.ok, Dat.dec, Leaf.ok, Leaf.val, Span.eta, Set.eta, Window.eta, Table.eta, Want.eta, val_sl, val_nil] at hr); cbv) | exact trivial | rfl | refine Both.mk ?_ ?_ | (refine Imp.mk fun h => ?_; (try dsimp only at h); (try simp only [nc, Int.toNat_natCast, Bool.not_eq_true', Bool.not_eq_false', decide_eq_true_eq, decide_eq_false_iff_not, beq_iff_eq, beq_eq_false_iff_ne, ba_inj, bne_iff_ne, ne_eq, Bool.and_eq_true, Bool.or_eq_true, Bool.and_eq_false_iff, Bool.or_eq_false_iff, Int.not_le, Int.not_lt, Nat.not_le, Nat.not_lt] at h); (try simp only [nc] at h)) | refine Ob.mk ?_ ?_ | refine Chk.mk (by kernel_rfl) ?_ | refine Eq'.mk ?_ | (refine AllN.mk fun i hi => ?_; cbv) | (refine AllS.mk fun r hr => ?_; (try simp only [Dat.ok, Dat.dec, Leaf.ok, Leaf.val, Span.eta, Set.eta, Window.eta, Table.eta, Want.eta, val_sl] at hr); cbv)
  all_goals ((try dsimp only at *); (try simp only [nc, Int.toNat_natCast, Bool.not_eq_true', Bool.not_eq_false', decide_eq_true_eq, decide_eq_false_iff_not, beq_iff_eq, beq_eq_false_iff_ne, ba_inj, bne_iff_ne, ne_eq, Bool.and_eq_true, Bool.or_eq_true, Bool.and_eq_false_iff, Bool.or_eq_false_iff, Int.not_le, Int.not_lt, Nat.not_le, Nat.not_lt] at *); (try simp only [nc] at *))
  all_goals try simp only [Dat.dec, Leaf.val, Span.eta, Set.eta, Window.eta, Table.eta, Want.eta, val_sl] at *
  all_goals try (have hq : r = (⟨10, [⟨0, 2, 1⟩, ⟨2, 3, 3⟩, ⟨5, 2, 1⟩]⟩, 0) := hr.trans tw_make
                 clear hr
                 subst hq)
  all_goals try simp only [tw_own1, tw_own2] at *
  all_goals first
    | exact Nat.le_refl _
    | rfl
    | exact ⟨⟨rfl, fun i (hi : i < 2) => by rcases i with _ | _ | i; all_goals first | exact ⟨trivial, trivial, trivial, trivial⟩ | omega⟩, show (2 : Nat) ≤ _ by decide⟩
    | exact ⟨⟨trivial, rfl, fun i _ => Dat.hok _⟩, show (3 : Nat) ≤ _ by decide⟩
    | (exfalso; exact h rfl)
    | (exfalso; exact h trivial)
    | (exfalso; revert h; decide)
    | fail
theorem tablives_ok : PcOk Try.prog 8 (detPC tablives_D) := det_okA fun A p r h hp0 => by
  unfold tablives_D at h
  split at h
  · cases h
    exact ⟨rfl, FnOk.pre (A' := []) (tablives_vc ) (trivial)⟩
  · cases h

end Go.Proofs.Ytadjemhbfaonbaa
