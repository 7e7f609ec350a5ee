/- The lives function of wire. -/
import Derived.Test.YtjgobknjnjdphaaWire3
set_option linter.all false
namespace Go.Proofs.Ytjgobknjnjdphaa
open Go Go.Abs

def wlives_R (r : Th (Bool)) : AV := .bc true
def wlives_D : Det := fun A => match A with
  | [] => some (fun _ => True, wlives_R fun _ => true )
  | _ => none
noncomputable def cWV : FuncId → Con := fun f => match f with
  | 12 => pureCon (detPC wwrite_D)
  | 13 => pureCon (detPC wread_D)
  | 15 => pureCon (detPC wsum_D)
  | _ => fun _ _ _ => Bad 1001
theorem cWV_ok : ConOk Try.prog cWV := fun f A H K h => by
  unfold cWV at h
  split at h
  · exact ⟨⟨Try.f12, Try.func12, by kernel_rfl, by kernel_rfl⟩, pureCon_ok wwrite_ok h⟩
  · exact ⟨⟨Try.f13, Try.func13, by kernel_rfl, by kernel_rfl⟩, pureCon_ok wread_ok h⟩
  · exact ⟨⟨Try.f15, Try.func15, by kernel_rfl, by kernel_rfl⟩, pureCon_ok wsum_ok h⟩
  · cases h
def dWV : FuncId → Option Dt := fun f => match f with
  | 15 => some (.c wsum_D)
  | 12 => some (.c wwrite_D)
  | 13 => some (.c wread_D)
  | _ => none
theorem dWV_ok : DetOk Try.prog dWV := fun f d h => by
  unfold dWV at h
  split at h
  · cases h; exact ⟨⟨Try.f15, Try.func15, by kernel_rfl, by kernel_rfl⟩, wsum_ok⟩
  · cases h; exact ⟨⟨Try.f12, Try.func12, by kernel_rfl, by kernel_rfl⟩, wwrite_ok⟩
  · cases h; exact ⟨⟨Try.f13, Try.func13, by kernel_rfl, by kernel_rfl⟩, wread_ok⟩
  · cases h
set_option maxRecDepth 100000 in
set_option maxHeartbeats 4000000 in
theorem wlives_vc  : FnOk Try.prog 14 [] [] (outA (wlives_R fun _ => true ) []) := by
  refine fn_ok envOk zl cWV_ok (draws_ok envOk zl dWV_ok mixed) (keep := [0, 1, 2, 3, 4, 5]) Try.func14 rfl ?_
  cbv
  repeat' first | (show Stp _; exfalso; first | omega | (exact h ‹_›) | (exact absurd ‹_› h) | (exact Bool.false_ne_true (h.symm.trans (show _ = true by assumption)))) | (refine Stp.mk ?_; cbv) | (refine Gen.mk fun r hr => ?_; (try simp only [Dat.ok, Dat.dec, Leaf.ok, Leaf.val, Ins.eta, Vm.eta, Emit.eta, Msg.eta, val_sl, val_nil] at hr); cbv) | exact trivial | rfl | refine Both.mk ?_ ?_ | (refine Imp.mk fun h => ?_; (try dsimp only at h); (try simp only [nc, Int.toNat_natCast, Bool.not_eq_true', Bool.not_eq_false', decide_eq_true_eq, decide_eq_false_iff_not, beq_iff_eq, beq_eq_false_iff_ne, ba_inj, bne_iff_ne, ne_eq, Bool.and_eq_true, Bool.or_eq_true, Bool.and_eq_false_iff, Bool.or_eq_false_iff, Int.not_le, Int.not_lt, Nat.not_le, Nat.not_lt] at h); (try simp only [nc] at h)) | refine Ob.mk ?_ ?_ | refine Chk.mk (by kernel_rfl) ?_ | refine Eq'.mk ?_ | (refine AllN.mk fun i hi => ?_; cbv) | (refine AllC.mk fun c hc hcm => ?_; (try dsimp only at hc); cbv) | (refine AllS.mk fun r hr => ?_; (try simp only [Dat.ok, Dat.dec, Leaf.ok, Leaf.val, Ins.eta, Vm.eta, Emit.eta, Msg.eta, val_sl] at hr); cbv)
  all_goals ((try dsimp only at *); (try simp only [nc, Int.toNat_natCast, Bool.not_eq_true', Bool.not_eq_false', decide_eq_true_eq, decide_eq_false_iff_not, beq_iff_eq, beq_eq_false_iff_ne, ba_inj, bne_iff_ne, ne_eq, Bool.and_eq_true, Bool.or_eq_true, Bool.and_eq_false_iff, Bool.or_eq_false_iff, Int.not_le, Int.not_lt, Nat.not_le, Nat.not_lt] at *); (try simp only [nc] at *))
  all_goals first
    | exact ⟨trivial, trivial, trivial, trivial, trivial⟩
    | (show ByteArray.size _ ≤ 1099511627776; decide +kernel)
    | decide +kernel
    | (exfalso; revert h; decide +kernel)
    | fail
theorem wlives_ok : PcOk Try.prog 14 (detPC wlives_D) := det_okA fun A p r h hp0 => by
  unfold wlives_D at h
  split at h
  · cases h
    exact ⟨rfl, FnOk.pre (A' := []) (wlives_vc ) (trivial)⟩
  · cases h

end Go.Proofs.Ytjgobknjnjdphaa
