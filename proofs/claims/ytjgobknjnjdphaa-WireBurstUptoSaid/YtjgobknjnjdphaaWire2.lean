/- A message written. -/
import Derived.Test.YtjgobknjnjdphaaWireB
set_option linter.all false
namespace Go.Proofs.Ytjgobknjnjdphaa
open Go Go.Abs

def wwrite_R (r : Th (ByteArray × Int)) : AV := .tup [.s fun _ => (r ()).1, .i .i64 fun _ => (r ()).2]
def wwrite_D : Det := fun A => match A with
  | [.agg m] => some (fun _ => Dat.ok Msg m, wwrite_R fun _ => writeV (Dat.dec m))
  | _ => none
noncomputable def cWW : FuncId → Con := fun f => match f with
  | 31 => pureCon (detPC wcheck_D)
  | 33 => pureCon (detPC wseal_D)
  | 32 => inlCon E noCon noDraws [0, 1, 2, 6, 8, 9, 10, 11, 12, 13, 19] Try.f32
  | _ => fun _ _ _ => Bad 1001
theorem cWW_ok : ConOk Try.prog cWW := fun f A H K h => by
  unfold cWW at h
  split at h
  · exact ⟨⟨Try.f31, Try.func31, by kernel_rfl, by kernel_rfl⟩, pureCon_ok wcheck_ok h⟩
  · exact ⟨⟨Try.f33, Try.func33, by kernel_rfl, by kernel_rfl⟩, pureCon_ok wseal_ok h⟩
  · exact ⟨⟨Try.f32, Try.func32, by kernel_rfl, by kernel_rfl⟩, inl_ok envOk zl noCon_ok noDraws_ok Try.func32 h⟩
  · cases h
def dWW : FuncId → Option Dt := fun f => match f with
  | 33 => some (.c wseal_D)
  | _ => none
theorem dWW_ok : DetOk Try.prog dWW := fun f d h => by
  unfold dWW at h
  split at h
  · cases h; exact ⟨⟨Try.f33, Try.func33, by kernel_rfl, by kernel_rfl⟩, wseal_ok⟩
  · cases h
set_option maxRecDepth 100000 in
set_option maxHeartbeats 4000000 in
theorem wwrite_vc (m : Msg) : FnOk Try.prog 12 [.agg (Dat.enc fun _ => m)] [] (outA (wwrite_R fun _ => writeV m) []) := by
  refine fn_ok envOk zl cWW_ok (draws_ok envOk zl dWW_ok mixed) (keep := [0, 1, 2, 3, 4, 5, 9]) Try.func12 rfl ?_
  cbv
  repeat' first | (show Stp _; exfalso; first | omega | (exact h ‹_›) | (exact absurd ‹_› h) | (exact Bool.false_ne_true (h.symm.trans (show _ = true by assumption)))) | (refine Stp.mk ?_; cbv) | (refine Gen.mk fun r hr => ?_; (try simp only [Dat.ok, Dat.dec, Leaf.ok, Leaf.val, Ins.eta, Vm.eta, Emit.eta, Msg.eta, val_sl, val_nil] at hr); cbv) | exact trivial | rfl | refine Both.mk ?_ ?_ | (refine Imp.mk fun h => ?_; (try dsimp only at h); (try simp only [nc, Int.toNat_natCast, Bool.not_eq_true', Bool.not_eq_false', decide_eq_true_eq, decide_eq_false_iff_not, beq_iff_eq, beq_eq_false_iff_ne, ba_inj, bne_iff_ne, ne_eq, Bool.and_eq_true, Bool.or_eq_true, Bool.and_eq_false_iff, Bool.or_eq_false_iff, Int.not_le, Int.not_lt, Nat.not_le, Nat.not_lt] at h); (try simp only [nc] at h)) | refine Ob.mk ?_ ?_ | refine Chk.mk (by kernel_rfl) ?_ | refine Eq'.mk ?_ | (refine AllN.mk fun i hi => ?_; cbv) | (refine AllC.mk fun c hc hcm => ?_; (try dsimp only at hc); cbv) | (refine AllS.mk fun r hr => ?_; (try simp only [Dat.ok, Dat.dec, Leaf.ok, Leaf.val, Ins.eta, Vm.eta, Emit.eta, Msg.eta, val_sl] at hr); cbv)
  all_goals ((try dsimp only at *); (try simp only [nc, Int.toNat_natCast, Bool.not_eq_true', Bool.not_eq_false', decide_eq_true_eq, decide_eq_false_iff_not, beq_iff_eq, beq_eq_false_iff_ne, ba_inj, bne_iff_ne, ne_eq, Bool.and_eq_true, Bool.or_eq_true, Bool.and_eq_false_iff, Bool.or_eq_false_iff, Int.not_le, Int.not_lt, Nat.not_le, Nat.not_lt] at *); (try simp only [nc] at *))
  all_goals try simp only [Dat.ok, Dat.dec, Leaf.ok, Leaf.val, Ins.eta, Vm.eta, Emit.eta, Msg.eta, val_sl] at *
  all_goals first
    | exact ⟨trivial, trivial, trivial, trivial, trivial⟩
    | (unfold InR; omega)
    | skip
  repeat' first
    | omega
    | (unfold InR; omega)
    | (refine LoopVC.un 6 ?_
       cbv
       repeat' first | (show Stp _; exfalso; first | omega | (exact h ‹_›) | (exact absurd ‹_› h) | (exact Bool.false_ne_true (h.symm.trans (show _ = true by assumption)))) | (refine Stp.mk ?_; cbv) | (refine Gen.mk fun r hr => ?_; (try simp only [Dat.ok, Dat.dec, Leaf.ok, Leaf.val, Ins.eta, Vm.eta, Emit.eta, Msg.eta, val_sl, val_nil] at hr); cbv) | exact trivial | rfl | refine Both.mk ?_ ?_ | (refine Imp.mk fun h => ?_; (try dsimp only at h); (try simp only [nc, Int.toNat_natCast, Bool.not_eq_true', Bool.not_eq_false', decide_eq_true_eq, decide_eq_false_iff_not, beq_iff_eq, beq_eq_false_iff_ne, ba_inj, bne_iff_ne, ne_eq, Bool.and_eq_true, Bool.or_eq_true, Bool.and_eq_false_iff, Bool.or_eq_false_iff, Int.not_le, Int.not_lt, Nat.not_le, Nat.not_lt] at h); (try simp only [nc] at h)) | refine Ob.mk ?_ ?_ | refine Chk.mk (by kernel_rfl) ?_ | refine Eq'.mk ?_ | (refine AllN.mk fun i hi => ?_; cbv) | (refine AllC.mk fun c hc hcm => ?_; (try dsimp only at hc); cbv) | (refine AllS.mk fun r hr => ?_; (try simp only [Dat.ok, Dat.dec, Leaf.ok, Leaf.val, Ins.eta, Vm.eta, Emit.eta, Msg.eta, val_sl] at hr); cbv))
  all_goals try (first | decide | (dsimp only; omega))
  all_goals have bA := bodyA m
  all_goals try have hc := (check0 (by assumption)).2
  all_goals try clear hp
  all_goals try dsimp only
  all_goals first
    | exact ⟨Nat.le_refl _, bA.r.u⟩
    | exact (fun s hs => by subst hs; show (bodyV m).size ≤ 1099511627776; rw [bodyV_size]; omega : ∀ s, s = bodyV m → wseal_P s) _ bA.r.e
    | exact (fun s hs => by subst hs; rw [bodyV_size, sealV_size]; omega : ∀ s, s = bodyV m → s.size + (sealV s).size ≤ 9223372036854775807) _ bA.r.e
    | exact (fun s hs => by subst hs; rw [writeV, if_pos (by assumption)] : ∀ s, s = bodyV m → s ++ sealV s = (writeV m).fst) _ bA.r.e
    | (rw [writeV, if_neg (by assumption)]; rfl)
    | (unfold InR; omega)
    | (show _ = checkM m; omega)
    | exact ⟨by decide, by omega⟩
theorem wwrite_ok : PcOk Try.prog 12 (detPC wwrite_D) := det_okA fun A p r h hp0 => by
  unfold wwrite_D at h
  split at h
  · rename_i m
    cases h
    have g0 := hp0
    exact ⟨rfl, FnOk.pre (A' := [.agg (Dat.enc fun _ => (Dat.dec m : Msg))]) (wwrite_vc (Dat.dec m)) (.mk (Dat.hle _ g0) (trivial))⟩
  · cases h

end Go.Proofs.Ytjgobknjnjdphaa
