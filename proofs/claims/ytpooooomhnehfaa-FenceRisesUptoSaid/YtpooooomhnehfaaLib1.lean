/- The program's functions, walked: Lib1. -/
import Derived.Test.YtpooooomhnehfaaTy
set_option linter.all false
namespace Go.Proofs.Ytpooooomhnehfaa
open Go Go.Abs
structure eqB_X (l m : List Bool) where
  k : Nat
  hk : k ≤ l.length
  hv : ∀ j, j < k → l.getD j Dat.d0 = m.getD j Dat.d0
def eqB_R (r : Th (Bool)) : AV := .b fun _ => (r ())
def eqB_S (l : (List Bool)) (m : (List Bool)) : Bool := decide (l = m)
def eqB_P (l : (List Bool)) (m : (List Bool)) : Prop := l.length ≤ 9223372036854775807
def eqB_D : Det := fun A => match A with
  | [l, m] => some (fun _ => Leaf.ok (List Bool) l ∧ Leaf.ok (List Bool) m ∧ eqB_P (Leaf.val l) (Leaf.val m), eqB_R fun _ => eqB_S (Leaf.val l) (Leaf.val m))
  | _ => none
set_option maxRecDepth 100000 in
set_option maxHeartbeats 4000000 in
theorem eqB_vc (l : (List Bool)) (m : (List Bool)) (hp : eqB_P l m) : FnOk Try.prog 16 [Leaf.av fun _ => l, Leaf.av fun _ => m] [] (outA (eqB_R fun _ => eqB_S l m) []) := by
  refine fn_ok envOk zl noCon_ok (draws_ok envOk noDet_ok mixed) (keep := [0, 1, 4, 5, 10, 12, 13, 14, 24]) Try.func16 rfl ?_
  have hp' : l.length ≤ 9223372036854775807 := hp
  have fin : ∀ (b : Bool) H kl, b = decide (l = m) → outA (eqB_R fun _ => eqB_S l m) [] (.bc b) H kl := by
    rintro b H kl rfl
    cbv
    repeat' first | (refine Stp.mk ?_; cbv) | (refine Gen.mk fun r hr => ?_; (try simp only [Dat.ok, Dat.dec, Leaf.ok, Leaf.val, Try.eta, Fence.eta, Give.eta, GateOp.eta, GateAns.eta, Gate.eta, val_sl, val_nil] at hr); cbv) | exact trivial | rfl | refine Both.mk ?_ ?_ | (refine Imp.mk fun h => ?_; (try dsimp only at h); (try simp only [nc, Int.toNat_natCast, Bool.not_eq_true', Bool.not_eq_false', decide_eq_true_eq, decide_eq_false_iff_not, beq_iff_eq, beq_eq_false_iff_ne, bne_iff_ne, ne_eq, Bool.and_eq_true, Bool.or_eq_true, Bool.and_eq_false_iff, Bool.or_eq_false_iff, Int.not_le, Int.not_lt, Nat.not_le, Nat.not_lt] at h); (try simp only [nc] at h)) | refine Ob.mk ?_ ?_ | refine Eq'.mk ?_ | (refine AllN.mk fun i hi => ?_; cbv)
  generalize outA (eqB_R fun _ => eqB_S l m) [] = K at fin
  cbv
  refine Both.mk (Imp.mk fun h1 => ?_) (Imp.mk fun h1 => ?_)
  all_goals (refine Stp.mk ?_; cbv; (try dsimp only at h1); (try simp only [nc, Int.toNat_natCast, Bool.not_eq_true', Bool.not_eq_false', decide_eq_true_eq, decide_eq_false_iff_not, beq_iff_eq, beq_eq_false_iff_ne, bne_iff_ne, ne_eq, Bool.and_eq_true, Bool.or_eq_true, Bool.and_eq_false_iff, Bool.or_eq_false_iff, Int.not_le, Int.not_lt, Nat.not_le, Nat.not_lt] at h1); (try simp only [nc] at h1))
  · refine fin _ _ _ ?_
    exact (decide_eq_false (fun h => by subst h; omega)).symm
  · have hlen : l.length = m.length := by omega
    refine LoopVC.frame [4, 5, 13, 14, 24] (eqB_X l m) (fun x => [(13, .i .i64 fun _ => x.k)]) (fun _ => []) [] (fun x => l.length - x.k)
      ⟨0, Nat.zero_le _, fun j hj => absurd hj (Nat.not_lt_zero _)⟩ rfl (fun _ => rfl) ?_ ?_ fun ⟨k, hk, hv⟩ => ?_
    · cbv
      repeat' first | (refine Stp.mk ?_; cbv) | (refine Gen.mk fun r hr => ?_; (try simp only [Dat.ok, Dat.dec, Leaf.ok, Leaf.val, Try.eta, Fence.eta, Give.eta, GateOp.eta, GateAns.eta, Gate.eta, val_sl, val_nil] at hr); cbv) | exact trivial | rfl | refine Both.mk ?_ ?_ | (refine Imp.mk fun h => ?_; (try dsimp only at h); (try simp only [nc, Int.toNat_natCast, Bool.not_eq_true', Bool.not_eq_false', decide_eq_true_eq, decide_eq_false_iff_not, beq_iff_eq, beq_eq_false_iff_ne, bne_iff_ne, ne_eq, Bool.and_eq_true, Bool.or_eq_true, Bool.and_eq_false_iff, Bool.or_eq_false_iff, Int.not_le, Int.not_lt, Nat.not_le, Nat.not_lt] at h); (try simp only [nc] at h)) | refine Ob.mk ?_ ?_ | refine Eq'.mk ?_ | (refine AllN.mk fun i hi => ?_; cbv)
    · cbv
    · cbv
      repeat' first | (refine Stp.mk ?_; cbv) | (refine Gen.mk fun r hr => ?_; (try simp only [Dat.ok, Dat.dec, Leaf.ok, Leaf.val, Try.eta, Fence.eta, Give.eta, GateOp.eta, GateAns.eta, Gate.eta, val_sl, val_nil] at hr); cbv) | exact trivial | rfl | refine Both.mk ?_ ?_ | (refine Imp.mk fun h => ?_; (try dsimp only at h); (try simp only [nc, Int.toNat_natCast, Bool.not_eq_true', Bool.not_eq_false', decide_eq_true_eq, decide_eq_false_iff_not, beq_iff_eq, beq_eq_false_iff_ne, bne_iff_ne, ne_eq, Bool.and_eq_true, Bool.or_eq_true, Bool.and_eq_false_iff, Bool.or_eq_false_iff, Int.not_le, Int.not_lt, Nat.not_le, Nat.not_lt] at h); (try simp only [nc] at h)) | refine Ob.mk ?_ ?_ | refine Eq'.mk ?_ | (refine AllN.mk fun i hi => ?_; cbv)
      all_goals ((try dsimp only at *); (try simp only [nc, Int.toNat_natCast, Bool.not_eq_true', Bool.not_eq_false', decide_eq_true_eq, decide_eq_false_iff_not, beq_iff_eq, beq_eq_false_iff_ne, bne_iff_ne, ne_eq, Bool.and_eq_true, Bool.or_eq_true, Bool.and_eq_false_iff, Bool.or_eq_false_iff, Int.not_le, Int.not_lt, Nat.not_le, Nat.not_lt] at *); (try simp only [nc] at *))
      all_goals first
        | omega
        | (unfold InR; omega)
        | (refine fin _ _ _ (decide_eq_true ?_).symm
           apply List.ext_getElem hlen
           intro i h1 h2
           have := hv i (by omega)
           simpa [h1, h2] using this)
        | (refine fin _ _ _ (decide_eq_false fun h => ?_).symm
           subst h
           simp_all; done)
        | skip
      all_goals (
        refine ⟨⟨k + 1, by omega, fun j hj => ?_⟩, ?_, trivial, rfl, by (try dsimp only); omega⟩
        · rcases Nat.lt_succ_iff_lt_or_eq.1 hj with hj | rfl
          · exact hv j hj
          · first | assumption | (generalize l.getD j Dat.d0 = a at *; generalize m.getD j Dat.d0 = b at *; cases a; cases b; simp_all; done)
        · cbv
          repeat' first | (refine Stp.mk ?_; cbv) | (refine Gen.mk fun r hr => ?_; (try simp only [Dat.ok, Dat.dec, Leaf.ok, Leaf.val, Try.eta, Fence.eta, Give.eta, GateOp.eta, GateAns.eta, Gate.eta, val_sl, val_nil] at hr); cbv) | exact trivial | rfl | refine Both.mk ?_ ?_ | (refine Imp.mk fun h => ?_; (try dsimp only at h); (try simp only [nc, Int.toNat_natCast, Bool.not_eq_true', Bool.not_eq_false', decide_eq_true_eq, decide_eq_false_iff_not, beq_iff_eq, beq_eq_false_iff_ne, bne_iff_ne, ne_eq, Bool.and_eq_true, Bool.or_eq_true, Bool.and_eq_false_iff, Bool.or_eq_false_iff, Int.not_le, Int.not_lt, Nat.not_le, Nat.not_lt] at h); (try simp only [nc] at h)) | refine Ob.mk ?_ ?_ | refine Eq'.mk ?_ | (refine AllN.mk fun i hi => ?_; cbv))
theorem eqB_ok : PcOk Try.prog 16 (detPC eqB_D) := det_okA fun A p r h hp0 => by
  unfold eqB_D at h
  split at h
  · rename_i l m
    cases h
    obtain ⟨g0, g1, hp⟩ := hp0
    exact ⟨rfl, FnOk.pre (A' := [Leaf.av fun _ => (Leaf.val l : (List Bool)), Leaf.av fun _ => (Leaf.val m : (List Bool))]) (eqB_vc (Leaf.val l) (Leaf.val m) hp) (.mk (Leaf.hle _ g0) (.mk (Leaf.hle _ g1) (trivial)))⟩
  · cases h
structure eqFence_X (l m : List Fence) where
  k : Nat
  hk : k ≤ l.length
  hv : ∀ j, j < k → l.getD j Dat.d0 = m.getD j Dat.d0
def eqFence_R (r : Th (Bool)) : AV := .b fun _ => (r ())
def eqFence_S (l : (List Fence)) (m : (List Fence)) : Bool := decide (l = m)
def eqFence_P (l : (List Fence)) (m : (List Fence)) : Prop := l.length ≤ 9223372036854775807
def eqFence_D : Det := fun A => match A with
  | [l, m] => some (fun _ => Leaf.ok (List Fence) l ∧ Leaf.ok (List Fence) m ∧ eqFence_P (Leaf.val l) (Leaf.val m), eqFence_R fun _ => eqFence_S (Leaf.val l) (Leaf.val m))
  | _ => none
set_option maxRecDepth 100000 in
set_option maxHeartbeats 4000000 in
theorem eqFence_vc (l : (List Fence)) (m : (List Fence)) (hp : eqFence_P l m) : FnOk Try.prog 27 [Leaf.av fun _ => l, Leaf.av fun _ => m] [] (outA (eqFence_R fun _ => eqFence_S l m) []) := by
  refine fn_ok envOk zl noCon_ok (draws_ok envOk noDet_ok mixed) (keep := [0, 1, 4, 5, 10, 12, 13, 14, 24]) Try.func27 rfl ?_
  have hp' : l.length ≤ 9223372036854775807 := hp
  have fin : ∀ (b : Bool) H kl, b = decide (l = m) → outA (eqFence_R fun _ => eqFence_S l m) [] (.bc b) H kl := by
    rintro b H kl rfl
    cbv
    repeat' first | (refine Stp.mk ?_; cbv) | (refine Gen.mk fun r hr => ?_; (try simp only [Dat.ok, Dat.dec, Leaf.ok, Leaf.val, Try.eta, Fence.eta, Give.eta, GateOp.eta, GateAns.eta, Gate.eta, val_sl, val_nil] at hr); cbv) | exact trivial | rfl | refine Both.mk ?_ ?_ | (refine Imp.mk fun h => ?_; (try dsimp only at h); (try simp only [nc, Int.toNat_natCast, Bool.not_eq_true', Bool.not_eq_false', decide_eq_true_eq, decide_eq_false_iff_not, beq_iff_eq, beq_eq_false_iff_ne, bne_iff_ne, ne_eq, Bool.and_eq_true, Bool.or_eq_true, Bool.and_eq_false_iff, Bool.or_eq_false_iff, Int.not_le, Int.not_lt, Nat.not_le, Nat.not_lt] at h); (try simp only [nc] at h)) | refine Ob.mk ?_ ?_ | refine Eq'.mk ?_ | (refine AllN.mk fun i hi => ?_; cbv)
  generalize outA (eqFence_R fun _ => eqFence_S l m) [] = K at fin
  cbv
  refine Both.mk (Imp.mk fun h1 => ?_) (Imp.mk fun h1 => ?_)
  all_goals (refine Stp.mk ?_; cbv; (try dsimp only at h1); (try simp only [nc, Int.toNat_natCast, Bool.not_eq_true', Bool.not_eq_false', decide_eq_true_eq, decide_eq_false_iff_not, beq_iff_eq, beq_eq_false_iff_ne, bne_iff_ne, ne_eq, Bool.and_eq_true, Bool.or_eq_true, Bool.and_eq_false_iff, Bool.or_eq_false_iff, Int.not_le, Int.not_lt, Nat.not_le, Nat.not_lt] at h1); (try simp only [nc] at h1))
  · refine fin _ _ _ ?_
    exact (decide_eq_false (fun h => by subst h; omega)).symm
  · have hlen : l.length = m.length := by omega
    refine LoopVC.frame [4, 5, 13, 14, 24] (eqFence_X l m) (fun x => [(13, .i .i64 fun _ => x.k)]) (fun _ => []) [] (fun x => l.length - x.k)
      ⟨0, Nat.zero_le _, fun j hj => absurd hj (Nat.not_lt_zero _)⟩ rfl (fun _ => rfl) ?_ ?_ fun ⟨k, hk, hv⟩ => ?_
    · cbv
      repeat' first | (refine Stp.mk ?_; cbv) | (refine Gen.mk fun r hr => ?_; (try simp only [Dat.ok, Dat.dec, Leaf.ok, Leaf.val, Try.eta, Fence.eta, Give.eta, GateOp.eta, GateAns.eta, Gate.eta, val_sl, val_nil] at hr); cbv) | exact trivial | rfl | refine Both.mk ?_ ?_ | (refine Imp.mk fun h => ?_; (try dsimp only at h); (try simp only [nc, Int.toNat_natCast, Bool.not_eq_true', Bool.not_eq_false', decide_eq_true_eq, decide_eq_false_iff_not, beq_iff_eq, beq_eq_false_iff_ne, bne_iff_ne, ne_eq, Bool.and_eq_true, Bool.or_eq_true, Bool.and_eq_false_iff, Bool.or_eq_false_iff, Int.not_le, Int.not_lt, Nat.not_le, Nat.not_lt] at h); (try simp only [nc] at h)) | refine Ob.mk ?_ ?_ | refine Eq'.mk ?_ | (refine AllN.mk fun i hi => ?_; cbv)
    · cbv
    · cbv
      repeat' first | (refine Stp.mk ?_; cbv) | (refine Gen.mk fun r hr => ?_; (try simp only [Dat.ok, Dat.dec, Leaf.ok, Leaf.val, Try.eta, Fence.eta, Give.eta, GateOp.eta, GateAns.eta, Gate.eta, val_sl, val_nil] at hr); cbv) | exact trivial | rfl | refine Both.mk ?_ ?_ | (refine Imp.mk fun h => ?_; (try dsimp only at h); (try simp only [nc, Int.toNat_natCast, Bool.not_eq_true', Bool.not_eq_false', decide_eq_true_eq, decide_eq_false_iff_not, beq_iff_eq, beq_eq_false_iff_ne, bne_iff_ne, ne_eq, Bool.and_eq_true, Bool.or_eq_true, Bool.and_eq_false_iff, Bool.or_eq_false_iff, Int.not_le, Int.not_lt, Nat.not_le, Nat.not_lt] at h); (try simp only [nc] at h)) | refine Ob.mk ?_ ?_ | refine Eq'.mk ?_ | (refine AllN.mk fun i hi => ?_; cbv)
      all_goals ((try dsimp only at *); (try simp only [nc, Int.toNat_natCast, Bool.not_eq_true', Bool.not_eq_false', decide_eq_true_eq, decide_eq_false_iff_not, beq_iff_eq, beq_eq_false_iff_ne, bne_iff_ne, ne_eq, Bool.and_eq_true, Bool.or_eq_true, Bool.and_eq_false_iff, Bool.or_eq_false_iff, Int.not_le, Int.not_lt, Nat.not_le, Nat.not_lt] at *); (try simp only [nc] at *))
      all_goals first
        | omega
        | (unfold InR; omega)
        | (refine fin _ _ _ (decide_eq_true ?_).symm
           apply List.ext_getElem hlen
           intro i h1 h2
           have := hv i (by omega)
           simpa [h1, h2] using this)
        | (refine fin _ _ _ (decide_eq_false fun h => ?_).symm
           subst h
           simp_all; done)
        | skip
      all_goals (
        refine ⟨⟨k + 1, by omega, fun j hj => ?_⟩, ?_, trivial, rfl, by (try dsimp only); omega⟩
        · rcases Nat.lt_succ_iff_lt_or_eq.1 hj with hj | rfl
          · exact hv j hj
          · first | assumption | (generalize l.getD j Dat.d0 = a at *; generalize m.getD j Dat.d0 = b at *; cases a; cases b; simp_all; done)
        · cbv
          repeat' first | (refine Stp.mk ?_; cbv) | (refine Gen.mk fun r hr => ?_; (try simp only [Dat.ok, Dat.dec, Leaf.ok, Leaf.val, Try.eta, Fence.eta, Give.eta, GateOp.eta, GateAns.eta, Gate.eta, val_sl, val_nil] at hr); cbv) | exact trivial | rfl | refine Both.mk ?_ ?_ | (refine Imp.mk fun h => ?_; (try dsimp only at h); (try simp only [nc, Int.toNat_natCast, Bool.not_eq_true', Bool.not_eq_false', decide_eq_true_eq, decide_eq_false_iff_not, beq_iff_eq, beq_eq_false_iff_ne, bne_iff_ne, ne_eq, Bool.and_eq_true, Bool.or_eq_true, Bool.and_eq_false_iff, Bool.or_eq_false_iff, Int.not_le, Int.not_lt, Nat.not_le, Nat.not_lt] at h); (try simp only [nc] at h)) | refine Ob.mk ?_ ?_ | refine Eq'.mk ?_ | (refine AllN.mk fun i hi => ?_; cbv))
theorem eqFence_ok : PcOk Try.prog 27 (detPC eqFence_D) := det_okA fun A p r h hp0 => by
  unfold eqFence_D at h
  split at h
  · rename_i l m
    cases h
    obtain ⟨g0, g1, hp⟩ := hp0
    exact ⟨rfl, FnOk.pre (A' := [Leaf.av fun _ => (Leaf.val l : (List Fence)), Leaf.av fun _ => (Leaf.val m : (List Fence))]) (eqFence_vc (Leaf.val l) (Leaf.val m) hp) (.mk (Leaf.hle _ g0) (.mk (Leaf.hle _ g1) (trivial)))⟩
  · cases h
structure eqAns_X (l m : List GateAns) where
  k : Nat
  hk : k ≤ l.length
  hv : ∀ j, j < k → l.getD j Dat.d0 = m.getD j Dat.d0
def eqAns_R (r : Th (Bool)) : AV := .b fun _ => (r ())
def eqAns_S (l : (List GateAns)) (m : (List GateAns)) : Bool := decide (l = m)
def eqAns_P (l : (List GateAns)) (m : (List GateAns)) : Prop := l.length ≤ 9223372036854775807
def eqAns_D : Det := fun A => match A with
  | [l, m] => some (fun _ => Leaf.ok (List GateAns) l ∧ Leaf.ok (List GateAns) m ∧ eqAns_P (Leaf.val l) (Leaf.val m), eqAns_R fun _ => eqAns_S (Leaf.val l) (Leaf.val m))
  | _ => none
set_option maxRecDepth 100000 in
set_option maxHeartbeats 4000000 in
theorem eqAns_vc (l : (List GateAns)) (m : (List GateAns)) (hp : eqAns_P l m) : FnOk Try.prog 29 [Leaf.av fun _ => l, Leaf.av fun _ => m] [] (outA (eqAns_R fun _ => eqAns_S l m) []) := by
  refine fn_ok envOk zl noCon_ok (draws_ok envOk noDet_ok mixed) (keep := [0, 1, 4, 5, 10, 12, 13, 14, 24]) Try.func29 rfl ?_
  have hp' : l.length ≤ 9223372036854775807 := hp
  have fin : ∀ (b : Bool) H kl, b = decide (l = m) → outA (eqAns_R fun _ => eqAns_S l m) [] (.bc b) H kl := by
    rintro b H kl rfl
    cbv
    repeat' first | (refine Stp.mk ?_; cbv) | (refine Gen.mk fun r hr => ?_; (try simp only [Dat.ok, Dat.dec, Leaf.ok, Leaf.val, Try.eta, Fence.eta, Give.eta, GateOp.eta, GateAns.eta, Gate.eta, val_sl, val_nil] at hr); cbv) | exact trivial | rfl | refine Both.mk ?_ ?_ | (refine Imp.mk fun h => ?_; (try dsimp only at h); (try simp only [nc, Int.toNat_natCast, Bool.not_eq_true', Bool.not_eq_false', decide_eq_true_eq, decide_eq_false_iff_not, beq_iff_eq, beq_eq_false_iff_ne, bne_iff_ne, ne_eq, Bool.and_eq_true, Bool.or_eq_true, Bool.and_eq_false_iff, Bool.or_eq_false_iff, Int.not_le, Int.not_lt, Nat.not_le, Nat.not_lt] at h); (try simp only [nc] at h)) | refine Ob.mk ?_ ?_ | refine Eq'.mk ?_ | (refine AllN.mk fun i hi => ?_; cbv)
  generalize outA (eqAns_R fun _ => eqAns_S l m) [] = K at fin
  cbv
  refine Both.mk (Imp.mk fun h1 => ?_) (Imp.mk fun h1 => ?_)
  all_goals (refine Stp.mk ?_; cbv; (try dsimp only at h1); (try simp only [nc, Int.toNat_natCast, Bool.not_eq_true', Bool.not_eq_false', decide_eq_true_eq, decide_eq_false_iff_not, beq_iff_eq, beq_eq_false_iff_ne, bne_iff_ne, ne_eq, Bool.and_eq_true, Bool.or_eq_true, Bool.and_eq_false_iff, Bool.or_eq_false_iff, Int.not_le, Int.not_lt, Nat.not_le, Nat.not_lt] at h1); (try simp only [nc] at h1))
  · refine fin _ _ _ ?_
    exact (decide_eq_false (fun h => by subst h; omega)).symm
  · have hlen : l.length = m.length := by omega
    refine LoopVC.frame [4, 5, 13, 14, 24] (eqAns_X l m) (fun x => [(13, .i .i64 fun _ => x.k)]) (fun _ => []) [] (fun x => l.length - x.k)
      ⟨0, Nat.zero_le _, fun j hj => absurd hj (Nat.not_lt_zero _)⟩ rfl (fun _ => rfl) ?_ ?_ fun ⟨k, hk, hv⟩ => ?_
    · cbv
      repeat' first | (refine Stp.mk ?_; cbv) | (refine Gen.mk fun r hr => ?_; (try simp only [Dat.ok, Dat.dec, Leaf.ok, Leaf.val, Try.eta, Fence.eta, Give.eta, GateOp.eta, GateAns.eta, Gate.eta, val_sl, val_nil] at hr); cbv) | exact trivial | rfl | refine Both.mk ?_ ?_ | (refine Imp.mk fun h => ?_; (try dsimp only at h); (try simp only [nc, Int.toNat_natCast, Bool.not_eq_true', Bool.not_eq_false', decide_eq_true_eq, decide_eq_false_iff_not, beq_iff_eq, beq_eq_false_iff_ne, bne_iff_ne, ne_eq, Bool.and_eq_true, Bool.or_eq_true, Bool.and_eq_false_iff, Bool.or_eq_false_iff, Int.not_le, Int.not_lt, Nat.not_le, Nat.not_lt] at h); (try simp only [nc] at h)) | refine Ob.mk ?_ ?_ | refine Eq'.mk ?_ | (refine AllN.mk fun i hi => ?_; cbv)
    · cbv
    · cbv
      repeat' first | (refine Stp.mk ?_; cbv) | (refine Gen.mk fun r hr => ?_; (try simp only [Dat.ok, Dat.dec, Leaf.ok, Leaf.val, Try.eta, Fence.eta, Give.eta, GateOp.eta, GateAns.eta, Gate.eta, val_sl, val_nil] at hr); cbv) | exact trivial | rfl | refine Both.mk ?_ ?_ | (refine Imp.mk fun h => ?_; (try dsimp only at h); (try simp only [nc, Int.toNat_natCast, Bool.not_eq_true', Bool.not_eq_false', decide_eq_true_eq, decide_eq_false_iff_not, beq_iff_eq, beq_eq_false_iff_ne, bne_iff_ne, ne_eq, Bool.and_eq_true, Bool.or_eq_true, Bool.and_eq_false_iff, Bool.or_eq_false_iff, Int.not_le, Int.not_lt, Nat.not_le, Nat.not_lt] at h); (try simp only [nc] at h)) | refine Ob.mk ?_ ?_ | refine Eq'.mk ?_ | (refine AllN.mk fun i hi => ?_; cbv)
      all_goals ((try dsimp only at *); (try simp only [nc, Int.toNat_natCast, Bool.not_eq_true', Bool.not_eq_false', decide_eq_true_eq, decide_eq_false_iff_not, beq_iff_eq, beq_eq_false_iff_ne, bne_iff_ne, ne_eq, Bool.and_eq_true, Bool.or_eq_true, Bool.and_eq_false_iff, Bool.or_eq_false_iff, Int.not_le, Int.not_lt, Nat.not_le, Nat.not_lt] at *); (try simp only [nc] at *))
      all_goals first
        | omega
        | (unfold InR; omega)
        | (refine fin _ _ _ (decide_eq_true ?_).symm
           apply List.ext_getElem hlen
           intro i h1 h2
           have := hv i (by omega)
           simpa [h1, h2] using this)
        | (refine fin _ _ _ (decide_eq_false fun h => ?_).symm
           subst h
           simp_all; done)
        | skip
      all_goals (
        refine ⟨⟨k + 1, by omega, fun j hj => ?_⟩, ?_, trivial, rfl, by (try dsimp only); omega⟩
        · rcases Nat.lt_succ_iff_lt_or_eq.1 hj with hj | rfl
          · exact hv j hj
          · first | assumption | (generalize l.getD j Dat.d0 = a at *; generalize m.getD j Dat.d0 = b at *; cases a; cases b; simp_all; done)
        · cbv
          repeat' first | (refine Stp.mk ?_; cbv) | (refine Gen.mk fun r hr => ?_; (try simp only [Dat.ok, Dat.dec, Leaf.ok, Leaf.val, Try.eta, Fence.eta, Give.eta, GateOp.eta, GateAns.eta, Gate.eta, val_sl, val_nil] at hr); cbv) | exact trivial | rfl | refine Both.mk ?_ ?_ | (refine Imp.mk fun h => ?_; (try dsimp only at h); (try simp only [nc, Int.toNat_natCast, Bool.not_eq_true', Bool.not_eq_false', decide_eq_true_eq, decide_eq_false_iff_not, beq_iff_eq, beq_eq_false_iff_ne, bne_iff_ne, ne_eq, Bool.and_eq_true, Bool.or_eq_true, Bool.and_eq_false_iff, Bool.or_eq_false_iff, Int.not_le, Int.not_lt, Nat.not_le, Nat.not_lt] at h); (try simp only [nc] at h)) | refine Ob.mk ?_ ?_ | refine Eq'.mk ?_ | (refine AllN.mk fun i hi => ?_; cbv))
theorem eqAns_ok : PcOk Try.prog 29 (detPC eqAns_D) := det_okA fun A p r h hp0 => by
  unfold eqAns_D at h
  split at h
  · rename_i l m
    cases h
    obtain ⟨g0, g1, hp⟩ := hp0
    exact ⟨rfl, FnOk.pre (A' := [Leaf.av fun _ => (Leaf.val l : (List GateAns)), Leaf.av fun _ => (Leaf.val m : (List GateAns))]) (eqAns_vc (Leaf.val l) (Leaf.val m) hp) (.mk (Leaf.hle _ g0) (.mk (Leaf.hle _ g1) (trivial)))⟩
  · cases h
def clTry_R (r : Th ((List Try))) : AV := .own 0 fun _ => (r ()).length
def clTry_H (r : Th ((List Try))) : Hp := [vecO 30 fun _ => (r ())]
def clTry_P (l : (List Try)) : Prop := l.length ≤ 1099511627776
def clTry_C : PC := fun A K => match A with
  | [l] => Ob (fun _ => Leaf.ok (List Try) l ∧ clTry_P (Leaf.val l)) (Gen (α := (List Try)) (fun _ => (Leaf.val l)) fun r => K (clTry_R fun _ => r) (clTry_H fun _ => r))
  | _ => Bad 1002
set_option maxRecDepth 100000 in
set_option maxHeartbeats 4000000 in
theorem clTry_vc (l : (List Try)) (hp : clTry_P l) : FnOk Try.prog 17 [Leaf.av fun _ => l] [] (outA (clTry_R fun _ => l) (clTry_H fun _ => l)) := by
  refine fn_ok envOk zl noCon_ok noDraws_ok (keep := [0, 2, 4]) Try.func17 rfl ?_
  have hp' : l.length ≤ 1099511627776 := hp
  cbv
  repeat' first | (refine Stp.mk ?_; cbv) | (refine Gen.mk fun r hr => ?_; (try simp only [Dat.ok, Dat.dec, Leaf.ok, Leaf.val, Try.eta, Fence.eta, Give.eta, GateOp.eta, GateAns.eta, Gate.eta, val_sl, val_nil] at hr); cbv) | exact trivial | rfl | refine Both.mk ?_ ?_ | (refine Imp.mk fun h => ?_; (try dsimp only at h); (try simp only [nc, Int.toNat_natCast, Bool.not_eq_true', Bool.not_eq_false', decide_eq_true_eq, decide_eq_false_iff_not, beq_iff_eq, beq_eq_false_iff_ne, bne_iff_ne, ne_eq, Bool.and_eq_true, Bool.or_eq_true, Bool.and_eq_false_iff, Bool.or_eq_false_iff, Int.not_le, Int.not_lt, Nat.not_le, Nat.not_lt] at h); (try simp only [nc] at h)) | refine Ob.mk ?_ ?_ | refine Eq'.mk ?_ | (refine AllN.mk fun i hi => ?_; cbv)
  all_goals ((try dsimp only at *); (try simp only [nc, Int.toNat_natCast, Bool.not_eq_true', Bool.not_eq_false', decide_eq_true_eq, decide_eq_false_iff_not, beq_iff_eq, beq_eq_false_iff_ne, bne_iff_ne, ne_eq, Bool.and_eq_true, Bool.or_eq_true, Bool.and_eq_false_iff, Bool.or_eq_false_iff, Int.not_le, Int.not_lt, Nat.not_le, Nat.not_lt] at *); (try simp only [nc] at *))
  all_goals first
    | omega
    | (exact ⟨Nat.le_refl _, trivial, by omega, by omega⟩)
    | (simp only [Nat.zero_add, Nat.sub_zero, Nat.not_lt_zero, decide_false, cond_false]; done)
    | (simp_all; done)
    | (trace_state; fail)
theorem clTry_ok : PcOk Try.prog 17 (clTry_C) := fun A K h => by
  unfold clTry_C at h
  split at h
  · rename_i l
    cases h with
    | mk h1 h2 =>
      obtain ⟨g0, hp⟩ := h1
      refine FnOk.pre ?_ (A' := [Leaf.av fun _ => (Leaf.val l : (List Try))]) (.mk (Leaf.hle _ g0) (trivial))
      exact FnOk.out (K := fun r H _ => K r H) (clTry_vc (Leaf.val l) hp) rfl h2.out
  · cases h
def clOp_R (r : Th ((List GateOp))) : AV := .own 0 fun _ => (r ()).length
def clOp_H (r : Th ((List GateOp))) : Hp := [vecO 53 fun _ => (r ())]
def clOp_P (l : (List GateOp)) : Prop := l.length ≤ 1099511627776
def clOp_C : PC := fun A K => match A with
  | [l] => Ob (fun _ => Leaf.ok (List GateOp) l ∧ clOp_P (Leaf.val l)) (Gen (α := (List GateOp)) (fun _ => (Leaf.val l)) fun r => K (clOp_R fun _ => r) (clOp_H fun _ => r))
  | _ => Bad 1002
set_option maxRecDepth 100000 in
set_option maxHeartbeats 4000000 in
theorem clOp_vc (l : (List GateOp)) (hp : clOp_P l) : FnOk Try.prog 21 [Leaf.av fun _ => l] [] (outA (clOp_R fun _ => l) (clOp_H fun _ => l)) := by
  refine fn_ok envOk zl noCon_ok noDraws_ok (keep := [0, 2, 4]) Try.func21 rfl ?_
  have hp' : l.length ≤ 1099511627776 := hp
  cbv
  repeat' first | (refine Stp.mk ?_; cbv) | (refine Gen.mk fun r hr => ?_; (try simp only [Dat.ok, Dat.dec, Leaf.ok, Leaf.val, Try.eta, Fence.eta, Give.eta, GateOp.eta, GateAns.eta, Gate.eta, val_sl, val_nil] at hr); cbv) | exact trivial | rfl | refine Both.mk ?_ ?_ | (refine Imp.mk fun h => ?_; (try dsimp only at h); (try simp only [nc, Int.toNat_natCast, Bool.not_eq_true', Bool.not_eq_false', decide_eq_true_eq, decide_eq_false_iff_not, beq_iff_eq, beq_eq_false_iff_ne, bne_iff_ne, ne_eq, Bool.and_eq_true, Bool.or_eq_true, Bool.and_eq_false_iff, Bool.or_eq_false_iff, Int.not_le, Int.not_lt, Nat.not_le, Nat.not_lt] at h); (try simp only [nc] at h)) | refine Ob.mk ?_ ?_ | refine Eq'.mk ?_ | (refine AllN.mk fun i hi => ?_; cbv)
  all_goals ((try dsimp only at *); (try simp only [nc, Int.toNat_natCast, Bool.not_eq_true', Bool.not_eq_false', decide_eq_true_eq, decide_eq_false_iff_not, beq_iff_eq, beq_eq_false_iff_ne, bne_iff_ne, ne_eq, Bool.and_eq_true, Bool.or_eq_true, Bool.and_eq_false_iff, Bool.or_eq_false_iff, Int.not_le, Int.not_lt, Nat.not_le, Nat.not_lt] at *); (try simp only [nc] at *))
  all_goals first
    | omega
    | (exact ⟨Nat.le_refl _, trivial, by omega, by omega⟩)
    | (simp only [Nat.zero_add, Nat.sub_zero, Nat.not_lt_zero, decide_false, cond_false]; done)
    | (simp_all; done)
    | (trace_state; fail)
theorem clOp_ok : PcOk Try.prog 21 (clOp_C) := fun A K h => by
  unfold clOp_C at h
  split at h
  · rename_i l
    cases h with
    | mk h1 h2 =>
      obtain ⟨g0, hp⟩ := h1
      refine FnOk.pre ?_ (A' := [Leaf.av fun _ => (Leaf.val l : (List GateOp))]) (.mk (Leaf.hle _ g0) (trivial))
      exact FnOk.out (K := fun r H _ => K r H) (clOp_vc (Leaf.val l) hp) rfl h2.out
  · cases h

end Go.Proofs.Ytpooooomhnehfaa
