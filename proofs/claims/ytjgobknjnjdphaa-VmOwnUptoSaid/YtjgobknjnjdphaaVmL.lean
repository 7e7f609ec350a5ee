/- The program's functions, walked: VmL. -/
import Derived.Test.YtjgobknjnjdphaaRun
import Derived.Test.YtjgobknjnjdphaaAbsG4
set_option linter.all false
namespace Go.Proofs.Ytjgobknjnjdphaa
open Go Go.Abs
/- A program that lives, and what the laws of programs call. -/
def newC_R (r : Th (Vm)) : AV := .agg [.i .i64 fun _ => (r ()).at_, .own 0 fun _ => (r ()).regs.length, .b fun _ => (r ()).halts, .b fun _ => (r ()).fault]
def newC_H (r : Th (Vm)) : Hp := [vecO 3 fun _ => (r ()).regs]
def newC_S : Vm := (⟨0, List.replicate 8 0, false, false⟩ : Vm)
def newC_C : PC := fun A K => match A with
  | [] => Ob (fun _ => True) (Gen (α := Vm) (fun _ => newC_S ) fun r => K (newC_R fun _ => r) (newC_H fun _ => r))
  | _ => Bad 1002
set_option maxRecDepth 100000 in
set_option maxHeartbeats 4000000 in
theorem newC_vc  : FnOk Try.prog 30 [] [] (outA (newC_R fun _ => newC_S ) (newC_H fun _ => newC_S )) := by
  refine fn_ok envOk zl noCon_ok noDraws_ok (keep := [0]) Try.func30 rfl ?_
  cbv
  repeat' first | (refine Stp.mk ?_; cbv) | (refine Gen.mk fun r hr => ?_; (try simp only [Dat.ok, Dat.dec, Leaf.ok, Leaf.val, Ins.eta, Vm.eta, Emit.eta, Msg.eta, val_sl, val_nil] at hr); cbv) | exact trivial | rfl | refine Both.mk ?_ ?_ | (refine Imp.mk fun h => ?_; (try dsimp only at h); (try simp only [nc, Int.toNat_natCast, Bool.not_eq_true', Bool.not_eq_false', decide_eq_true_eq, decide_eq_false_iff_not, beq_iff_eq, beq_eq_false_iff_ne, ba_inj, bne_iff_ne, ne_eq, Bool.and_eq_true, Bool.or_eq_true, Bool.and_eq_false_iff, Bool.or_eq_false_iff, Int.not_le, Int.not_lt, Nat.not_le, Nat.not_lt] at h); (try simp only [nc] at h)) | refine Ob.mk ?_ ?_ | refine Chk.mk (by kernel_rfl) ?_ | refine Eq'.mk ?_ | (refine AllN.mk fun i hi => ?_; cbv) | (refine AllC.mk fun c hc hcm => ?_; (try dsimp only at hc); cbv) | (refine AllS.mk fun r hr => ?_; (try simp only [Dat.ok, Dat.dec, Leaf.ok, Leaf.val, Ins.eta, Vm.eta, Emit.eta, Msg.eta, val_sl] at hr); cbv)
  all_goals ((try dsimp only at *); (try simp only [nc, Int.toNat_natCast, Bool.not_eq_true', Bool.not_eq_false', decide_eq_true_eq, decide_eq_false_iff_not, beq_iff_eq, beq_eq_false_iff_ne, ba_inj, bne_iff_ne, ne_eq, Bool.and_eq_true, Bool.or_eq_true, Bool.and_eq_false_iff, Bool.or_eq_false_iff, Int.not_le, Int.not_lt, Nat.not_le, Nat.not_lt] at *); (try simp only [nc] at *))
  all_goals first
    | omega
    | (have : i < 8 := hi
       show (0 : Int) = (List.replicate 8 (0 : Int)).getD i 0
       rw [List.getD_eq_getElem?_getD, List.getElem?_replicate]
       split <;> rfl)
    | fail
theorem newC_ok : PcOk Try.prog 30 (newC_C) := fun A K h => by
  unfold newC_C at h
  split at h
  · cases h with
    | mk h1 h2 =>
      refine FnOk.pre ?_ (A' := []) (trivial)
      exact FnOk.out (K := fun r H _ => K r H) (newC_vc ) rfl h2.out
  · cases h
structure eqEmit_X (l m : List Emit) where
  k : Nat
  hk : k ≤ l.length
  hv : ∀ j, j < k → l.getD j Dat.d0 = m.getD j Dat.d0
def eqEmit_R (r : Th (Bool)) : AV := .b fun _ => (r ())
def eqEmit_S (l : (List Emit)) (m : (List Emit)) : Bool := decide (l = m)
def eqEmit_P (l : (List Emit)) (m : (List Emit)) : Prop := l.length ≤ 9223372036854775807
def eqEmit_D : Det := fun A => match A with
  | [l, m] => some (fun _ => Leaf.ok (List Emit) l ∧ Leaf.ok (List Emit) m ∧ eqEmit_P (Leaf.val l) (Leaf.val m), eqEmit_R fun _ => eqEmit_S (Leaf.val l) (Leaf.val m))
  | _ => none
set_option maxRecDepth 100000 in
set_option maxHeartbeats 4000000 in
theorem eqEmit_vc (l : (List Emit)) (m : (List Emit)) (hp : eqEmit_P l m) : FnOk Try.prog 22 [Leaf.av fun _ => l, Leaf.av fun _ => m] [] (outA (eqEmit_R fun _ => eqEmit_S l m) []) := by
  refine fn_ok envOk zl noCon_ok (draws_ok envOk zl noDet_ok mixed) (keep := [0, 1, 4, 5, 10, 12, 13, 14, 24]) Try.func22 rfl ?_
  have hp' : l.length ≤ 9223372036854775807 := hp
  have fin : ∀ (b : Bool) H kl, b = decide (l = m) → outA (eqEmit_R fun _ => eqEmit_S l m) [] (.bc b) H kl := by
    rintro b H kl rfl
    cbv
    repeat' first | (refine Stp.mk ?_; cbv) | (refine Gen.mk fun r hr => ?_; (try simp only [Dat.ok, Dat.dec, Leaf.ok, Leaf.val, Ins.eta, Vm.eta, Emit.eta, Msg.eta, val_sl, val_nil] at hr); cbv) | exact trivial | rfl | refine Both.mk ?_ ?_ | (refine Imp.mk fun h => ?_; (try dsimp only at h); (try simp only [nc, Int.toNat_natCast, Bool.not_eq_true', Bool.not_eq_false', decide_eq_true_eq, decide_eq_false_iff_not, beq_iff_eq, beq_eq_false_iff_ne, ba_inj, bne_iff_ne, ne_eq, Bool.and_eq_true, Bool.or_eq_true, Bool.and_eq_false_iff, Bool.or_eq_false_iff, Int.not_le, Int.not_lt, Nat.not_le, Nat.not_lt] at h); (try simp only [nc] at h)) | refine Ob.mk ?_ ?_ | refine Chk.mk (by kernel_rfl) ?_ | refine Eq'.mk ?_ | (refine AllN.mk fun i hi => ?_; cbv) | (refine AllC.mk fun c hc hcm => ?_; (try dsimp only at hc); cbv) | (refine AllS.mk fun r hr => ?_; (try simp only [Dat.ok, Dat.dec, Leaf.ok, Leaf.val, Ins.eta, Vm.eta, Emit.eta, Msg.eta, val_sl] at hr); cbv)
  generalize outA (eqEmit_R fun _ => eqEmit_S l m) [] = K at fin
  cbv
  refine Both.mk (Imp.mk fun h1 => ?_) (Imp.mk fun h1 => ?_)
  all_goals (refine Stp.mk ?_; cbv; (try dsimp only at h1); (try simp only [nc, Int.toNat_natCast, Bool.not_eq_true', Bool.not_eq_false', decide_eq_true_eq, decide_eq_false_iff_not, beq_iff_eq, beq_eq_false_iff_ne, ba_inj, bne_iff_ne, ne_eq, Bool.and_eq_true, Bool.or_eq_true, Bool.and_eq_false_iff, Bool.or_eq_false_iff, Int.not_le, Int.not_lt, Nat.not_le, Nat.not_lt] at h1); (try simp only [nc] at h1))
  · refine fin _ _ _ ?_
    exact (decide_eq_false (fun h => by subst h; omega)).symm
  · have hlen : l.length = m.length := by omega
    refine LoopVC.frame [4, 5, 13, 14, 24] (eqEmit_X l m) (fun x => [(13, .i .i64 fun _ => x.k)]) (fun _ => []) [] (fun x => l.length - x.k)
      ⟨0, Nat.zero_le _, fun j hj => absurd hj (Nat.not_lt_zero _)⟩ rfl (fun _ => rfl) ?_ ?_ fun ⟨k, hk, hv⟩ => ?_
    · cbv
      repeat' first | (refine Stp.mk ?_; cbv) | (refine Gen.mk fun r hr => ?_; (try simp only [Dat.ok, Dat.dec, Leaf.ok, Leaf.val, Ins.eta, Vm.eta, Emit.eta, Msg.eta, val_sl, val_nil] at hr); cbv) | exact trivial | rfl | refine Both.mk ?_ ?_ | (refine Imp.mk fun h => ?_; (try dsimp only at h); (try simp only [nc, Int.toNat_natCast, Bool.not_eq_true', Bool.not_eq_false', decide_eq_true_eq, decide_eq_false_iff_not, beq_iff_eq, beq_eq_false_iff_ne, ba_inj, bne_iff_ne, ne_eq, Bool.and_eq_true, Bool.or_eq_true, Bool.and_eq_false_iff, Bool.or_eq_false_iff, Int.not_le, Int.not_lt, Nat.not_le, Nat.not_lt] at h); (try simp only [nc] at h)) | refine Ob.mk ?_ ?_ | refine Chk.mk (by kernel_rfl) ?_ | refine Eq'.mk ?_ | (refine AllN.mk fun i hi => ?_; cbv) | (refine AllC.mk fun c hc hcm => ?_; (try dsimp only at hc); cbv) | (refine AllS.mk fun r hr => ?_; (try simp only [Dat.ok, Dat.dec, Leaf.ok, Leaf.val, Ins.eta, Vm.eta, Emit.eta, Msg.eta, val_sl] at hr); cbv)
    · cbv
    · cbv
      repeat' first | (refine Stp.mk ?_; cbv) | (refine Gen.mk fun r hr => ?_; (try simp only [Dat.ok, Dat.dec, Leaf.ok, Leaf.val, Ins.eta, Vm.eta, Emit.eta, Msg.eta, val_sl, val_nil] at hr); cbv) | exact trivial | rfl | refine Both.mk ?_ ?_ | (refine Imp.mk fun h => ?_; (try dsimp only at h); (try simp only [nc, Int.toNat_natCast, Bool.not_eq_true', Bool.not_eq_false', decide_eq_true_eq, decide_eq_false_iff_not, beq_iff_eq, beq_eq_false_iff_ne, ba_inj, bne_iff_ne, ne_eq, Bool.and_eq_true, Bool.or_eq_true, Bool.and_eq_false_iff, Bool.or_eq_false_iff, Int.not_le, Int.not_lt, Nat.not_le, Nat.not_lt] at h); (try simp only [nc] at h)) | refine Ob.mk ?_ ?_ | refine Chk.mk (by kernel_rfl) ?_ | refine Eq'.mk ?_ | (refine AllN.mk fun i hi => ?_; cbv) | (refine AllC.mk fun c hc hcm => ?_; (try dsimp only at hc); cbv) | (refine AllS.mk fun r hr => ?_; (try simp only [Dat.ok, Dat.dec, Leaf.ok, Leaf.val, Ins.eta, Vm.eta, Emit.eta, Msg.eta, val_sl] at hr); cbv)
      all_goals ((try dsimp only at *); (try simp only [nc, Int.toNat_natCast, Bool.not_eq_true', Bool.not_eq_false', decide_eq_true_eq, decide_eq_false_iff_not, beq_iff_eq, beq_eq_false_iff_ne, ba_inj, bne_iff_ne, ne_eq, Bool.and_eq_true, Bool.or_eq_true, Bool.and_eq_false_iff, Bool.or_eq_false_iff, Int.not_le, Int.not_lt, Nat.not_le, Nat.not_lt] at *); (try simp only [nc] at *))
      all_goals first
        | omega
        | (unfold InR; omega)
        | (refine fin _ _ _ (decide_eq_true ?_).symm
           apply List.ext_getElem hlen
           intro i h1 h2
           have := hv i (by omega)
           simpa [h1, h2] using this)
        | (refine fin _ _ _ (decide_eq_false fun h => ?_).symm
           subst h
           simp_all; done)
        | skip
      all_goals (
        refine ⟨⟨k + 1, by omega, fun j hj => ?_⟩, ?_, trivial, rfl, by (try dsimp only); omega⟩
        · rcases Nat.lt_succ_iff_lt_or_eq.1 hj with hj | rfl
          · exact hv j hj
          · first | assumption | (generalize l.getD j Dat.d0 = a at *; generalize m.getD j Dat.d0 = b at *; cases a; cases b; simp_all; done)
        · cbv
          repeat' first | (refine Stp.mk ?_; cbv) | (refine Gen.mk fun r hr => ?_; (try simp only [Dat.ok, Dat.dec, Leaf.ok, Leaf.val, Ins.eta, Vm.eta, Emit.eta, Msg.eta, val_sl, val_nil] at hr); cbv) | exact trivial | rfl | refine Both.mk ?_ ?_ | (refine Imp.mk fun h => ?_; (try dsimp only at h); (try simp only [nc, Int.toNat_natCast, Bool.not_eq_true', Bool.not_eq_false', decide_eq_true_eq, decide_eq_false_iff_not, beq_iff_eq, beq_eq_false_iff_ne, ba_inj, bne_iff_ne, ne_eq, Bool.and_eq_true, Bool.or_eq_true, Bool.and_eq_false_iff, Bool.or_eq_false_iff, Int.not_le, Int.not_lt, Nat.not_le, Nat.not_lt] at h); (try simp only [nc] at h)) | refine Ob.mk ?_ ?_ | refine Chk.mk (by kernel_rfl) ?_ | refine Eq'.mk ?_ | (refine AllN.mk fun i hi => ?_; cbv) | (refine AllC.mk fun c hc hcm => ?_; (try dsimp only at hc); cbv) | (refine AllS.mk fun r hr => ?_; (try simp only [Dat.ok, Dat.dec, Leaf.ok, Leaf.val, Ins.eta, Vm.eta, Emit.eta, Msg.eta, val_sl] at hr); cbv))
theorem eqEmit_ok : PcOk Try.prog 22 (detPC eqEmit_D) := det_okA fun A p r h hp0 => by
  unfold eqEmit_D at h
  split at h
  · rename_i l m
    cases h
    obtain ⟨g0, g1, hp⟩ := hp0
    exact ⟨rfl, FnOk.pre (A' := [Leaf.av fun _ => (Leaf.val l : (List Emit)), Leaf.av fun _ => (Leaf.val m : (List Emit))]) (eqEmit_vc (Leaf.val l) (Leaf.val m) hp) (.mk (Leaf.hle _ g0) (.mk (Leaf.hle _ g1) (trivial)))⟩
  · cases h
structure eqInt_X (l m : List Int) where
  k : Nat
  hk : k ≤ l.length
  hv : ∀ j, j < k → l.getD j Dat.d0 = m.getD j Dat.d0
def eqInt_R (r : Th (Bool)) : AV := .b fun _ => (r ())
def eqInt_S (l : (List Int)) (m : (List Int)) : Bool := decide (l = m)
def eqInt_P (l : (List Int)) (m : (List Int)) : Prop := l.length ≤ 9223372036854775807
def eqInt_D : Det := fun A => match A with
  | [l, m] => some (fun _ => Leaf.ok (List Int) l ∧ Leaf.ok (List Int) m ∧ eqInt_P (Leaf.val l) (Leaf.val m), eqInt_R fun _ => eqInt_S (Leaf.val l) (Leaf.val m))
  | _ => none
set_option maxRecDepth 100000 in
set_option maxHeartbeats 4000000 in
theorem eqInt_vc (l : (List Int)) (m : (List Int)) (hp : eqInt_P l m) : FnOk Try.prog 29 [Leaf.av fun _ => l, Leaf.av fun _ => m] [] (outA (eqInt_R fun _ => eqInt_S l m) []) := by
  refine fn_ok envOk zl noCon_ok (draws_ok envOk zl noDet_ok mixed) (keep := [0, 1, 4, 5, 10, 12, 13, 14, 24]) Try.func29 rfl ?_
  have hp' : l.length ≤ 9223372036854775807 := hp
  have fin : ∀ (b : Bool) H kl, b = decide (l = m) → outA (eqInt_R fun _ => eqInt_S l m) [] (.bc b) H kl := by
    rintro b H kl rfl
    cbv
    repeat' first | (refine Stp.mk ?_; cbv) | (refine Gen.mk fun r hr => ?_; (try simp only [Dat.ok, Dat.dec, Leaf.ok, Leaf.val, Ins.eta, Vm.eta, Emit.eta, Msg.eta, val_sl, val_nil] at hr); cbv) | exact trivial | rfl | refine Both.mk ?_ ?_ | (refine Imp.mk fun h => ?_; (try dsimp only at h); (try simp only [nc, Int.toNat_natCast, Bool.not_eq_true', Bool.not_eq_false', decide_eq_true_eq, decide_eq_false_iff_not, beq_iff_eq, beq_eq_false_iff_ne, ba_inj, bne_iff_ne, ne_eq, Bool.and_eq_true, Bool.or_eq_true, Bool.and_eq_false_iff, Bool.or_eq_false_iff, Int.not_le, Int.not_lt, Nat.not_le, Nat.not_lt] at h); (try simp only [nc] at h)) | refine Ob.mk ?_ ?_ | refine Chk.mk (by kernel_rfl) ?_ | refine Eq'.mk ?_ | (refine AllN.mk fun i hi => ?_; cbv) | (refine AllC.mk fun c hc hcm => ?_; (try dsimp only at hc); cbv) | (refine AllS.mk fun r hr => ?_; (try simp only [Dat.ok, Dat.dec, Leaf.ok, Leaf.val, Ins.eta, Vm.eta, Emit.eta, Msg.eta, val_sl] at hr); cbv)
  generalize outA (eqInt_R fun _ => eqInt_S l m) [] = K at fin
  cbv
  refine Both.mk (Imp.mk fun h1 => ?_) (Imp.mk fun h1 => ?_)
  all_goals (refine Stp.mk ?_; cbv; (try dsimp only at h1); (try simp only [nc, Int.toNat_natCast, Bool.not_eq_true', Bool.not_eq_false', decide_eq_true_eq, decide_eq_false_iff_not, beq_iff_eq, beq_eq_false_iff_ne, ba_inj, bne_iff_ne, ne_eq, Bool.and_eq_true, Bool.or_eq_true, Bool.and_eq_false_iff, Bool.or_eq_false_iff, Int.not_le, Int.not_lt, Nat.not_le, Nat.not_lt] at h1); (try simp only [nc] at h1))
  · refine fin _ _ _ ?_
    exact (decide_eq_false (fun h => by subst h; omega)).symm
  · have hlen : l.length = m.length := by omega
    refine LoopVC.frame [4, 5, 13, 14, 24] (eqInt_X l m) (fun x => [(13, .i .i64 fun _ => x.k)]) (fun _ => []) [] (fun x => l.length - x.k)
      ⟨0, Nat.zero_le _, fun j hj => absurd hj (Nat.not_lt_zero _)⟩ rfl (fun _ => rfl) ?_ ?_ fun ⟨k, hk, hv⟩ => ?_
    · cbv
      repeat' first | (refine Stp.mk ?_; cbv) | (refine Gen.mk fun r hr => ?_; (try simp only [Dat.ok, Dat.dec, Leaf.ok, Leaf.val, Ins.eta, Vm.eta, Emit.eta, Msg.eta, val_sl, val_nil] at hr); cbv) | exact trivial | rfl | refine Both.mk ?_ ?_ | (refine Imp.mk fun h => ?_; (try dsimp only at h); (try simp only [nc, Int.toNat_natCast, Bool.not_eq_true', Bool.not_eq_false', decide_eq_true_eq, decide_eq_false_iff_not, beq_iff_eq, beq_eq_false_iff_ne, ba_inj, bne_iff_ne, ne_eq, Bool.and_eq_true, Bool.or_eq_true, Bool.and_eq_false_iff, Bool.or_eq_false_iff, Int.not_le, Int.not_lt, Nat.not_le, Nat.not_lt] at h); (try simp only [nc] at h)) | refine Ob.mk ?_ ?_ | refine Chk.mk (by kernel_rfl) ?_ | refine Eq'.mk ?_ | (refine AllN.mk fun i hi => ?_; cbv) | (refine AllC.mk fun c hc hcm => ?_; (try dsimp only at hc); cbv) | (refine AllS.mk fun r hr => ?_; (try simp only [Dat.ok, Dat.dec, Leaf.ok, Leaf.val, Ins.eta, Vm.eta, Emit.eta, Msg.eta, val_sl] at hr); cbv)
    · cbv
    · cbv
      repeat' first | (refine Stp.mk ?_; cbv) | (refine Gen.mk fun r hr => ?_; (try simp only [Dat.ok, Dat.dec, Leaf.ok, Leaf.val, Ins.eta, Vm.eta, Emit.eta, Msg.eta, val_sl, val_nil] at hr); cbv) | exact trivial | rfl | refine Both.mk ?_ ?_ | (refine Imp.mk fun h => ?_; (try dsimp only at h); (try simp only [nc, Int.toNat_natCast, Bool.not_eq_true', Bool.not_eq_false', decide_eq_true_eq, decide_eq_false_iff_not, beq_iff_eq, beq_eq_false_iff_ne, ba_inj, bne_iff_ne, ne_eq, Bool.and_eq_true, Bool.or_eq_true, Bool.and_eq_false_iff, Bool.or_eq_false_iff, Int.not_le, Int.not_lt, Nat.not_le, Nat.not_lt] at h); (try simp only [nc] at h)) | refine Ob.mk ?_ ?_ | refine Chk.mk (by kernel_rfl) ?_ | refine Eq'.mk ?_ | (refine AllN.mk fun i hi => ?_; cbv) | (refine AllC.mk fun c hc hcm => ?_; (try dsimp only at hc); cbv) | (refine AllS.mk fun r hr => ?_; (try simp only [Dat.ok, Dat.dec, Leaf.ok, Leaf.val, Ins.eta, Vm.eta, Emit.eta, Msg.eta, val_sl] at hr); cbv)
      all_goals ((try dsimp only at *); (try simp only [nc, Int.toNat_natCast, Bool.not_eq_true', Bool.not_eq_false', decide_eq_true_eq, decide_eq_false_iff_not, beq_iff_eq, beq_eq_false_iff_ne, ba_inj, bne_iff_ne, ne_eq, Bool.and_eq_true, Bool.or_eq_true, Bool.and_eq_false_iff, Bool.or_eq_false_iff, Int.not_le, Int.not_lt, Nat.not_le, Nat.not_lt] at *); (try simp only [nc] at *))
      all_goals first
        | omega
        | (unfold InR; omega)
        | (refine fin _ _ _ (decide_eq_true ?_).symm
           apply List.ext_getElem hlen
           intro i h1 h2
           have := hv i (by omega)
           simpa [h1, h2] using this)
        | (refine fin _ _ _ (decide_eq_false fun h => ?_).symm
           subst h
           simp_all; done)
        | skip
      all_goals (
        refine ⟨⟨k + 1, by omega, fun j hj => ?_⟩, ?_, trivial, rfl, by (try dsimp only); omega⟩
        · rcases Nat.lt_succ_iff_lt_or_eq.1 hj with hj | rfl
          · exact hv j hj
          · first | assumption | (generalize l.getD j Dat.d0 = a at *; generalize m.getD j Dat.d0 = b at *; cases a; cases b; simp_all; done)
        · cbv
          repeat' first | (refine Stp.mk ?_; cbv) | (refine Gen.mk fun r hr => ?_; (try simp only [Dat.ok, Dat.dec, Leaf.ok, Leaf.val, Ins.eta, Vm.eta, Emit.eta, Msg.eta, val_sl, val_nil] at hr); cbv) | exact trivial | rfl | refine Both.mk ?_ ?_ | (refine Imp.mk fun h => ?_; (try dsimp only at h); (try simp only [nc, Int.toNat_natCast, Bool.not_eq_true', Bool.not_eq_false', decide_eq_true_eq, decide_eq_false_iff_not, beq_iff_eq, beq_eq_false_iff_ne, ba_inj, bne_iff_ne, ne_eq, Bool.and_eq_true, Bool.or_eq_true, Bool.and_eq_false_iff, Bool.or_eq_false_iff, Int.not_le, Int.not_lt, Nat.not_le, Nat.not_lt] at h); (try simp only [nc] at h)) | refine Ob.mk ?_ ?_ | refine Chk.mk (by kernel_rfl) ?_ | refine Eq'.mk ?_ | (refine AllN.mk fun i hi => ?_; cbv) | (refine AllC.mk fun c hc hcm => ?_; (try dsimp only at hc); cbv) | (refine AllS.mk fun r hr => ?_; (try simp only [Dat.ok, Dat.dec, Leaf.ok, Leaf.val, Ins.eta, Vm.eta, Emit.eta, Msg.eta, val_sl] at hr); cbv))
theorem eqInt_ok : PcOk Try.prog 29 (detPC eqInt_D) := det_okA fun A p r h hp0 => by
  unfold eqInt_D at h
  split at h
  · rename_i l m
    cases h
    obtain ⟨g0, g1, hp⟩ := hp0
    exact ⟨rfl, FnOk.pre (A' := [Leaf.av fun _ => (Leaf.val l : (List Int)), Leaf.av fun _ => (Leaf.val m : (List Int))]) (eqInt_vc (Leaf.val l) (Leaf.val m) hp) (.mk (Leaf.hle _ g0) (.mk (Leaf.hle _ g1) (trivial)))⟩
  · cases h
def clEmit_R (r : Th ((List Emit))) : AV := .own 0 fun _ => (r ()).length
def clEmit_H (r : Th ((List Emit))) : Hp := [vecO 52 fun _ => (r ())]
def clEmit_P (l : (List Emit)) : Prop := l.length ≤ 1099511627776
def clEmit_C : PC := fun A K => match A with
  | [l] => Ob (fun _ => Leaf.ok (List Emit) l ∧ clEmit_P (Leaf.val l)) (Gen (α := (List Emit)) (fun _ => (Leaf.val l)) fun r => K (clEmit_R fun _ => r) (clEmit_H fun _ => r))
  | _ => Bad 1002
set_option maxRecDepth 100000 in
set_option maxHeartbeats 4000000 in
theorem clEmit_vc (l : (List Emit)) (hp : clEmit_P l) : FnOk Try.prog 23 [Leaf.av fun _ => l] [] (outA (clEmit_R fun _ => l) (clEmit_H fun _ => l)) := by
  refine fn_ok envOk zl noCon_ok noDraws_ok (keep := [0, 2, 4]) Try.func23 rfl ?_
  have hp' : l.length ≤ 1099511627776 := hp
  cbv
  repeat' first | (refine Stp.mk ?_; cbv) | (refine Gen.mk fun r hr => ?_; (try simp only [Dat.ok, Dat.dec, Leaf.ok, Leaf.val, Ins.eta, Vm.eta, Emit.eta, Msg.eta, val_sl, val_nil] at hr); cbv) | exact trivial | rfl | refine Both.mk ?_ ?_ | (refine Imp.mk fun h => ?_; (try dsimp only at h); (try simp only [nc, Int.toNat_natCast, Bool.not_eq_true', Bool.not_eq_false', decide_eq_true_eq, decide_eq_false_iff_not, beq_iff_eq, beq_eq_false_iff_ne, ba_inj, bne_iff_ne, ne_eq, Bool.and_eq_true, Bool.or_eq_true, Bool.and_eq_false_iff, Bool.or_eq_false_iff, Int.not_le, Int.not_lt, Nat.not_le, Nat.not_lt] at h); (try simp only [nc] at h)) | refine Ob.mk ?_ ?_ | refine Chk.mk (by kernel_rfl) ?_ | refine Eq'.mk ?_ | (refine AllN.mk fun i hi => ?_; cbv) | (refine AllC.mk fun c hc hcm => ?_; (try dsimp only at hc); cbv) | (refine AllS.mk fun r hr => ?_; (try simp only [Dat.ok, Dat.dec, Leaf.ok, Leaf.val, Ins.eta, Vm.eta, Emit.eta, Msg.eta, val_sl] at hr); cbv)
  all_goals ((try dsimp only at *); (try simp only [nc, Int.toNat_natCast, Bool.not_eq_true', Bool.not_eq_false', decide_eq_true_eq, decide_eq_false_iff_not, beq_iff_eq, beq_eq_false_iff_ne, ba_inj, bne_iff_ne, ne_eq, Bool.and_eq_true, Bool.or_eq_true, Bool.and_eq_false_iff, Bool.or_eq_false_iff, Int.not_le, Int.not_lt, Nat.not_le, Nat.not_lt] at *); (try simp only [nc] at *))
  all_goals first
    | omega
    | (exact ⟨Nat.le_refl _, trivial, by omega, by omega⟩)
    | (simp only [Nat.zero_add, Nat.sub_zero, Nat.not_lt_zero, decide_false, cond_false]; done)
    | (simp_all; done)
    | fail
theorem clEmit_ok : PcOk Try.prog 23 (clEmit_C) := fun A K h => by
  unfold clEmit_C at h
  split at h
  · rename_i l
    cases h with
    | mk h1 h2 =>
      obtain ⟨g0, hp⟩ := h1
      refine FnOk.pre ?_ (A' := [Leaf.av fun _ => (Leaf.val l : (List Emit))]) (.mk (Leaf.hle _ g0) (trivial))
      exact FnOk.out (K := fun r H _ => K r H) (clEmit_vc (Leaf.val l) hp) rfl h2.out
  · cases h
def runF_R (r : Th (Vm × (List Emit) × Int × Int × Int)) : AV := .tup [.agg [.i .i64 fun _ => (r ()).1.at_, Leaf.av fun _ => (r ()).1.regs, .b fun _ => (r ()).1.halts, .b fun _ => (r ()).1.fault], Leaf.av fun _ => (r ()).2.1, .i .i64 fun _ => (r ()).2.2.1, .i .i64 fun _ => (r ()).2.2.2.1, .i .i64 fun _ => (r ()).2.2.2.2]
def runF_D : Det := fun A => match A with
  | [p, .agg v, inp, .i .i64 fuel] => some (fun _ => Leaf.ok (List Ins) p ∧ Dat.ok Vm v ∧ Leaf.ok (List Int) inp ∧ run_P (Leaf.val p) (Dat.dec v) (Leaf.val inp) (fuel ()), runF_R fun _ => runV (Leaf.val p) (Dat.dec v) (Leaf.val inp) (fuel ()))
  | _ => none
theorem runF_ok : PcOk Try.prog 19 (detPC runF_D) := det_okF fun A p r h hp0 => by
  unfold runF_D at h
  split at h
  · rename_i p v inp fuel
    cases h
    obtain ⟨g0, g1, g2, hp⟩ := hp0
    exact FnOk.froz (FnOk.pre (A' := [Leaf.av fun _ => (Leaf.val p : (List Ins)), .agg (Dat.enc fun _ => (Dat.dec v : Vm)), Leaf.av fun _ => (Leaf.val inp : (List Int)), .i .i64 fun _ => fuel ()]) (run_vc (Leaf.val p) (Dat.dec v) (Leaf.val inp) (fuel ()) hp) (.mk (Leaf.hle _ g0) (.mk (Dat.hle _ g1) (.mk (Leaf.hle _ g2) (.mk (.mk (.mk rfl) (.mk rfl)) (trivial)))))) rfl (q := _) (d := _) rfl (by intro p hp; repeat (first | (cases hp; done) | (rcases List.mem_cons.1 hp with rfl | hp; · exact Nat.le_refl _))) rfl ⟨rfl, rfl⟩
  · cases h
theorem runF_okF : ∀ A p r, runF_D A = some (p, r) → p () → FrOk Try.prog 19 A r := fun A p r h hp0 => by
  unfold runF_D at h
  split at h
  · rename_i p v inp fuel
    cases h
    obtain ⟨g0, g1, g2, hp⟩ := hp0
    exact FnOk.fresh (A := [p, .agg v, inp, .i .i64 fuel]) (FnOk.pre (A' := [Leaf.av fun _ => (Leaf.val p : (List Ins)), .agg (Dat.enc fun _ => (Dat.dec v : Vm)), Leaf.av fun _ => (Leaf.val inp : (List Int)), .i .i64 fun _ => fuel ()]) (run_vc (Leaf.val p) (Dat.dec v) (Leaf.val inp) (fuel ()) hp) (.mk (Leaf.hle _ g0) (.mk (Dat.hle _ g1) (.mk (Leaf.hle _ g2) (.mk (.mk (.mk rfl) (.mk rfl)) (trivial)))))) rfl (q := _) (d := _) rfl (by intro p hp; repeat (first | (cases hp; done) | (rcases List.mem_cons.1 hp with rfl | hp; · exact Nat.le_refl _))) rfl rfl ⟨.mk fun _ _ => rfl, .mk fun _ _ => rfl, trivial⟩
  · cases h
noncomputable def cVL : FuncId → Con := fun f => match f with
  | 30 => pureCon newC_C
  | 19 => pureCon run_C
  | 22 => pureCon (detPC eqEmit_D)
  | _ => fun _ _ _ => Bad 1001
theorem cVL_ok : ConOk Try.prog cVL := fun f A H K h => by
  unfold cVL at h
  split at h
  · exact ⟨⟨Try.f30, Try.func30, by kernel_rfl, by kernel_rfl⟩, pureCon_ok newC_ok h⟩
  · exact ⟨⟨Try.f19, Try.func19, by kernel_rfl, by kernel_rfl⟩, pureCon_ok run_ok h⟩
  · exact ⟨⟨Try.f22, Try.func22, by kernel_rfl, by kernel_rfl⟩, pureCon_ok eqEmit_ok h⟩
  · cases h
def vlives_R (r : Th (Bool)) : AV := .bc true
def vlives_D : Det := fun A => match A with
  | [] => some (fun _ => True, vlives_R fun _ => true )
  | _ => none
theorem vlive : runV [⟨9, 1, 0⟩, ⟨3, 1, 1⟩, ⟨10, 1, 2⟩, ⟨6, 0, 0⟩] ⟨0, List.replicate 8 0, false, false⟩ [3, -2147483648] 100 = (⟨0, [0, 0, 0, 0, 0, 0, 0, 0], false, false⟩, [⟨2, 6⟩, ⟨2, 0⟩], 2, 8, 0) := by decide +kernel
set_option maxRecDepth 100000 in
set_option maxHeartbeats 4000000 in
theorem vlives_vc  : FnOk Try.prog 20 [] [] (outA (vlives_R fun _ => true ) []) := by
  refine fn_ok envOk zl cVL_ok noDraws_ok (keep := [0, 1, 2, 3, 4, 5, 6]) Try.func20 rfl ?_
  cbv
  repeat' first | (refine Stp.mk ?_; cbv) | (refine Gen.mk fun r hr => ?_; (try simp only [Dat.ok, Dat.dec, Leaf.ok, Leaf.val, Ins.eta, Vm.eta, Emit.eta, Msg.eta, val_sl, val_nil] at hr); cbv) | exact trivial | rfl | refine Both.mk ?_ ?_ | (refine Imp.mk fun h => ?_; (try dsimp only at h); (try simp only [nc, Int.toNat_natCast, Bool.not_eq_true', Bool.not_eq_false', decide_eq_true_eq, decide_eq_false_iff_not, beq_iff_eq, beq_eq_false_iff_ne, ba_inj, bne_iff_ne, ne_eq, Bool.and_eq_true, Bool.or_eq_true, Bool.and_eq_false_iff, Bool.or_eq_false_iff, Int.not_le, Int.not_lt, Nat.not_le, Nat.not_lt] at h); (try simp only [nc] at h)) | refine Ob.mk ?_ ?_ | refine Chk.mk (by kernel_rfl) ?_ | refine Eq'.mk ?_ | (refine AllN.mk fun i hi => ?_; cbv) | (refine AllC.mk fun c hc hcm => ?_; (try dsimp only at hc); cbv) | (refine AllS.mk fun r hr => ?_; (try simp only [Dat.ok, Dat.dec, Leaf.ok, Leaf.val, Ins.eta, Vm.eta, Emit.eta, Msg.eta, val_sl] at hr); cbv)
  all_goals try (have e0 : (⟨0, List.replicate 8 0, false, false⟩ : Vm) = newC_S := rfl)
  all_goals subst_vars
  all_goals try rw [← e0] at *
  all_goals first
    | exact Nat.le_refl _
    | exact ⟨⟨rfl, fun i (hi : i < 4) => by rcases i with _ | _ | _ | _ | i; all_goals first | exact ⟨trivial, trivial, trivial⟩ | omega⟩, ⟨trivial, ⟨rfl, fun i _ => Dat.hok _⟩, trivial, trivial⟩, ⟨rfl, fun i (hi : i < 2) => by rcases i with _ | _ | i; all_goals first | trivial | omega⟩, show _ ≤ _ by decide, show _ ≤ _ by decide, show _ ≤ _ by decide⟩
    | exact ⟨⟨rfl, fun i _ => Dat.hok _⟩, ⟨rfl, fun i (hi : i < 2) => by rcases i with _ | _ | i; all_goals first | exact ⟨trivial, trivial⟩ | omega⟩, show _ ≤ _ by decide +kernel⟩
    | decide +kernel
    | (exfalso; revert h; decide +kernel)
    | fail
theorem vlives_ok : PcOk Try.prog 20 (detPC vlives_D) := det_okA fun A p r h hp0 => by
  unfold vlives_D at h
  split at h
  · cases h
    exact ⟨rfl, FnOk.pre (A' := []) (vlives_vc ) (trivial)⟩
  · cases h


end Go.Proofs.Ytjgobknjnjdphaa
