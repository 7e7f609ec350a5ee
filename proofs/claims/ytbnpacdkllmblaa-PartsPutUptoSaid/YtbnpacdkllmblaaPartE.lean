/- What is the same; parts that live. -/
import Derived.Test.YtbnpacdkllmblaaPartV
import Derived.Test.YtbnpacdkllmblaaAbsG4
set_option linter.all false
namespace Go.Proofs.Ytbnpacdkllmblaa
open Go Go.Abs

structure eqInt_X (l m : List Int) where
  k : Nat
  hk : k ≤ l.length
  hv : ∀ j, j < k → l.getD j Dat.d0 = m.getD j Dat.d0
def eqInt_R (r : Th (Bool)) : AV := .b fun _ => (r ())
def eqInt_S (l : (List Int)) (m : (List Int)) : Bool := decide (l = m)
def eqInt_P (l : (List Int)) (m : (List Int)) : Prop := l.length ≤ 9223372036854775807
def eqInt_D : Det := fun A => match A with
  | [l, m] => some (fun _ => Leaf.ok (List Int) l ∧ Leaf.ok (List Int) m ∧ eqInt_P (Leaf.val l) (Leaf.val m), eqInt_R fun _ => eqInt_S (Leaf.val l) (Leaf.val m))
  | _ => none
set_option maxRecDepth 100000 in
set_option maxHeartbeats 4000000 in
theorem eqInt_vc (l : (List Int)) (m : (List Int)) (hp : eqInt_P l m) : FnOk Try.prog 17 [Leaf.av fun _ => l, Leaf.av fun _ => m] [] (outA (eqInt_R fun _ => eqInt_S l m) []) := by
  refine fn_ok envOk zl noCon_ok (draws_ok envOk zl noDet_ok mixed) (keep := [0, 1, 4, 5, 10, 12, 13, 14, 24]) Try.func17 rfl ?_
  have hp' : l.length ≤ 9223372036854775807 := hp
  have fin : ∀ (b : Bool) H kl, b = decide (l = m) → outA (eqInt_R fun _ => eqInt_S l m) [] (.bc b) H kl := by
    rintro b H kl rfl
    cbv
    repeat' first | (refine Stp.mk ?_; cbv) | (refine Gen.mk fun r hr => ?_; (try simp only [Dat.ok, Dat.dec, Leaf.ok, Leaf.val, Z0, Z1, Z2, Z3, Z4, Z5, Z6, Z7, val_sl, val_nil] at hr); cbv) | exact trivial | rfl | refine Both.mk ?_ ?_ | (refine Imp.mk fun h => ?_; (try dsimp only at h); (try simp only [nc, Int.toNat_natCast, ne_eq, zz] at h); (try simp only [nc] at h)) | refine Ob.mk ?_ ?_ | refine Chk.mk (by kernel_rfl) ?_ | refine Eq'.mk ?_ | (refine AllN.mk fun i hi => ?_; cbv) | (refine AllC.mk fun c hc hcm => ?_; (try dsimp only at hc); cbv) | (refine AllS.mk fun r hr => ?_; (try simp only [Dat.ok, Dat.dec, Leaf.ok, Leaf.val, Z0, Z1, Z2, Z3, Z4, Z5, Z6, Z7, val_sl] at hr); cbv)
  generalize outA (eqInt_R fun _ => eqInt_S l m) [] = K at fin
  cbv
  refine Both.mk (Imp.mk fun h1 => ?_) (Imp.mk fun h1 => ?_)
  all_goals (refine Stp.mk ?_; cbv; (try dsimp only at h1); (try simp only [nc, Int.toNat_natCast, ne_eq, zz] at h1); (try simp only [nc] at h1))
  · refine fin _ _ _ ?_
    exact (decide_eq_false (fun h => by subst h; omega)).symm
  · have hlen : l.length = m.length := by omega
    refine LoopVC.frame [4, 5, 13, 14, 24] (eqInt_X l m) (fun x => [(13, .i .i64 fun _ => x.k)]) (fun _ => []) [] (fun x => l.length - x.k)
      ⟨0, Nat.zero_le _, fun j hj => absurd hj (Nat.not_lt_zero _)⟩ rfl (fun _ => rfl) ?_ ?_ fun ⟨k, hk, hv⟩ => ?_
    · cbv
      repeat' first | (refine Stp.mk ?_; cbv) | (refine Gen.mk fun r hr => ?_; (try simp only [Dat.ok, Dat.dec, Leaf.ok, Leaf.val, Z0, Z1, Z2, Z3, Z4, Z5, Z6, Z7, val_sl, val_nil] at hr); cbv) | exact trivial | rfl | refine Both.mk ?_ ?_ | (refine Imp.mk fun h => ?_; (try dsimp only at h); (try simp only [nc, Int.toNat_natCast, ne_eq, zz] at h); (try simp only [nc] at h)) | refine Ob.mk ?_ ?_ | refine Chk.mk (by kernel_rfl) ?_ | refine Eq'.mk ?_ | (refine AllN.mk fun i hi => ?_; cbv) | (refine AllC.mk fun c hc hcm => ?_; (try dsimp only at hc); cbv) | (refine AllS.mk fun r hr => ?_; (try simp only [Dat.ok, Dat.dec, Leaf.ok, Leaf.val, Z0, Z1, Z2, Z3, Z4, Z5, Z6, Z7, val_sl] at hr); cbv)
    · cbv
    · cbv
      repeat' first | (refine Stp.mk ?_; cbv) | (refine Gen.mk fun r hr => ?_; (try simp only [Dat.ok, Dat.dec, Leaf.ok, Leaf.val, Z0, Z1, Z2, Z3, Z4, Z5, Z6, Z7, val_sl, val_nil] at hr); cbv) | exact trivial | rfl | refine Both.mk ?_ ?_ | (refine Imp.mk fun h => ?_; (try dsimp only at h); (try simp only [nc, Int.toNat_natCast, ne_eq, zz] at h); (try simp only [nc] at h)) | refine Ob.mk ?_ ?_ | refine Chk.mk (by kernel_rfl) ?_ | refine Eq'.mk ?_ | (refine AllN.mk fun i hi => ?_; cbv) | (refine AllC.mk fun c hc hcm => ?_; (try dsimp only at hc); cbv) | (refine AllS.mk fun r hr => ?_; (try simp only [Dat.ok, Dat.dec, Leaf.ok, Leaf.val, Z0, Z1, Z2, Z3, Z4, Z5, Z6, Z7, val_sl] at hr); cbv)
      all_goals ((try dsimp only at *); (try simp only [nc, Int.toNat_natCast, ne_eq, zz] at *); (try simp only [nc] at *))
      all_goals first
        | omega
        | (unfold InR; omega)
        | (refine fin _ _ _ (decide_eq_true ?_).symm
           apply List.ext_getElem hlen
           intro i h1 h2
           have := hv i (by omega)
           simpa [h1, h2] using this)
        | (refine fin _ _ _ (decide_eq_false fun h => ?_).symm
           subst h
           simp_all; done)
        | skip
      all_goals (
        refine ⟨⟨k + 1, by omega, fun j hj => ?_⟩, ?_, trivial, rfl, by (try dsimp only); omega⟩
        · rcases Nat.lt_succ_iff_lt_or_eq.1 hj with hj | rfl
          · exact hv j hj
          · first | assumption | (generalize l.getD j Dat.d0 = a at *; generalize m.getD j Dat.d0 = b at *; cases a; cases b; simp_all; done)
        · cbv
          repeat' first | (refine Stp.mk ?_; cbv) | (refine Gen.mk fun r hr => ?_; (try simp only [Dat.ok, Dat.dec, Leaf.ok, Leaf.val, Z0, Z1, Z2, Z3, Z4, Z5, Z6, Z7, val_sl, val_nil] at hr); cbv) | exact trivial | rfl | refine Both.mk ?_ ?_ | (refine Imp.mk fun h => ?_; (try dsimp only at h); (try simp only [nc, Int.toNat_natCast, ne_eq, zz] at h); (try simp only [nc] at h)) | refine Ob.mk ?_ ?_ | refine Chk.mk (by kernel_rfl) ?_ | refine Eq'.mk ?_ | (refine AllN.mk fun i hi => ?_; cbv) | (refine AllC.mk fun c hc hcm => ?_; (try dsimp only at hc); cbv) | (refine AllS.mk fun r hr => ?_; (try simp only [Dat.ok, Dat.dec, Leaf.ok, Leaf.val, Z0, Z1, Z2, Z3, Z4, Z5, Z6, Z7, val_sl] at hr); cbv))
theorem eqInt_ok : PcOk Try.prog 17 (detPC eqInt_D) := det_okA fun A p r h hp0 => by
  unfold eqInt_D at h
  split at h
  · rename_i l m
    cases h
    obtain ⟨g0, g1, hp⟩ := hp0
    exact ⟨rfl, FnOk.pre (A' := [Leaf.av fun _ => (Leaf.val l : (List Int)), Leaf.av fun _ => (Leaf.val m : (List Int))]) (eqInt_vc (Leaf.val l) (Leaf.val m) hp) (.mk (Leaf.hle _ g0) (.mk (Leaf.hle _ g1) (trivial)))⟩
  · cases h
structure eqWin_X (l m : List Window) where
  k : Nat
  hk : k ≤ l.length
  hv : ∀ j, j < k → l.getD j Dat.d0 = m.getD j Dat.d0
def eqWin_R (r : Th (Bool)) : AV := .b fun _ => (r ())
def eqWin_S (l : (List Window)) (m : (List Window)) : Bool := decide (l = m)
def eqWin_P (l : (List Window)) (m : (List Window)) : Prop := l.length ≤ 9223372036854775807
def eqWin_D : Det := fun A => match A with
  | [l, m] => some (fun _ => Leaf.ok (List Window) l ∧ Leaf.ok (List Window) m ∧ eqWin_P (Leaf.val l) (Leaf.val m), eqWin_R fun _ => eqWin_S (Leaf.val l) (Leaf.val m))
  | _ => none
set_option maxRecDepth 100000 in
set_option maxHeartbeats 4000000 in
theorem eqWin_vc (l : (List Window)) (m : (List Window)) (hp : eqWin_P l m) : FnOk Try.prog 28 [Leaf.av fun _ => l, Leaf.av fun _ => m] [] (outA (eqWin_R fun _ => eqWin_S l m) []) := by
  refine fn_ok envOk zl noCon_ok (draws_ok envOk zl noDet_ok mixed) (keep := [0, 1, 4, 5, 10, 12, 13, 14, 24]) Try.func28 rfl ?_
  have hp' : l.length ≤ 9223372036854775807 := hp
  have fin : ∀ (b : Bool) H kl, b = decide (l = m) → outA (eqWin_R fun _ => eqWin_S l m) [] (.bc b) H kl := by
    rintro b H kl rfl
    cbv
    repeat' first | (refine Stp.mk ?_; cbv) | (refine Gen.mk fun r hr => ?_; (try simp only [Dat.ok, Dat.dec, Leaf.ok, Leaf.val, Z0, Z1, Z2, Z3, Z4, Z5, Z6, Z7, val_sl, val_nil] at hr); cbv) | exact trivial | rfl | refine Both.mk ?_ ?_ | (refine Imp.mk fun h => ?_; (try dsimp only at h); (try simp only [nc, Int.toNat_natCast, ne_eq, zz] at h); (try simp only [nc] at h)) | refine Ob.mk ?_ ?_ | refine Chk.mk (by kernel_rfl) ?_ | refine Eq'.mk ?_ | (refine AllN.mk fun i hi => ?_; cbv) | (refine AllC.mk fun c hc hcm => ?_; (try dsimp only at hc); cbv) | (refine AllS.mk fun r hr => ?_; (try simp only [Dat.ok, Dat.dec, Leaf.ok, Leaf.val, Z0, Z1, Z2, Z3, Z4, Z5, Z6, Z7, val_sl] at hr); cbv)
  generalize outA (eqWin_R fun _ => eqWin_S l m) [] = K at fin
  cbv
  refine Both.mk (Imp.mk fun h1 => ?_) (Imp.mk fun h1 => ?_)
  all_goals (refine Stp.mk ?_; cbv; (try dsimp only at h1); (try simp only [nc, Int.toNat_natCast, ne_eq, zz] at h1); (try simp only [nc] at h1))
  · refine fin _ _ _ ?_
    exact (decide_eq_false (fun h => by subst h; omega)).symm
  · have hlen : l.length = m.length := by omega
    refine LoopVC.frame [4, 5, 13, 14, 24] (eqWin_X l m) (fun x => [(13, .i .i64 fun _ => x.k)]) (fun _ => []) [] (fun x => l.length - x.k)
      ⟨0, Nat.zero_le _, fun j hj => absurd hj (Nat.not_lt_zero _)⟩ rfl (fun _ => rfl) ?_ ?_ fun ⟨k, hk, hv⟩ => ?_
    · cbv
      repeat' first | (refine Stp.mk ?_; cbv) | (refine Gen.mk fun r hr => ?_; (try simp only [Dat.ok, Dat.dec, Leaf.ok, Leaf.val, Z0, Z1, Z2, Z3, Z4, Z5, Z6, Z7, val_sl, val_nil] at hr); cbv) | exact trivial | rfl | refine Both.mk ?_ ?_ | (refine Imp.mk fun h => ?_; (try dsimp only at h); (try simp only [nc, Int.toNat_natCast, ne_eq, zz] at h); (try simp only [nc] at h)) | refine Ob.mk ?_ ?_ | refine Chk.mk (by kernel_rfl) ?_ | refine Eq'.mk ?_ | (refine AllN.mk fun i hi => ?_; cbv) | (refine AllC.mk fun c hc hcm => ?_; (try dsimp only at hc); cbv) | (refine AllS.mk fun r hr => ?_; (try simp only [Dat.ok, Dat.dec, Leaf.ok, Leaf.val, Z0, Z1, Z2, Z3, Z4, Z5, Z6, Z7, val_sl] at hr); cbv)
    · cbv
    · cbv
      repeat' first | (refine Stp.mk ?_; cbv) | (refine Gen.mk fun r hr => ?_; (try simp only [Dat.ok, Dat.dec, Leaf.ok, Leaf.val, Z0, Z1, Z2, Z3, Z4, Z5, Z6, Z7, val_sl, val_nil] at hr); cbv) | exact trivial | rfl | refine Both.mk ?_ ?_ | (refine Imp.mk fun h => ?_; (try dsimp only at h); (try simp only [nc, Int.toNat_natCast, ne_eq, zz] at h); (try simp only [nc] at h)) | refine Ob.mk ?_ ?_ | refine Chk.mk (by kernel_rfl) ?_ | refine Eq'.mk ?_ | (refine AllN.mk fun i hi => ?_; cbv) | (refine AllC.mk fun c hc hcm => ?_; (try dsimp only at hc); cbv) | (refine AllS.mk fun r hr => ?_; (try simp only [Dat.ok, Dat.dec, Leaf.ok, Leaf.val, Z0, Z1, Z2, Z3, Z4, Z5, Z6, Z7, val_sl] at hr); cbv)
      all_goals ((try dsimp only at *); (try simp only [nc, Int.toNat_natCast, ne_eq, zz] at *); (try simp only [nc] at *))
      all_goals first
        | omega
        | (unfold InR; omega)
        | (refine fin _ _ _ (decide_eq_true ?_).symm
           apply List.ext_getElem hlen
           intro i h1 h2
           have := hv i (by omega)
           simpa [h1, h2] using this)
        | (refine fin _ _ _ (decide_eq_false fun h => ?_).symm
           subst h
           simp_all; done)
        | skip
      all_goals (
        refine ⟨⟨k + 1, by omega, fun j hj => ?_⟩, ?_, trivial, rfl, by (try dsimp only); omega⟩
        · rcases Nat.lt_succ_iff_lt_or_eq.1 hj with hj | rfl
          · exact hv j hj
          · first | assumption | (generalize l.getD j Dat.d0 = a at *; generalize m.getD j Dat.d0 = b at *; cases a; cases b; simp_all; done)
        · cbv
          repeat' first | (refine Stp.mk ?_; cbv) | (refine Gen.mk fun r hr => ?_; (try simp only [Dat.ok, Dat.dec, Leaf.ok, Leaf.val, Z0, Z1, Z2, Z3, Z4, Z5, Z6, Z7, val_sl, val_nil] at hr); cbv) | exact trivial | rfl | refine Both.mk ?_ ?_ | (refine Imp.mk fun h => ?_; (try dsimp only at h); (try simp only [nc, Int.toNat_natCast, ne_eq, zz] at h); (try simp only [nc] at h)) | refine Ob.mk ?_ ?_ | refine Chk.mk (by kernel_rfl) ?_ | refine Eq'.mk ?_ | (refine AllN.mk fun i hi => ?_; cbv) | (refine AllC.mk fun c hc hcm => ?_; (try dsimp only at hc); cbv) | (refine AllS.mk fun r hr => ?_; (try simp only [Dat.ok, Dat.dec, Leaf.ok, Leaf.val, Z0, Z1, Z2, Z3, Z4, Z5, Z6, Z7, val_sl] at hr); cbv))
theorem eqWin_ok : PcOk Try.prog 28 (detPC eqWin_D) := det_okA fun A p r h hp0 => by
  unfold eqWin_D at h
  split at h
  · rename_i l m
    cases h
    obtain ⟨g0, g1, hp⟩ := hp0
    exact ⟨rfl, FnOk.pre (A' := [Leaf.av fun _ => (Leaf.val l : (List Window)), Leaf.av fun _ => (Leaf.val m : (List Window))]) (eqWin_vc (Leaf.val l) (Leaf.val m) hp) (.mk (Leaf.hle _ g0) (.mk (Leaf.hle _ g1) (trivial)))⟩
  · cases h
structure eqIns_X (l m : List Ins) where
  k : Nat
  hk : k ≤ l.length
  hv : ∀ j, j < k → l.getD j Dat.d0 = m.getD j Dat.d0
def eqIns_R (r : Th (Bool)) : AV := .b fun _ => (r ())
def eqIns_S (l : (List Ins)) (m : (List Ins)) : Bool := decide (l = m)
def eqIns_P (l : (List Ins)) (m : (List Ins)) : Prop := l.length ≤ 9223372036854775807
def eqIns_D : Det := fun A => match A with
  | [l, m] => some (fun _ => Leaf.ok (List Ins) l ∧ Leaf.ok (List Ins) m ∧ eqIns_P (Leaf.val l) (Leaf.val m), eqIns_R fun _ => eqIns_S (Leaf.val l) (Leaf.val m))
  | _ => none
set_option maxRecDepth 100000 in
set_option maxHeartbeats 4000000 in
theorem eqIns_vc (l : (List Ins)) (m : (List Ins)) (hp : eqIns_P l m) : FnOk Try.prog 15 [Leaf.av fun _ => l, Leaf.av fun _ => m] [] (outA (eqIns_R fun _ => eqIns_S l m) []) := by
  refine fn_ok envOk zl noCon_ok (draws_ok envOk zl noDet_ok mixed) (keep := [0, 1, 4, 5, 10, 12, 13, 14, 24]) Try.func15 rfl ?_
  have hp' : l.length ≤ 9223372036854775807 := hp
  have fin : ∀ (b : Bool) H kl, b = decide (l = m) → outA (eqIns_R fun _ => eqIns_S l m) [] (.bc b) H kl := by
    rintro b H kl rfl
    cbv
    repeat' first | (refine Stp.mk ?_; cbv) | (refine Gen.mk fun r hr => ?_; (try simp only [Dat.ok, Dat.dec, Leaf.ok, Leaf.val, Z0, Z1, Z2, Z3, Z4, Z5, Z6, Z7, val_sl, val_nil] at hr); cbv) | exact trivial | rfl | refine Both.mk ?_ ?_ | (refine Imp.mk fun h => ?_; (try dsimp only at h); (try simp only [nc, Int.toNat_natCast, ne_eq, zz] at h); (try simp only [nc] at h)) | refine Ob.mk ?_ ?_ | refine Chk.mk (by kernel_rfl) ?_ | refine Eq'.mk ?_ | (refine AllN.mk fun i hi => ?_; cbv) | (refine AllC.mk fun c hc hcm => ?_; (try dsimp only at hc); cbv) | (refine AllS.mk fun r hr => ?_; (try simp only [Dat.ok, Dat.dec, Leaf.ok, Leaf.val, Z0, Z1, Z2, Z3, Z4, Z5, Z6, Z7, val_sl] at hr); cbv)
  generalize outA (eqIns_R fun _ => eqIns_S l m) [] = K at fin
  cbv
  refine Both.mk (Imp.mk fun h1 => ?_) (Imp.mk fun h1 => ?_)
  all_goals (refine Stp.mk ?_; cbv; (try dsimp only at h1); (try simp only [nc, Int.toNat_natCast, ne_eq, zz] at h1); (try simp only [nc] at h1))
  · refine fin _ _ _ ?_
    exact (decide_eq_false (fun h => by subst h; omega)).symm
  · have hlen : l.length = m.length := by omega
    refine LoopVC.frame [4, 5, 13, 14, 24] (eqIns_X l m) (fun x => [(13, .i .i64 fun _ => x.k)]) (fun _ => []) [] (fun x => l.length - x.k)
      ⟨0, Nat.zero_le _, fun j hj => absurd hj (Nat.not_lt_zero _)⟩ rfl (fun _ => rfl) ?_ ?_ fun ⟨k, hk, hv⟩ => ?_
    · cbv
      repeat' first | (refine Stp.mk ?_; cbv) | (refine Gen.mk fun r hr => ?_; (try simp only [Dat.ok, Dat.dec, Leaf.ok, Leaf.val, Z0, Z1, Z2, Z3, Z4, Z5, Z6, Z7, val_sl, val_nil] at hr); cbv) | exact trivial | rfl | refine Both.mk ?_ ?_ | (refine Imp.mk fun h => ?_; (try dsimp only at h); (try simp only [nc, Int.toNat_natCast, ne_eq, zz] at h); (try simp only [nc] at h)) | refine Ob.mk ?_ ?_ | refine Chk.mk (by kernel_rfl) ?_ | refine Eq'.mk ?_ | (refine AllN.mk fun i hi => ?_; cbv) | (refine AllC.mk fun c hc hcm => ?_; (try dsimp only at hc); cbv) | (refine AllS.mk fun r hr => ?_; (try simp only [Dat.ok, Dat.dec, Leaf.ok, Leaf.val, Z0, Z1, Z2, Z3, Z4, Z5, Z6, Z7, val_sl] at hr); cbv)
    · cbv
    · cbv
      repeat' first | (refine Stp.mk ?_; cbv) | (refine Gen.mk fun r hr => ?_; (try simp only [Dat.ok, Dat.dec, Leaf.ok, Leaf.val, Z0, Z1, Z2, Z3, Z4, Z5, Z6, Z7, val_sl, val_nil] at hr); cbv) | exact trivial | rfl | refine Both.mk ?_ ?_ | (refine Imp.mk fun h => ?_; (try dsimp only at h); (try simp only [nc, Int.toNat_natCast, ne_eq, zz] at h); (try simp only [nc] at h)) | refine Ob.mk ?_ ?_ | refine Chk.mk (by kernel_rfl) ?_ | refine Eq'.mk ?_ | (refine AllN.mk fun i hi => ?_; cbv) | (refine AllC.mk fun c hc hcm => ?_; (try dsimp only at hc); cbv) | (refine AllS.mk fun r hr => ?_; (try simp only [Dat.ok, Dat.dec, Leaf.ok, Leaf.val, Z0, Z1, Z2, Z3, Z4, Z5, Z6, Z7, val_sl] at hr); cbv)
      all_goals ((try dsimp only at *); (try simp only [nc, Int.toNat_natCast, ne_eq, zz] at *); (try simp only [nc] at *))
      all_goals first
        | omega
        | (unfold InR; omega)
        | (refine fin _ _ _ (decide_eq_true ?_).symm
           apply List.ext_getElem hlen
           intro i h1 h2
           have := hv i (by omega)
           simpa [h1, h2] using this)
        | (refine fin _ _ _ (decide_eq_false fun h => ?_).symm
           subst h
           simp_all; done)
        | skip
      all_goals (
        refine ⟨⟨k + 1, by omega, fun j hj => ?_⟩, ?_, trivial, rfl, by (try dsimp only); omega⟩
        · rcases Nat.lt_succ_iff_lt_or_eq.1 hj with hj | rfl
          · exact hv j hj
          · first | assumption | (generalize l.getD j Dat.d0 = a at *; generalize m.getD j Dat.d0 = b at *; cases a; cases b; simp_all; done)
        · cbv
          repeat' first | (refine Stp.mk ?_; cbv) | (refine Gen.mk fun r hr => ?_; (try simp only [Dat.ok, Dat.dec, Leaf.ok, Leaf.val, Z0, Z1, Z2, Z3, Z4, Z5, Z6, Z7, val_sl, val_nil] at hr); cbv) | exact trivial | rfl | refine Both.mk ?_ ?_ | (refine Imp.mk fun h => ?_; (try dsimp only at h); (try simp only [nc, Int.toNat_natCast, ne_eq, zz] at h); (try simp only [nc] at h)) | refine Ob.mk ?_ ?_ | refine Chk.mk (by kernel_rfl) ?_ | refine Eq'.mk ?_ | (refine AllN.mk fun i hi => ?_; cbv) | (refine AllC.mk fun c hc hcm => ?_; (try dsimp only at hc); cbv) | (refine AllS.mk fun r hr => ?_; (try simp only [Dat.ok, Dat.dec, Leaf.ok, Leaf.val, Z0, Z1, Z2, Z3, Z4, Z5, Z6, Z7, val_sl] at hr); cbv))
theorem eqIns_ok : PcOk Try.prog 15 (detPC eqIns_D) := det_okA fun A p r h hp0 => by
  unfold eqIns_D at h
  split at h
  · rename_i l m
    cases h
    obtain ⟨g0, g1, hp⟩ := hp0
    exact ⟨rfl, FnOk.pre (A' := [Leaf.av fun _ => (Leaf.val l : (List Ins)), Leaf.av fun _ => (Leaf.val m : (List Ins))]) (eqIns_vc (Leaf.val l) (Leaf.val m) hp) (.mk (Leaf.hle _ g0) (.mk (Leaf.hle _ g1) (trivial)))⟩
  · cases h
structure eqWire_X (l m : List Wire) where
  k : Nat
  hk : k ≤ l.length
  hv : ∀ j, j < k → l.getD j Dat.d0 = m.getD j Dat.d0
def eqWire_R (r : Th (Bool)) : AV := .b fun _ => (r ())
def eqWire_S (l : (List Wire)) (m : (List Wire)) : Bool := decide (l = m)
def eqWire_P (l : (List Wire)) (m : (List Wire)) : Prop := l.length ≤ 9223372036854775807
def eqWire_D : Det := fun A => match A with
  | [l, m] => some (fun _ => Leaf.ok (List Wire) l ∧ Leaf.ok (List Wire) m ∧ eqWire_P (Leaf.val l) (Leaf.val m), eqWire_R fun _ => eqWire_S (Leaf.val l) (Leaf.val m))
  | _ => none
set_option maxRecDepth 100000 in
set_option maxHeartbeats 4000000 in
theorem eqWire_vc (l : (List Wire)) (m : (List Wire)) (hp : eqWire_P l m) : FnOk Try.prog 14 [Leaf.av fun _ => l, Leaf.av fun _ => m] [] (outA (eqWire_R fun _ => eqWire_S l m) []) := by
  refine fn_ok envOk zl noCon_ok (draws_ok envOk zl noDet_ok mixed) (keep := [0, 1, 4, 5, 10, 12, 13, 14, 24]) Try.func14 rfl ?_
  have hp' : l.length ≤ 9223372036854775807 := hp
  have fin : ∀ (b : Bool) H kl, b = decide (l = m) → outA (eqWire_R fun _ => eqWire_S l m) [] (.bc b) H kl := by
    rintro b H kl rfl
    cbv
    repeat' first | (refine Stp.mk ?_; cbv) | (refine Gen.mk fun r hr => ?_; (try simp only [Dat.ok, Dat.dec, Leaf.ok, Leaf.val, Z0, Z1, Z2, Z3, Z4, Z5, Z6, Z7, val_sl, val_nil] at hr); cbv) | exact trivial | rfl | refine Both.mk ?_ ?_ | (refine Imp.mk fun h => ?_; (try dsimp only at h); (try simp only [nc, Int.toNat_natCast, ne_eq, zz] at h); (try simp only [nc] at h)) | refine Ob.mk ?_ ?_ | refine Chk.mk (by kernel_rfl) ?_ | refine Eq'.mk ?_ | (refine AllN.mk fun i hi => ?_; cbv) | (refine AllC.mk fun c hc hcm => ?_; (try dsimp only at hc); cbv) | (refine AllS.mk fun r hr => ?_; (try simp only [Dat.ok, Dat.dec, Leaf.ok, Leaf.val, Z0, Z1, Z2, Z3, Z4, Z5, Z6, Z7, val_sl] at hr); cbv)
  generalize outA (eqWire_R fun _ => eqWire_S l m) [] = K at fin
  cbv
  refine Both.mk (Imp.mk fun h1 => ?_) (Imp.mk fun h1 => ?_)
  all_goals (refine Stp.mk ?_; cbv; (try dsimp only at h1); (try simp only [nc, Int.toNat_natCast, ne_eq, zz] at h1); (try simp only [nc] at h1))
  · refine fin _ _ _ ?_
    exact (decide_eq_false (fun h => by subst h; omega)).symm
  · have hlen : l.length = m.length := by omega
    refine LoopVC.frame [4, 5, 13, 14, 24] (eqWire_X l m) (fun x => [(13, .i .i64 fun _ => x.k)]) (fun _ => []) [] (fun x => l.length - x.k)
      ⟨0, Nat.zero_le _, fun j hj => absurd hj (Nat.not_lt_zero _)⟩ rfl (fun _ => rfl) ?_ ?_ fun ⟨k, hk, hv⟩ => ?_
    · cbv
      repeat' first | (refine Stp.mk ?_; cbv) | (refine Gen.mk fun r hr => ?_; (try simp only [Dat.ok, Dat.dec, Leaf.ok, Leaf.val, Z0, Z1, Z2, Z3, Z4, Z5, Z6, Z7, val_sl, val_nil] at hr); cbv) | exact trivial | rfl | refine Both.mk ?_ ?_ | (refine Imp.mk fun h => ?_; (try dsimp only at h); (try simp only [nc, Int.toNat_natCast, ne_eq, zz] at h); (try simp only [nc] at h)) | refine Ob.mk ?_ ?_ | refine Chk.mk (by kernel_rfl) ?_ | refine Eq'.mk ?_ | (refine AllN.mk fun i hi => ?_; cbv) | (refine AllC.mk fun c hc hcm => ?_; (try dsimp only at hc); cbv) | (refine AllS.mk fun r hr => ?_; (try simp only [Dat.ok, Dat.dec, Leaf.ok, Leaf.val, Z0, Z1, Z2, Z3, Z4, Z5, Z6, Z7, val_sl] at hr); cbv)
    · cbv
    · cbv
      repeat' first | (refine Stp.mk ?_; cbv) | (refine Gen.mk fun r hr => ?_; (try simp only [Dat.ok, Dat.dec, Leaf.ok, Leaf.val, Z0, Z1, Z2, Z3, Z4, Z5, Z6, Z7, val_sl, val_nil] at hr); cbv) | exact trivial | rfl | refine Both.mk ?_ ?_ | (refine Imp.mk fun h => ?_; (try dsimp only at h); (try simp only [nc, Int.toNat_natCast, ne_eq, zz] at h); (try simp only [nc] at h)) | refine Ob.mk ?_ ?_ | refine Chk.mk (by kernel_rfl) ?_ | refine Eq'.mk ?_ | (refine AllN.mk fun i hi => ?_; cbv) | (refine AllC.mk fun c hc hcm => ?_; (try dsimp only at hc); cbv) | (refine AllS.mk fun r hr => ?_; (try simp only [Dat.ok, Dat.dec, Leaf.ok, Leaf.val, Z0, Z1, Z2, Z3, Z4, Z5, Z6, Z7, val_sl] at hr); cbv)
      all_goals ((try dsimp only at *); (try simp only [nc, Int.toNat_natCast, ne_eq, zz] at *); (try simp only [nc] at *))
      all_goals first
        | omega
        | (unfold InR; omega)
        | (refine fin _ _ _ (decide_eq_true ?_).symm
           apply List.ext_getElem hlen
           intro i h1 h2
           have := hv i (by omega)
           simpa [h1, h2] using this)
        | (refine fin _ _ _ (decide_eq_false fun h => ?_).symm
           subst h
           simp_all; done)
        | skip
      all_goals (
        refine ⟨⟨k + 1, by omega, fun j hj => ?_⟩, ?_, trivial, rfl, by (try dsimp only); omega⟩
        · rcases Nat.lt_succ_iff_lt_or_eq.1 hj with hj | rfl
          · exact hv j hj
          · first | assumption | (generalize l.getD j Dat.d0 = a at *; generalize m.getD j Dat.d0 = b at *; cases a; cases b; simp_all; done)
        · cbv
          repeat' first | (refine Stp.mk ?_; cbv) | (refine Gen.mk fun r hr => ?_; (try simp only [Dat.ok, Dat.dec, Leaf.ok, Leaf.val, Z0, Z1, Z2, Z3, Z4, Z5, Z6, Z7, val_sl, val_nil] at hr); cbv) | exact trivial | rfl | refine Both.mk ?_ ?_ | (refine Imp.mk fun h => ?_; (try dsimp only at h); (try simp only [nc, Int.toNat_natCast, ne_eq, zz] at h); (try simp only [nc] at h)) | refine Ob.mk ?_ ?_ | refine Chk.mk (by kernel_rfl) ?_ | refine Eq'.mk ?_ | (refine AllN.mk fun i hi => ?_; cbv) | (refine AllC.mk fun c hc hcm => ?_; (try dsimp only at hc); cbv) | (refine AllS.mk fun r hr => ?_; (try simp only [Dat.ok, Dat.dec, Leaf.ok, Leaf.val, Z0, Z1, Z2, Z3, Z4, Z5, Z6, Z7, val_sl] at hr); cbv))
theorem eqWire_ok : PcOk Try.prog 14 (detPC eqWire_D) := det_okA fun A p r h hp0 => by
  unfold eqWire_D at h
  split at h
  · rename_i l m
    cases h
    obtain ⟨g0, g1, hp⟩ := hp0
    exact ⟨rfl, FnOk.pre (A' := [Leaf.av fun _ => (Leaf.val l : (List Wire)), Leaf.av fun _ => (Leaf.val m : (List Wire))]) (eqWire_vc (Leaf.val l) (Leaf.val m) hp) (.mk (Leaf.hle _ g0) (.mk (Leaf.hle _ g1) (trivial)))⟩
  · cases h
noncomputable def cSv : FuncId → Con := fun f => match f with
  | 17 => pureCon (detPC eqInt_D)
  | _ => fun _ _ _ => Bad 1001
theorem cSv_ok : ConOk Try.prog cSv := fun f A H K h => by
  unfold cSv at h
  split at h
  · exact ⟨⟨Try.f17, Try.func17, by kernel_rfl, by kernel_rfl⟩, pureCon_ok eqInt_ok h⟩
  · cases h
def sameV_R (r : Th (Bool)) : AV := .b fun _ => (r ())
def sameV_S (a : Vm) (b : Vm) : Bool := decide (a = b)
def sameV_P (a : Vm) (b : Vm) : Prop := a.regs.length ≤ 9223372036854775807
def sameV_D : Det := fun A => match A with
  | [.agg a, .agg b] => some (fun _ => Dat.ok Vm a ∧ Dat.ok Vm b ∧ sameV_P (Dat.dec a) (Dat.dec b), sameV_R fun _ => sameV_S (Dat.dec a) (Dat.dec b))
  | _ => none
set_option maxRecDepth 100000 in
set_option maxHeartbeats 4000000 in
theorem sameV_vc (a : Vm) (b : Vm) (hp : sameV_P a b) : FnOk Try.prog 16 [.agg (Dat.enc fun _ => a), .agg (Dat.enc fun _ => b)] [] (outA (sameV_R fun _ => sameV_S a b) []) := by
  refine fn_ok envOk zl cSv_ok noDraws_ok (keep := [0, 1, 2, 3, 4]) Try.func16 rfl ?_
  have hp' : a.regs.length ≤ 9223372036854775807 := hp
  have e : (a = b) ↔ (a.at_ = b.at_ ∧ a.regs = b.regs ∧ a.halts = b.halts ∧ a.fault = b.fault) := by
    constructor
    · rintro rfl; exact ⟨rfl, rfl, rfl, rfl⟩
    · obtain ⟨a1, a2, a3, a4⟩ := a
      obtain ⟨b1, b2, b3, b4⟩ := b
      rintro ⟨h1, h2, h3, h4⟩
      dsimp only at h1 h2 h3 h4
      subst h1 h2 h3 h4
      rfl
  cbv
  repeat' first | (show Stp _; exfalso; first | omega | (exact h ‹_›) | (exact absurd ‹_› h) | (exact Bool.false_ne_true (h.symm.trans (show _ = true by assumption)))) | (refine Stp.mk ?_; cbv) | (refine Gen.mk fun r hr => ?_; (try simp only [Dat.ok, Dat.dec, Leaf.ok, Leaf.val, Z0, Z1, Z2, Z3, Z4, Z5, Z6, Z7, val_sl, val_nil] at hr); cbv) | exact trivial | rfl | refine Both.mk ?_ ?_ | (refine Imp.mk fun h => ?_; (try dsimp only at h); (try simp only [nc, Int.toNat_natCast, ne_eq, zz] at h); (try simp only [nc] at h)) | refine Ob.mk ?_ ?_ | refine Chk.mk (by kernel_rfl) ?_ | refine Eq'.mk ?_ | (refine AllN.mk fun i hi => ?_; cbv) | (refine AllC.mk fun c hc hcm => ?_; (try dsimp only at hc); cbv) | (refine AllS.mk fun r hr => ?_; (try simp only [Dat.ok, Dat.dec, Leaf.ok, Leaf.val, Z0, Z1, Z2, Z3, Z4, Z5, Z6, Z7, val_sl] at hr); cbv)
  all_goals ((try dsimp only at *); (try simp only [nc, Int.toNat_natCast, ne_eq, zz] at *); (try simp only [nc] at *))
  all_goals try simp only [Dat.dec, Leaf.val, Z0, Z1, Z2, Z3, Z4, Z5, Z6, Z7, val_sl] at *
  all_goals first
    | exact ⟨⟨rfl, fun i _ => Dat.hok _⟩, ⟨rfl, fun i _ => Dat.hok _⟩, hp'⟩
    | (show _ = decide (a = b)
       rw [Bool.eq_iff_iff, decide_eq_true_iff, e]
       clear e
       simp_all [eqInt_S, eqWin_S, eqIns_S]
       done)
    | fail
theorem sameV_ok : PcOk Try.prog 16 (detPC sameV_D) := det_okA fun A p r h hp0 => by
  unfold sameV_D at h
  split at h
  · rename_i a b
    cases h
    obtain ⟨g0, g1, hp⟩ := hp0
    exact ⟨rfl, FnOk.pre (A' := [.agg (Dat.enc fun _ => (Dat.dec a : Vm)), .agg (Dat.enc fun _ => (Dat.dec b : Vm))]) (sameV_vc (Dat.dec a) (Dat.dec b) hp) (.mk (Dat.hle _ g0) (.mk (Dat.hle _ g1) (trivial)))⟩
  · cases h
noncomputable def cSt : FuncId → Con := fun f => match f with
  | 28 => pureCon (detPC eqWin_D)
  | _ => fun _ _ _ => Bad 1001
theorem cSt_ok : ConOk Try.prog cSt := fun f A H K h => by
  unfold cSt at h
  split at h
  · exact ⟨⟨Try.f28, Try.func28, by kernel_rfl, by kernel_rfl⟩, pureCon_ok eqWin_ok h⟩
  · cases h
def sameT_R (r : Th (Bool)) : AV := .b fun _ => (r ())
def sameT_S (a : Table) (b : Table) : Bool := decide (a = b)
def sameT_P (a : Table) (b : Table) : Prop := a.windows.length ≤ 9223372036854775807
def sameT_D : Det := fun A => match A with
  | [.agg a, .agg b] => some (fun _ => Dat.ok Table a ∧ Dat.ok Table b ∧ sameT_P (Dat.dec a) (Dat.dec b), sameT_R fun _ => sameT_S (Dat.dec a) (Dat.dec b))
  | _ => none
set_option maxRecDepth 100000 in
set_option maxHeartbeats 4000000 in
theorem sameT_vc (a : Table) (b : Table) (hp : sameT_P a b) : FnOk Try.prog 13 [.agg (Dat.enc fun _ => a), .agg (Dat.enc fun _ => b)] [] (outA (sameT_R fun _ => sameT_S a b) []) := by
  refine fn_ok envOk zl cSt_ok noDraws_ok (keep := [0, 1, 2, 3, 4]) Try.func13 rfl ?_
  have hp' : a.windows.length ≤ 9223372036854775807 := hp
  have e : (a = b) ↔ (a.frame = b.frame ∧ a.windows = b.windows) := by
    constructor
    · rintro rfl; exact ⟨rfl, rfl⟩
    · obtain ⟨a1, a2⟩ := a
      obtain ⟨b1, b2⟩ := b
      rintro ⟨h1, h2⟩
      dsimp only at h1 h2
      subst h1 h2
      rfl
  cbv
  repeat' first | (show Stp _; exfalso; first | omega | (exact h ‹_›) | (exact absurd ‹_› h) | (exact Bool.false_ne_true (h.symm.trans (show _ = true by assumption)))) | (refine Stp.mk ?_; cbv) | (refine Gen.mk fun r hr => ?_; (try simp only [Dat.ok, Dat.dec, Leaf.ok, Leaf.val, Z0, Z1, Z2, Z3, Z4, Z5, Z6, Z7, val_sl, val_nil] at hr); cbv) | exact trivial | rfl | refine Both.mk ?_ ?_ | (refine Imp.mk fun h => ?_; (try dsimp only at h); (try simp only [nc, Int.toNat_natCast, ne_eq, zz] at h); (try simp only [nc] at h)) | refine Ob.mk ?_ ?_ | refine Chk.mk (by kernel_rfl) ?_ | refine Eq'.mk ?_ | (refine AllN.mk fun i hi => ?_; cbv) | (refine AllC.mk fun c hc hcm => ?_; (try dsimp only at hc); cbv) | (refine AllS.mk fun r hr => ?_; (try simp only [Dat.ok, Dat.dec, Leaf.ok, Leaf.val, Z0, Z1, Z2, Z3, Z4, Z5, Z6, Z7, val_sl] at hr); cbv)
  all_goals ((try dsimp only at *); (try simp only [nc, Int.toNat_natCast, ne_eq, zz] at *); (try simp only [nc] at *))
  all_goals try simp only [Dat.dec, Leaf.val, Z0, Z1, Z2, Z3, Z4, Z5, Z6, Z7, val_sl] at *
  all_goals first
    | exact ⟨⟨rfl, fun i _ => Dat.hok _⟩, ⟨rfl, fun i _ => Dat.hok _⟩, hp'⟩
    | (show _ = decide (a = b)
       rw [Bool.eq_iff_iff, decide_eq_true_iff, e]
       clear e
       simp_all [eqInt_S, eqWin_S, eqIns_S]
       done)
    | fail
theorem sameT_ok : PcOk Try.prog 13 (detPC sameT_D) := det_okA fun A p r h hp0 => by
  unfold sameT_D at h
  split at h
  · rename_i a b
    cases h
    obtain ⟨g0, g1, hp⟩ := hp0
    exact ⟨rfl, FnOk.pre (A' := [.agg (Dat.enc fun _ => (Dat.dec a : Table)), .agg (Dat.enc fun _ => (Dat.dec b : Table))]) (sameT_vc (Dat.dec a) (Dat.dec b) hp) (.mk (Dat.hle _ g0) (.mk (Dat.hle _ g1) (trivial)))⟩
  · cases h
noncomputable def cSp : FuncId → Con := fun f => match f with
  | 17 => pureCon (detPC eqInt_D)
  | 15 => pureCon (detPC eqIns_D)
  | 16 => pureCon (detPC sameV_D)
  | _ => fun _ _ _ => Bad 1001
theorem cSp_ok : ConOk Try.prog cSp := fun f A H K h => by
  unfold cSp at h
  split at h
  · exact ⟨⟨Try.f17, Try.func17, by kernel_rfl, by kernel_rfl⟩, pureCon_ok eqInt_ok h⟩
  · exact ⟨⟨Try.f15, Try.func15, by kernel_rfl, by kernel_rfl⟩, pureCon_ok eqIns_ok h⟩
  · exact ⟨⟨Try.f16, Try.func16, by kernel_rfl, by kernel_rfl⟩, pureCon_ok sameV_ok h⟩
  · cases h
def sameP_R (r : Th (Bool)) : AV := .b fun _ => (r ())
def sameP_S (a : Part) (b : Part) : Bool := decide (a = b)
def sameP_P (a : Part) (b : Part) : Prop := a.code.length ≤ 9223372036854775807 ∧ a.vm.regs.length ≤ 9223372036854775807 ∧ a.box.length ≤ 9223372036854775807
def sameP_D : Det := fun A => match A with
  | [.agg a, .agg b] => some (fun _ => Dat.ok Part a ∧ Dat.ok Part b ∧ sameP_P (Dat.dec a) (Dat.dec b), sameP_R fun _ => sameP_S (Dat.dec a) (Dat.dec b))
  | _ => none
set_option maxRecDepth 100000 in
set_option maxHeartbeats 4000000 in
theorem sameP_vc (a : Part) (b : Part) (hp : sameP_P a b) : FnOk Try.prog 22 [.agg (Dat.enc fun _ => a), .agg (Dat.enc fun _ => b)] [] (outA (sameP_R fun _ => sameP_S a b) []) := by
  refine fn_ok envOk zl cSp_ok noDraws_ok (keep := [0, 1, 2, 3, 4]) Try.func22 rfl ?_
  obtain ⟨p1, p2, p3⟩ : a.code.length ≤ 9223372036854775807 ∧ a.vm.regs.length ≤ 9223372036854775807 ∧ a.box.length ≤ 9223372036854775807 := hp
  have e : (a = b) ↔ (a.code = b.code ∧ a.vm = b.vm ∧ a.box = b.box) := by
    constructor
    · rintro rfl; exact ⟨rfl, rfl, rfl⟩
    · obtain ⟨a1, a2, a3⟩ := a
      obtain ⟨b1, b2, b3⟩ := b
      rintro ⟨h1, h2, h3⟩
      dsimp only at h1 h2 h3
      subst h1 h2 h3
      rfl
  cbv
  repeat' first | (show Stp _; exfalso; first | omega | (exact h ‹_›) | (exact absurd ‹_› h) | (exact Bool.false_ne_true (h.symm.trans (show _ = true by assumption)))) | (refine Stp.mk ?_; cbv) | (refine Gen.mk fun r hr => ?_; (try simp only [Dat.ok, Dat.dec, Leaf.ok, Leaf.val, Z0, Z1, Z2, Z3, Z4, Z5, Z6, Z7, val_sl, val_nil] at hr); cbv) | exact trivial | rfl | refine Both.mk ?_ ?_ | (refine Imp.mk fun h => ?_; (try dsimp only at h); (try simp only [nc, Int.toNat_natCast, ne_eq, zz] at h); (try simp only [nc] at h)) | refine Ob.mk ?_ ?_ | refine Chk.mk (by kernel_rfl) ?_ | refine Eq'.mk ?_ | (refine AllN.mk fun i hi => ?_; cbv) | (refine AllC.mk fun c hc hcm => ?_; (try dsimp only at hc); cbv) | (refine AllS.mk fun r hr => ?_; (try simp only [Dat.ok, Dat.dec, Leaf.ok, Leaf.val, Z0, Z1, Z2, Z3, Z4, Z5, Z6, Z7, val_sl] at hr); cbv)
  all_goals ((try dsimp only at *); (try simp only [nc, Int.toNat_natCast, ne_eq, zz] at *); (try simp only [nc] at *))
  all_goals try simp only [Dat.dec, Leaf.val, Z0, Z1, Z2, Z3, Z4, Z5, Z6, Z7, val_sl] at *
  all_goals first
    | exact ⟨⟨rfl, fun i _ => Dat.hok _⟩, ⟨rfl, fun i _ => Dat.hok _⟩, by assumption⟩
    | exact ⟨Dat.hok fun _ => a.vm, Dat.hok fun _ => b.vm, p2⟩
    | (show _ = decide (a = b)
       rw [Bool.eq_iff_iff, decide_eq_true_iff, e]
       clear e
       simp_all [eqInt_S, eqWin_S, eqIns_S, sameV_S]
       done)
    | fail
theorem sameP_ok : PcOk Try.prog 22 (detPC sameP_D) := det_okA fun A p r h hp0 => by
  unfold sameP_D at h
  split at h
  · rename_i a b
    cases h
    obtain ⟨g0, g1, hp⟩ := hp0
    exact ⟨rfl, FnOk.pre (A' := [.agg (Dat.enc fun _ => (Dat.dec a : Part)), .agg (Dat.enc fun _ => (Dat.dec b : Part))]) (sameP_vc (Dat.dec a) (Dat.dec b) hp) (.mk (Dat.hle _ g0) (.mk (Dat.hle _ g1) (trivial)))⟩
  · cases h
def PLen (a : List Part) : Prop := ∀ p ∈ a, p.code.length ≤ 9223372036854775807 ∧ p.vm.regs.length ≤ 9223372036854775807 ∧ p.box.length ≤ 9223372036854775807
structure EpX (a b : List Part) where
  k : Nat
  hk : k ≤ a.length
  hv : ∀ j, j < k → a.getD j Dat.d0 = b.getD j Dat.d0
noncomputable def cSe : FuncId → Con := fun f => match f with
  | 22 => pureCon (detPC sameP_D)
  | _ => fun _ _ _ => Bad 1001
theorem cSe_ok : ConOk Try.prog cSe := fun f A H K h => by
  unfold cSe at h
  split at h
  · exact ⟨⟨Try.f22, Try.func22, by kernel_rfl, by kernel_rfl⟩, pureCon_ok sameP_ok h⟩
  · cases h
noncomputable def cSm0 : FuncId → Con := fun f => match f with
  | 29 => inlCon E cSe noDraws [0, 1, 2, 6, 7, 8, 9, 14, 15, 16, 17, 18, 30] Try.f29
  | 13 => pureCon (detPC sameT_D)
  | 14 => pureCon (detPC eqWire_D)
  | _ => fun _ _ _ => Bad 1001
theorem cSm0_ok : ConOk Try.prog cSm0 := fun f A H K h => by
  unfold cSm0 at h
  split at h
  · exact ⟨⟨Try.f29, Try.func29, by kernel_rfl, by kernel_rfl⟩, inl_ok envOk zl cSe_ok noDraws_ok Try.func29 h⟩
  · exact ⟨⟨Try.f13, Try.func13, by kernel_rfl, by kernel_rfl⟩, pureCon_ok sameT_ok h⟩
  · exact ⟨⟨Try.f14, Try.func14, by kernel_rfl, by kernel_rfl⟩, pureCon_ok eqWire_ok h⟩
  · cases h
def sameM_R (r : Th (Bool)) : AV := .b fun _ => (r ())
def sameM_S (a : Module) (b : Module) : Bool := decide (a = b)
def sameM_P (a : Module) (b : Module) : Prop := a.table.windows.length ≤ 9223372036854775807 ∧ a.parts.length ≤ 9223372036854775807 ∧ a.wires.length ≤ 9223372036854775807 ∧ PLen a.parts
def sameM_D : Det := fun A => match A with
  | [.agg a, .agg b] => some (fun _ => Dat.ok Module a ∧ Dat.ok Module b ∧ sameM_P (Dat.dec a) (Dat.dec b), sameM_R fun _ => sameM_S (Dat.dec a) (Dat.dec b))
  | _ => none
set_option maxRecDepth 100000 in
set_option maxHeartbeats 4000000 in
theorem sameM_vc (a : Module) (b : Module) (hp : sameM_P a b) : FnOk Try.prog 19 [.agg (Dat.enc fun _ => a), .agg (Dat.enc fun _ => b)] [] (outA (sameM_R fun _ => sameM_S a b) []) := by
  refine fn_ok envOk zl cSm0_ok noDraws_ok (keep := [0, 1, 2, 3, 4]) Try.func19 rfl ?_
  obtain ⟨p1, p2, p3, p4⟩ : a.table.windows.length ≤ 9223372036854775807 ∧ a.parts.length ≤ 9223372036854775807 ∧ a.wires.length ≤ 9223372036854775807 ∧ PLen a.parts := hp
  have e : (a = b) ↔ (a.table = b.table ∧ a.parts = b.parts ∧ a.wires = b.wires ∧ a.now = b.now ∧ a.lost = b.lost) := by
    constructor
    · rintro rfl; exact ⟨rfl, rfl, rfl, rfl, rfl⟩
    · obtain ⟨a1, a2, a3, a4, a5⟩ := a
      obtain ⟨b1, b2, b3, b4, b5⟩ := b
      rintro ⟨h1, h2, h3, h4, h5⟩
      dsimp only at h1 h2 h3 h4 h5
      subst h1 h2 h3 h4 h5
      rfl
  have fin : ∀ (c : Bool) H kl, c = decide (a = b) → outA (sameM_R fun _ => sameM_S a b) [] (.b fun _ => c) H kl := fun c H kl h => by
    subst h
    cbv
    repeat' first | (refine Stp.mk ?_; cbv) | (refine Gen.mk fun r hr => ?_; (try simp only [Dat.ok, Dat.dec, Leaf.ok, Leaf.val, Z0, Z1, Z2, Z3, Z4, Z5, Z6, Z7, val_sl, val_nil] at hr); cbv) | exact trivial | rfl | refine Both.mk ?_ ?_ | (refine Imp.mk fun h => ?_; (try dsimp only at h); (try simp only [nc, Int.toNat_natCast, ne_eq, zz] at h); (try simp only [nc] at h)) | refine Ob.mk ?_ ?_ | refine Chk.mk (by kernel_rfl) ?_ | refine Eq'.mk ?_ | (refine AllN.mk fun i hi => ?_; cbv) | (refine AllC.mk fun c hc hcm => ?_; (try dsimp only at hc); cbv) | (refine AllS.mk fun r hr => ?_; (try simp only [Dat.ok, Dat.dec, Leaf.ok, Leaf.val, Z0, Z1, Z2, Z3, Z4, Z5, Z6, Z7, val_sl] at hr); cbv)
  have fin0 : ∀ (c : Bool) H kl, c = decide (a = b) → outA (sameM_R fun _ => sameM_S a b) [] (.bc c) H kl := fun c H kl h => by
    subst h
    cbv
    repeat' first | (refine Stp.mk ?_; cbv) | (refine Gen.mk fun r hr => ?_; (try simp only [Dat.ok, Dat.dec, Leaf.ok, Leaf.val, Z0, Z1, Z2, Z3, Z4, Z5, Z6, Z7, val_sl, val_nil] at hr); cbv) | exact trivial | rfl | refine Both.mk ?_ ?_ | (refine Imp.mk fun h => ?_; (try dsimp only at h); (try simp only [nc, Int.toNat_natCast, ne_eq, zz] at h); (try simp only [nc] at h)) | refine Ob.mk ?_ ?_ | refine Chk.mk (by kernel_rfl) ?_ | refine Eq'.mk ?_ | (refine AllN.mk fun i hi => ?_; cbv) | (refine AllC.mk fun c hc hcm => ?_; (try dsimp only at hc); cbv) | (refine AllS.mk fun r hr => ?_; (try simp only [Dat.ok, Dat.dec, Leaf.ok, Leaf.val, Z0, Z1, Z2, Z3, Z4, Z5, Z6, Z7, val_sl] at hr); cbv)
  generalize outA (sameM_R fun _ => sameM_S a b) [] = K at fin fin0
  cbv
  repeat' first | (show Stp _; exfalso; first | omega | (exact h ‹_›) | (exact absurd ‹_› h) | (exact Bool.false_ne_true (h.symm.trans (show _ = true by assumption)))) | (refine Stp.mk ?_; cbv) | (refine Gen.mk fun r hr => ?_; (try simp only [Dat.ok, Dat.dec, Leaf.ok, Leaf.val, Z0, Z1, Z2, Z3, Z4, Z5, Z6, Z7, val_sl, val_nil] at hr); cbv) | exact trivial | rfl | refine Both.mk ?_ ?_ | (refine Imp.mk fun h => ?_; (try dsimp only at h); (try simp only [nc, Int.toNat_natCast, ne_eq, zz] at h); (try simp only [nc] at h)) | refine Ob.mk ?_ ?_ | refine Chk.mk (by kernel_rfl) ?_ | refine Eq'.mk ?_ | (refine AllN.mk fun i hi => ?_; cbv) | (refine AllC.mk fun c hc hcm => ?_; (try dsimp only at hc); cbv) | (refine AllS.mk fun r hr => ?_; (try simp only [Dat.ok, Dat.dec, Leaf.ok, Leaf.val, Z0, Z1, Z2, Z3, Z4, Z5, Z6, Z7, val_sl] at hr); cbv)
  all_goals ((try dsimp only at *); (try simp only [nc, Int.toNat_natCast, ne_eq, zz] at *); (try simp only [nc] at *))
  all_goals try simp only [Dat.dec, Leaf.val, Z0, Z1, Z2, Z3, Z4, Z5, Z6, Z7, val_sl] at *
  all_goals try first
    | exact ⟨Dat.hok fun _ => a.table, Dat.hok fun _ => b.table, p1⟩
    | (refine fin0 _ _ _ (decide_eq_false fun q => ?_).symm
       have q := e.1 q
       first
         | (have h9 : ¬ (a.parts.length : Int) = b.parts.length := by assumption
            rw [q.2.1] at h9
            exact h9 rfl)
         | (have h9 : sameT_S a.table b.table = false := by assumption
            exact of_decide_eq_false h9 q.1))
  have eT : a.table = b.table := of_decide_eq_true (show sameT_S a.table b.table = true by assumption)
  have eL : a.parts.length = b.parts.length := by omega
  have pl := fun k (h : k < a.parts.length) => p4 _ (show a.parts.getD k Dat.d0 ∈ a.parts by rw [List.getD_eq_getElem?_getD, List.getElem?_eq_getElem h]; exact List.getElem_mem h)
  refine LoopVC.frame [6, 7, 8, 9, 17, 18, 30] (EpX a.parts b.parts) (fun x => [(17, .i .i64 fun _ => x.k)]) (fun _ => []) [] (fun x => a.parts.length - x.k) ⟨0, Nat.zero_le _, fun j h => absurd h (Nat.not_lt_zero _)⟩ rfl (fun _ => rfl) ?_ ?_ fun ⟨k, hk, hv⟩ => ?_
  iterate 2
    · cbv
      repeat' first | (refine Stp.mk ?_; cbv) | (refine Gen.mk fun r hr => ?_; (try simp only [Dat.ok, Dat.dec, Leaf.ok, Leaf.val, Z0, Z1, Z2, Z3, Z4, Z5, Z6, Z7, val_sl, val_nil] at hr); cbv) | exact trivial | rfl | refine Both.mk ?_ ?_ | (refine Imp.mk fun h => ?_; (try dsimp only at h); (try simp only [nc, Int.toNat_natCast, ne_eq, zz] at h); (try simp only [nc] at h)) | refine Ob.mk ?_ ?_ | refine Chk.mk (by kernel_rfl) ?_ | refine Eq'.mk ?_ | (refine AllN.mk fun i hi => ?_; cbv) | (refine AllC.mk fun c hc hcm => ?_; (try dsimp only at hc); cbv) | (refine AllS.mk fun r hr => ?_; (try simp only [Dat.ok, Dat.dec, Leaf.ok, Leaf.val, Z0, Z1, Z2, Z3, Z4, Z5, Z6, Z7, val_sl] at hr); cbv)
  have lstE : a.parts.length ≤ k → a.parts = b.parts := fun h => by
    refine List.ext_getElem eL fun j h1 h2 => ?_
    have := hv j (by omega)
    rwa [List.getD_eq_getElem?_getD, List.getD_eq_getElem?_getD, List.getElem?_eq_getElem h1, List.getElem?_eq_getElem h2] at this
  cbv
  repeat' first | (show Stp _; exfalso; first | omega | (exact h ‹_›) | (exact absurd ‹_› h) | (exact Bool.false_ne_true (h.symm.trans (show _ = true by assumption)))) | (refine Stp.mk ?_; cbv) | (refine Gen.mk fun r hr => ?_; (try simp only [Dat.ok, Dat.dec, Leaf.ok, Leaf.val, Z0, Z1, Z2, Z3, Z4, Z5, Z6, Z7, val_sl, val_nil] at hr); cbv) | exact trivial | rfl | refine Both.mk ?_ ?_ | (refine Imp.mk fun h => ?_; (try dsimp only at h); (try simp only [nc, Int.toNat_natCast, ne_eq, zz] at h); (try simp only [nc] at h)) | refine Ob.mk ?_ ?_ | refine Chk.mk (by kernel_rfl) ?_ | refine Eq'.mk ?_ | (refine AllN.mk fun i hi => ?_; cbv) | (refine AllC.mk fun c hc hcm => ?_; (try dsimp only at hc); cbv) | (refine AllS.mk fun r hr => ?_; (try simp only [Dat.ok, Dat.dec, Leaf.ok, Leaf.val, Z0, Z1, Z2, Z3, Z4, Z5, Z6, Z7, val_sl] at hr); cbv)
  all_goals ((try dsimp only at *); (try simp only [nc, Int.toNat_natCast, ne_eq, zz] at *); (try simp only [nc] at *))
  all_goals try rw [nc] at *
  all_goals try simp only [Dat.dec, Leaf.val, Z0, Z1, Z2, Z3, Z4, Z5, Z6, Z7, val_sl] at *
  all_goals first
    | omega
    | (unfold InR; omega)
    | exact ⟨by omega, by omega⟩
    | exact ⟨Dat.hok fun _ => a.parts.getD k Dat.d0, Dat.hok fun _ => b.parts.getD k Dat.d0, pl k (by omega)⟩
    | exact ⟨⟨rfl, fun i _ => Dat.hok _⟩, ⟨rfl, fun i _ => Dat.hok _⟩, p3⟩
    | (have h9 : sameP_S (a.parts.getD k Dat.d0) (b.parts.getD k Dat.d0) = false := by assumption
       refine fin0 _ _ _ (decide_eq_false fun q => ?_).symm
       exact of_decide_eq_false h9 (by rw [(e.1 q).2.1]))
    | (have h9 : sameP_S (a.parts.getD k Dat.d0) (b.parts.getD k Dat.d0) = true := by assumption
       have h8 := of_decide_eq_true h9
       refine ⟨⟨k + 1, by omega, fun j hj => (by
         rcases Nat.lt_or_ge j k with z | z
         · exact hv j z
         · rw [show j = k by omega]; exact h8)⟩, ?_, ?_, rfl, by (try dsimp only); omega⟩
       · cbv
         repeat' first | (refine Stp.mk ?_; cbv) | (refine Gen.mk fun r hr => ?_; (try simp only [Dat.ok, Dat.dec, Leaf.ok, Leaf.val, Z0, Z1, Z2, Z3, Z4, Z5, Z6, Z7, val_sl, val_nil] at hr); cbv) | exact trivial | rfl | refine Both.mk ?_ ?_ | (refine Imp.mk fun h => ?_; (try dsimp only at h); (try simp only [nc, Int.toNat_natCast, ne_eq, zz] at h); (try simp only [nc] at h)) | refine Ob.mk ?_ ?_ | refine Chk.mk (by kernel_rfl) ?_ | refine Eq'.mk ?_ | (refine AllN.mk fun i hi => ?_; cbv) | (refine AllC.mk fun c hc hcm => ?_; (try dsimp only at hc); cbv) | (refine AllS.mk fun r hr => ?_; (try simp only [Dat.ok, Dat.dec, Leaf.ok, Leaf.val, Z0, Z1, Z2, Z3, Z4, Z5, Z6, Z7, val_sl] at hr); cbv)
       · cbv
         repeat' first | (refine Stp.mk ?_; cbv) | (refine Gen.mk fun r hr => ?_; (try simp only [Dat.ok, Dat.dec, Leaf.ok, Leaf.val, Z0, Z1, Z2, Z3, Z4, Z5, Z6, Z7, val_sl, val_nil] at hr); cbv) | exact trivial | rfl | refine Both.mk ?_ ?_ | (refine Imp.mk fun h => ?_; (try dsimp only at h); (try simp only [nc, Int.toNat_natCast, ne_eq, zz] at h); (try simp only [nc] at h)) | refine Ob.mk ?_ ?_ | refine Chk.mk (by kernel_rfl) ?_ | refine Eq'.mk ?_ | (refine AllN.mk fun i hi => ?_; cbv) | (refine AllC.mk fun c hc hcm => ?_; (try dsimp only at hc); cbv) | (refine AllS.mk fun r hr => ?_; (try simp only [Dat.ok, Dat.dec, Leaf.ok, Leaf.val, Z0, Z1, Z2, Z3, Z4, Z5, Z6, Z7, val_sl] at hr); cbv))
    | (have h9 : eqWire_S a.wires b.wires = false := by assumption
       refine fin0 _ _ _ (decide_eq_false fun q => ?_).symm
       exact of_decide_eq_false h9 (e.1 q).2.2.1)
    | (have h9 : ¬ a.now = b.now := by assumption
       refine fin0 _ _ _ (decide_eq_false fun q => ?_).symm
       exact h9 (e.1 q).2.2.2.1)
    | (have h9 : eqWire_S a.wires b.wires = true := by assumption
       have h8 := of_decide_eq_true h9
       have h7 : a.now = b.now := by assumption
       refine fin _ _ _ ?_
       rw [Bool.eq_iff_iff, decide_eq_true_iff, e]
       exact ⟨fun q => ⟨eT, lstE (by omega), h8, h7, by simpa using q⟩, fun q => by simpa using q.2.2.2.2⟩)
    | fail
theorem sameM_ok : PcOk Try.prog 19 (detPC sameM_D) := det_okA fun A p r h hp0 => by
  unfold sameM_D at h
  split at h
  · rename_i a b
    cases h
    obtain ⟨g0, g1, hp⟩ := hp0
    exact ⟨rfl, FnOk.pre (A' := [.agg (Dat.enc fun _ => (Dat.dec a : Module)), .agg (Dat.enc fun _ => (Dat.dec b : Module))]) (sameM_vc (Dat.dec a) (Dat.dec b) hp) (.mk (Dat.hle _ g0) (.mk (Dat.hle _ g1) (trivial)))⟩
  · cases h

end Go.Proofs.Ytbnpacdkllmblaa
