/- The lives function of beat. -/
import Derived.Test.YtidingjknijjmaaBeatE
import Derived.Test.YtidingjknijjmaaBeatQ
set_option linter.all false
namespace Go.Proofs.Ytidingjknijjmaa
open Go Go.Abs

def heardF_R (r : Th ((List Int) × Int)) : AV := .tup [Leaf.av fun _ => (r ()).1, .i .i64 fun _ => (r ()).2]
def heardF_D : Det := fun A => match A with
  | [.i .i64 every, delays, .i .i64 ends] => some (fun _ => Leaf.ok (List Int) delays, heardF_R fun _ => heardV (every ()) (Leaf.val delays) (ends ()))
  | _ => none
theorem heardF_ok : PcOk Try.prog 7 (detPC heardF_D) := det_okF fun A p r h hp0 => by
  unfold heardF_D at h
  split at h
  · rename_i every delays ends
    cases h
    have g0 := hp0
    exact FnOk.froz (FnOk.pre (A' := [.i .i64 fun _ => every (), Leaf.av fun _ => (Leaf.val delays : (List Int)), .i .i64 fun _ => ends ()]) (heardC_vc (every ()) (Leaf.val delays) (ends ())) (.mk (.mk (.mk rfl) (.mk rfl)) (.mk (Leaf.hle _ g0) (.mk (.mk (.mk rfl) (.mk rfl)) (trivial))))) rfl (q := _) (d := _) rfl (by intro p hp; repeat (first | (cases hp; done) | (rcases List.mem_cons.1 hp with rfl | hp; · exact Nat.le_refl _))) rfl ⟨rfl, rfl⟩
  · cases h
theorem heardF_okF : ∀ A p r, heardF_D A = some (p, r) → p () → FrOk Try.prog 7 A r := fun A p r h hp0 => by
  unfold heardF_D at h
  split at h
  · rename_i every delays ends
    cases h
    have g0 := hp0
    exact FnOk.fresh (A := [.i .i64 every, delays, .i .i64 ends]) (FnOk.pre (A' := [.i .i64 fun _ => every (), Leaf.av fun _ => (Leaf.val delays : (List Int)), .i .i64 fun _ => ends ()]) (heardC_vc (every ()) (Leaf.val delays) (ends ())) (.mk (.mk (.mk rfl) (.mk rfl)) (.mk (Leaf.hle _ g0) (.mk (.mk (.mk rfl) (.mk rfl)) (trivial))))) rfl (q := _) (d := _) rfl (by intro p hp; repeat (first | (cases hp; done) | (rcases List.mem_cons.1 hp with rfl | hp; · exact Nat.le_refl _))) rfl rfl ⟨.mk fun _ _ => rfl, trivial⟩
  · cases h
structure eqInt_X (l m : List Int) where
  k : Nat
  hk : k ≤ l.length
  hv : ∀ j, j < k → l.getD j Dat.d0 = m.getD j Dat.d0
def eqInt_R (r : Th (Bool)) : AV := .b fun _ => (r ())
def eqInt_S (l : (List Int)) (m : (List Int)) : Bool := decide (l = m)
def eqInt_P (l : (List Int)) (m : (List Int)) : Prop := l.length ≤ 9223372036854775807
def eqInt_D : Det := fun A => match A with
  | [l, m] => some (fun _ => Leaf.ok (List Int) l ∧ Leaf.ok (List Int) m ∧ eqInt_P (Leaf.val l) (Leaf.val m), eqInt_R fun _ => eqInt_S (Leaf.val l) (Leaf.val m))
  | _ => none
set_option maxRecDepth 100000 in
set_option maxHeartbeats 4000000 in
theorem eqInt_vc (l : (List Int)) (m : (List Int)) (hp : eqInt_P l m) : FnOk Try.prog 20 [Leaf.av fun _ => l, Leaf.av fun _ => m] [] (outA (eqInt_R fun _ => eqInt_S l m) []) := by
  refine fn_ok envOk zl noCon_ok (draws_ok envOk zl noDet_ok mixed) (keep := [0, 1, 4, 5, 10, 12, 13, 14, 24]) Try.func20 rfl ?_
  have hp' : l.length ≤ 9223372036854775807 := hp
  have fin : ∀ (b : Bool) H kl, b = decide (l = m) → outA (eqInt_R fun _ => eqInt_S l m) [] (.bc b) H kl := by
    rintro b H kl rfl
    cbv
    repeat' first | (refine Stp.mk ?_; cbv) | (refine Gen.mk fun r hr => ?_; (try simp only [Dat.ok, Dat.dec, Leaf.ok, Leaf.val, Span.eta, val_sl, val_nil] at hr); cbv) | exact trivial | rfl | refine Both.mk ?_ ?_ | (refine Imp.mk fun h => ?_; (try dsimp only at h); (try simp only [nc, Int.toNat_natCast, Bool.not_eq_true', Bool.not_eq_false', decide_eq_true_eq, decide_eq_false_iff_not, beq_iff_eq, beq_eq_false_iff_ne, ba_inj, bne_iff_ne, ne_eq, Bool.and_eq_true, Bool.or_eq_true, Bool.and_eq_false_iff, Bool.or_eq_false_iff, Int.not_le, Int.not_lt, Nat.not_le, Nat.not_lt] at h); (try simp only [nc] at h)) | refine Ob.mk ?_ ?_ | refine Chk.mk (by kernel_rfl) ?_ | refine Eq'.mk ?_ | (refine AllN.mk fun i hi => ?_; cbv) | (refine AllS.mk fun r hr => ?_; (try simp only [Dat.ok, Dat.dec, Leaf.ok, Leaf.val, Span.eta, val_sl] at hr); cbv)
  generalize outA (eqInt_R fun _ => eqInt_S l m) [] = K at fin
  cbv
  refine Both.mk (Imp.mk fun h1 => ?_) (Imp.mk fun h1 => ?_)
  all_goals (refine Stp.mk ?_; cbv; (try dsimp only at h1); (try simp only [nc, Int.toNat_natCast, Bool.not_eq_true', Bool.not_eq_false', decide_eq_true_eq, decide_eq_false_iff_not, beq_iff_eq, beq_eq_false_iff_ne, ba_inj, bne_iff_ne, ne_eq, Bool.and_eq_true, Bool.or_eq_true, Bool.and_eq_false_iff, Bool.or_eq_false_iff, Int.not_le, Int.not_lt, Nat.not_le, Nat.not_lt] at h1); (try simp only [nc] at h1))
  · refine fin _ _ _ ?_
    exact (decide_eq_false (fun h => by subst h; omega)).symm
  · have hlen : l.length = m.length := by omega
    refine LoopVC.frame [4, 5, 13, 14, 24] (eqInt_X l m) (fun x => [(13, .i .i64 fun _ => x.k)]) (fun _ => []) [] (fun x => l.length - x.k)
      ⟨0, Nat.zero_le _, fun j hj => absurd hj (Nat.not_lt_zero _)⟩ rfl (fun _ => rfl) ?_ ?_ fun ⟨k, hk, hv⟩ => ?_
    · cbv
      repeat' first | (refine Stp.mk ?_; cbv) | (refine Gen.mk fun r hr => ?_; (try simp only [Dat.ok, Dat.dec, Leaf.ok, Leaf.val, Span.eta, val_sl, val_nil] at hr); cbv) | exact trivial | rfl | refine Both.mk ?_ ?_ | (refine Imp.mk fun h => ?_; (try dsimp only at h); (try simp only [nc, Int.toNat_natCast, Bool.not_eq_true', Bool.not_eq_false', decide_eq_true_eq, decide_eq_false_iff_not, beq_iff_eq, beq_eq_false_iff_ne, ba_inj, bne_iff_ne, ne_eq, Bool.and_eq_true, Bool.or_eq_true, Bool.and_eq_false_iff, Bool.or_eq_false_iff, Int.not_le, Int.not_lt, Nat.not_le, Nat.not_lt] at h); (try simp only [nc] at h)) | refine Ob.mk ?_ ?_ | refine Chk.mk (by kernel_rfl) ?_ | refine Eq'.mk ?_ | (refine AllN.mk fun i hi => ?_; cbv) | (refine AllS.mk fun r hr => ?_; (try simp only [Dat.ok, Dat.dec, Leaf.ok, Leaf.val, Span.eta, val_sl] at hr); cbv)
    · cbv
    · cbv
      repeat' first | (refine Stp.mk ?_; cbv) | (refine Gen.mk fun r hr => ?_; (try simp only [Dat.ok, Dat.dec, Leaf.ok, Leaf.val, Span.eta, val_sl, val_nil] at hr); cbv) | exact trivial | rfl | refine Both.mk ?_ ?_ | (refine Imp.mk fun h => ?_; (try dsimp only at h); (try simp only [nc, Int.toNat_natCast, Bool.not_eq_true', Bool.not_eq_false', decide_eq_true_eq, decide_eq_false_iff_not, beq_iff_eq, beq_eq_false_iff_ne, ba_inj, bne_iff_ne, ne_eq, Bool.and_eq_true, Bool.or_eq_true, Bool.and_eq_false_iff, Bool.or_eq_false_iff, Int.not_le, Int.not_lt, Nat.not_le, Nat.not_lt] at h); (try simp only [nc] at h)) | refine Ob.mk ?_ ?_ | refine Chk.mk (by kernel_rfl) ?_ | refine Eq'.mk ?_ | (refine AllN.mk fun i hi => ?_; cbv) | (refine AllS.mk fun r hr => ?_; (try simp only [Dat.ok, Dat.dec, Leaf.ok, Leaf.val, Span.eta, val_sl] at hr); cbv)
      all_goals ((try dsimp only at *); (try simp only [nc, Int.toNat_natCast, Bool.not_eq_true', Bool.not_eq_false', decide_eq_true_eq, decide_eq_false_iff_not, beq_iff_eq, beq_eq_false_iff_ne, ba_inj, bne_iff_ne, ne_eq, Bool.and_eq_true, Bool.or_eq_true, Bool.and_eq_false_iff, Bool.or_eq_false_iff, Int.not_le, Int.not_lt, Nat.not_le, Nat.not_lt] at *); (try simp only [nc] at *))
      all_goals first
        | omega
        | (unfold InR; omega)
        | (refine fin _ _ _ (decide_eq_true ?_).symm
           apply List.ext_getElem hlen
           intro i h1 h2
           have := hv i (by omega)
           simpa [h1, h2] using this)
        | (refine fin _ _ _ (decide_eq_false fun h => ?_).symm
           subst h
           simp_all; done)
        | skip
      all_goals (
        refine ⟨⟨k + 1, by omega, fun j hj => ?_⟩, ?_, trivial, rfl, by (try dsimp only); omega⟩
        · rcases Nat.lt_succ_iff_lt_or_eq.1 hj with hj | rfl
          · exact hv j hj
          · first | assumption | (generalize l.getD j Dat.d0 = a at *; generalize m.getD j Dat.d0 = b at *; cases a; cases b; simp_all; done)
        · cbv
          repeat' first | (refine Stp.mk ?_; cbv) | (refine Gen.mk fun r hr => ?_; (try simp only [Dat.ok, Dat.dec, Leaf.ok, Leaf.val, Span.eta, val_sl, val_nil] at hr); cbv) | exact trivial | rfl | refine Both.mk ?_ ?_ | (refine Imp.mk fun h => ?_; (try dsimp only at h); (try simp only [nc, Int.toNat_natCast, Bool.not_eq_true', Bool.not_eq_false', decide_eq_true_eq, decide_eq_false_iff_not, beq_iff_eq, beq_eq_false_iff_ne, ba_inj, bne_iff_ne, ne_eq, Bool.and_eq_true, Bool.or_eq_true, Bool.and_eq_false_iff, Bool.or_eq_false_iff, Int.not_le, Int.not_lt, Nat.not_le, Nat.not_lt] at h); (try simp only [nc] at h)) | refine Ob.mk ?_ ?_ | refine Chk.mk (by kernel_rfl) ?_ | refine Eq'.mk ?_ | (refine AllN.mk fun i hi => ?_; cbv) | (refine AllS.mk fun r hr => ?_; (try simp only [Dat.ok, Dat.dec, Leaf.ok, Leaf.val, Span.eta, val_sl] at hr); cbv))
theorem eqInt_ok : PcOk Try.prog 20 (detPC eqInt_D) := det_okA fun A p r h hp0 => by
  unfold eqInt_D at h
  split at h
  · rename_i l m
    cases h
    obtain ⟨g0, g1, hp⟩ := hp0
    exact ⟨rfl, FnOk.pre (A' := [Leaf.av fun _ => (Leaf.val l : (List Int)), Leaf.av fun _ => (Leaf.val m : (List Int))]) (eqInt_vc (Leaf.val l) (Leaf.val m) hp) (.mk (Leaf.hle _ g0) (.mk (Leaf.hle _ g1) (trivial)))⟩
  · cases h
structure eqSpan_X (l m : List Span) where
  k : Nat
  hk : k ≤ l.length
  hv : ∀ j, j < k → l.getD j Dat.d0 = m.getD j Dat.d0
def eqSpan_R (r : Th (Bool)) : AV := .b fun _ => (r ())
def eqSpan_S (l : (List Span)) (m : (List Span)) : Bool := decide (l = m)
def eqSpan_P (l : (List Span)) (m : (List Span)) : Prop := l.length ≤ 9223372036854775807
def eqSpan_D : Det := fun A => match A with
  | [l, m] => some (fun _ => Leaf.ok (List Span) l ∧ Leaf.ok (List Span) m ∧ eqSpan_P (Leaf.val l) (Leaf.val m), eqSpan_R fun _ => eqSpan_S (Leaf.val l) (Leaf.val m))
  | _ => none
set_option maxRecDepth 100000 in
set_option maxHeartbeats 4000000 in
theorem eqSpan_vc (l : (List Span)) (m : (List Span)) (hp : eqSpan_P l m) : FnOk Try.prog 21 [Leaf.av fun _ => l, Leaf.av fun _ => m] [] (outA (eqSpan_R fun _ => eqSpan_S l m) []) := by
  refine fn_ok envOk zl noCon_ok (draws_ok envOk zl noDet_ok mixed) (keep := [0, 1, 4, 5, 10, 12, 13, 14, 24]) Try.func21 rfl ?_
  have hp' : l.length ≤ 9223372036854775807 := hp
  have fin : ∀ (b : Bool) H kl, b = decide (l = m) → outA (eqSpan_R fun _ => eqSpan_S l m) [] (.bc b) H kl := by
    rintro b H kl rfl
    cbv
    repeat' first | (refine Stp.mk ?_; cbv) | (refine Gen.mk fun r hr => ?_; (try simp only [Dat.ok, Dat.dec, Leaf.ok, Leaf.val, Span.eta, val_sl, val_nil] at hr); cbv) | exact trivial | rfl | refine Both.mk ?_ ?_ | (refine Imp.mk fun h => ?_; (try dsimp only at h); (try simp only [nc, Int.toNat_natCast, Bool.not_eq_true', Bool.not_eq_false', decide_eq_true_eq, decide_eq_false_iff_not, beq_iff_eq, beq_eq_false_iff_ne, ba_inj, bne_iff_ne, ne_eq, Bool.and_eq_true, Bool.or_eq_true, Bool.and_eq_false_iff, Bool.or_eq_false_iff, Int.not_le, Int.not_lt, Nat.not_le, Nat.not_lt] at h); (try simp only [nc] at h)) | refine Ob.mk ?_ ?_ | refine Chk.mk (by kernel_rfl) ?_ | refine Eq'.mk ?_ | (refine AllN.mk fun i hi => ?_; cbv) | (refine AllS.mk fun r hr => ?_; (try simp only [Dat.ok, Dat.dec, Leaf.ok, Leaf.val, Span.eta, val_sl] at hr); cbv)
  generalize outA (eqSpan_R fun _ => eqSpan_S l m) [] = K at fin
  cbv
  refine Both.mk (Imp.mk fun h1 => ?_) (Imp.mk fun h1 => ?_)
  all_goals (refine Stp.mk ?_; cbv; (try dsimp only at h1); (try simp only [nc, Int.toNat_natCast, Bool.not_eq_true', Bool.not_eq_false', decide_eq_true_eq, decide_eq_false_iff_not, beq_iff_eq, beq_eq_false_iff_ne, ba_inj, bne_iff_ne, ne_eq, Bool.and_eq_true, Bool.or_eq_true, Bool.and_eq_false_iff, Bool.or_eq_false_iff, Int.not_le, Int.not_lt, Nat.not_le, Nat.not_lt] at h1); (try simp only [nc] at h1))
  · refine fin _ _ _ ?_
    exact (decide_eq_false (fun h => by subst h; omega)).symm
  · have hlen : l.length = m.length := by omega
    refine LoopVC.frame [4, 5, 13, 14, 24] (eqSpan_X l m) (fun x => [(13, .i .i64 fun _ => x.k)]) (fun _ => []) [] (fun x => l.length - x.k)
      ⟨0, Nat.zero_le _, fun j hj => absurd hj (Nat.not_lt_zero _)⟩ rfl (fun _ => rfl) ?_ ?_ fun ⟨k, hk, hv⟩ => ?_
    · cbv
      repeat' first | (refine Stp.mk ?_; cbv) | (refine Gen.mk fun r hr => ?_; (try simp only [Dat.ok, Dat.dec, Leaf.ok, Leaf.val, Span.eta, val_sl, val_nil] at hr); cbv) | exact trivial | rfl | refine Both.mk ?_ ?_ | (refine Imp.mk fun h => ?_; (try dsimp only at h); (try simp only [nc, Int.toNat_natCast, Bool.not_eq_true', Bool.not_eq_false', decide_eq_true_eq, decide_eq_false_iff_not, beq_iff_eq, beq_eq_false_iff_ne, ba_inj, bne_iff_ne, ne_eq, Bool.and_eq_true, Bool.or_eq_true, Bool.and_eq_false_iff, Bool.or_eq_false_iff, Int.not_le, Int.not_lt, Nat.not_le, Nat.not_lt] at h); (try simp only [nc] at h)) | refine Ob.mk ?_ ?_ | refine Chk.mk (by kernel_rfl) ?_ | refine Eq'.mk ?_ | (refine AllN.mk fun i hi => ?_; cbv) | (refine AllS.mk fun r hr => ?_; (try simp only [Dat.ok, Dat.dec, Leaf.ok, Leaf.val, Span.eta, val_sl] at hr); cbv)
    · cbv
    · cbv
      repeat' first | (refine Stp.mk ?_; cbv) | (refine Gen.mk fun r hr => ?_; (try simp only [Dat.ok, Dat.dec, Leaf.ok, Leaf.val, Span.eta, val_sl, val_nil] at hr); cbv) | exact trivial | rfl | refine Both.mk ?_ ?_ | (refine Imp.mk fun h => ?_; (try dsimp only at h); (try simp only [nc, Int.toNat_natCast, Bool.not_eq_true', Bool.not_eq_false', decide_eq_true_eq, decide_eq_false_iff_not, beq_iff_eq, beq_eq_false_iff_ne, ba_inj, bne_iff_ne, ne_eq, Bool.and_eq_true, Bool.or_eq_true, Bool.and_eq_false_iff, Bool.or_eq_false_iff, Int.not_le, Int.not_lt, Nat.not_le, Nat.not_lt] at h); (try simp only [nc] at h)) | refine Ob.mk ?_ ?_ | refine Chk.mk (by kernel_rfl) ?_ | refine Eq'.mk ?_ | (refine AllN.mk fun i hi => ?_; cbv) | (refine AllS.mk fun r hr => ?_; (try simp only [Dat.ok, Dat.dec, Leaf.ok, Leaf.val, Span.eta, val_sl] at hr); cbv)
      all_goals ((try dsimp only at *); (try simp only [nc, Int.toNat_natCast, Bool.not_eq_true', Bool.not_eq_false', decide_eq_true_eq, decide_eq_false_iff_not, beq_iff_eq, beq_eq_false_iff_ne, ba_inj, bne_iff_ne, ne_eq, Bool.and_eq_true, Bool.or_eq_true, Bool.and_eq_false_iff, Bool.or_eq_false_iff, Int.not_le, Int.not_lt, Nat.not_le, Nat.not_lt] at *); (try simp only [nc] at *))
      all_goals first
        | omega
        | (unfold InR; omega)
        | (refine fin _ _ _ (decide_eq_true ?_).symm
           apply List.ext_getElem hlen
           intro i h1 h2
           have := hv i (by omega)
           simpa [h1, h2] using this)
        | (refine fin _ _ _ (decide_eq_false fun h => ?_).symm
           subst h
           simp_all; done)
        | skip
      all_goals (
        refine ⟨⟨k + 1, by omega, fun j hj => ?_⟩, ?_, trivial, rfl, by (try dsimp only); omega⟩
        · rcases Nat.lt_succ_iff_lt_or_eq.1 hj with hj | rfl
          · exact hv j hj
          · first | assumption | (generalize l.getD j Dat.d0 = a at *; generalize m.getD j Dat.d0 = b at *; cases a; cases b; simp_all; done)
        · cbv
          repeat' first | (refine Stp.mk ?_; cbv) | (refine Gen.mk fun r hr => ?_; (try simp only [Dat.ok, Dat.dec, Leaf.ok, Leaf.val, Span.eta, val_sl, val_nil] at hr); cbv) | exact trivial | rfl | refine Both.mk ?_ ?_ | (refine Imp.mk fun h => ?_; (try dsimp only at h); (try simp only [nc, Int.toNat_natCast, Bool.not_eq_true', Bool.not_eq_false', decide_eq_true_eq, decide_eq_false_iff_not, beq_iff_eq, beq_eq_false_iff_ne, ba_inj, bne_iff_ne, ne_eq, Bool.and_eq_true, Bool.or_eq_true, Bool.and_eq_false_iff, Bool.or_eq_false_iff, Int.not_le, Int.not_lt, Nat.not_le, Nat.not_lt] at h); (try simp only [nc] at h)) | refine Ob.mk ?_ ?_ | refine Chk.mk (by kernel_rfl) ?_ | refine Eq'.mk ?_ | (refine AllN.mk fun i hi => ?_; cbv) | (refine AllS.mk fun r hr => ?_; (try simp only [Dat.ok, Dat.dec, Leaf.ok, Leaf.val, Span.eta, val_sl] at hr); cbv))
theorem eqSpan_ok : PcOk Try.prog 21 (detPC eqSpan_D) := det_okA fun A p r h hp0 => by
  unfold eqSpan_D at h
  split at h
  · rename_i l m
    cases h
    obtain ⟨g0, g1, hp⟩ := hp0
    exact ⟨rfl, FnOk.pre (A' := [Leaf.av fun _ => (Leaf.val l : (List Span)), Leaf.av fun _ => (Leaf.val m : (List Span))]) (eqSpan_vc (Leaf.val l) (Leaf.val m) hp) (.mk (Leaf.hle _ g0) (.mk (Leaf.hle _ g1) (trivial)))⟩
  · cases h
theorem sort_two : sortL [1, 19] = [1, 19] := List.mergeSort_of_pairwise (by decide)
theorem hlive : heardV 10 [1, 9, -1] 25 = ([1, 19], 0) := by
  have e : heardR 10 25 0 [1, 9, -1] = [1, 19] := by decide
  rw [heardV, if_neg (by decide), if_neg (by decide), if_neg (by decide), e, sort_two]
theorem dlive : doubtsV [1, 19] 12 40 = ([⟨14, 19⟩, ⟨32, 40⟩], 0) := by decide
noncomputable def cBL : FuncId → Con := fun f => match f with
  | 7 => frCon heardF_D
  | 9 => frCon doubtF_D
  | 20 => pureCon (detPC eqInt_D)
  | 21 => pureCon (detPC eqSpan_D)
  | _ => fun _ _ _ => Bad 1001
theorem cBL_ok : ConOk Try.prog cBL := fun f A H K h => by
  unfold cBL at h
  split at h
  · exact ⟨⟨Try.f7, Try.func7, by kernel_rfl, by kernel_rfl⟩, frCon_ok heardF_okF h⟩
  · exact ⟨⟨Try.f9, Try.func9, by kernel_rfl, by kernel_rfl⟩, frCon_ok doubtF_okF h⟩
  · exact ⟨⟨Try.f20, Try.func20, by kernel_rfl, by kernel_rfl⟩, pureCon_ok eqInt_ok h⟩
  · exact ⟨⟨Try.f21, Try.func21, by kernel_rfl, by kernel_rfl⟩, pureCon_ok eqSpan_ok h⟩
  · cases h
def dBL : FuncId → Option Dt := fun f => match f with
  | 20 => some (.c eqInt_D)
  | 21 => some (.c eqSpan_D)
  | _ => none
theorem dBL_ok : DetOk Try.prog dBL := fun f d h => by
  unfold dBL at h
  split at h
  · cases h; exact ⟨⟨Try.f20, Try.func20, by kernel_rfl, by kernel_rfl⟩, eqInt_ok⟩
  · cases h; exact ⟨⟨Try.f21, Try.func21, by kernel_rfl, by kernel_rfl⟩, eqSpan_ok⟩
  · cases h
def blives_R (r : Th (Bool)) : AV := .bc true
def blives_D : Det := fun A => match A with
  | [] => some (fun _ => True, blives_R fun _ => true )
  | _ => none
set_option maxRecDepth 100000 in
set_option maxHeartbeats 4000000 in
theorem blives_vc  : FnOk Try.prog 8 [] [] (outA (blives_R fun _ => true ) []) := by
  refine fn_ok envOk zl cBL_ok (draws_ok envOk zl dBL_ok mixed) (keep := [0, 1, 2, 3, 4]) Try.func8 rfl ?_
  cbv
  repeat' first | (show Stp _; exfalso; first | omega | (exact h ‹_›) | (exact absurd ‹_› h) | (exact Bool.false_ne_true (h.symm.trans (show _ = true by assumption)))) | (refine Stp.mk ?_; cbv) | (refine Gen.mk fun r hr => ?_; (try simp only [Dat.ok, Dat.dec, Leaf.ok, Leaf.val, Span.eta, val_sl, val_nil] at hr); cbv) | exact trivial | rfl | refine Both.mk ?_ ?_ | (refine Imp.mk fun h => ?_; (try dsimp only at h); (try simp only [nc, Int.toNat_natCast, Bool.not_eq_true', Bool.not_eq_false', decide_eq_true_eq, decide_eq_false_iff_not, beq_iff_eq, beq_eq_false_iff_ne, ba_inj, bne_iff_ne, ne_eq, Bool.and_eq_true, Bool.or_eq_true, Bool.and_eq_false_iff, Bool.or_eq_false_iff, Int.not_le, Int.not_lt, Nat.not_le, Nat.not_lt] at h); (try simp only [nc] at h)) | refine Ob.mk ?_ ?_ | refine Chk.mk (by kernel_rfl) ?_ | refine Eq'.mk ?_ | (refine AllN.mk fun i hi => ?_; cbv) | (refine AllS.mk fun r hr => ?_; (try simp only [Dat.ok, Dat.dec, Leaf.ok, Leaf.val, Span.eta, val_sl] at hr); cbv)
  all_goals ((try dsimp only at *); (try simp only [nc, Int.toNat_natCast, Bool.not_eq_true', Bool.not_eq_false', decide_eq_true_eq, decide_eq_false_iff_not, beq_iff_eq, beq_eq_false_iff_ne, ba_inj, bne_iff_ne, ne_eq, Bool.and_eq_true, Bool.or_eq_true, Bool.and_eq_false_iff, Bool.or_eq_false_iff, Int.not_le, Int.not_lt, Nat.not_le, Nat.not_lt] at *); (try simp only [nc] at *))
  all_goals have v1 : (Leaf.val (.sl 1 (fun _ => 3) (rowN 1 [.i .i64 fun _ => 1, .i .i64 fun _ => 9, .i .i64 fun _ => -1])) : List Int) = [1, 9, -1] := rfl
  all_goals have v2 : (Leaf.val (.sl 1 (fun _ => 2) (rowN 1 [.i .i64 fun _ => 1, .i .i64 fun _ => 19])) : List Int) = [1, 19] := rfl
  all_goals have v3 : (Leaf.val (.sl 2 (fun _ => 2) (rowN 2 [.i .i64 fun _ => 14, .i .i64 fun _ => 19, .i .i64 fun _ => 32, .i .i64 fun _ => 40])) : List Span) = [⟨14, 19⟩, ⟨32, 40⟩] := rfl
  all_goals have w1 : (Leaf.val (.sl 1 (fun _ => ([1, 19] : List Int).length) fun i => Dat.enc fun _ => ([1, 19] : List Int).getD (i ()) Dat.d0) : List Int) = [1, 19] := val_sl _ 1
  all_goals have w2 : (Leaf.val (.sl 2 (fun _ => ([⟨14, 19⟩, ⟨32, 40⟩] : List Span).length) fun i => Dat.enc fun _ => ([⟨14, 19⟩, ⟨32, 40⟩] : List Span).getD (i ()) Dat.d0) : List Span) = [⟨14, 19⟩, ⟨32, 40⟩] := val_sl _ 2
  all_goals try simp only [v1, v2, v3, hlive, w1, dlive, w2] at h
  all_goals try simp only [v1, v2, v3, hlive, w1, dlive, w2]
  all_goals first
    | exact Nat.le_refl _
    | rfl
    | exact ⟨rfl, fun i (hi : i < 3) => by rcases i with _ | _ | _ | i; all_goals first | trivial | omega⟩
    | exact ⟨⟨rfl, fun i _ => Dat.hok _⟩, show (2 : Nat) ≤ _ by decide⟩
    | exact ⟨⟨rfl, fun i _ => Dat.hok _⟩, ⟨rfl, fun i (hi : i < 2) => by rcases i with _ | _ | i; all_goals first | trivial | exact ⟨trivial, trivial⟩ | omega⟩, show (2 : Nat) ≤ _ by decide⟩
    | (exfalso; apply h; rfl)
    | (exfalso; revert h; decide)
    | (exfalso; revert h; simp [eqInt_S, eqSpan_S]; done)
    | fail
theorem blives_ok : PcOk Try.prog 8 (detPC blives_D) := det_okA fun A p r h hp0 => by
  unfold blives_D at h
  split at h
  · cases h
    exact ⟨rfl, FnOk.pre (A' := []) (blives_vc ) (trivial)⟩
  · cases h

end Go.Proofs.Ytidingjknijjmaa
