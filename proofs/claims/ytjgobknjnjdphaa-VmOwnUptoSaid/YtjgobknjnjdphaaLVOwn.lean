/- What is handed in to a program stays as it was, and what is told shares nothing with it; for all inputs. -/
import Derived.Test.YtjgobknjnjdphaaVmL
import Derived.Test.YtjgobknjnjdphaaVmP
set_option linter.all false
namespace Go.Proofs.Ytjgobknjnjdphaa
open Go Go.Abs

structure eqIns_X (l m : List Ins) where
  k : Nat
  hk : k ≤ l.length
  hv : ∀ j, j < k → l.getD j Dat.d0 = m.getD j Dat.d0
def eqIns_R (r : Th (Bool)) : AV := .b fun _ => (r ())
def eqIns_S (l : (List Ins)) (m : (List Ins)) : Bool := decide (l = m)
def eqIns_P (l : (List Ins)) (m : (List Ins)) : Prop := l.length ≤ 9223372036854775807
def eqIns_D : Det := fun A => match A with
  | [l, m] => some (fun _ => Leaf.ok (List Ins) l ∧ Leaf.ok (List Ins) m ∧ eqIns_P (Leaf.val l) (Leaf.val m), eqIns_R fun _ => eqIns_S (Leaf.val l) (Leaf.val m))
  | _ => none
set_option maxRecDepth 100000 in
set_option maxHeartbeats 4000000 in
theorem eqIns_vc (l : (List Ins)) (m : (List Ins)) (hp : eqIns_P l m) : FnOk Try.prog 28 [Leaf.av fun _ => l, Leaf.av fun _ => m] [] (outA (eqIns_R fun _ => eqIns_S l m) []) := by
  refine fn_ok envOk zl noCon_ok (draws_ok envOk zl noDet_ok mixed) (keep := [0, 1, 4, 5, 10, 12, 13, 14, 24]) Try.func28 rfl ?_
  have hp' : l.length ≤ 9223372036854775807 := hp
  have fin : ∀ (b : Bool) H kl, b = decide (l = m) → outA (eqIns_R fun _ => eqIns_S l m) [] (.bc b) H kl := by
    rintro b H kl rfl
    cbv
    repeat' first | (refine Stp.mk ?_; cbv) | (refine Gen.mk fun r hr => ?_; (try simp only [Dat.ok, Dat.dec, Leaf.ok, Leaf.val, Ins.eta, Vm.eta, Emit.eta, Msg.eta, val_sl, val_nil] at hr); cbv) | exact trivial | rfl | refine Both.mk ?_ ?_ | (refine Imp.mk fun h => ?_; (try dsimp only at h); (try simp only [nc, Int.toNat_natCast, Bool.not_eq_true', Bool.not_eq_false', decide_eq_true_eq, decide_eq_false_iff_not, beq_iff_eq, beq_eq_false_iff_ne, ba_inj, bne_iff_ne, ne_eq, Bool.and_eq_true, Bool.or_eq_true, Bool.and_eq_false_iff, Bool.or_eq_false_iff, Int.not_le, Int.not_lt, Nat.not_le, Nat.not_lt] at h); (try simp only [nc] at h)) | refine Ob.mk ?_ ?_ | refine Chk.mk (by kernel_rfl) ?_ | refine Eq'.mk ?_ | (refine AllN.mk fun i hi => ?_; cbv) | (refine AllC.mk fun c hc hcm => ?_; (try dsimp only at hc); cbv) | (refine AllS.mk fun r hr => ?_; (try simp only [Dat.ok, Dat.dec, Leaf.ok, Leaf.val, Ins.eta, Vm.eta, Emit.eta, Msg.eta, val_sl] at hr); cbv)
  generalize outA (eqIns_R fun _ => eqIns_S l m) [] = K at fin
  cbv
  refine Both.mk (Imp.mk fun h1 => ?_) (Imp.mk fun h1 => ?_)
  all_goals (refine Stp.mk ?_; cbv; (try dsimp only at h1); (try simp only [nc, Int.toNat_natCast, Bool.not_eq_true', Bool.not_eq_false', decide_eq_true_eq, decide_eq_false_iff_not, beq_iff_eq, beq_eq_false_iff_ne, ba_inj, bne_iff_ne, ne_eq, Bool.and_eq_true, Bool.or_eq_true, Bool.and_eq_false_iff, Bool.or_eq_false_iff, Int.not_le, Int.not_lt, Nat.not_le, Nat.not_lt] at h1); (try simp only [nc] at h1))
  · refine fin _ _ _ ?_
    exact (decide_eq_false (fun h => by subst h; omega)).symm
  · have hlen : l.length = m.length := by omega
    refine LoopVC.frame [4, 5, 13, 14, 24] (eqIns_X l m) (fun x => [(13, .i .i64 fun _ => x.k)]) (fun _ => []) [] (fun x => l.length - x.k)
      ⟨0, Nat.zero_le _, fun j hj => absurd hj (Nat.not_lt_zero _)⟩ rfl (fun _ => rfl) ?_ ?_ fun ⟨k, hk, hv⟩ => ?_
    · cbv
      repeat' first | (refine Stp.mk ?_; cbv) | (refine Gen.mk fun r hr => ?_; (try simp only [Dat.ok, Dat.dec, Leaf.ok, Leaf.val, Ins.eta, Vm.eta, Emit.eta, Msg.eta, val_sl, val_nil] at hr); cbv) | exact trivial | rfl | refine Both.mk ?_ ?_ | (refine Imp.mk fun h => ?_; (try dsimp only at h); (try simp only [nc, Int.toNat_natCast, Bool.not_eq_true', Bool.not_eq_false', decide_eq_true_eq, decide_eq_false_iff_not, beq_iff_eq, beq_eq_false_iff_ne, ba_inj, bne_iff_ne, ne_eq, Bool.and_eq_true, Bool.or_eq_true, Bool.and_eq_false_iff, Bool.or_eq_false_iff, Int.not_le, Int.not_lt, Nat.not_le, Nat.not_lt] at h); (try simp only [nc] at h)) | refine Ob.mk ?_ ?_ | refine Chk.mk (by kernel_rfl) ?_ | refine Eq'.mk ?_ | (refine AllN.mk fun i hi => ?_; cbv) | (refine AllC.mk fun c hc hcm => ?_; (try dsimp only at hc); cbv) | (refine AllS.mk fun r hr => ?_; (try simp only [Dat.ok, Dat.dec, Leaf.ok, Leaf.val, Ins.eta, Vm.eta, Emit.eta, Msg.eta, val_sl] at hr); cbv)
    · cbv
    · cbv
      repeat' first | (refine Stp.mk ?_; cbv) | (refine Gen.mk fun r hr => ?_; (try simp only [Dat.ok, Dat.dec, Leaf.ok, Leaf.val, Ins.eta, Vm.eta, Emit.eta, Msg.eta, val_sl, val_nil] at hr); cbv) | exact trivial | rfl | refine Both.mk ?_ ?_ | (refine Imp.mk fun h => ?_; (try dsimp only at h); (try simp only [nc, Int.toNat_natCast, Bool.not_eq_true', Bool.not_eq_false', decide_eq_true_eq, decide_eq_false_iff_not, beq_iff_eq, beq_eq_false_iff_ne, ba_inj, bne_iff_ne, ne_eq, Bool.and_eq_true, Bool.or_eq_true, Bool.and_eq_false_iff, Bool.or_eq_false_iff, Int.not_le, Int.not_lt, Nat.not_le, Nat.not_lt] at h); (try simp only [nc] at h)) | refine Ob.mk ?_ ?_ | refine Chk.mk (by kernel_rfl) ?_ | refine Eq'.mk ?_ | (refine AllN.mk fun i hi => ?_; cbv) | (refine AllC.mk fun c hc hcm => ?_; (try dsimp only at hc); cbv) | (refine AllS.mk fun r hr => ?_; (try simp only [Dat.ok, Dat.dec, Leaf.ok, Leaf.val, Ins.eta, Vm.eta, Emit.eta, Msg.eta, val_sl] at hr); cbv)
      all_goals ((try dsimp only at *); (try simp only [nc, Int.toNat_natCast, Bool.not_eq_true', Bool.not_eq_false', decide_eq_true_eq, decide_eq_false_iff_not, beq_iff_eq, beq_eq_false_iff_ne, ba_inj, bne_iff_ne, ne_eq, Bool.and_eq_true, Bool.or_eq_true, Bool.and_eq_false_iff, Bool.or_eq_false_iff, Int.not_le, Int.not_lt, Nat.not_le, Nat.not_lt] at *); (try simp only [nc] at *))
      all_goals first
        | omega
        | (unfold InR; omega)
        | (refine fin _ _ _ (decide_eq_true ?_).symm
           apply List.ext_getElem hlen
           intro i h1 h2
           have := hv i (by omega)
           simpa [h1, h2] using this)
        | (refine fin _ _ _ (decide_eq_false fun h => ?_).symm
           subst h
           simp_all; done)
        | skip
      all_goals (
        refine ⟨⟨k + 1, by omega, fun j hj => ?_⟩, ?_, trivial, rfl, by (try dsimp only); omega⟩
        · rcases Nat.lt_succ_iff_lt_or_eq.1 hj with hj | rfl
          · exact hv j hj
          · first | assumption | (generalize l.getD j Dat.d0 = a at *; generalize m.getD j Dat.d0 = b at *; cases a; cases b; simp_all; done)
        · cbv
          repeat' first | (refine Stp.mk ?_; cbv) | (refine Gen.mk fun r hr => ?_; (try simp only [Dat.ok, Dat.dec, Leaf.ok, Leaf.val, Ins.eta, Vm.eta, Emit.eta, Msg.eta, val_sl, val_nil] at hr); cbv) | exact trivial | rfl | refine Both.mk ?_ ?_ | (refine Imp.mk fun h => ?_; (try dsimp only at h); (try simp only [nc, Int.toNat_natCast, Bool.not_eq_true', Bool.not_eq_false', decide_eq_true_eq, decide_eq_false_iff_not, beq_iff_eq, beq_eq_false_iff_ne, ba_inj, bne_iff_ne, ne_eq, Bool.and_eq_true, Bool.or_eq_true, Bool.and_eq_false_iff, Bool.or_eq_false_iff, Int.not_le, Int.not_lt, Nat.not_le, Nat.not_lt] at h); (try simp only [nc] at h)) | refine Ob.mk ?_ ?_ | refine Chk.mk (by kernel_rfl) ?_ | refine Eq'.mk ?_ | (refine AllN.mk fun i hi => ?_; cbv) | (refine AllC.mk fun c hc hcm => ?_; (try dsimp only at hc); cbv) | (refine AllS.mk fun r hr => ?_; (try simp only [Dat.ok, Dat.dec, Leaf.ok, Leaf.val, Ins.eta, Vm.eta, Emit.eta, Msg.eta, val_sl] at hr); cbv))
theorem eqIns_ok : PcOk Try.prog 28 (detPC eqIns_D) := det_okA fun A p r h hp0 => by
  unfold eqIns_D at h
  split at h
  · rename_i l m
    cases h
    obtain ⟨g0, g1, hp⟩ := hp0
    exact ⟨rfl, FnOk.pre (A' := [Leaf.av fun _ => (Leaf.val l : (List Ins)), Leaf.av fun _ => (Leaf.val m : (List Ins))]) (eqIns_vc (Leaf.val l) (Leaf.val m) hp) (.mk (Leaf.hle _ g0) (.mk (Leaf.hle _ g1) (trivial)))⟩
  · cases h
def clIns_R (r : Th ((List Ins))) : AV := .own 0 fun _ => (r ()).length
def clIns_H (r : Th ((List Ins))) : Hp := [vecO 59 fun _ => (r ())]
def clIns_P (l : (List Ins)) : Prop := l.length ≤ 1099511627776
def clIns_C : PC := fun A K => match A with
  | [l] => Ob (fun _ => Leaf.ok (List Ins) l ∧ clIns_P (Leaf.val l)) (Gen (α := (List Ins)) (fun _ => (Leaf.val l)) fun r => K (clIns_R fun _ => r) (clIns_H fun _ => r))
  | _ => Bad 1002
set_option maxRecDepth 100000 in
set_option maxHeartbeats 4000000 in
theorem clIns_vc (l : (List Ins)) (hp : clIns_P l) : FnOk Try.prog 26 [Leaf.av fun _ => l] [] (outA (clIns_R fun _ => l) (clIns_H fun _ => l)) := by
  refine fn_ok envOk zl noCon_ok noDraws_ok (keep := [0, 2, 4]) Try.func26 rfl ?_
  have hp' : l.length ≤ 1099511627776 := hp
  cbv
  repeat' first | (refine Stp.mk ?_; cbv) | (refine Gen.mk fun r hr => ?_; (try simp only [Dat.ok, Dat.dec, Leaf.ok, Leaf.val, Ins.eta, Vm.eta, Emit.eta, Msg.eta, val_sl, val_nil] at hr); cbv) | exact trivial | rfl | refine Both.mk ?_ ?_ | (refine Imp.mk fun h => ?_; (try dsimp only at h); (try simp only [nc, Int.toNat_natCast, Bool.not_eq_true', Bool.not_eq_false', decide_eq_true_eq, decide_eq_false_iff_not, beq_iff_eq, beq_eq_false_iff_ne, ba_inj, bne_iff_ne, ne_eq, Bool.and_eq_true, Bool.or_eq_true, Bool.and_eq_false_iff, Bool.or_eq_false_iff, Int.not_le, Int.not_lt, Nat.not_le, Nat.not_lt] at h); (try simp only [nc] at h)) | refine Ob.mk ?_ ?_ | refine Chk.mk (by kernel_rfl) ?_ | refine Eq'.mk ?_ | (refine AllN.mk fun i hi => ?_; cbv) | (refine AllC.mk fun c hc hcm => ?_; (try dsimp only at hc); cbv) | (refine AllS.mk fun r hr => ?_; (try simp only [Dat.ok, Dat.dec, Leaf.ok, Leaf.val, Ins.eta, Vm.eta, Emit.eta, Msg.eta, val_sl] at hr); cbv)
  all_goals ((try dsimp only at *); (try simp only [nc, Int.toNat_natCast, Bool.not_eq_true', Bool.not_eq_false', decide_eq_true_eq, decide_eq_false_iff_not, beq_iff_eq, beq_eq_false_iff_ne, ba_inj, bne_iff_ne, ne_eq, Bool.and_eq_true, Bool.or_eq_true, Bool.and_eq_false_iff, Bool.or_eq_false_iff, Int.not_le, Int.not_lt, Nat.not_le, Nat.not_lt] at *); (try simp only [nc] at *))
  all_goals first
    | omega
    | (exact ⟨Nat.le_refl _, trivial, by omega, by omega⟩)
    | (simp only [Nat.zero_add, Nat.sub_zero, Nat.not_lt_zero, decide_false, cond_false]; done)
    | (simp_all; done)
    | fail
theorem clIns_ok : PcOk Try.prog 26 (clIns_C) := fun A K h => by
  unfold clIns_C at h
  split at h
  · rename_i l
    cases h with
    | mk h1 h2 =>
      obtain ⟨g0, hp⟩ := h1
      refine FnOk.pre ?_ (A' := [Leaf.av fun _ => (Leaf.val l : (List Ins))]) (.mk (Leaf.hle _ g0) (trivial))
      exact FnOk.out (K := fun r H _ => K r H) (clIns_vc (Leaf.val l) hp) rfl h2.out
  · cases h
def clInsN_N : DetN := fun A => match A with
  | [l] => some (fun _ => Leaf.ok (List Ins) l ∧ clIns_P (Leaf.val l), clIns_R fun _ => (Leaf.val l), vecO 59 fun _ => ((Leaf.val l) : (List Ins)))
  | _ => none
theorem clInsN_okN : PcOk Try.prog 26 (detNPC clInsN_N) := det_okN fun A p r o h hp0 => by
  unfold clInsN_N at h
  split at h
  · rename_i l
    cases h
    obtain ⟨g0, hp⟩ := hp0
    exact FnOk.pre (A' := [Leaf.av fun _ => (Leaf.val l : (List Ins))]) (FnOk.out (clIns_vc (Leaf.val l) hp) rfl ⟨rfl, rfl⟩) (.mk (Leaf.hle _ g0) (trivial))
  · cases h
def clIntN_N : DetN := fun A => match A with
  | [l] => some (fun _ => Leaf.ok (List Int) l ∧ clInt_P (Leaf.val l), clInt_R fun _ => (Leaf.val l), vecO 3 fun _ => ((Leaf.val l) : (List Int)))
  | _ => none
theorem clIntN_okN : PcOk Try.prog 24 (detNPC clIntN_N) := det_okN fun A p r o h hp0 => by
  unfold clIntN_N at h
  split at h
  · rename_i l
    cases h
    obtain ⟨g0, hp⟩ := hp0
    exact FnOk.pre (A' := [Leaf.av fun _ => (Leaf.val l : (List Int))]) (FnOk.out (clInt_vc (Leaf.val l) hp) rfl ⟨rfl, rfl⟩) (.mk (Leaf.hle _ g0) (trivial))
  · cases h
def newN_N : DetN := fun A => match A with
  | [] => some (fun _ => True, newC_R fun _ => newC_S , vecO 3 fun _ => (newC_S  : Vm).regs)
  | _ => none
theorem newN_okN : PcOk Try.prog 30 (detNPC newN_N) := det_okN fun A p r o h hp0 => by
  unfold newN_N at h
  split at h
  · cases h
    exact FnOk.pre (A' := []) (FnOk.out (newC_vc ) rfl ⟨rfl, rfl⟩) (trivial)
  · cases h
noncomputable def cSame : FuncId → Con := fun f => match f with
  | 29 => pureCon (detPC eqInt_D)
  | _ => fun _ _ _ => Bad 1001
theorem cSame_ok : ConOk Try.prog cSame := fun f A H K h => by
  unfold cSame at h
  split at h
  · exact ⟨⟨Try.f29, Try.func29, by kernel_rfl, by kernel_rfl⟩, pureCon_ok eqInt_ok h⟩
  · cases h
noncomputable def cSm : FuncId → Con := fun f => match f with
  | 28 => pureCon (detPC eqIns_D)
  | 29 => pureCon (detPC eqInt_D)
  | _ => fun _ _ _ => Bad 1001
theorem cSm_ok : ConOk Try.prog cSm := fun f A H K h => by
  unfold cSm at h
  split at h
  · exact ⟨⟨Try.f28, Try.func28, by kernel_rfl, by kernel_rfl⟩, pureCon_ok eqIns_ok h⟩
  · exact ⟨⟨Try.f29, Try.func29, by kernel_rfl, by kernel_rfl⟩, pureCon_ok eqInt_ok h⟩
  · cases h
def dSm : FuncId → Option Dt := fun f => match f with
  | _ => none
theorem dSm_ok : DetOk Try.prog dSm := fun f d h => by
  unfold dSm at h
  split at h
  · cases h
def same_S (p p2 : List Ins) (v : Vm) (r i i2 : List Int) : Bool := decide (p = p2 ∧ v.regs = r ∧ i = i2)
def same_P (p : List Ins) (v : Vm) (i : List Int) : Prop := p.length ≤ 1048576 ∧ v.regs.length ≤ 1048576 ∧ i.length ≤ 1048576
def same_D : Det := fun A => match A with
  | [.rp [a], .rp [b], .rp [v0, v1, v2, v3], .rp [c], .rp [d], .rp [e]] =>
    some (fun _ => Leaf.ok (List Ins) a ∧ Leaf.ok (List Ins) b ∧ Dat.ok Vm [v0, v1, v2, v3] ∧ Leaf.ok (List Int) c ∧ Leaf.ok (List Int) d ∧ Leaf.ok (List Int) e ∧ same_P (Leaf.val a) (Dat.dec [v0, v1, v2, v3]) (Leaf.val d),
      .b fun _ => same_S (Leaf.val a) (Leaf.val b) (Dat.dec [v0, v1, v2, v3]) (Leaf.val c) (Leaf.val d) (Leaf.val e))
  | _ => none
set_option maxRecDepth 100000 in
set_option maxHeartbeats 4000000 in
theorem same_vc (p p2 : List Ins) (v : Vm) (r i i2 : List Int) (hp : same_P p v i) : FnOk Try.prog 27 [.rp [Leaf.av fun _ => p], .rp [Leaf.av fun _ => p2], .rp (Dat.enc fun _ => v), .rp [Leaf.av fun _ => r], .rp [Leaf.av fun _ => i], .rp [Leaf.av fun _ => i2]] [] (outA (.b fun _ => same_S p p2 v r i i2) []) := by
  refine fn_ok envOk zl cSm_ok (draws_ok envOk zl dSm_ok mixed) (keep := [0, 1, 2, 3, 4, 5, 6]) Try.func27 rfl ?_
  obtain ⟨p1, p2', p3⟩ := hp
  have fin : ∀ (b : Th Bool) H kl, b () = same_S p p2 v r i i2 → outA (.b fun _ => same_S p p2 v r i i2) [] (.b b) H kl := fun b H kl h => by
    cbv
    repeat' first | (refine Stp.mk ?_; cbv) | (refine Gen.mk fun r hr => ?_; (try simp only [Dat.ok, Dat.dec, Leaf.ok, Leaf.val, Ins.eta, Vm.eta, Emit.eta, Msg.eta, val_sl, val_nil] at hr); cbv) | exact trivial | rfl | refine Both.mk ?_ ?_ | (refine Imp.mk fun h => ?_; (try dsimp only at h); (try simp only [nc, Int.toNat_natCast, Bool.not_eq_true', Bool.not_eq_false', decide_eq_true_eq, decide_eq_false_iff_not, beq_iff_eq, beq_eq_false_iff_ne, ba_inj, bne_iff_ne, ne_eq, Bool.and_eq_true, Bool.or_eq_true, Bool.and_eq_false_iff, Bool.or_eq_false_iff, Int.not_le, Int.not_lt, Nat.not_le, Nat.not_lt] at h); (try simp only [nc] at h)) | refine Ob.mk ?_ ?_ | refine Chk.mk (by kernel_rfl) ?_ | refine Eq'.mk ?_ | (refine AllN.mk fun i hi => ?_; cbv) | (refine AllC.mk fun c hc hcm => ?_; (try dsimp only at hc); cbv) | (refine AllS.mk fun r hr => ?_; (try simp only [Dat.ok, Dat.dec, Leaf.ok, Leaf.val, Ins.eta, Vm.eta, Emit.eta, Msg.eta, val_sl] at hr); cbv)
    first | exact h | exact h.symm
  have fin2 : ∀ (b : Bool) H kl, b = same_S p p2 v r i i2 → outA (.b fun _ => same_S p p2 v r i i2) [] (.bc b) H kl := fun b H kl h => by
    cbv
    repeat' first | (refine Stp.mk ?_; cbv) | (refine Gen.mk fun r hr => ?_; (try simp only [Dat.ok, Dat.dec, Leaf.ok, Leaf.val, Ins.eta, Vm.eta, Emit.eta, Msg.eta, val_sl, val_nil] at hr); cbv) | exact trivial | rfl | refine Both.mk ?_ ?_ | (refine Imp.mk fun h => ?_; (try dsimp only at h); (try simp only [nc, Int.toNat_natCast, Bool.not_eq_true', Bool.not_eq_false', decide_eq_true_eq, decide_eq_false_iff_not, beq_iff_eq, beq_eq_false_iff_ne, ba_inj, bne_iff_ne, ne_eq, Bool.and_eq_true, Bool.or_eq_true, Bool.and_eq_false_iff, Bool.or_eq_false_iff, Int.not_le, Int.not_lt, Nat.not_le, Nat.not_lt] at h); (try simp only [nc] at h)) | refine Ob.mk ?_ ?_ | refine Chk.mk (by kernel_rfl) ?_ | refine Eq'.mk ?_ | (refine AllN.mk fun i hi => ?_; cbv) | (refine AllC.mk fun c hc hcm => ?_; (try dsimp only at hc); cbv) | (refine AllS.mk fun r hr => ?_; (try simp only [Dat.ok, Dat.dec, Leaf.ok, Leaf.val, Ins.eta, Vm.eta, Emit.eta, Msg.eta, val_sl] at hr); cbv)
    first | exact h | exact h.symm
  generalize outA (.b fun _ => same_S p p2 v r i i2) [] = K at fin fin2
  cbv
  repeat' first | (show Stp _; exfalso; first | omega | (exact h ‹_›) | (exact absurd ‹_› h) | (exact Bool.false_ne_true (h.symm.trans (show _ = true by assumption)))) | (refine Stp.mk ?_; cbv) | (refine Gen.mk fun r hr => ?_; (try simp only [Dat.ok, Dat.dec, Leaf.ok, Leaf.val, Ins.eta, Vm.eta, Emit.eta, Msg.eta, val_sl, val_nil] at hr); cbv) | exact trivial | rfl | refine Both.mk ?_ ?_ | (refine Imp.mk fun h => ?_; (try dsimp only at h); (try simp only [nc, Int.toNat_natCast, Bool.not_eq_true', Bool.not_eq_false', decide_eq_true_eq, decide_eq_false_iff_not, beq_iff_eq, beq_eq_false_iff_ne, ba_inj, bne_iff_ne, ne_eq, Bool.and_eq_true, Bool.or_eq_true, Bool.and_eq_false_iff, Bool.or_eq_false_iff, Int.not_le, Int.not_lt, Nat.not_le, Nat.not_lt] at h); (try simp only [nc] at h)) | refine Ob.mk ?_ ?_ | refine Chk.mk (by kernel_rfl) ?_ | refine Eq'.mk ?_ | (refine AllN.mk fun i hi => ?_; cbv) | (refine AllC.mk fun c hc hcm => ?_; (try dsimp only at hc); cbv) | (refine AllS.mk fun r hr => ?_; (try simp only [Dat.ok, Dat.dec, Leaf.ok, Leaf.val, Ins.eta, Vm.eta, Emit.eta, Msg.eta, val_sl] at hr); cbv)
  all_goals ((try dsimp only at *); (try simp only [nc, Int.toNat_natCast, Bool.not_eq_true', Bool.not_eq_false', decide_eq_true_eq, decide_eq_false_iff_not, beq_iff_eq, beq_eq_false_iff_ne, ba_inj, bne_iff_ne, ne_eq, Bool.and_eq_true, Bool.or_eq_true, Bool.and_eq_false_iff, Bool.or_eq_false_iff, Int.not_le, Int.not_lt, Nat.not_le, Nat.not_lt] at *); (try simp only [nc] at *))
  all_goals try simp only [Dat.dec, Leaf.val, Ins.eta, Vm.eta, Emit.eta, Msg.eta, val_sl] at *
  all_goals first
    | exact ⟨⟨rfl, fun i _ => Dat.hok _⟩, ⟨rfl, fun i _ => Dat.hok _⟩, show p.length ≤ _ by omega⟩
    | exact ⟨⟨rfl, fun i _ => Dat.hok _⟩, ⟨rfl, fun i _ => Dat.hok _⟩, show v.regs.length ≤ _ by omega⟩
    | exact ⟨⟨rfl, fun i _ => Dat.hok _⟩, ⟨rfl, fun i _ => Dat.hok _⟩, show i.length ≤ _ by omega⟩
    | (have q1 : p = p2 := of_decide_eq_true (show eqIns_S p p2 = true by assumption)
       have q2 : v.regs = r := of_decide_eq_true (show eqInt_S v.regs r = true by assumption)
       refine fin _ _ _ ?_
       show decide (i = i2) = decide (p = p2 ∧ v.regs = r ∧ i = i2)
       simp only [q1, q2, true_and])
    | (have q2 : ¬ v.regs = r := of_decide_eq_false (show eqInt_S v.regs r = false by assumption)
       refine fin2 _ _ _ ?_
       exact (decide_eq_false fun q => q2 q.2.1).symm)
    | (have q1 : ¬ p = p2 := of_decide_eq_false (show eqIns_S p p2 = false by assumption)
       refine fin2 _ _ _ ?_
       exact (decide_eq_false fun q => q1 q.1).symm)
    | fail
theorem same_ok : PcOk Try.prog 27 (detPC same_D) := det_okA fun A p r h hp0 => by
  unfold same_D at h
  split at h
  · rename_i a b v0 v1 v2 v3 c d e
    cases h
    obtain ⟨g1, g2, g3, g4, g5, g6, hp⟩ := hp0
    exact ⟨rfl, FnOk.pre (A' := [.rp [Leaf.av fun _ => (Leaf.val a : List Ins)], .rp [Leaf.av fun _ => (Leaf.val b : List Ins)], .rp (Dat.enc fun _ => (Dat.dec [v0, v1, v2, v3] : Vm)), .rp [Leaf.av fun _ => (Leaf.val c : List Int)], .rp [Leaf.av fun _ => (Leaf.val d : List Int)], .rp [Leaf.av fun _ => (Leaf.val e : List Int)]]) (same_vc _ _ _ _ _ _ hp)
      (.mk (.mk (.mk (Leaf.hle _ g1) trivial) rfl) (.mk (.mk (.mk (Leaf.hle _ g2) trivial) rfl) (.mk (.mk (Dat.hle _ g3) rfl) (.mk (.mk (.mk (Leaf.hle _ g4) trivial) rfl) (.mk (.mk (.mk (Leaf.hle _ g5) trivial) rfl) (.mk (.mk (.mk (Leaf.hle _ g6) trivial) rfl) trivial))))))⟩
  · cases h
def samev_R (r : Th (Bool)) : AV := .b fun _ => (r ())
def samev_S (v : Vm) (u : Vm) : Bool := decide (v = u)
def samev_P (v : Vm) (u : Vm) : Prop := v.regs.length ≤ 1048576
def samev_D : Det := fun A => match A with
  | [.agg v, .agg u] => some (fun _ => Dat.ok Vm v ∧ Dat.ok Vm u ∧ samev_P (Dat.dec v) (Dat.dec u), samev_R fun _ => samev_S (Dat.dec v) (Dat.dec u))
  | _ => none
set_option maxRecDepth 100000 in
set_option maxHeartbeats 4000000 in
theorem samev_vc (v : Vm) (u : Vm) (hp : samev_P v u) : FnOk Try.prog 21 [.agg (Dat.enc fun _ => v), .agg (Dat.enc fun _ => u)] [] (outA (samev_R fun _ => samev_S v u) []) := by
  refine fn_ok envOk zl cSame_ok noDraws_ok (keep := [0, 1, 2, 3, 4]) Try.func21 rfl ?_
  have hp' : v.regs.length ≤ 1048576 := hp
  have fin : ∀ (b : Th Bool) H kl, b () = decide (v = u) → outA (samev_R fun _ => decide (v = u)) [] (.b b) H kl := fun b H kl h => by
    cbv
    repeat' first | (refine Stp.mk ?_; cbv) | (refine Gen.mk fun r hr => ?_; (try simp only [Dat.ok, Dat.dec, Leaf.ok, Leaf.val, Ins.eta, Vm.eta, Emit.eta, Msg.eta, val_sl, val_nil] at hr); cbv) | exact trivial | rfl | refine Both.mk ?_ ?_ | (refine Imp.mk fun h => ?_; (try dsimp only at h); (try simp only [nc, Int.toNat_natCast, Bool.not_eq_true', Bool.not_eq_false', decide_eq_true_eq, decide_eq_false_iff_not, beq_iff_eq, beq_eq_false_iff_ne, ba_inj, bne_iff_ne, ne_eq, Bool.and_eq_true, Bool.or_eq_true, Bool.and_eq_false_iff, Bool.or_eq_false_iff, Int.not_le, Int.not_lt, Nat.not_le, Nat.not_lt] at h); (try simp only [nc] at h)) | refine Ob.mk ?_ ?_ | refine Chk.mk (by kernel_rfl) ?_ | refine Eq'.mk ?_ | (refine AllN.mk fun i hi => ?_; cbv) | (refine AllC.mk fun c hc hcm => ?_; (try dsimp only at hc); cbv) | (refine AllS.mk fun r hr => ?_; (try simp only [Dat.ok, Dat.dec, Leaf.ok, Leaf.val, Ins.eta, Vm.eta, Emit.eta, Msg.eta, val_sl] at hr); cbv)
    first | exact h | exact h.symm
  have fin2 : ∀ (b : Bool) H kl, b = decide (v = u) → outA (samev_R fun _ => decide (v = u)) [] (.bc b) H kl := fun b H kl h => by
    cbv
    repeat' first | (refine Stp.mk ?_; cbv) | (refine Gen.mk fun r hr => ?_; (try simp only [Dat.ok, Dat.dec, Leaf.ok, Leaf.val, Ins.eta, Vm.eta, Emit.eta, Msg.eta, val_sl, val_nil] at hr); cbv) | exact trivial | rfl | refine Both.mk ?_ ?_ | (refine Imp.mk fun h => ?_; (try dsimp only at h); (try simp only [nc, Int.toNat_natCast, Bool.not_eq_true', Bool.not_eq_false', decide_eq_true_eq, decide_eq_false_iff_not, beq_iff_eq, beq_eq_false_iff_ne, ba_inj, bne_iff_ne, ne_eq, Bool.and_eq_true, Bool.or_eq_true, Bool.and_eq_false_iff, Bool.or_eq_false_iff, Int.not_le, Int.not_lt, Nat.not_le, Nat.not_lt] at h); (try simp only [nc] at h)) | refine Ob.mk ?_ ?_ | refine Chk.mk (by kernel_rfl) ?_ | refine Eq'.mk ?_ | (refine AllN.mk fun i hi => ?_; cbv) | (refine AllC.mk fun c hc hcm => ?_; (try dsimp only at hc); cbv) | (refine AllS.mk fun r hr => ?_; (try simp only [Dat.ok, Dat.dec, Leaf.ok, Leaf.val, Ins.eta, Vm.eta, Emit.eta, Msg.eta, val_sl] at hr); cbv)
    first | exact h | exact h.symm
  generalize outA (samev_R fun _ => decide (v = u)) [] = K at fin fin2
  cbv
  repeat' first | (show Stp _; exfalso; first | omega | (exact h ‹_›) | (exact absurd ‹_› h) | (exact Bool.false_ne_true (h.symm.trans (show _ = true by assumption)))) | (refine Stp.mk ?_; cbv) | (refine Gen.mk fun r hr => ?_; (try simp only [Dat.ok, Dat.dec, Leaf.ok, Leaf.val, Ins.eta, Vm.eta, Emit.eta, Msg.eta, val_sl, val_nil] at hr); cbv) | exact trivial | rfl | refine Both.mk ?_ ?_ | (refine Imp.mk fun h => ?_; (try dsimp only at h); (try simp only [nc, Int.toNat_natCast, Bool.not_eq_true', Bool.not_eq_false', decide_eq_true_eq, decide_eq_false_iff_not, beq_iff_eq, beq_eq_false_iff_ne, ba_inj, bne_iff_ne, ne_eq, Bool.and_eq_true, Bool.or_eq_true, Bool.and_eq_false_iff, Bool.or_eq_false_iff, Int.not_le, Int.not_lt, Nat.not_le, Nat.not_lt] at h); (try simp only [nc] at h)) | refine Ob.mk ?_ ?_ | refine Chk.mk (by kernel_rfl) ?_ | refine Eq'.mk ?_ | (refine AllN.mk fun i hi => ?_; cbv) | (refine AllC.mk fun c hc hcm => ?_; (try dsimp only at hc); cbv) | (refine AllS.mk fun r hr => ?_; (try simp only [Dat.ok, Dat.dec, Leaf.ok, Leaf.val, Ins.eta, Vm.eta, Emit.eta, Msg.eta, val_sl] at hr); cbv)
  all_goals ((try dsimp only at *); (try simp only [nc, Int.toNat_natCast, Bool.not_eq_true', Bool.not_eq_false', decide_eq_true_eq, decide_eq_false_iff_not, beq_iff_eq, beq_eq_false_iff_ne, ba_inj, bne_iff_ne, ne_eq, Bool.and_eq_true, Bool.or_eq_true, Bool.and_eq_false_iff, Bool.or_eq_false_iff, Int.not_le, Int.not_lt, Nat.not_le, Nat.not_lt] at *); (try simp only [nc] at *))
  all_goals try simp only [Dat.dec, Leaf.val, Ins.eta, Vm.eta, Emit.eta, Msg.eta, val_sl] at *
  all_goals first
    | exact ⟨⟨rfl, fun i _ => Dat.hok _⟩, ⟨rfl, fun i _ => Dat.hok _⟩, show v.regs.length ≤ _ by omega⟩
    | skip
  all_goals cases v
  all_goals cases u
  all_goals dsimp only at *
  all_goals first
    | (have q2 := of_decide_eq_true (show eqInt_S _ _ = true by assumption)
       subst_vars
       have hbb : ∀ a b : Bool, (a == b) = decide (a = b) := by decide
       show (_ == _) = decide _
       simp only [hbb, Vm.mk.injEq, true_and, and_true])
    | (have q2 := of_decide_eq_false (show eqInt_S _ _ = false by assumption)
       exact (decide_eq_false fun q => q2 (by cases q; rfl)).symm)
    | exact (decide_eq_false fun q => (by assumption : ¬ _) (by cases q; rfl)).symm
    | fail
theorem samev_ok : PcOk Try.prog 21 (detPC samev_D) := det_okA fun A p r h hp0 => by
  unfold samev_D at h
  split at h
  · rename_i v u
    cases h
    obtain ⟨g0, g1, hp⟩ := hp0
    exact ⟨rfl, FnOk.pre (A' := [.agg (Dat.enc fun _ => (Dat.dec v : Vm)), .agg (Dat.enc fun _ => (Dat.dec u : Vm))]) (samev_vc (Dat.dec v) (Dat.dec u) hp) (.mk (Dat.hle _ g0) (.mk (Dat.hle _ g1) (trivial)))⟩
  · cases h
noncomputable def cVW : FuncId → Con := fun f => match f with
  | 19 => pureCon run_C
  | 30 => pureCon newC_C
  | 20 => pureCon (detPC vlives_D)
  | 27 => inlCon E cSm noDraws [0, 1, 2, 3, 4, 5, 6] Try.f27
  | _ => fun _ _ _ => Bad 1001
theorem cVW_ok : ConOk Try.prog cVW := fun f A H K h => by
  unfold cVW at h
  split at h
  · exact ⟨⟨Try.f19, Try.func19, by kernel_rfl, by kernel_rfl⟩, pureCon_ok run_ok h⟩
  · exact ⟨⟨Try.f30, Try.func30, by kernel_rfl, by kernel_rfl⟩, pureCon_ok newC_ok h⟩
  · exact ⟨⟨Try.f20, Try.func20, by kernel_rfl, by kernel_rfl⟩, pureCon_ok vlives_ok h⟩
  · exact ⟨⟨Try.f27, Try.func27, by kernel_rfl, by kernel_rfl⟩, inl_ok envOk zl cSm_ok noDraws_ok Try.func27 h⟩
  · cases h
def dVW : FuncId → Option Dt := fun f => match f with
  | 26 => some (.n clInsN_N)
  | 24 => some (.n clIntN_N)
  | 20 => some (.c vlives_D)
  | 30 => some (.n newN_N)
  | 27 => some (.c same_D)
  | 21 => some (.c samev_D)
  | _ => none
theorem dVW_ok : DetOk Try.prog dVW := fun f d h => by
  unfold dVW at h
  split at h
  · cases h; exact ⟨⟨Try.f26, Try.func26, by kernel_rfl, by kernel_rfl⟩, clInsN_okN⟩
  · cases h; exact ⟨⟨Try.f24, Try.func24, by kernel_rfl, by kernel_rfl⟩, clIntN_okN⟩
  · cases h; exact ⟨⟨Try.f20, Try.func20, by kernel_rfl, by kernel_rfl⟩, vlives_ok⟩
  · cases h; exact ⟨⟨Try.f30, Try.func30, by kernel_rfl, by kernel_rfl⟩, newN_okN⟩
  · cases h; exact ⟨⟨Try.f27, Try.func27, by kernel_rfl, by kernel_rfl⟩, same_ok⟩
  · cases h; exact ⟨⟨Try.f21, Try.func21, by kernel_rfl, by kernel_rfl⟩, samev_ok⟩
  · cases h
structure VwX (n : Nat) where
  k : Nat
  hk : k ≤ n
  l : List Int
  hl : l.length = n
theorem padI {l : List Int} {m : Nat} (i : Nat) : (bif decide (i < l.length) then l.getD i Dat.d0 else (0 : Int)) = (l ++ List.replicate m (0 : Int)).getD i Dat.d0 := by
  rw [gd_app]
  cases decide (i < l.length)
  · show (0 : Int) = (List.replicate m (0 : Int)).getD (i - l.length) Dat.d0
    rw [List.getD_eq_getElem?_getD, List.getElem?_replicate]
    split <;> rfl
  · rfl
set_option maxRecDepth 100000 in
set_option maxHeartbeats 4000000 in
theorem vown_vc (p : (List Ins)) (v : Vm) (inp : (List Int)) (fuel : Int) (fit_p : Siz.fit p) (fit_v : Siz.fit v) (fit_inp : Siz.fit inp) (fit_fuel : Siz.fit fuel) (hB : Siz.bulk p + Siz.bulk v + Siz.bulk inp + Siz.bulk fuel ≤ 1048576) : FnOk Try.prog 11 [Leaf.av fun _ => p, .agg (Dat.enc fun _ => v), Leaf.av fun _ => inp, .i .i64 fun _ => fuel] [] (outA (.bc true) []) := by
  refine fn_ok (envOkW [68]) (zlW [68]) cVW_ok (draws_ok (envOkW [68]) (zlW [68]) dVW_ok mixed) (keep := [0, 1, 2, 3, 4, 5, 6, 8, 9, 10, 11, 12, 13, 18, 19, 20, 22, 23, 51, 52, 53, 60, 61, 62]) Try.func11 rfl ?_
  have fin := @fin_b
  have finc := @fin_t
  have hl : p.length ≤ 1048576 ∧ v.regs.length ≤ 1048576 ∧ inp.length ≤ 1048576 := by
    have h1 := bulk_len Ins.one_le p
    have h2 := bulk_len (α := Int) (fun _ => Nat.le_add_left _ _) v.regs
    have h3 := bulk_len (α := Int) (fun _ => Nat.le_add_left _ _) inp
    simp only [Siz.bulk] at hB h1 h2 h3
    omega
  generalize outA (.bc true) [] = K at fin finc
  cbv
  repeat' first | (show Stp _; exfalso; first | omega | (exact h ‹_›) | (exact absurd ‹_› h) | (exact Bool.false_ne_true (h.symm.trans (show _ = true by assumption)))) | (refine Stp.mk ?_; cbv) | (refine Gen.mk fun r hr => ?_; (try simp only [Dat.ok, Dat.dec, Leaf.ok, Leaf.val, Ins.eta, Vm.eta, Emit.eta, Msg.eta, val_sl, val_nil] at hr); cbv) | exact trivial | rfl | refine Both.mk ?_ ?_ | (refine Imp.mk fun h => ?_; (try dsimp only at h); (try simp only [nc, Int.toNat_natCast, Bool.not_eq_true', Bool.not_eq_false', decide_eq_true_eq, decide_eq_false_iff_not, beq_iff_eq, beq_eq_false_iff_ne, ba_inj, bne_iff_ne, ne_eq, Bool.and_eq_true, Bool.or_eq_true, Bool.and_eq_false_iff, Bool.or_eq_false_iff, Int.not_le, Int.not_lt, Nat.not_le, Nat.not_lt] at h); (try simp only [nc] at h)) | refine Ob.mk ?_ ?_ | refine Chk.mk (by kernel_rfl) ?_ | refine Eq'.mk ?_ | (refine AllN.mk fun i hi => ?_; cbv) | (refine AllC.mk fun c hc hcm => ?_; (try dsimp only at hc); cbv) | (refine AllS.mk fun r hr => ?_; (try simp only [Dat.ok, Dat.dec, Leaf.ok, Leaf.val, Ins.eta, Vm.eta, Emit.eta, Msg.eta, val_sl] at hr); cbv)
  all_goals ((try dsimp only at *); (try simp only [nc, Int.toNat_natCast, Bool.not_eq_true', Bool.not_eq_false', decide_eq_true_eq, decide_eq_false_iff_not, beq_iff_eq, beq_eq_false_iff_ne, ba_inj, bne_iff_ne, ne_eq, Bool.and_eq_true, Bool.or_eq_true, Bool.and_eq_false_iff, Bool.or_eq_false_iff, Int.not_le, Int.not_lt, Nat.not_le, Nat.not_lt] at *); (try simp only [nc] at *))
  all_goals try simp only [Dat.dec, Leaf.val, Ins.eta, Vm.eta, Emit.eta, Msg.eta, val_sl] at *
  all_goals first
    | exact Nat.le_refl _
    | exact ⟨⟨rfl, fun i _ => Dat.hok _⟩, show _ ≤ _ by omega⟩
    | exact ⟨⟨rfl, fun i _ => Dat.hok _⟩, ⟨rfl, fun i _ => Dat.hok _⟩, show _ ≤ _ by omega⟩
    | exact ⟨⟨rfl, fun i _ => Dat.hok _⟩, ⟨trivial, ⟨rfl, fun i _ => Dat.hok _⟩, trivial, trivial⟩, ⟨rfl, fun i _ => Dat.hok _⟩, show _ ≤ _ by omega, show _ ≤ _ by omega, show _ ≤ _ by omega⟩
    | skip
  all_goals first
    | (exfalso
       have z1 : eqIns_S p p = false := by assumption
       rw [show eqIns_S p p = true from decide_eq_true rfl] at z1
       cases z1)
    | (exfalso
       have z1 : eqInt_S v.regs v.regs = false := by assumption
       rw [show eqInt_S v.regs v.regs = true from decide_eq_true rfl] at z1
       cases z1)
    | skip
  rename (_ = runV p v inp fuel) => hw
  obtain ⟨q, hq⟩ : ∃ q, runV p v inp fuel = q := ⟨_, rfl⟩
  rw [hq] at hw
  have hw := hw.symm
  subst hw
  subst_vars
  have hss : same_S p p v v.regs inp inp = true := decide_eq_true ⟨rfl, rfl, rfl⟩
  have hsv : samev_S newC_S newC_S = true := decide_eq_true rfl
  generalize hR : (runV p v inp fuel).1.regs = R
  refine LoopVC.un 3 ?_
  cbv
  repeat' first | (show Stp _; exfalso; first | omega | (exact h ‹_›) | (exact absurd ‹_› h) | (exact Bool.false_ne_true (h.symm.trans (show _ = true by assumption)))) | (refine Stp.mk ?_; cbv) | (refine Gen.mk fun r hr => ?_; (try simp only [Dat.ok, Dat.dec, Leaf.ok, Leaf.val, Ins.eta, Vm.eta, Emit.eta, Msg.eta, val_sl, val_nil] at hr); cbv) | exact trivial | rfl | refine Both.mk ?_ ?_ | (refine Imp.mk fun h => ?_; (try dsimp only at h); (try simp only [nc, Int.toNat_natCast, Bool.not_eq_true', Bool.not_eq_false', decide_eq_true_eq, decide_eq_false_iff_not, beq_iff_eq, beq_eq_false_iff_ne, ba_inj, bne_iff_ne, ne_eq, Bool.and_eq_true, Bool.or_eq_true, Bool.and_eq_false_iff, Bool.or_eq_false_iff, Int.not_le, Int.not_lt, Nat.not_le, Nat.not_lt] at h); (try simp only [nc] at h)) | refine Ob.mk ?_ ?_ | refine Chk.mk (by kernel_rfl) ?_ | refine Eq'.mk ?_ | (refine AllN.mk fun i hi => ?_; cbv) | (refine AllC.mk fun c hc hcm => ?_; (try dsimp only at hc); cbv) | (refine AllS.mk fun r hr => ?_; (try simp only [Dat.ok, Dat.dec, Leaf.ok, Leaf.val, Ins.eta, Vm.eta, Emit.eta, Msg.eta, val_sl] at hr); cbv)
  all_goals ((try dsimp only at *); (try simp only [nc, Int.toNat_natCast, Bool.not_eq_true', Bool.not_eq_false', decide_eq_true_eq, decide_eq_false_iff_not, beq_iff_eq, beq_eq_false_iff_ne, ba_inj, bne_iff_ne, ne_eq, Bool.and_eq_true, Bool.or_eq_true, Bool.and_eq_false_iff, Bool.or_eq_false_iff, Int.not_le, Int.not_lt, Nat.not_le, Nat.not_lt] at *); (try simp only [nc] at *))
  all_goals first
    | exact Nat.le_refl _
    | omega
    | exact ⟨trivial, trivial⟩
    | skip
  focus
    refine LoopVC.un 1 ?_
    cbv
    repeat' first | (show Stp _; exfalso; first | omega | (exact h ‹_›) | (exact absurd ‹_› h) | (exact Bool.false_ne_true (h.symm.trans (show _ = true by assumption)))) | (refine Stp.mk ?_; cbv) | (refine Gen.mk fun r hr => ?_; (try simp only [Dat.ok, Dat.dec, Leaf.ok, Leaf.val, Ins.eta, Vm.eta, Emit.eta, Msg.eta, val_sl, val_nil] at hr); cbv) | exact trivial | rfl | refine Both.mk ?_ ?_ | (refine Imp.mk fun h => ?_; (try dsimp only at h); (try simp only [nc, Int.toNat_natCast, Bool.not_eq_true', Bool.not_eq_false', decide_eq_true_eq, decide_eq_false_iff_not, beq_iff_eq, beq_eq_false_iff_ne, ba_inj, bne_iff_ne, ne_eq, Bool.and_eq_true, Bool.or_eq_true, Bool.and_eq_false_iff, Bool.or_eq_false_iff, Int.not_le, Int.not_lt, Nat.not_le, Nat.not_lt] at h); (try simp only [nc] at h)) | refine Ob.mk ?_ ?_ | refine Chk.mk (by kernel_rfl) ?_ | refine Eq'.mk ?_ | (refine AllN.mk fun i hi => ?_; cbv) | (refine AllC.mk fun c hc hcm => ?_; (try dsimp only at hc); cbv) | (refine AllS.mk fun r hr => ?_; (try simp only [Dat.ok, Dat.dec, Leaf.ok, Leaf.val, Ins.eta, Vm.eta, Emit.eta, Msg.eta, val_sl] at hr); cbv)
    all_goals ((try dsimp only at *); (try simp only [nc, Int.toNat_natCast, Bool.not_eq_true', Bool.not_eq_false', decide_eq_true_eq, decide_eq_false_iff_not, beq_iff_eq, beq_eq_false_iff_ne, ba_inj, bne_iff_ne, ne_eq, Bool.and_eq_true, Bool.or_eq_true, Bool.and_eq_false_iff, Bool.or_eq_false_iff, Int.not_le, Int.not_lt, Nat.not_le, Nat.not_lt] at *); (try simp only [nc] at *))
    all_goals first
      | omega
      | (unfold InR; omega)
      | exact ⟨trivial, trivial⟩
      | (simp only [conj, Dat.dec, Leaf.val, Ins.eta, Vm.eta, Emit.eta, Msg.eta, val_sl]
         first
           | exact ⟨Nat.le_refl _, Nat.le_refl _, Nat.le_refl _, ⟨rfl, fun i _ => Dat.hok _⟩, ⟨rfl, fun i _ => Dat.hok _⟩, ⟨trivial, ⟨rfl, fun i _ => Dat.hok _⟩, trivial, trivial⟩, ⟨rfl, fun i _ => Dat.hok _⟩, ⟨rfl, fun i _ => Dat.hok _⟩, ⟨rfl, fun i _ => Dat.hok _⟩, hl⟩
           | exact ⟨Nat.le_refl _, Nat.le_refl _, ⟨trivial, ⟨rfl, fun i _ => Dat.hok _⟩, trivial, trivial⟩, ⟨trivial, ⟨rfl, fun i _ => Dat.hok _⟩, trivial, trivial⟩, show _ ≤ _ by decide⟩
           | exact ⟨⟨rfl, fun i _ => Dat.hok _⟩, ⟨rfl, fun i _ => Dat.hok _⟩, show _ ≤ _ by omega⟩
           | exact ⟨⟨rfl, fun i _ => Dat.hok _⟩, ⟨rfl, fun i _ => Dat.hok _⟩, ⟨trivial, ⟨rfl, fun i _ => Dat.hok _⟩, trivial, trivial⟩, ⟨rfl, fun i _ => Dat.hok _⟩, ⟨rfl, fun i _ => Dat.hok _⟩, ⟨rfl, fun i _ => Dat.hok _⟩, hl⟩
           | exact ⟨⟨trivial, ⟨rfl, fun i _ => Dat.hok _⟩, trivial, trivial⟩, ⟨trivial, ⟨rfl, fun i _ => Dat.hok _⟩, trivial, trivial⟩, show _ ≤ _ by decide⟩
           | (refine fin ?_; exact hss)
           | (refine fin ?_; exact hsv))
      | (exfalso
         rename (eqIns_S _ _ = false) => z1
         try simp only [Dat.dec, Leaf.val, Ins.eta, Vm.eta, Emit.eta, Msg.eta, val_sl] at z1
         rw [show eqIns_S p p = true from decide_eq_true rfl] at z1
         cases z1)
      | (exfalso
         rename (eqInt_S _ _ = false) => z1
         try simp only [Dat.dec, Leaf.val, Ins.eta, Vm.eta, Emit.eta, Msg.eta, val_sl] at z1
         first
           | (rw [show eqInt_S inp inp = true from decide_eq_true rfl] at z1
              cases z1)
           | (rw [show eqInt_S v.regs v.regs = true from decide_eq_true rfl] at z1
              cases z1))
      | (exfalso
         rename (same_S _ _ _ _ _ _ = false) => z1
         try simp only [Dat.dec, Leaf.val, Ins.eta, Vm.eta, Emit.eta, Msg.eta, val_sl] at z1
         rw [hss] at z1
         cases z1)
      | skip
  rotate_left 2
  focus
    refine LoopVC.frame [23, 61, 62] (VwX c) (fun x => [(61, .i .i64 fun _ => x.k)]) (fun x => [(9, vecO 3 fun _ => x.l)]) [] (fun x => c - x.k)
      ⟨0, Nat.zero_le _, R ++ List.replicate (c - R.length) 0, by rw [List.length_append, List.length_replicate]; omega⟩ rfl (fun _ => rfl) ?_ ?_ fun ⟨k, hk, l, hll⟩ => ?_
    · cbv
      repeat' first | (refine Stp.mk ?_; cbv) | (refine Gen.mk fun r hr => ?_; (try simp only [Dat.ok, Dat.dec, Leaf.ok, Leaf.val, Ins.eta, Vm.eta, Emit.eta, Msg.eta, val_sl, val_nil] at hr); cbv) | exact trivial | rfl | refine Both.mk ?_ ?_ | (refine Imp.mk fun h => ?_; (try dsimp only at h); (try simp only [nc, Int.toNat_natCast, Bool.not_eq_true', Bool.not_eq_false', decide_eq_true_eq, decide_eq_false_iff_not, beq_iff_eq, beq_eq_false_iff_ne, ba_inj, bne_iff_ne, ne_eq, Bool.and_eq_true, Bool.or_eq_true, Bool.and_eq_false_iff, Bool.or_eq_false_iff, Int.not_le, Int.not_lt, Nat.not_le, Nat.not_lt] at h); (try simp only [nc] at h)) | refine Ob.mk ?_ ?_ | refine Chk.mk (by kernel_rfl) ?_ | refine Eq'.mk ?_ | (refine AllN.mk fun i hi => ?_; cbv) | (refine AllC.mk fun c hc hcm => ?_; (try dsimp only at hc); cbv) | (refine AllS.mk fun r hr => ?_; (try simp only [Dat.ok, Dat.dec, Leaf.ok, Leaf.val, Ins.eta, Vm.eta, Emit.eta, Msg.eta, val_sl] at hr); cbv)
    · cbv
      repeat' first | (refine Stp.mk ?_; cbv) | (refine Gen.mk fun r hr => ?_; (try simp only [Dat.ok, Dat.dec, Leaf.ok, Leaf.val, Ins.eta, Vm.eta, Emit.eta, Msg.eta, val_sl, val_nil] at hr); cbv) | exact trivial | rfl | refine Both.mk ?_ ?_ | (refine Imp.mk fun h => ?_; (try dsimp only at h); (try simp only [nc, Int.toNat_natCast, Bool.not_eq_true', Bool.not_eq_false', decide_eq_true_eq, decide_eq_false_iff_not, beq_iff_eq, beq_eq_false_iff_ne, ba_inj, bne_iff_ne, ne_eq, Bool.and_eq_true, Bool.or_eq_true, Bool.and_eq_false_iff, Bool.or_eq_false_iff, Int.not_le, Int.not_lt, Nat.not_le, Nat.not_lt] at h); (try simp only [nc] at h)) | refine Ob.mk ?_ ?_ | refine Chk.mk (by kernel_rfl) ?_ | refine Eq'.mk ?_ | (refine AllN.mk fun i hi => ?_; cbv) | (refine AllC.mk fun c hc hcm => ?_; (try dsimp only at hc); cbv) | (refine AllS.mk fun r hr => ?_; (try simp only [Dat.ok, Dat.dec, Leaf.ok, Leaf.val, Ins.eta, Vm.eta, Emit.eta, Msg.eta, val_sl] at hr); cbv)
      all_goals (try dsimp only at hi)
      all_goals first
        | (show c = (R ++ List.replicate (c - R.length) (0 : Int)).length
           rw [List.length_append, List.length_replicate]; omega)
        | (show (bif decide (i < R.length) then R.getD i Dat.d0 else (0 : Int)) = (R ++ List.replicate (c - R.length) (0 : Int)).getD i Dat.d0
           exact padI i)
        | fail
    cbv
    repeat' first | (show Stp _; exfalso; first | omega | (exact h ‹_›) | (exact absurd ‹_› h) | (exact Bool.false_ne_true (h.symm.trans (show _ = true by assumption)))) | (refine Stp.mk ?_; cbv) | (refine Gen.mk fun r hr => ?_; (try simp only [Dat.ok, Dat.dec, Leaf.ok, Leaf.val, Ins.eta, Vm.eta, Emit.eta, Msg.eta, val_sl, val_nil] at hr); cbv) | exact trivial | rfl | refine Both.mk ?_ ?_ | (refine Imp.mk fun h => ?_; (try dsimp only at h); (try simp only [nc, Int.toNat_natCast, Bool.not_eq_true', Bool.not_eq_false', decide_eq_true_eq, decide_eq_false_iff_not, beq_iff_eq, beq_eq_false_iff_ne, ba_inj, bne_iff_ne, ne_eq, Bool.and_eq_true, Bool.or_eq_true, Bool.and_eq_false_iff, Bool.or_eq_false_iff, Int.not_le, Int.not_lt, Nat.not_le, Nat.not_lt] at h); (try simp only [nc] at h)) | refine Ob.mk ?_ ?_ | refine Chk.mk (by kernel_rfl) ?_ | refine Eq'.mk ?_ | (refine AllN.mk fun i hi => ?_; cbv) | (refine AllC.mk fun c hc hcm => ?_; (try dsimp only at hc); cbv) | (refine AllS.mk fun r hr => ?_; (try simp only [Dat.ok, Dat.dec, Leaf.ok, Leaf.val, Ins.eta, Vm.eta, Emit.eta, Msg.eta, val_sl] at hr); cbv)
    all_goals ((try dsimp only at *); (try simp only [nc, Int.toNat_natCast, Bool.not_eq_true', Bool.not_eq_false', decide_eq_true_eq, decide_eq_false_iff_not, beq_iff_eq, beq_eq_false_iff_ne, ba_inj, bne_iff_ne, ne_eq, Bool.and_eq_true, Bool.or_eq_true, Bool.and_eq_false_iff, Bool.or_eq_false_iff, Int.not_le, Int.not_lt, Nat.not_le, Nat.not_lt] at *); (try simp only [nc] at *))
    all_goals first
      | omega
      | (unfold InR; omega)
      | exact ⟨trivial, trivial⟩
      | (refine ⟨⟨k + 1, by omega, l.set k (IntKind.i64.wrap (l.getD k Dat.d0 + 1)), by rw [List.length_set]; exact hll⟩, ?_, ?_, rfl, by (try dsimp only); omega⟩
         · cbv
           repeat' first | (refine Stp.mk ?_; cbv) | (refine Gen.mk fun r hr => ?_; (try simp only [Dat.ok, Dat.dec, Leaf.ok, Leaf.val, Ins.eta, Vm.eta, Emit.eta, Msg.eta, val_sl, val_nil] at hr); cbv) | exact trivial | rfl | refine Both.mk ?_ ?_ | (refine Imp.mk fun h => ?_; (try dsimp only at h); (try simp only [nc, Int.toNat_natCast, Bool.not_eq_true', Bool.not_eq_false', decide_eq_true_eq, decide_eq_false_iff_not, beq_iff_eq, beq_eq_false_iff_ne, ba_inj, bne_iff_ne, ne_eq, Bool.and_eq_true, Bool.or_eq_true, Bool.and_eq_false_iff, Bool.or_eq_false_iff, Int.not_le, Int.not_lt, Nat.not_le, Nat.not_lt] at h); (try simp only [nc] at h)) | refine Ob.mk ?_ ?_ | refine Chk.mk (by kernel_rfl) ?_ | refine Eq'.mk ?_ | (refine AllN.mk fun i hi => ?_; cbv) | (refine AllC.mk fun c hc hcm => ?_; (try dsimp only at hc); cbv) | (refine AllS.mk fun r hr => ?_; (try simp only [Dat.ok, Dat.dec, Leaf.ok, Leaf.val, Ins.eta, Vm.eta, Emit.eta, Msg.eta, val_sl] at hr); cbv)
         · cbv
           repeat' first | (refine Stp.mk ?_; cbv) | (refine Gen.mk fun r hr => ?_; (try simp only [Dat.ok, Dat.dec, Leaf.ok, Leaf.val, Ins.eta, Vm.eta, Emit.eta, Msg.eta, val_sl, val_nil] at hr); cbv) | exact trivial | rfl | refine Both.mk ?_ ?_ | (refine Imp.mk fun h => ?_; (try dsimp only at h); (try simp only [nc, Int.toNat_natCast, Bool.not_eq_true', Bool.not_eq_false', decide_eq_true_eq, decide_eq_false_iff_not, beq_iff_eq, beq_eq_false_iff_ne, ba_inj, bne_iff_ne, ne_eq, Bool.and_eq_true, Bool.or_eq_true, Bool.and_eq_false_iff, Bool.or_eq_false_iff, Int.not_le, Int.not_lt, Nat.not_le, Nat.not_lt] at h); (try simp only [nc] at h)) | refine Ob.mk ?_ ?_ | refine Chk.mk (by kernel_rfl) ?_ | refine Eq'.mk ?_ | (refine AllN.mk fun i hi => ?_; cbv) | (refine AllC.mk fun c hc hcm => ?_; (try dsimp only at hc); cbv) | (refine AllS.mk fun r hr => ?_; (try simp only [Dat.ok, Dat.dec, Leaf.ok, Leaf.val, Ins.eta, Vm.eta, Emit.eta, Msg.eta, val_sl] at hr); cbv)
           all_goals ((try dsimp only at *); (try simp only [nc, Int.toNat_natCast, Bool.not_eq_true', Bool.not_eq_false', decide_eq_true_eq, decide_eq_false_iff_not, beq_iff_eq, beq_eq_false_iff_ne, ba_inj, bne_iff_ne, ne_eq, Bool.and_eq_true, Bool.or_eq_true, Bool.and_eq_false_iff, Bool.or_eq_false_iff, Int.not_le, Int.not_lt, Nat.not_le, Nat.not_lt] at *); (try simp only [nc] at *))
           all_goals first
             | exact (List.length_set ..).symm
             | (show _ = (l.set k _).getD i Dat.d0
                rw [gd_set _ _ _ _ _ (by omega)])
             | fail)
      | (simp only [conj, Dat.dec, Leaf.val, Ins.eta, Vm.eta, Emit.eta, Msg.eta, val_sl]
         first
           | exact ⟨Nat.le_refl _, Nat.le_refl _, Nat.le_refl _, ⟨rfl, fun i _ => Dat.hok _⟩, ⟨rfl, fun i _ => Dat.hok _⟩, ⟨trivial, ⟨rfl, fun i _ => Dat.hok _⟩, trivial, trivial⟩, ⟨rfl, fun i _ => Dat.hok _⟩, ⟨rfl, fun i _ => Dat.hok _⟩, ⟨rfl, fun i _ => Dat.hok _⟩, hl⟩
           | exact ⟨Nat.le_refl _, Nat.le_refl _, ⟨trivial, ⟨rfl, fun i _ => Dat.hok _⟩, trivial, trivial⟩, ⟨trivial, ⟨rfl, fun i _ => Dat.hok _⟩, trivial, trivial⟩, show _ ≤ _ by decide⟩
           | exact ⟨⟨rfl, fun i _ => Dat.hok _⟩, ⟨rfl, fun i _ => Dat.hok _⟩, show _ ≤ _ by omega⟩
           | exact ⟨⟨rfl, fun i _ => Dat.hok _⟩, ⟨rfl, fun i _ => Dat.hok _⟩, ⟨trivial, ⟨rfl, fun i _ => Dat.hok _⟩, trivial, trivial⟩, ⟨rfl, fun i _ => Dat.hok _⟩, ⟨rfl, fun i _ => Dat.hok _⟩, ⟨rfl, fun i _ => Dat.hok _⟩, hl⟩
           | exact ⟨⟨trivial, ⟨rfl, fun i _ => Dat.hok _⟩, trivial, trivial⟩, ⟨trivial, ⟨rfl, fun i _ => Dat.hok _⟩, trivial, trivial⟩, show _ ≤ _ by decide⟩
           | (refine fin ?_; exact hss)
           | (refine fin ?_; exact hsv))
      | (exfalso
         rename (eqIns_S _ _ = false) => z1
         try simp only [Dat.dec, Leaf.val, Ins.eta, Vm.eta, Emit.eta, Msg.eta, val_sl] at z1
         rw [show eqIns_S p p = true from decide_eq_true rfl] at z1
         cases z1)
      | (exfalso
         rename (eqInt_S _ _ = false) => z1
         try simp only [Dat.dec, Leaf.val, Ins.eta, Vm.eta, Emit.eta, Msg.eta, val_sl] at z1
         first
           | (rw [show eqInt_S inp inp = true from decide_eq_true rfl] at z1
              cases z1)
           | (rw [show eqInt_S v.regs v.regs = true from decide_eq_true rfl] at z1
              cases z1))
      | (exfalso
         rename (same_S _ _ _ _ _ _ = false) => z1
         try simp only [Dat.dec, Leaf.val, Ins.eta, Vm.eta, Emit.eta, Msg.eta, val_sl] at z1
         rw [hss] at z1
         cases z1)
      | skip
  focus
    refine LoopVC.un 1 ?_
    cbv
    repeat' first | (show Stp _; exfalso; first | omega | (exact h ‹_›) | (exact absurd ‹_› h) | (exact Bool.false_ne_true (h.symm.trans (show _ = true by assumption)))) | (refine Stp.mk ?_; cbv) | (refine Gen.mk fun r hr => ?_; (try simp only [Dat.ok, Dat.dec, Leaf.ok, Leaf.val, Ins.eta, Vm.eta, Emit.eta, Msg.eta, val_sl, val_nil] at hr); cbv) | exact trivial | rfl | refine Both.mk ?_ ?_ | (refine Imp.mk fun h => ?_; (try dsimp only at h); (try simp only [nc, Int.toNat_natCast, Bool.not_eq_true', Bool.not_eq_false', decide_eq_true_eq, decide_eq_false_iff_not, beq_iff_eq, beq_eq_false_iff_ne, ba_inj, bne_iff_ne, ne_eq, Bool.and_eq_true, Bool.or_eq_true, Bool.and_eq_false_iff, Bool.or_eq_false_iff, Int.not_le, Int.not_lt, Nat.not_le, Nat.not_lt] at h); (try simp only [nc] at h)) | refine Ob.mk ?_ ?_ | refine Chk.mk (by kernel_rfl) ?_ | refine Eq'.mk ?_ | (refine AllN.mk fun i hi => ?_; cbv) | (refine AllC.mk fun c hc hcm => ?_; (try dsimp only at hc); cbv) | (refine AllS.mk fun r hr => ?_; (try simp only [Dat.ok, Dat.dec, Leaf.ok, Leaf.val, Ins.eta, Vm.eta, Emit.eta, Msg.eta, val_sl] at hr); cbv)
    all_goals ((try dsimp only at *); (try simp only [nc, Int.toNat_natCast, Bool.not_eq_true', Bool.not_eq_false', decide_eq_true_eq, decide_eq_false_iff_not, beq_iff_eq, beq_eq_false_iff_ne, ba_inj, bne_iff_ne, ne_eq, Bool.and_eq_true, Bool.or_eq_true, Bool.and_eq_false_iff, Bool.or_eq_false_iff, Int.not_le, Int.not_lt, Nat.not_le, Nat.not_lt] at *); (try simp only [nc] at *))
    all_goals first
      | omega
      | (unfold InR; omega)
      | exact ⟨trivial, trivial⟩
      | (simp only [conj, Dat.dec, Leaf.val, Ins.eta, Vm.eta, Emit.eta, Msg.eta, val_sl]
         first
           | exact ⟨Nat.le_refl _, Nat.le_refl _, Nat.le_refl _, ⟨rfl, fun i _ => Dat.hok _⟩, ⟨rfl, fun i _ => Dat.hok _⟩, ⟨trivial, ⟨rfl, fun i _ => Dat.hok _⟩, trivial, trivial⟩, ⟨rfl, fun i _ => Dat.hok _⟩, ⟨rfl, fun i _ => Dat.hok _⟩, ⟨rfl, fun i _ => Dat.hok _⟩, hl⟩
           | exact ⟨Nat.le_refl _, Nat.le_refl _, ⟨trivial, ⟨rfl, fun i _ => Dat.hok _⟩, trivial, trivial⟩, ⟨trivial, ⟨rfl, fun i _ => Dat.hok _⟩, trivial, trivial⟩, show _ ≤ _ by decide⟩
           | exact ⟨⟨rfl, fun i _ => Dat.hok _⟩, ⟨rfl, fun i _ => Dat.hok _⟩, show _ ≤ _ by omega⟩
           | exact ⟨⟨rfl, fun i _ => Dat.hok _⟩, ⟨rfl, fun i _ => Dat.hok _⟩, ⟨trivial, ⟨rfl, fun i _ => Dat.hok _⟩, trivial, trivial⟩, ⟨rfl, fun i _ => Dat.hok _⟩, ⟨rfl, fun i _ => Dat.hok _⟩, ⟨rfl, fun i _ => Dat.hok _⟩, hl⟩
           | exact ⟨⟨trivial, ⟨rfl, fun i _ => Dat.hok _⟩, trivial, trivial⟩, ⟨trivial, ⟨rfl, fun i _ => Dat.hok _⟩, trivial, trivial⟩, show _ ≤ _ by decide⟩
           | (refine fin ?_; exact hss)
           | (refine fin ?_; exact hsv))
      | (exfalso
         rename (eqIns_S _ _ = false) => z1
         try simp only [Dat.dec, Leaf.val, Ins.eta, Vm.eta, Emit.eta, Msg.eta, val_sl] at z1
         rw [show eqIns_S p p = true from decide_eq_true rfl] at z1
         cases z1)
      | (exfalso
         rename (eqInt_S _ _ = false) => z1
         try simp only [Dat.dec, Leaf.val, Ins.eta, Vm.eta, Emit.eta, Msg.eta, val_sl] at z1
         first
           | (rw [show eqInt_S inp inp = true from decide_eq_true rfl] at z1
              cases z1)
           | (rw [show eqInt_S v.regs v.regs = true from decide_eq_true rfl] at z1
              cases z1))
      | (exfalso
         rename (same_S _ _ _ _ _ _ = false) => z1
         try simp only [Dat.dec, Leaf.val, Ins.eta, Vm.eta, Emit.eta, Msg.eta, val_sl] at z1
         rw [hss] at z1
         cases z1)
      | skip
  focus
    refine LoopVC.frame [23, 61, 62] (VwX c) (fun x => [(61, .i .i64 fun _ => x.k)]) (fun x => [(12, vecO 3 fun _ => x.l)]) [] (fun x => c - x.k)
      ⟨0, Nat.zero_le _, newC_S.regs ++ List.replicate (c - newC_S.regs.length) 0, by rw [List.length_append, List.length_replicate]; omega⟩ rfl (fun _ => rfl) ?_ ?_ fun ⟨k, hk, l, hll⟩ => ?_
    · cbv
      repeat' first | (refine Stp.mk ?_; cbv) | (refine Gen.mk fun r hr => ?_; (try simp only [Dat.ok, Dat.dec, Leaf.ok, Leaf.val, Ins.eta, Vm.eta, Emit.eta, Msg.eta, val_sl, val_nil] at hr); cbv) | exact trivial | rfl | refine Both.mk ?_ ?_ | (refine Imp.mk fun h => ?_; (try dsimp only at h); (try simp only [nc, Int.toNat_natCast, Bool.not_eq_true', Bool.not_eq_false', decide_eq_true_eq, decide_eq_false_iff_not, beq_iff_eq, beq_eq_false_iff_ne, ba_inj, bne_iff_ne, ne_eq, Bool.and_eq_true, Bool.or_eq_true, Bool.and_eq_false_iff, Bool.or_eq_false_iff, Int.not_le, Int.not_lt, Nat.not_le, Nat.not_lt] at h); (try simp only [nc] at h)) | refine Ob.mk ?_ ?_ | refine Chk.mk (by kernel_rfl) ?_ | refine Eq'.mk ?_ | (refine AllN.mk fun i hi => ?_; cbv) | (refine AllC.mk fun c hc hcm => ?_; (try dsimp only at hc); cbv) | (refine AllS.mk fun r hr => ?_; (try simp only [Dat.ok, Dat.dec, Leaf.ok, Leaf.val, Ins.eta, Vm.eta, Emit.eta, Msg.eta, val_sl] at hr); cbv)
    · cbv
      repeat' first | (refine Stp.mk ?_; cbv) | (refine Gen.mk fun r hr => ?_; (try simp only [Dat.ok, Dat.dec, Leaf.ok, Leaf.val, Ins.eta, Vm.eta, Emit.eta, Msg.eta, val_sl, val_nil] at hr); cbv) | exact trivial | rfl | refine Both.mk ?_ ?_ | (refine Imp.mk fun h => ?_; (try dsimp only at h); (try simp only [nc, Int.toNat_natCast, Bool.not_eq_true', Bool.not_eq_false', decide_eq_true_eq, decide_eq_false_iff_not, beq_iff_eq, beq_eq_false_iff_ne, ba_inj, bne_iff_ne, ne_eq, Bool.and_eq_true, Bool.or_eq_true, Bool.and_eq_false_iff, Bool.or_eq_false_iff, Int.not_le, Int.not_lt, Nat.not_le, Nat.not_lt] at h); (try simp only [nc] at h)) | refine Ob.mk ?_ ?_ | refine Chk.mk (by kernel_rfl) ?_ | refine Eq'.mk ?_ | (refine AllN.mk fun i hi => ?_; cbv) | (refine AllC.mk fun c hc hcm => ?_; (try dsimp only at hc); cbv) | (refine AllS.mk fun r hr => ?_; (try simp only [Dat.ok, Dat.dec, Leaf.ok, Leaf.val, Ins.eta, Vm.eta, Emit.eta, Msg.eta, val_sl] at hr); cbv)
      all_goals (try dsimp only at hi)
      all_goals first
        | (show c = (newC_S.regs ++ List.replicate (c - newC_S.regs.length) (0 : Int)).length
           rw [List.length_append, List.length_replicate]; omega)
        | (show (bif decide (i < newC_S.regs.length) then newC_S.regs.getD i Dat.d0 else (0 : Int)) = (newC_S.regs ++ List.replicate (c - newC_S.regs.length) (0 : Int)).getD i Dat.d0
           exact padI i)
        | fail
    cbv
    repeat' first | (show Stp _; exfalso; first | omega | (exact h ‹_›) | (exact absurd ‹_› h) | (exact Bool.false_ne_true (h.symm.trans (show _ = true by assumption)))) | (refine Stp.mk ?_; cbv) | (refine Gen.mk fun r hr => ?_; (try simp only [Dat.ok, Dat.dec, Leaf.ok, Leaf.val, Ins.eta, Vm.eta, Emit.eta, Msg.eta, val_sl, val_nil] at hr); cbv) | exact trivial | rfl | refine Both.mk ?_ ?_ | (refine Imp.mk fun h => ?_; (try dsimp only at h); (try simp only [nc, Int.toNat_natCast, Bool.not_eq_true', Bool.not_eq_false', decide_eq_true_eq, decide_eq_false_iff_not, beq_iff_eq, beq_eq_false_iff_ne, ba_inj, bne_iff_ne, ne_eq, Bool.and_eq_true, Bool.or_eq_true, Bool.and_eq_false_iff, Bool.or_eq_false_iff, Int.not_le, Int.not_lt, Nat.not_le, Nat.not_lt] at h); (try simp only [nc] at h)) | refine Ob.mk ?_ ?_ | refine Chk.mk (by kernel_rfl) ?_ | refine Eq'.mk ?_ | (refine AllN.mk fun i hi => ?_; cbv) | (refine AllC.mk fun c hc hcm => ?_; (try dsimp only at hc); cbv) | (refine AllS.mk fun r hr => ?_; (try simp only [Dat.ok, Dat.dec, Leaf.ok, Leaf.val, Ins.eta, Vm.eta, Emit.eta, Msg.eta, val_sl] at hr); cbv)
    all_goals ((try dsimp only at *); (try simp only [nc, Int.toNat_natCast, Bool.not_eq_true', Bool.not_eq_false', decide_eq_true_eq, decide_eq_false_iff_not, beq_iff_eq, beq_eq_false_iff_ne, ba_inj, bne_iff_ne, ne_eq, Bool.and_eq_true, Bool.or_eq_true, Bool.and_eq_false_iff, Bool.or_eq_false_iff, Int.not_le, Int.not_lt, Nat.not_le, Nat.not_lt] at *); (try simp only [nc] at *))
    all_goals first
      | omega
      | (unfold InR; omega)
      | exact ⟨trivial, trivial⟩
      | (refine ⟨⟨k + 1, by omega, l.set k (IntKind.i64.wrap (l.getD k Dat.d0 + 1)), by rw [List.length_set]; exact hll⟩, ?_, ?_, rfl, by (try dsimp only); omega⟩
         · cbv
           repeat' first | (refine Stp.mk ?_; cbv) | (refine Gen.mk fun r hr => ?_; (try simp only [Dat.ok, Dat.dec, Leaf.ok, Leaf.val, Ins.eta, Vm.eta, Emit.eta, Msg.eta, val_sl, val_nil] at hr); cbv) | exact trivial | rfl | refine Both.mk ?_ ?_ | (refine Imp.mk fun h => ?_; (try dsimp only at h); (try simp only [nc, Int.toNat_natCast, Bool.not_eq_true', Bool.not_eq_false', decide_eq_true_eq, decide_eq_false_iff_not, beq_iff_eq, beq_eq_false_iff_ne, ba_inj, bne_iff_ne, ne_eq, Bool.and_eq_true, Bool.or_eq_true, Bool.and_eq_false_iff, Bool.or_eq_false_iff, Int.not_le, Int.not_lt, Nat.not_le, Nat.not_lt] at h); (try simp only [nc] at h)) | refine Ob.mk ?_ ?_ | refine Chk.mk (by kernel_rfl) ?_ | refine Eq'.mk ?_ | (refine AllN.mk fun i hi => ?_; cbv) | (refine AllC.mk fun c hc hcm => ?_; (try dsimp only at hc); cbv) | (refine AllS.mk fun r hr => ?_; (try simp only [Dat.ok, Dat.dec, Leaf.ok, Leaf.val, Ins.eta, Vm.eta, Emit.eta, Msg.eta, val_sl] at hr); cbv)
         · cbv
           repeat' first | (refine Stp.mk ?_; cbv) | (refine Gen.mk fun r hr => ?_; (try simp only [Dat.ok, Dat.dec, Leaf.ok, Leaf.val, Ins.eta, Vm.eta, Emit.eta, Msg.eta, val_sl, val_nil] at hr); cbv) | exact trivial | rfl | refine Both.mk ?_ ?_ | (refine Imp.mk fun h => ?_; (try dsimp only at h); (try simp only [nc, Int.toNat_natCast, Bool.not_eq_true', Bool.not_eq_false', decide_eq_true_eq, decide_eq_false_iff_not, beq_iff_eq, beq_eq_false_iff_ne, ba_inj, bne_iff_ne, ne_eq, Bool.and_eq_true, Bool.or_eq_true, Bool.and_eq_false_iff, Bool.or_eq_false_iff, Int.not_le, Int.not_lt, Nat.not_le, Nat.not_lt] at h); (try simp only [nc] at h)) | refine Ob.mk ?_ ?_ | refine Chk.mk (by kernel_rfl) ?_ | refine Eq'.mk ?_ | (refine AllN.mk fun i hi => ?_; cbv) | (refine AllC.mk fun c hc hcm => ?_; (try dsimp only at hc); cbv) | (refine AllS.mk fun r hr => ?_; (try simp only [Dat.ok, Dat.dec, Leaf.ok, Leaf.val, Ins.eta, Vm.eta, Emit.eta, Msg.eta, val_sl] at hr); cbv)
           all_goals ((try dsimp only at *); (try simp only [nc, Int.toNat_natCast, Bool.not_eq_true', Bool.not_eq_false', decide_eq_true_eq, decide_eq_false_iff_not, beq_iff_eq, beq_eq_false_iff_ne, ba_inj, bne_iff_ne, ne_eq, Bool.and_eq_true, Bool.or_eq_true, Bool.and_eq_false_iff, Bool.or_eq_false_iff, Int.not_le, Int.not_lt, Nat.not_le, Nat.not_lt] at *); (try simp only [nc] at *))
           all_goals first
             | exact (List.length_set ..).symm
             | (show _ = (l.set k _).getD i Dat.d0
                rw [gd_set _ _ _ _ _ (by omega)])
             | fail)
      | (simp only [conj, Dat.dec, Leaf.val, Ins.eta, Vm.eta, Emit.eta, Msg.eta, val_sl]
         first
           | exact ⟨Nat.le_refl _, Nat.le_refl _, Nat.le_refl _, ⟨rfl, fun i _ => Dat.hok _⟩, ⟨rfl, fun i _ => Dat.hok _⟩, ⟨trivial, ⟨rfl, fun i _ => Dat.hok _⟩, trivial, trivial⟩, ⟨rfl, fun i _ => Dat.hok _⟩, ⟨rfl, fun i _ => Dat.hok _⟩, ⟨rfl, fun i _ => Dat.hok _⟩, hl⟩
           | exact ⟨Nat.le_refl _, Nat.le_refl _, ⟨trivial, ⟨rfl, fun i _ => Dat.hok _⟩, trivial, trivial⟩, ⟨trivial, ⟨rfl, fun i _ => Dat.hok _⟩, trivial, trivial⟩, show _ ≤ _ by decide⟩
           | exact ⟨⟨rfl, fun i _ => Dat.hok _⟩, ⟨rfl, fun i _ => Dat.hok _⟩, show _ ≤ _ by omega⟩
           | exact ⟨⟨rfl, fun i _ => Dat.hok _⟩, ⟨rfl, fun i _ => Dat.hok _⟩, ⟨trivial, ⟨rfl, fun i _ => Dat.hok _⟩, trivial, trivial⟩, ⟨rfl, fun i _ => Dat.hok _⟩, ⟨rfl, fun i _ => Dat.hok _⟩, ⟨rfl, fun i _ => Dat.hok _⟩, hl⟩
           | exact ⟨⟨trivial, ⟨rfl, fun i _ => Dat.hok _⟩, trivial, trivial⟩, ⟨trivial, ⟨rfl, fun i _ => Dat.hok _⟩, trivial, trivial⟩, show _ ≤ _ by decide⟩
           | (refine fin ?_; exact hss)
           | (refine fin ?_; exact hsv))
      | (exfalso
         rename (eqIns_S _ _ = false) => z1
         try simp only [Dat.dec, Leaf.val, Ins.eta, Vm.eta, Emit.eta, Msg.eta, val_sl] at z1
         rw [show eqIns_S p p = true from decide_eq_true rfl] at z1
         cases z1)
      | (exfalso
         rename (eqInt_S _ _ = false) => z1
         try simp only [Dat.dec, Leaf.val, Ins.eta, Vm.eta, Emit.eta, Msg.eta, val_sl] at z1
         first
           | (rw [show eqInt_S inp inp = true from decide_eq_true rfl] at z1
              cases z1)
           | (rw [show eqInt_S v.regs v.regs = true from decide_eq_true rfl] at z1
              cases z1))
      | (exfalso
         rename (same_S _ _ _ _ _ _ = false) => z1
         try simp only [Dat.dec, Leaf.val, Ins.eta, Vm.eta, Emit.eta, Msg.eta, val_sl] at z1
         rw [hss] at z1
         cases z1)
      | skip
  focus
    refine LoopVC.un 1 ?_
    cbv
    repeat' first | (show Stp _; exfalso; first | omega | (exact h ‹_›) | (exact absurd ‹_› h) | (exact Bool.false_ne_true (h.symm.trans (show _ = true by assumption)))) | (refine Stp.mk ?_; cbv) | (refine Gen.mk fun r hr => ?_; (try simp only [Dat.ok, Dat.dec, Leaf.ok, Leaf.val, Ins.eta, Vm.eta, Emit.eta, Msg.eta, val_sl, val_nil] at hr); cbv) | exact trivial | rfl | refine Both.mk ?_ ?_ | (refine Imp.mk fun h => ?_; (try dsimp only at h); (try simp only [nc, Int.toNat_natCast, Bool.not_eq_true', Bool.not_eq_false', decide_eq_true_eq, decide_eq_false_iff_not, beq_iff_eq, beq_eq_false_iff_ne, ba_inj, bne_iff_ne, ne_eq, Bool.and_eq_true, Bool.or_eq_true, Bool.and_eq_false_iff, Bool.or_eq_false_iff, Int.not_le, Int.not_lt, Nat.not_le, Nat.not_lt] at h); (try simp only [nc] at h)) | refine Ob.mk ?_ ?_ | refine Chk.mk (by kernel_rfl) ?_ | refine Eq'.mk ?_ | (refine AllN.mk fun i hi => ?_; cbv) | (refine AllC.mk fun c hc hcm => ?_; (try dsimp only at hc); cbv) | (refine AllS.mk fun r hr => ?_; (try simp only [Dat.ok, Dat.dec, Leaf.ok, Leaf.val, Ins.eta, Vm.eta, Emit.eta, Msg.eta, val_sl] at hr); cbv)
    all_goals ((try dsimp only at *); (try simp only [nc, Int.toNat_natCast, Bool.not_eq_true', Bool.not_eq_false', decide_eq_true_eq, decide_eq_false_iff_not, beq_iff_eq, beq_eq_false_iff_ne, ba_inj, bne_iff_ne, ne_eq, Bool.and_eq_true, Bool.or_eq_true, Bool.and_eq_false_iff, Bool.or_eq_false_iff, Int.not_le, Int.not_lt, Nat.not_le, Nat.not_lt] at *); (try simp only [nc] at *))
    all_goals first
      | omega
      | (unfold InR; omega)
      | exact ⟨trivial, trivial⟩
      | (simp only [conj, Dat.dec, Leaf.val, Ins.eta, Vm.eta, Emit.eta, Msg.eta, val_sl]
         first
           | exact ⟨Nat.le_refl _, Nat.le_refl _, Nat.le_refl _, ⟨rfl, fun i _ => Dat.hok _⟩, ⟨rfl, fun i _ => Dat.hok _⟩, ⟨trivial, ⟨rfl, fun i _ => Dat.hok _⟩, trivial, trivial⟩, ⟨rfl, fun i _ => Dat.hok _⟩, ⟨rfl, fun i _ => Dat.hok _⟩, ⟨rfl, fun i _ => Dat.hok _⟩, hl⟩
           | exact ⟨Nat.le_refl _, Nat.le_refl _, ⟨trivial, ⟨rfl, fun i _ => Dat.hok _⟩, trivial, trivial⟩, ⟨trivial, ⟨rfl, fun i _ => Dat.hok _⟩, trivial, trivial⟩, show _ ≤ _ by decide⟩
           | exact ⟨⟨rfl, fun i _ => Dat.hok _⟩, ⟨rfl, fun i _ => Dat.hok _⟩, show _ ≤ _ by omega⟩
           | exact ⟨⟨rfl, fun i _ => Dat.hok _⟩, ⟨rfl, fun i _ => Dat.hok _⟩, ⟨trivial, ⟨rfl, fun i _ => Dat.hok _⟩, trivial, trivial⟩, ⟨rfl, fun i _ => Dat.hok _⟩, ⟨rfl, fun i _ => Dat.hok _⟩, ⟨rfl, fun i _ => Dat.hok _⟩, hl⟩
           | exact ⟨⟨trivial, ⟨rfl, fun i _ => Dat.hok _⟩, trivial, trivial⟩, ⟨trivial, ⟨rfl, fun i _ => Dat.hok _⟩, trivial, trivial⟩, show _ ≤ _ by decide⟩
           | (refine fin ?_; exact hss)
           | (refine fin ?_; exact hsv))
      | (exfalso
         rename (eqIns_S _ _ = false) => z1
         try simp only [Dat.dec, Leaf.val, Ins.eta, Vm.eta, Emit.eta, Msg.eta, val_sl] at z1
         rw [show eqIns_S p p = true from decide_eq_true rfl] at z1
         cases z1)
      | (exfalso
         rename (eqInt_S _ _ = false) => z1
         try simp only [Dat.dec, Leaf.val, Ins.eta, Vm.eta, Emit.eta, Msg.eta, val_sl] at z1
         first
           | (rw [show eqInt_S inp inp = true from decide_eq_true rfl] at z1
              cases z1)
           | (rw [show eqInt_S v.regs v.regs = true from decide_eq_true rfl] at z1
              cases z1))
      | (exfalso
         rename (same_S _ _ _ _ _ _ = false) => z1
         try simp only [Dat.dec, Leaf.val, Ins.eta, Vm.eta, Emit.eta, Msg.eta, val_sl] at z1
         rw [hss] at z1
         cases z1)
      | skip
  focus
    refine LoopVC.frame [23, 61, 62] (VwX c) (fun x => [(61, .i .i64 fun _ => x.k)]) (fun x => [(12, vecO 3 fun _ => x.l)]) [] (fun x => c - x.k)
      ⟨0, Nat.zero_le _, newC_S.regs ++ List.replicate (c - newC_S.regs.length) 0, by rw [List.length_append, List.length_replicate]; omega⟩ rfl (fun _ => rfl) ?_ ?_ fun ⟨k, hk, l, hll⟩ => ?_
    · cbv
      repeat' first | (refine Stp.mk ?_; cbv) | (refine Gen.mk fun r hr => ?_; (try simp only [Dat.ok, Dat.dec, Leaf.ok, Leaf.val, Ins.eta, Vm.eta, Emit.eta, Msg.eta, val_sl, val_nil] at hr); cbv) | exact trivial | rfl | refine Both.mk ?_ ?_ | (refine Imp.mk fun h => ?_; (try dsimp only at h); (try simp only [nc, Int.toNat_natCast, Bool.not_eq_true', Bool.not_eq_false', decide_eq_true_eq, decide_eq_false_iff_not, beq_iff_eq, beq_eq_false_iff_ne, ba_inj, bne_iff_ne, ne_eq, Bool.and_eq_true, Bool.or_eq_true, Bool.and_eq_false_iff, Bool.or_eq_false_iff, Int.not_le, Int.not_lt, Nat.not_le, Nat.not_lt] at h); (try simp only [nc] at h)) | refine Ob.mk ?_ ?_ | refine Chk.mk (by kernel_rfl) ?_ | refine Eq'.mk ?_ | (refine AllN.mk fun i hi => ?_; cbv) | (refine AllC.mk fun c hc hcm => ?_; (try dsimp only at hc); cbv) | (refine AllS.mk fun r hr => ?_; (try simp only [Dat.ok, Dat.dec, Leaf.ok, Leaf.val, Ins.eta, Vm.eta, Emit.eta, Msg.eta, val_sl] at hr); cbv)
    · cbv
      repeat' first | (refine Stp.mk ?_; cbv) | (refine Gen.mk fun r hr => ?_; (try simp only [Dat.ok, Dat.dec, Leaf.ok, Leaf.val, Ins.eta, Vm.eta, Emit.eta, Msg.eta, val_sl, val_nil] at hr); cbv) | exact trivial | rfl | refine Both.mk ?_ ?_ | (refine Imp.mk fun h => ?_; (try dsimp only at h); (try simp only [nc, Int.toNat_natCast, Bool.not_eq_true', Bool.not_eq_false', decide_eq_true_eq, decide_eq_false_iff_not, beq_iff_eq, beq_eq_false_iff_ne, ba_inj, bne_iff_ne, ne_eq, Bool.and_eq_true, Bool.or_eq_true, Bool.and_eq_false_iff, Bool.or_eq_false_iff, Int.not_le, Int.not_lt, Nat.not_le, Nat.not_lt] at h); (try simp only [nc] at h)) | refine Ob.mk ?_ ?_ | refine Chk.mk (by kernel_rfl) ?_ | refine Eq'.mk ?_ | (refine AllN.mk fun i hi => ?_; cbv) | (refine AllC.mk fun c hc hcm => ?_; (try dsimp only at hc); cbv) | (refine AllS.mk fun r hr => ?_; (try simp only [Dat.ok, Dat.dec, Leaf.ok, Leaf.val, Ins.eta, Vm.eta, Emit.eta, Msg.eta, val_sl] at hr); cbv)
      all_goals (try dsimp only at hi)
      all_goals first
        | (show c = (newC_S.regs ++ List.replicate (c - newC_S.regs.length) (0 : Int)).length
           rw [List.length_append, List.length_replicate]; omega)
        | (show (bif decide (i < newC_S.regs.length) then newC_S.regs.getD i Dat.d0 else (0 : Int)) = (newC_S.regs ++ List.replicate (c - newC_S.regs.length) (0 : Int)).getD i Dat.d0
           exact padI i)
        | fail
    cbv
    repeat' first | (show Stp _; exfalso; first | omega | (exact h ‹_›) | (exact absurd ‹_› h) | (exact Bool.false_ne_true (h.symm.trans (show _ = true by assumption)))) | (refine Stp.mk ?_; cbv) | (refine Gen.mk fun r hr => ?_; (try simp only [Dat.ok, Dat.dec, Leaf.ok, Leaf.val, Ins.eta, Vm.eta, Emit.eta, Msg.eta, val_sl, val_nil] at hr); cbv) | exact trivial | rfl | refine Both.mk ?_ ?_ | (refine Imp.mk fun h => ?_; (try dsimp only at h); (try simp only [nc, Int.toNat_natCast, Bool.not_eq_true', Bool.not_eq_false', decide_eq_true_eq, decide_eq_false_iff_not, beq_iff_eq, beq_eq_false_iff_ne, ba_inj, bne_iff_ne, ne_eq, Bool.and_eq_true, Bool.or_eq_true, Bool.and_eq_false_iff, Bool.or_eq_false_iff, Int.not_le, Int.not_lt, Nat.not_le, Nat.not_lt] at h); (try simp only [nc] at h)) | refine Ob.mk ?_ ?_ | refine Chk.mk (by kernel_rfl) ?_ | refine Eq'.mk ?_ | (refine AllN.mk fun i hi => ?_; cbv) | (refine AllC.mk fun c hc hcm => ?_; (try dsimp only at hc); cbv) | (refine AllS.mk fun r hr => ?_; (try simp only [Dat.ok, Dat.dec, Leaf.ok, Leaf.val, Ins.eta, Vm.eta, Emit.eta, Msg.eta, val_sl] at hr); cbv)
    all_goals ((try dsimp only at *); (try simp only [nc, Int.toNat_natCast, Bool.not_eq_true', Bool.not_eq_false', decide_eq_true_eq, decide_eq_false_iff_not, beq_iff_eq, beq_eq_false_iff_ne, ba_inj, bne_iff_ne, ne_eq, Bool.and_eq_true, Bool.or_eq_true, Bool.and_eq_false_iff, Bool.or_eq_false_iff, Int.not_le, Int.not_lt, Nat.not_le, Nat.not_lt] at *); (try simp only [nc] at *))
    all_goals first
      | omega
      | (unfold InR; omega)
      | exact ⟨trivial, trivial⟩
      | (refine ⟨⟨k + 1, by omega, l.set k (IntKind.i64.wrap (l.getD k Dat.d0 + 1)), by rw [List.length_set]; exact hll⟩, ?_, ?_, rfl, by (try dsimp only); omega⟩
         · cbv
           repeat' first | (refine Stp.mk ?_; cbv) | (refine Gen.mk fun r hr => ?_; (try simp only [Dat.ok, Dat.dec, Leaf.ok, Leaf.val, Ins.eta, Vm.eta, Emit.eta, Msg.eta, val_sl, val_nil] at hr); cbv) | exact trivial | rfl | refine Both.mk ?_ ?_ | (refine Imp.mk fun h => ?_; (try dsimp only at h); (try simp only [nc, Int.toNat_natCast, Bool.not_eq_true', Bool.not_eq_false', decide_eq_true_eq, decide_eq_false_iff_not, beq_iff_eq, beq_eq_false_iff_ne, ba_inj, bne_iff_ne, ne_eq, Bool.and_eq_true, Bool.or_eq_true, Bool.and_eq_false_iff, Bool.or_eq_false_iff, Int.not_le, Int.not_lt, Nat.not_le, Nat.not_lt] at h); (try simp only [nc] at h)) | refine Ob.mk ?_ ?_ | refine Chk.mk (by kernel_rfl) ?_ | refine Eq'.mk ?_ | (refine AllN.mk fun i hi => ?_; cbv) | (refine AllC.mk fun c hc hcm => ?_; (try dsimp only at hc); cbv) | (refine AllS.mk fun r hr => ?_; (try simp only [Dat.ok, Dat.dec, Leaf.ok, Leaf.val, Ins.eta, Vm.eta, Emit.eta, Msg.eta, val_sl] at hr); cbv)
         · cbv
           repeat' first | (refine Stp.mk ?_; cbv) | (refine Gen.mk fun r hr => ?_; (try simp only [Dat.ok, Dat.dec, Leaf.ok, Leaf.val, Ins.eta, Vm.eta, Emit.eta, Msg.eta, val_sl, val_nil] at hr); cbv) | exact trivial | rfl | refine Both.mk ?_ ?_ | (refine Imp.mk fun h => ?_; (try dsimp only at h); (try simp only [nc, Int.toNat_natCast, Bool.not_eq_true', Bool.not_eq_false', decide_eq_true_eq, decide_eq_false_iff_not, beq_iff_eq, beq_eq_false_iff_ne, ba_inj, bne_iff_ne, ne_eq, Bool.and_eq_true, Bool.or_eq_true, Bool.and_eq_false_iff, Bool.or_eq_false_iff, Int.not_le, Int.not_lt, Nat.not_le, Nat.not_lt] at h); (try simp only [nc] at h)) | refine Ob.mk ?_ ?_ | refine Chk.mk (by kernel_rfl) ?_ | refine Eq'.mk ?_ | (refine AllN.mk fun i hi => ?_; cbv) | (refine AllC.mk fun c hc hcm => ?_; (try dsimp only at hc); cbv) | (refine AllS.mk fun r hr => ?_; (try simp only [Dat.ok, Dat.dec, Leaf.ok, Leaf.val, Ins.eta, Vm.eta, Emit.eta, Msg.eta, val_sl] at hr); cbv)
           all_goals ((try dsimp only at *); (try simp only [nc, Int.toNat_natCast, Bool.not_eq_true', Bool.not_eq_false', decide_eq_true_eq, decide_eq_false_iff_not, beq_iff_eq, beq_eq_false_iff_ne, ba_inj, bne_iff_ne, ne_eq, Bool.and_eq_true, Bool.or_eq_true, Bool.and_eq_false_iff, Bool.or_eq_false_iff, Int.not_le, Int.not_lt, Nat.not_le, Nat.not_lt] at *); (try simp only [nc] at *))
           all_goals first
             | exact (List.length_set ..).symm
             | (show _ = (l.set k _).getD i Dat.d0
                rw [gd_set _ _ _ _ _ (by omega)])
             | fail)
      | (simp only [conj, Dat.dec, Leaf.val, Ins.eta, Vm.eta, Emit.eta, Msg.eta, val_sl]
         first
           | exact ⟨Nat.le_refl _, Nat.le_refl _, Nat.le_refl _, ⟨rfl, fun i _ => Dat.hok _⟩, ⟨rfl, fun i _ => Dat.hok _⟩, ⟨trivial, ⟨rfl, fun i _ => Dat.hok _⟩, trivial, trivial⟩, ⟨rfl, fun i _ => Dat.hok _⟩, ⟨rfl, fun i _ => Dat.hok _⟩, ⟨rfl, fun i _ => Dat.hok _⟩, hl⟩
           | exact ⟨Nat.le_refl _, Nat.le_refl _, ⟨trivial, ⟨rfl, fun i _ => Dat.hok _⟩, trivial, trivial⟩, ⟨trivial, ⟨rfl, fun i _ => Dat.hok _⟩, trivial, trivial⟩, show _ ≤ _ by decide⟩
           | exact ⟨⟨rfl, fun i _ => Dat.hok _⟩, ⟨rfl, fun i _ => Dat.hok _⟩, show _ ≤ _ by omega⟩
           | exact ⟨⟨rfl, fun i _ => Dat.hok _⟩, ⟨rfl, fun i _ => Dat.hok _⟩, ⟨trivial, ⟨rfl, fun i _ => Dat.hok _⟩, trivial, trivial⟩, ⟨rfl, fun i _ => Dat.hok _⟩, ⟨rfl, fun i _ => Dat.hok _⟩, ⟨rfl, fun i _ => Dat.hok _⟩, hl⟩
           | exact ⟨⟨trivial, ⟨rfl, fun i _ => Dat.hok _⟩, trivial, trivial⟩, ⟨trivial, ⟨rfl, fun i _ => Dat.hok _⟩, trivial, trivial⟩, show _ ≤ _ by decide⟩
           | (refine fin ?_; exact hss)
           | (refine fin ?_; exact hsv))
      | (exfalso
         rename (eqIns_S _ _ = false) => z1
         try simp only [Dat.dec, Leaf.val, Ins.eta, Vm.eta, Emit.eta, Msg.eta, val_sl] at z1
         rw [show eqIns_S p p = true from decide_eq_true rfl] at z1
         cases z1)
      | (exfalso
         rename (eqInt_S _ _ = false) => z1
         try simp only [Dat.dec, Leaf.val, Ins.eta, Vm.eta, Emit.eta, Msg.eta, val_sl] at z1
         first
           | (rw [show eqInt_S inp inp = true from decide_eq_true rfl] at z1
              cases z1)
           | (rw [show eqInt_S v.regs v.regs = true from decide_eq_true rfl] at z1
              cases z1))
      | (exfalso
         rename (same_S _ _ _ _ _ _ = false) => z1
         try simp only [Dat.dec, Leaf.val, Ins.eta, Vm.eta, Emit.eta, Msg.eta, val_sl] at z1
         rw [hss] at z1
         cases z1)
      | skip
  all_goals fail
section
open Go.ChangeShapes Go.WideShapes Go.ChangeAt Go.RowKit Go.Joins Go.Deep
set_option linter.unusedVariables false
theorem vown_own : ownKnob Try.prog.godebug = none := by kernel_rfl
theorem vown_laidOut : laidOutB Try.prog = true := by kernel_rfl
theorem vown_readOk {ts : Array TypeId} (h : ts.toList.all (fun t => Try.prog.readableRec t && decide (t < Try.prog.types.size)) = true) : ∀ t ∈ ts.toList, Try.prog.readableRec t = true ∧ t < Try.prog.types.size := fun t ht => by
  have := List.all_eq_true.1 h t ht
  simpa using this
mutual
theorem vown_bD {H : Type} : ∀ d : DataW H, Rows.uptoBulk d = bulkD d
  | .lit l => by cases l <;> simp [Rows.uptoBulk, bulkD]
  | .nil => by simp [Rows.uptoBulk, bulkD]
  | .ptr d => by simp [Rows.uptoBulk, bulkD, vown_bD d]
  | .slice a b => by simp [Rows.uptoBulk, bulkD, vown_bL a, vown_bL b]
  | .agg a => by simp [Rows.uptoBulk, bulkD, vown_bL a]
  | .iface _ d => by simp [Rows.uptoBulk, bulkD, vown_bD d]
  | .map e => by simp [Rows.uptoBulk, bulkD, vown_bE e]
  | .held _ => by simp [Rows.uptoBulk, bulkD]
theorem vown_bL {H : Type} : ∀ d : List (DataW H), Rows.uptoBulkAll d = bulkL d
  | [] => by simp [Rows.uptoBulkAll, bulkL]
  | d :: r => by simp [Rows.uptoBulkAll, bulkL, vown_bD d, vown_bL r]
theorem vown_bE {H : Type} : ∀ d : List (Lit × DataW H), Rows.uptoBulkEntries d = bulkE d
  | [] => by simp [Rows.uptoBulkEntries, bulkE]
  | d :: r => by simp [Rows.uptoBulkEntries, bulkE, vown_bX d, vown_bE r]
theorem vown_bX {H : Type} : ∀ d : Lit × DataW H, Rows.uptoBulkEntry d = bulkX d
  | (l, d) => by cases l <;> simp [Rows.uptoBulkEntry, bulkX, vown_bD d]
end
set_option maxRecDepth 100000 in
theorem vown_lifted (os : Os) (started : os.Started) (H : Type) (enc : TypeId × Value → H) (F : Stop.Interp) :
    ReturnsInHanded {} Try.checked os 11 .any ((Rows.OpenSpec.upto Rows.vmOwnSpec).pre6 enc Try.prog Try.f11 Rows.vmOwnUptoRow.domain false) (((Rows.OpenSpec.upto Rows.vmOwnSpec).at F).post enc Try.prog Try.f11 false true false false) := by
  refine returnsInHanded_of_cond (C := Try.checked) (s := Rows.OpenSpec.upto Rows.vmOwnSpec) (k := Rows.uptoSmall) rfl vown_own started (by kernel_rfl) Try.func11
    (OpenSpec.witness (enc := enc) (C := Try.checked) (s := Rows.OpenSpec.upto Rows.vmOwnSpec) (k := Rows.uptoSmall) rfl false ⟨#[], #[.slice none 0 0, .agg #[.int .i64 0, .slice none 0 0, .bool false, .bool false], .slice none 0 0, .int .i64 0], []⟩ 8 (by kernel_rfl) (by kernel_rfl) (by kernel_rfl)
      (x := ([.nil, .agg [.lit (.int .i64 0), .nil, .lit (.bool false), .lit (.bool false)], .nil, .lit (.int .i64 0)], [], [])) (by kernel_rfl) rfl (by kernel_rfl)) ?_
  intro W base args ds gs before hval0 hW _ hk _
  show Calls Try.prog 11 args W fun e W' => ∃ v, e = .returned v ∧ Rows.vmOwnSpec.post enc Try.prog Try.f11 false true false false W args v W'
  have hval : ∀ (j : Nat) t v, Try.f11.params[j]? = some t → args[j]? = some v → Value.okWide Try.prog W .any base t v := hval0
  have hW' := hW
  have hlt := hW.lt
  obtain ⟨p, q, hA0, hV, rfl, hfz, hnd⟩ := hW
  have hA : DataW.TrodAll enc Try.prog W 0 (fun _ => true) true Try.f11.params.toList args.toList ds p := hA0
  have hA1 := hA
  rw [Try.params11] at hA hval
  obtain ⟨v0, vs0, d0, ds0, p0, q0, hargs, rfl, rfl, h0, r0⟩ := trodAll_cons hA
  obtain ⟨v1, vs1, d1, ds1, p1, q1, rfl, rfl, rfl, h1, r1⟩ := trodAll_cons r0
  obtain ⟨v2, vs2, d2, ds2, p2, q2, rfl, rfl, rfl, h2, r2⟩ := trodAll_cons r1
  obtain ⟨v3, vs3, d3, ds3, p3, q3, rfl, rfl, rfl, h3, r3⟩ := trodAll_cons r2
  obtain ⟨rfl, rfl, rfl⟩ := trodAll_nil r3
  obtain rfl : args = #[v0, v1, v2, v3] := by cases args; simp_all
  obtain ⟨rfl, rfl⟩ := trodVars_none hV
  obtain ⟨z0, z'0, z''0, rfl⟩ := okWide_slice Try.underlying42 (hval 0 42 v0 rfl rfl)
  obtain ⟨y0, u0, b0, e0⟩ := arg_leaf (α := (List Ins)) (opn_slice Try.underlying42 (by kernel_rfl) (by decide) opn_Ins) rfl h0
  obtain ⟨cs1, rfl, _⟩ := okWide_struct Try.underlying45 (hval 1 45 v1 rfl rfl)
  obtain ⟨y1, u1, b1, e1⟩ := arg_agg (α := Vm) opn_Vm h1
  obtain ⟨z2, z'2, z''2, rfl⟩ := okWide_slice Try.underlying43 (hval 2 43 v2 rfl rfl)
  obtain ⟨y2, u2, b2, e2⟩ := arg_leaf (α := (List Int)) (opn_slice Try.underlying43 (by kernel_rfl) (by decide) (opn_int Try.underlying3)) rfl h2
  obtain ⟨z3, rfl⟩ := okWide_int Try.underlying3 (hval 3 3 v3 rfl rfl)
  obtain ⟨y3, u3, b3, e3⟩ := arg_leaf (α := Int) (opn_int Try.underlying3) rfl h3
  have hB : Siz.bulk y0 + Siz.bulk y1 + Siz.bulk y2 + Siz.bulk y3 ≤ 1048576 := by
    have h := of_decide_eq_true hk
    rw [vown_bL] at h
    simp only [List.append_nil, bulkL] at h
    omega
  have hR := repL_cons (M := fun _ => False) (β := fun _ => none) (cp := fun _ => 0) (.c e0) (repL_cons (M := fun _ => False) (β := fun _ => none) (cp := fun _ => 0) (.c e1) (repL_cons (M := fun _ => False) (β := fun _ => none) (cp := fun _ => 0) (.c e2) (repL_cons (M := fun _ => False) (β := fun _ => none) (cp := fun _ => 0) (.c e3) (repL_nil))))
  refine (law_callsA (vown_vc y0 y1 y2 y3 u0 u1 u2 u3 hB) hR).mono fun e W' ⟨he, bel⟩ => ?_
  subst he
  exact ⟨_, rfl, _, _, _, [], _, [], hW', trodAll_mk1 (shut_bool Try.underlying4 _), trodAll_below vown_laidOut bel (vown_readOk (by kernel_rfl)) (fun x hx => hlt x (List.mem_append_left _ hx)) hA1, rfl, bel.frame _, fun h => by cases h⟩
theorem VmOwn_proved : Rows.VmOwnUptoSaid :=
  OpenClaim.holds_of_cond 11 Try.f11 rfl rfl rfl rfl rfl rfl rfl ⟨rfl, rfl, rfl, rfl, rfl⟩ rfl rfl rfl rfl rfl (by kernel_rfl) Try.func11 (by kernel_rfl)
    (of_decide_eq_true (by kernel_rfl)) (by unfold Func.isWrapper; first | (rw [if_pos (by decide +kernel)]; kernel_rfl) | (rw [if_neg (by decide +kernel)]; exact ⟨rfl, rfl⟩))
    (fun os started H enc _ F => vown_lifted os started H enc F)
end

end Go.Proofs.Ytjgobknjnjdphaa
