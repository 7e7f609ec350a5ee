/- slices.Delete, and slices.Reverse, walked at each type. -/
import Derived.Test.YtabchkekhpmpiaaAbsG4
import Derived.Test.YtabchkekhpmpiaaTy
set_option linter.all false
namespace Go.Proofs.Ytabchkekhpmpiaa
open Go Go.Abs

def clTask_R (r : Th ((List Task))) : AV := .own 0 fun _ => (r ()).length
def clTask_H (r : Th ((List Task))) : Hp := [vecO 32 fun _ => (r ())]
def clTask_P (l : (List Task)) : Prop := l.length ≤ 1099511627776
def clTask_C : PC := fun A K => match A with
  | [l] => Ob (fun _ => Leaf.ok (List Task) l ∧ clTask_P (Leaf.val l)) (Gen (α := (List Task)) (fun _ => (Leaf.val l)) fun r => K (clTask_R fun _ => r) (clTask_H fun _ => r))
  | _ => Bad 1002
set_option maxRecDepth 100000 in
set_option maxHeartbeats 4000000 in
theorem clTask_vc (l : (List Task)) (hp : clTask_P l) : FnOk Try.prog 19 [Leaf.av fun _ => l] [] (outA (clTask_R fun _ => l) (clTask_H fun _ => l)) := by
  refine fn_ok envOk zl noCon_ok noDraws_ok (keep := [0, 2, 4]) Try.func19 rfl ?_
  have hp' : l.length ≤ 1099511627776 := hp
  cbv
  repeat' first | (refine Stp.mk ?_; cbv) | (refine Gen.mk fun r hr => ?_; (try simp only [Dat.ok, Dat.dec, Leaf.ok, Leaf.val, Span.eta, Set.eta, Task.eta, Done.eta, Late.eta, val_sl, val_nil] at hr); cbv) | exact trivial | rfl | refine Both.mk ?_ ?_ | (refine Imp.mk fun h => ?_; (try dsimp only at h); (try simp only [nc, Int.toNat_natCast, Bool.not_eq_true', Bool.not_eq_false', decide_eq_true_eq, decide_eq_false_iff_not, beq_iff_eq, beq_eq_false_iff_ne, ba_inj, bne_iff_ne, ne_eq, Bool.and_eq_true, Bool.or_eq_true, Bool.and_eq_false_iff, Bool.or_eq_false_iff, Int.not_le, Int.not_lt, Nat.not_le, Nat.not_lt] at h); (try simp only [nc] at h)) | refine Ob.mk ?_ ?_ | refine Chk.mk (by kernel_rfl) ?_ | refine Eq'.mk ?_ | (refine AllN.mk fun i hi => ?_; cbv) | (refine AllS.mk fun r hr => ?_; (try simp only [Dat.ok, Dat.dec, Leaf.ok, Leaf.val, Span.eta, Set.eta, Task.eta, Done.eta, Late.eta, val_sl] at hr); cbv)
  all_goals ((try dsimp only at *); (try simp only [nc, Int.toNat_natCast, Bool.not_eq_true', Bool.not_eq_false', decide_eq_true_eq, decide_eq_false_iff_not, beq_iff_eq, beq_eq_false_iff_ne, ba_inj, bne_iff_ne, ne_eq, Bool.and_eq_true, Bool.or_eq_true, Bool.and_eq_false_iff, Bool.or_eq_false_iff, Int.not_le, Int.not_lt, Nat.not_le, Nat.not_lt] at *); (try simp only [nc] at *))
  all_goals first
    | omega
    | (exact ⟨Nat.le_refl _, trivial, by omega, by omega⟩)
    | (simp only [Nat.zero_add, Nat.sub_zero, Nat.not_lt_zero, decide_false, cond_false]; done)
    | (simp_all; done)
    | fail
theorem clTask_ok : PcOk Try.prog 19 (clTask_C) := fun A K h => by
  unfold clTask_C at h
  split at h
  · rename_i l
    cases h with
    | mk h1 h2 =>
      obtain ⟨g0, hp⟩ := h1
      refine FnOk.pre ?_ (A' := [Leaf.av fun _ => (Leaf.val l : (List Task))]) (.mk (Leaf.hle _ g0) (trivial))
      exact FnOk.out (K := fun r H _ => K r H) (clTask_vc (Leaf.val l) hp) rfl h2.out
  · cases h
def clTaskN_N : DetN := fun A => match A with
  | [l] => some (fun _ => Leaf.ok (List Task) l ∧ clTask_P (Leaf.val l), clTask_R fun _ => (Leaf.val l), vecO 32 fun _ => ((Leaf.val l) : (List Task)))
  | _ => none
theorem clTaskN_okN : PcOk Try.prog 19 (detNPC clTaskN_N) := det_okN fun A p r o h hp0 => by
  unfold clTaskN_N at h
  split at h
  · rename_i l
    cases h
    obtain ⟨g0, hp⟩ := hp0
    exact FnOk.pre (A' := [Leaf.av fun _ => (Leaf.val l : (List Task))]) (FnOk.out (clTask_vc (Leaf.val l) hp) rfl ⟨rfl, rfl⟩) (.mk (Leaf.hle _ g0) (trivial))
  · cases h
def rvTask_P (l : List Task)  : Prop := l.length ≤ 4611686018427387903
def rvTask_F (l : List Task)  : List Task := l.reverse
def rvTask_S : OwnS Task := { pre := fun r l => match r with | [] => rvTask_P l | _ => False, fin := fun r l => match r with | [] => rvTask_F l | _ => l, res := none, kl := false }
noncomputable def rvTask_K : Con := ownCon Task 32 rvTask_S
set_option maxRecDepth 100000 in
set_option maxHeartbeats 4000000 in
theorem rvTask_vc (l : List Task)  (hp : rvTask_P l) : FnOk Try.prog 41 [.own 0 fun _ => l.length] [vecO 32 fun _ => l] (outLe 1 (.tup []) [vecO 32 fun _ => rvTask_F l] []) := by
  refine fn_ok envOk zl noCon_ok (draws_ok envOk zl noDet_ok mixed) (keep := [0, 2, 3, 9]) Try.func41 rfl ?_
  have hp' : l.length ≤ 4611686018427387903 := hp
  have fin : outLe 1 (.tup []) [vecO 32 fun _ => rvTask_F l] [] (.tup []) [vecO 32 fun _ => l.reverse] [] := by
    cbv
    repeat' first | (refine Stp.mk ?_; cbv) | (refine Gen.mk fun r hr => ?_; (try simp only [Dat.ok, Dat.dec, Leaf.ok, Leaf.val, Span.eta, Set.eta, Task.eta, Done.eta, Late.eta, val_sl, val_nil] at hr); cbv) | exact trivial | rfl | refine Both.mk ?_ ?_ | (refine Imp.mk fun h => ?_; (try dsimp only at h); (try simp only [nc, Int.toNat_natCast, Bool.not_eq_true', Bool.not_eq_false', decide_eq_true_eq, decide_eq_false_iff_not, beq_iff_eq, beq_eq_false_iff_ne, ba_inj, bne_iff_ne, ne_eq, Bool.and_eq_true, Bool.or_eq_true, Bool.and_eq_false_iff, Bool.or_eq_false_iff, Int.not_le, Int.not_lt, Nat.not_le, Nat.not_lt] at h); (try simp only [nc] at h)) | refine Ob.mk ?_ ?_ | refine Chk.mk (by kernel_rfl) ?_ | refine Eq'.mk ?_ | (refine AllN.mk fun i hi => ?_; cbv) | (refine AllS.mk fun r hr => ?_; (try simp only [Dat.ok, Dat.dec, Leaf.ok, Leaf.val, Span.eta, Set.eta, Task.eta, Done.eta, Late.eta, val_sl] at hr); cbv)
  generalize outLe 1 (.tup []) [vecO 32 fun _ => rvTask_F l] [] = K at fin ⊢
  cbv
  repeat' first | (show Stp _; exfalso; first | omega | (exact h ‹_›) | (exact absurd ‹_› h) | (exact Bool.false_ne_true (h.symm.trans (show _ = true by assumption)))) | (refine Stp.mk ?_; cbv) | (refine Gen.mk fun r hr => ?_; (try simp only [Dat.ok, Dat.dec, Leaf.ok, Leaf.val, Span.eta, Set.eta, Task.eta, Done.eta, Late.eta, val_sl, val_nil] at hr); cbv) | exact trivial | rfl | refine Both.mk ?_ ?_ | (refine Imp.mk fun h => ?_; (try dsimp only at h); (try simp only [nc, Int.toNat_natCast, Bool.not_eq_true', Bool.not_eq_false', decide_eq_true_eq, decide_eq_false_iff_not, beq_iff_eq, beq_eq_false_iff_ne, ba_inj, bne_iff_ne, ne_eq, Bool.and_eq_true, Bool.or_eq_true, Bool.and_eq_false_iff, Bool.or_eq_false_iff, Int.not_le, Int.not_lt, Nat.not_le, Nat.not_lt] at h); (try simp only [nc] at h)) | refine Ob.mk ?_ ?_ | refine Chk.mk (by kernel_rfl) ?_ | refine Eq'.mk ?_ | (refine AllN.mk fun i hi => ?_; cbv) | (refine AllS.mk fun r hr => ?_; (try simp only [Dat.ok, Dat.dec, Leaf.ok, Leaf.val, Span.eta, Set.eta, Task.eta, Done.eta, Late.eta, val_sl] at hr); cbv)
  all_goals ((try dsimp only at *); (try simp only [nc, Int.toNat_natCast, Bool.not_eq_true', Bool.not_eq_false', decide_eq_true_eq, decide_eq_false_iff_not, beq_iff_eq, beq_eq_false_iff_ne, ba_inj, bne_iff_ne, ne_eq, Bool.and_eq_true, Bool.or_eq_true, Bool.and_eq_false_iff, Bool.or_eq_false_iff, Int.not_le, Int.not_lt, Nat.not_le, Nat.not_lt] at *); (try simp only [nc] at *))
  all_goals first
    | omega
    | (unfold InR; omega)
    | skip
  refine LoopVC.frame [2, 3, 9] (Σ' k : Nat, 2 * k ≤ l.length) (fun x => [(2, .i .i64 fun _ => x.1), (3, .i .i64 fun _ => (l.length : Int) - 1 - x.1)]) (fun x => [(0, vecO 32 fun _ => revU l x.1)]) [] (fun x => l.length - x.1)
      ⟨0, Nat.zero_le _⟩ rfl (fun _ => rfl) ?_ ?_ fun ⟨k, hk⟩ => ?_
  · cbv
    repeat' first | (refine Stp.mk ?_; cbv) | (refine Gen.mk fun r hr => ?_; (try simp only [Dat.ok, Dat.dec, Leaf.ok, Leaf.val, Span.eta, Set.eta, Task.eta, Done.eta, Late.eta, val_sl, val_nil] at hr); cbv) | exact trivial | rfl | refine Both.mk ?_ ?_ | (refine Imp.mk fun h => ?_; (try dsimp only at h); (try simp only [nc, Int.toNat_natCast, Bool.not_eq_true', Bool.not_eq_false', decide_eq_true_eq, decide_eq_false_iff_not, beq_iff_eq, beq_eq_false_iff_ne, ba_inj, bne_iff_ne, ne_eq, Bool.and_eq_true, Bool.or_eq_true, Bool.and_eq_false_iff, Bool.or_eq_false_iff, Int.not_le, Int.not_lt, Nat.not_le, Nat.not_lt] at h); (try simp only [nc] at h)) | refine Ob.mk ?_ ?_ | refine Chk.mk (by kernel_rfl) ?_ | refine Eq'.mk ?_ | (refine AllN.mk fun i hi => ?_; cbv) | (refine AllS.mk fun r hr => ?_; (try simp only [Dat.ok, Dat.dec, Leaf.ok, Leaf.val, Span.eta, Set.eta, Task.eta, Done.eta, Late.eta, val_sl] at hr); cbv)
    all_goals first | rfl | simp
  · cbv
    repeat' first | (refine Stp.mk ?_; cbv) | (refine Gen.mk fun r hr => ?_; (try simp only [Dat.ok, Dat.dec, Leaf.ok, Leaf.val, Span.eta, Set.eta, Task.eta, Done.eta, Late.eta, val_sl, val_nil] at hr); cbv) | exact trivial | rfl | refine Both.mk ?_ ?_ | (refine Imp.mk fun h => ?_; (try dsimp only at h); (try simp only [nc, Int.toNat_natCast, Bool.not_eq_true', Bool.not_eq_false', decide_eq_true_eq, decide_eq_false_iff_not, beq_iff_eq, beq_eq_false_iff_ne, ba_inj, bne_iff_ne, ne_eq, Bool.and_eq_true, Bool.or_eq_true, Bool.and_eq_false_iff, Bool.or_eq_false_iff, Int.not_le, Int.not_lt, Nat.not_le, Nat.not_lt] at h); (try simp only [nc] at h)) | refine Ob.mk ?_ ?_ | refine Chk.mk (by kernel_rfl) ?_ | refine Eq'.mk ?_ | (refine AllN.mk fun i hi => ?_; cbv) | (refine AllS.mk fun r hr => ?_; (try simp only [Dat.ok, Dat.dec, Leaf.ok, Leaf.val, Span.eta, Set.eta, Task.eta, Done.eta, Late.eta, val_sl] at hr); cbv)
    all_goals ((try dsimp only at *); (try simp only [nc, Int.toNat_natCast, Bool.not_eq_true', Bool.not_eq_false', decide_eq_true_eq, decide_eq_false_iff_not, beq_iff_eq, beq_eq_false_iff_ne, ba_inj, bne_iff_ne, ne_eq, Bool.and_eq_true, Bool.or_eq_true, Bool.and_eq_false_iff, Bool.or_eq_false_iff, Int.not_le, Int.not_lt, Nat.not_le, Nat.not_lt] at *); (try simp only [nc] at *))
    all_goals first
      | exact (revU_len l 0).symm
      | exact revU_len l 0
      | (show _ = ((revU l 0).getD _ Dat.d0); rw [revU_zero]; done)
      | (rw [revU_zero]; done)
      | (simp only [revU_zero]; done)
      | fail
  · have hlen : (revU l k).length = l.length := revU_len l k
    cbv
    repeat' first | (show Stp _; exfalso; first | omega | (exact h ‹_›) | (exact absurd ‹_› h) | (exact Bool.false_ne_true (h.symm.trans (show _ = true by assumption)))) | (refine Stp.mk ?_; cbv) | (refine Gen.mk fun r hr => ?_; (try simp only [Dat.ok, Dat.dec, Leaf.ok, Leaf.val, Span.eta, Set.eta, Task.eta, Done.eta, Late.eta, val_sl, val_nil] at hr); cbv) | exact trivial | rfl | refine Both.mk ?_ ?_ | (refine Imp.mk fun h => ?_; (try dsimp only at h); (try simp only [nc, Int.toNat_natCast, Bool.not_eq_true', Bool.not_eq_false', decide_eq_true_eq, decide_eq_false_iff_not, beq_iff_eq, beq_eq_false_iff_ne, ba_inj, bne_iff_ne, ne_eq, Bool.and_eq_true, Bool.or_eq_true, Bool.and_eq_false_iff, Bool.or_eq_false_iff, Int.not_le, Int.not_lt, Nat.not_le, Nat.not_lt] at h); (try simp only [nc] at h)) | refine Ob.mk ?_ ?_ | refine Chk.mk (by kernel_rfl) ?_ | refine Eq'.mk ?_ | (refine AllN.mk fun i hi => ?_; cbv) | (refine AllS.mk fun r hr => ?_; (try simp only [Dat.ok, Dat.dec, Leaf.ok, Leaf.val, Span.eta, Set.eta, Task.eta, Done.eta, Late.eta, val_sl] at hr); cbv)
    all_goals ((try dsimp only at *); (try simp only [nc, Int.toNat_natCast, Bool.not_eq_true', Bool.not_eq_false', decide_eq_true_eq, decide_eq_false_iff_not, beq_iff_eq, beq_eq_false_iff_ne, ba_inj, bne_iff_ne, ne_eq, Bool.and_eq_true, Bool.or_eq_true, Bool.and_eq_false_iff, Bool.or_eq_false_iff, Int.not_le, Int.not_lt, Nat.not_le, Nat.not_lt] at *); (try simp only [nc] at *))
    all_goals try rw [nc] at *
    all_goals first
      | omega
      | (unfold InR; omega)
      | (have hk1 : k < l.length - 1 - k := by omega
         have ej : ((l.length : Int) - 1 - k).toNat = l.length - 1 - k := by omega
         refine ⟨⟨k + 1, by omega⟩, ?_, ?_, rfl, by (try dsimp only); omega⟩
         · cbv
           repeat' first | (refine Stp.mk ?_; cbv) | (refine Gen.mk fun r hr => ?_; (try simp only [Dat.ok, Dat.dec, Leaf.ok, Leaf.val, Span.eta, Set.eta, Task.eta, Done.eta, Late.eta, val_sl, val_nil] at hr); cbv) | exact trivial | rfl | refine Both.mk ?_ ?_ | (refine Imp.mk fun h => ?_; (try dsimp only at h); (try simp only [nc, Int.toNat_natCast, Bool.not_eq_true', Bool.not_eq_false', decide_eq_true_eq, decide_eq_false_iff_not, beq_iff_eq, beq_eq_false_iff_ne, ba_inj, bne_iff_ne, ne_eq, Bool.and_eq_true, Bool.or_eq_true, Bool.and_eq_false_iff, Bool.or_eq_false_iff, Int.not_le, Int.not_lt, Nat.not_le, Nat.not_lt] at h); (try simp only [nc] at h)) | refine Ob.mk ?_ ?_ | refine Chk.mk (by kernel_rfl) ?_ | refine Eq'.mk ?_ | (refine AllN.mk fun i hi => ?_; cbv) | (refine AllS.mk fun r hr => ?_; (try simp only [Dat.ok, Dat.dec, Leaf.ok, Leaf.val, Span.eta, Set.eta, Task.eta, Done.eta, Late.eta, val_sl] at hr); cbv)
           all_goals first | omega | (show (l.length : Int) - 1 - k - 1 = (l.length : Int) - 1 - ((k + 1 : Nat) : Int); omega)
         · cbv
           repeat' first | (refine Stp.mk ?_; cbv) | (refine Gen.mk fun r hr => ?_; (try simp only [Dat.ok, Dat.dec, Leaf.ok, Leaf.val, Span.eta, Set.eta, Task.eta, Done.eta, Late.eta, val_sl, val_nil] at hr); cbv) | exact trivial | rfl | refine Both.mk ?_ ?_ | (refine Imp.mk fun h => ?_; (try dsimp only at h); (try simp only [nc, Int.toNat_natCast, Bool.not_eq_true', Bool.not_eq_false', decide_eq_true_eq, decide_eq_false_iff_not, beq_iff_eq, beq_eq_false_iff_ne, ba_inj, bne_iff_ne, ne_eq, Bool.and_eq_true, Bool.or_eq_true, Bool.and_eq_false_iff, Bool.or_eq_false_iff, Int.not_le, Int.not_lt, Nat.not_le, Nat.not_lt] at h); (try simp only [nc] at h)) | refine Ob.mk ?_ ?_ | refine Chk.mk (by kernel_rfl) ?_ | refine Eq'.mk ?_ | (refine AllN.mk fun i hi => ?_; cbv) | (refine AllS.mk fun r hr => ?_; (try simp only [Dat.ok, Dat.dec, Leaf.ok, Leaf.val, Span.eta, Set.eta, Task.eta, Done.eta, Late.eta, val_sl] at hr); cbv)
           all_goals ((try dsimp only at *); (try simp only [nc, Int.toNat_natCast, Bool.not_eq_true', Bool.not_eq_false', decide_eq_true_eq, decide_eq_false_iff_not, beq_iff_eq, beq_eq_false_iff_ne, ba_inj, bne_iff_ne, ne_eq, Bool.and_eq_true, Bool.or_eq_true, Bool.and_eq_false_iff, Bool.or_eq_false_iff, Int.not_le, Int.not_lt, Nat.not_le, Nat.not_lt] at *); (try simp only [nc] at *))
           all_goals try rw [nc]
           all_goals try simp only [ej, Int.toNat_natCast]
           all_goals first
             | (rw [revU_len, revU_len]; done)
             | (rw [revU_step hk1 (by omega)]; done)
             | (rw [revU_step hk1 (by omega)]; generalize decide (_ = l.length - 1 - k) = c1; generalize decide (_ = k) = c2; cases c1 <;> cases c2 <;> rfl)
             | fail)
      | (have e : revU l k = l.reverse := revU_done (by omega)
         rw [e]
         exact fin)
      | fail
theorem rvTask_ok {A : List AV} {H : Hp} {K : Kont} (h : rvTask_K A H K) : FnOk Try.prog 41 A H K := ownCon_ok (fun _ _ h => by cases h) (fun rest d _ hp => by
  have hp : (match (generalizing := false) rest with | [] => rvTask_P d | _ => False) := hp
  split at hp
  · exact rvTask_vc d hp
  · cases hp) h
theorem rvTask_okO : DtOk Try.prog 41 (.o (ownDet Task 32 rvTask_S)) := ownDet_ok (fun _ _ h => by cases h) (fun rest d _ hp => by
  have hp : (match (generalizing := false) rest with | [] => rvTask_P d | _ => False) := hp
  split at hp
  · exact rvTask_vc d hp
  · cases hp)
def dlTaskd : FuncId → Option Dt := fun f => match f with
  | _ => none
theorem dlTaskd_ok : DetOk Try.prog dlTaskd := fun f d h => by
  unfold dlTaskd at h
  split at h
  · cases h
def dlTask_P (l : List Task) (lo : Int) (up : Int) : Prop := 0 ≤ lo ∧ lo ≤ up ∧ up ≤ l.length ∧ 0 < l.length ∧ l.length ≤ 4611686018427387903
def dlTask_F (l : List Task) (lo : Int) (up : Int) : List Task := delU l lo.toNat up.toNat
def dlTask_N (l : List Task) (lo : Int) (up : Int) : Nat := (delU l lo.toNat up.toNat).length
def dlTask_S : OwnS Task := { pre := fun r l => match r with | [.i .i64 lo, .i .i64 up] => dlTask_P l (lo ()) (up ()) | _ => False, fin := fun r l => match r with | [.i .i64 lo, .i .i64 up] => dlTask_F l (lo ()) (up ()) | _ => l, res := some (fun r l => match r with | [.i .i64 lo, .i .i64 up] => dlTask_N l (lo ()) (up ()) | _ => 0), kl := true, ne := true }
noncomputable def dlTask_K : Con := ownCon Task 32 dlTask_S
set_option maxRecDepth 100000 in
set_option maxHeartbeats 4000000 in
theorem dlTask_vc (l : List Task) (lo : Int) (up : Int) (hp : dlTask_P l lo up) : FnOk Try.prog 18 [.nn 0 fun _ => l.length, .i .i64 fun _ => lo, .i .i64 fun _ => up] [vecO 32 fun _ => l] (outLe 1 (.own 0 fun _ => dlTask_N l lo up) [vecO 32 fun _ => dlTask_F l lo up] [0]) := by
  refine fn_ok envOk zl noCon_ok (draws_ok envOk zl dlTaskd_ok mixed) (keep := [0, 1, 2, 6, 7, 16]) Try.func18 rfl ?_
  obtain ⟨p1, p2, p3, p4, p5⟩ : 0 ≤ lo ∧ lo ≤ up ∧ up ≤ l.length ∧ 0 < l.length ∧ l.length ≤ 4611686018427387903 := hp
  have hdl : (delU l lo.toNat up.toNat).length = lo.toNat + (l.length - up.toNat) := delU_len (by omega) (by omega)
  cbv
  repeat' first | (show Stp _; exfalso; first | omega | (exact h ‹_›) | (exact absurd ‹_› h) | (exact Bool.false_ne_true (h.symm.trans (show _ = true by assumption)))) | (refine Stp.mk ?_; cbv) | (refine Gen.mk fun r hr => ?_; (try simp only [Dat.ok, Dat.dec, Leaf.ok, Leaf.val, Span.eta, Set.eta, Task.eta, Done.eta, Late.eta, val_sl, val_nil] at hr); cbv) | exact trivial | rfl | refine Both.mk ?_ ?_ | (refine Imp.mk fun h => ?_; (try dsimp only at h); (try simp only [nc, Int.toNat_natCast, Bool.not_eq_true', Bool.not_eq_false', decide_eq_true_eq, decide_eq_false_iff_not, beq_iff_eq, beq_eq_false_iff_ne, ba_inj, bne_iff_ne, ne_eq, Bool.and_eq_true, Bool.or_eq_true, Bool.and_eq_false_iff, Bool.or_eq_false_iff, Int.not_le, Int.not_lt, Nat.not_le, Nat.not_lt] at h); (try simp only [nc] at h)) | refine Ob.mk ?_ ?_ | refine Chk.mk (by kernel_rfl) ?_ | refine Eq'.mk ?_ | (refine AllN.mk fun i hi => ?_; cbv) | (refine AllS.mk fun r hr => ?_; (try simp only [Dat.ok, Dat.dec, Leaf.ok, Leaf.val, Span.eta, Set.eta, Task.eta, Done.eta, Late.eta, val_sl] at hr); cbv)
  all_goals ((try dsimp only at *); (try simp only [nc, Int.toNat_natCast, Bool.not_eq_true', Bool.not_eq_false', decide_eq_true_eq, decide_eq_false_iff_not, beq_iff_eq, beq_eq_false_iff_ne, ba_inj, bne_iff_ne, ne_eq, Bool.and_eq_true, Bool.or_eq_true, Bool.and_eq_false_iff, Bool.or_eq_false_iff, Int.not_le, Int.not_lt, Nat.not_le, Nat.not_lt] at *); (try simp only [nc] at *))
  all_goals try rw [nc] at *
  all_goals first
    | omega
    | (unfold InR; omega)
    | (have e : delU l lo.toNat up.toNat = l := by
         have : lo = up := by omega
         subst this; exact delU_same l _
       first
         | (show l.length = (delU l lo.toNat up.toNat).length; rw [e])
         | (have e2 : dlTask_F l lo up = l := e
            rw [e2]))
    | (show _ = (delU l lo.toNat up.toNat).length; rw [hdl]; omega)
    | (have e3 : dlTask_F l lo up = delU l lo.toNat up.toNat := rfl
       have e4 : ((l.length : Int) - up).toNat = l.length - up.toNat := by omega
       have e5 : lo.toNat + ((l.length : Int) - up).toNat = lo.toNat + (l.length - up.toNat) := by omega
       rw [e3, delU_get (by omega) (by omega) (by omega)]
       try rw [e4]
       all_goals (cases decide (lo.toNat ≤ i ∧ i < lo.toNat + (l.length - up.toNat)) <;> rfl))
    | fail
theorem dlTask_ne (rest : List AV) (d : List Task) (_ : dlTask_S.ne = true) (hp : dlTask_S.pre rest d) : 0 < d.length := by
  have hp : (match (generalizing := false) rest with | [.i .i64 lo, .i .i64 up] => dlTask_P d (lo ()) (up ()) | _ => False) := hp
  split at hp
  · unfold dlTask_P at hp; omega
  · cases hp
theorem dlTask_ok {A : List AV} {H : Hp} {K : Kont} (h : dlTask_K A H K) : FnOk Try.prog 18 A H K := ownCon_ok dlTask_ne (fun rest d _ hp => by
  have hp : (match (generalizing := false) rest with | [.i .i64 lo, .i .i64 up] => dlTask_P d (lo ()) (up ()) | _ => False) := hp
  split at hp
  · rename_i lo up _ _; exact dlTask_vc d (lo ()) (up ()) hp
  · cases hp) h
theorem dlTask_okO : DtOk Try.prog 18 (.o (ownDet Task 32 dlTask_S)) := ownDet_ok dlTask_ne (fun rest d _ hp => by
  have hp : (match (generalizing := false) rest with | [.i .i64 lo, .i .i64 up] => dlTask_P d (lo ()) (up ()) | _ => False) := hp
  split at hp
  · rename_i lo up _ _; exact dlTask_vc d (lo ()) (up ()) hp
  · cases hp)
def dlIntd : FuncId → Option Dt := fun f => match f with
  | _ => none
theorem dlIntd_ok : DetOk Try.prog dlIntd := fun f d h => by
  unfold dlIntd at h
  split at h
  · cases h
def dlInt_P (l : List Int) (lo : Int) (up : Int) : Prop := 0 ≤ lo ∧ lo ≤ up ∧ up ≤ l.length ∧ 0 < l.length ∧ l.length ≤ 4611686018427387903
def dlInt_F (l : List Int) (lo : Int) (up : Int) : List Int := delU l lo.toNat up.toNat
def dlInt_N (l : List Int) (lo : Int) (up : Int) : Nat := (delU l lo.toNat up.toNat).length
def dlInt_S : OwnS Int := { pre := fun r l => match r with | [.i .i64 lo, .i .i64 up] => dlInt_P l (lo ()) (up ()) | _ => False, fin := fun r l => match r with | [.i .i64 lo, .i .i64 up] => dlInt_F l (lo ()) (up ()) | _ => l, res := some (fun r l => match r with | [.i .i64 lo, .i .i64 up] => dlInt_N l (lo ()) (up ()) | _ => 0), kl := true, ne := true }
noncomputable def dlInt_K : Con := ownCon Int 3 dlInt_S
set_option maxRecDepth 100000 in
set_option maxHeartbeats 4000000 in
theorem dlInt_vc (l : List Int) (lo : Int) (up : Int) (hp : dlInt_P l lo up) : FnOk Try.prog 54 [.nn 0 fun _ => l.length, .i .i64 fun _ => lo, .i .i64 fun _ => up] [vecO 3 fun _ => l] (outLe 1 (.own 0 fun _ => dlInt_N l lo up) [vecO 3 fun _ => dlInt_F l lo up] [0]) := by
  refine fn_ok envOk zl noCon_ok (draws_ok envOk zl dlIntd_ok mixed) (keep := [0, 1, 2, 6, 7, 16]) Try.func54 rfl ?_
  obtain ⟨p1, p2, p3, p4, p5⟩ : 0 ≤ lo ∧ lo ≤ up ∧ up ≤ l.length ∧ 0 < l.length ∧ l.length ≤ 4611686018427387903 := hp
  have hdl : (delU l lo.toNat up.toNat).length = lo.toNat + (l.length - up.toNat) := delU_len (by omega) (by omega)
  cbv
  repeat' first | (show Stp _; exfalso; first | omega | (exact h ‹_›) | (exact absurd ‹_› h) | (exact Bool.false_ne_true (h.symm.trans (show _ = true by assumption)))) | (refine Stp.mk ?_; cbv) | (refine Gen.mk fun r hr => ?_; (try simp only [Dat.ok, Dat.dec, Leaf.ok, Leaf.val, Span.eta, Set.eta, Task.eta, Done.eta, Late.eta, val_sl, val_nil] at hr); cbv) | exact trivial | rfl | refine Both.mk ?_ ?_ | (refine Imp.mk fun h => ?_; (try dsimp only at h); (try simp only [nc, Int.toNat_natCast, Bool.not_eq_true', Bool.not_eq_false', decide_eq_true_eq, decide_eq_false_iff_not, beq_iff_eq, beq_eq_false_iff_ne, ba_inj, bne_iff_ne, ne_eq, Bool.and_eq_true, Bool.or_eq_true, Bool.and_eq_false_iff, Bool.or_eq_false_iff, Int.not_le, Int.not_lt, Nat.not_le, Nat.not_lt] at h); (try simp only [nc] at h)) | refine Ob.mk ?_ ?_ | refine Chk.mk (by kernel_rfl) ?_ | refine Eq'.mk ?_ | (refine AllN.mk fun i hi => ?_; cbv) | (refine AllS.mk fun r hr => ?_; (try simp only [Dat.ok, Dat.dec, Leaf.ok, Leaf.val, Span.eta, Set.eta, Task.eta, Done.eta, Late.eta, val_sl] at hr); cbv)
  all_goals ((try dsimp only at *); (try simp only [nc, Int.toNat_natCast, Bool.not_eq_true', Bool.not_eq_false', decide_eq_true_eq, decide_eq_false_iff_not, beq_iff_eq, beq_eq_false_iff_ne, ba_inj, bne_iff_ne, ne_eq, Bool.and_eq_true, Bool.or_eq_true, Bool.and_eq_false_iff, Bool.or_eq_false_iff, Int.not_le, Int.not_lt, Nat.not_le, Nat.not_lt] at *); (try simp only [nc] at *))
  all_goals try rw [nc] at *
  all_goals first
    | omega
    | (unfold InR; omega)
    | (have e : delU l lo.toNat up.toNat = l := by
         have : lo = up := by omega
         subst this; exact delU_same l _
       first
         | (show l.length = (delU l lo.toNat up.toNat).length; rw [e])
         | (have e2 : dlInt_F l lo up = l := e
            rw [e2]))
    | (show _ = (delU l lo.toNat up.toNat).length; rw [hdl]; omega)
    | (have e3 : dlInt_F l lo up = delU l lo.toNat up.toNat := rfl
       have e4 : ((l.length : Int) - up).toNat = l.length - up.toNat := by omega
       have e5 : lo.toNat + ((l.length : Int) - up).toNat = lo.toNat + (l.length - up.toNat) := by omega
       rw [e3, delU_get (by omega) (by omega) (by omega)]
       try rw [e4]
       all_goals (cases decide (lo.toNat ≤ i ∧ i < lo.toNat + (l.length - up.toNat)) <;> rfl))
    | fail
theorem dlInt_ne (rest : List AV) (d : List Int) (_ : dlInt_S.ne = true) (hp : dlInt_S.pre rest d) : 0 < d.length := by
  have hp : (match (generalizing := false) rest with | [.i .i64 lo, .i .i64 up] => dlInt_P d (lo ()) (up ()) | _ => False) := hp
  split at hp
  · unfold dlInt_P at hp; omega
  · cases hp
theorem dlInt_ok {A : List AV} {H : Hp} {K : Kont} (h : dlInt_K A H K) : FnOk Try.prog 54 A H K := ownCon_ok dlInt_ne (fun rest d _ hp => by
  have hp : (match (generalizing := false) rest with | [.i .i64 lo, .i .i64 up] => dlInt_P d (lo ()) (up ()) | _ => False) := hp
  split at hp
  · rename_i lo up _ _; exact dlInt_vc d (lo ()) (up ()) hp
  · cases hp) h
theorem dlInt_okO : DtOk Try.prog 54 (.o (ownDet Int 3 dlInt_S)) := ownDet_ok dlInt_ne (fun rest d _ hp => by
  have hp : (match (generalizing := false) rest with | [.i .i64 lo, .i .i64 up] => dlInt_P d (lo ()) (up ()) | _ => False) := hp
  split at hp
  · rename_i lo up _ _; exact dlInt_vc d (lo ()) (up ()) hp
  · cases hp)

end Go.Proofs.Ytabchkekhpmpiaa
