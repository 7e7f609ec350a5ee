/- slices.Delete, and slices.Reverse, walked at each type. -/
import Derived.Test.YtadjemhbfaonbaaAbsOwn
import Derived.Test.YtadjemhbfaonbaaTy
set_option linter.all false
namespace Go.Proofs.Ytadjemhbfaonbaa
open Go Go.Abs

def clWant_R (r : Th ((List Want))) : AV := .own 0 fun _ => (r ()).length
def clWant_H (r : Th ((List Want))) : Hp := [vecO 36 fun _ => (r ())]
def clWant_P (l : (List Want)) : Prop := l.length ≤ 1099511627776
def clWant_C : PC := fun A K => match A with
  | [l] => Ob (fun _ => Leaf.ok (List Want) l ∧ clWant_P (Leaf.val l)) (Gen (α := (List Want)) (fun _ => (Leaf.val l)) fun r => K (clWant_R fun _ => r) (clWant_H fun _ => r))
  | _ => Bad 1002
set_option maxRecDepth 100000 in
set_option maxHeartbeats 4000000 in
theorem clWant_vc (l : (List Want)) (hp : clWant_P l) : FnOk Try.prog 11 [Leaf.av fun _ => l] [] (outA (clWant_R fun _ => l) (clWant_H fun _ => l)) := by
  refine fn_ok envOk zl noCon_ok noDraws_ok (keep := [0, 2, 4]) Try.func11 rfl ?_
  have hp' : l.length ≤ 1099511627776 := hp
  cbv
  repeat' first | (refine Stp.mk ?_; cbv) | (refine Gen.mk fun r hr => ?_; (try simp only [Dat.ok, Dat.dec, Leaf.ok, Leaf.val, Span.eta, Set.eta, Window.eta, Table.eta, Want.eta, val_sl, val_nil] at hr); cbv) | exact trivial | rfl | refine Both.mk ?_ ?_ | (refine Imp.mk fun h => ?_; (try dsimp only at h); (try simp only [nc, Int.toNat_natCast, Bool.not_eq_true', Bool.not_eq_false', decide_eq_true_eq, decide_eq_false_iff_not, beq_iff_eq, beq_eq_false_iff_ne, ba_inj, bne_iff_ne, ne_eq, Bool.and_eq_true, Bool.or_eq_true, Bool.and_eq_false_iff, Bool.or_eq_false_iff, Int.not_le, Int.not_lt, Nat.not_le, Nat.not_lt] at h); (try simp only [nc] at h)) | refine Ob.mk ?_ ?_ | refine Chk.mk (by kernel_rfl) ?_ | refine Eq'.mk ?_ | (refine AllN.mk fun i hi => ?_; cbv) | (refine AllS.mk fun r hr => ?_; (try simp only [Dat.ok, Dat.dec, Leaf.ok, Leaf.val, Span.eta, Set.eta, Window.eta, Table.eta, Want.eta, val_sl] at hr); cbv)
  all_goals ((try dsimp only at *); (try simp only [nc, Int.toNat_natCast, Bool.not_eq_true', Bool.not_eq_false', decide_eq_true_eq, decide_eq_false_iff_not, beq_iff_eq, beq_eq_false_iff_ne, ba_inj, bne_iff_ne, ne_eq, Bool.and_eq_true, Bool.or_eq_true, Bool.and_eq_false_iff, Bool.or_eq_false_iff, Int.not_le, Int.not_lt, Nat.not_le, Nat.not_lt] at *); (try simp only [nc] at *))
  all_goals first
    | omega
    | (exact ⟨Nat.le_refl _, trivial, by omega, by omega⟩)
    | (simp only [Nat.zero_add, Nat.sub_zero, Nat.not_lt_zero, decide_false, cond_false]; done)
    | (simp_all; done)
    | fail
theorem clWant_ok : PcOk Try.prog 11 (clWant_C) := fun A K h => by
  unfold clWant_C at h
  split at h
  · rename_i l
    cases h with
    | mk h1 h2 =>
      obtain ⟨g0, hp⟩ := h1
      refine FnOk.pre ?_ (A' := [Leaf.av fun _ => (Leaf.val l : (List Want))]) (.mk (Leaf.hle _ g0) (trivial))
      exact FnOk.out (K := fun r H _ => K r H) (clWant_vc (Leaf.val l) hp) rfl h2.out
  · cases h
def clWantN_N : DetN := fun A => match A with
  | [l] => some (fun _ => Leaf.ok (List Want) l ∧ clWant_P (Leaf.val l), clWant_R fun _ => (Leaf.val l), vecO 36 fun _ => ((Leaf.val l) : (List Want)))
  | _ => none
theorem clWantN_okN : PcOk Try.prog 11 (detNPC clWantN_N) := det_okN fun A p r o h hp0 => by
  unfold clWantN_N at h
  split at h
  · rename_i l
    cases h
    obtain ⟨g0, hp⟩ := hp0
    exact FnOk.pre (A' := [Leaf.av fun _ => (Leaf.val l : (List Want))]) (FnOk.out (clWant_vc (Leaf.val l) hp) rfl ⟨rfl, rfl⟩) (.mk (Leaf.hle _ g0) (trivial))
  · cases h
def rvWant_P (l : List Want)  : Prop := l.length ≤ 4611686018427387903
def rvWant_F (l : List Want)  : List Want := l.reverse
def rvWant_S : OwnS Want := { pre := fun r l => match r with | [] => rvWant_P l | _ => False, fin := fun r l => match r with | [] => rvWant_F l | _ => l, res := none, kl := false }
noncomputable def rvWant_K : Con := ownCon Want 36 rvWant_S
set_option maxRecDepth 100000 in
set_option maxHeartbeats 4000000 in
theorem rvWant_vc (l : List Want)  (hp : rvWant_P l) : FnOk Try.prog 12 [.own 0 fun _ => l.length] [vecO 36 fun _ => l] (outLe 1 (.tup []) [vecO 36 fun _ => rvWant_F l] []) := by
  refine fn_ok envOk zl noCon_ok (draws_ok envOk zl noDet_ok mixed) (keep := [0, 2, 3, 9]) Try.func12 rfl ?_
  have hp' : l.length ≤ 4611686018427387903 := hp
  have fin : outLe 1 (.tup []) [vecO 36 fun _ => rvWant_F l] [] (.tup []) [vecO 36 fun _ => l.reverse] [] := by
    cbv
    repeat' first | (refine Stp.mk ?_; cbv) | (refine Gen.mk fun r hr => ?_; (try simp only [Dat.ok, Dat.dec, Leaf.ok, Leaf.val, Span.eta, Set.eta, Window.eta, Table.eta, Want.eta, val_sl, val_nil] at hr); cbv) | exact trivial | rfl | refine Both.mk ?_ ?_ | (refine Imp.mk fun h => ?_; (try dsimp only at h); (try simp only [nc, Int.toNat_natCast, Bool.not_eq_true', Bool.not_eq_false', decide_eq_true_eq, decide_eq_false_iff_not, beq_iff_eq, beq_eq_false_iff_ne, ba_inj, bne_iff_ne, ne_eq, Bool.and_eq_true, Bool.or_eq_true, Bool.and_eq_false_iff, Bool.or_eq_false_iff, Int.not_le, Int.not_lt, Nat.not_le, Nat.not_lt] at h); (try simp only [nc] at h)) | refine Ob.mk ?_ ?_ | refine Chk.mk (by kernel_rfl) ?_ | refine Eq'.mk ?_ | (refine AllN.mk fun i hi => ?_; cbv) | (refine AllS.mk fun r hr => ?_; (try simp only [Dat.ok, Dat.dec, Leaf.ok, Leaf.val, Span.eta, Set.eta, Window.eta, Table.eta, Want.eta, val_sl] at hr); cbv)
  generalize outLe 1 (.tup []) [vecO 36 fun _ => rvWant_F l] [] = K at fin ⊢
  cbv
  repeat' first | (show Stp _; exfalso; first | omega | (exact h ‹_›) | (exact absurd ‹_› h) | (exact Bool.false_ne_true (h.symm.trans (show _ = true by assumption)))) | (refine Stp.mk ?_; cbv) | (refine Gen.mk fun r hr => ?_; (try simp only [Dat.ok, Dat.dec, Leaf.ok, Leaf.val, Span.eta, Set.eta, Window.eta, Table.eta, Want.eta, val_sl, val_nil] at hr); cbv) | exact trivial | rfl | refine Both.mk ?_ ?_ | (refine Imp.mk fun h => ?_; (try dsimp only at h); (try simp only [nc, Int.toNat_natCast, Bool.not_eq_true', Bool.not_eq_false', decide_eq_true_eq, decide_eq_false_iff_not, beq_iff_eq, beq_eq_false_iff_ne, ba_inj, bne_iff_ne, ne_eq, Bool.and_eq_true, Bool.or_eq_true, Bool.and_eq_false_iff, Bool.or_eq_false_iff, Int.not_le, Int.not_lt, Nat.not_le, Nat.not_lt] at h); (try simp only [nc] at h)) | refine Ob.mk ?_ ?_ | refine Chk.mk (by kernel_rfl) ?_ | refine Eq'.mk ?_ | (refine AllN.mk fun i hi => ?_; cbv) | (refine AllS.mk fun r hr => ?_; (try simp only [Dat.ok, Dat.dec, Leaf.ok, Leaf.val, Span.eta, Set.eta, Window.eta, Table.eta, Want.eta, val_sl] at hr); cbv)
  all_goals ((try dsimp only at *); (try simp only [nc, Int.toNat_natCast, Bool.not_eq_true', Bool.not_eq_false', decide_eq_true_eq, decide_eq_false_iff_not, beq_iff_eq, beq_eq_false_iff_ne, ba_inj, bne_iff_ne, ne_eq, Bool.and_eq_true, Bool.or_eq_true, Bool.and_eq_false_iff, Bool.or_eq_false_iff, Int.not_le, Int.not_lt, Nat.not_le, Nat.not_lt] at *); (try simp only [nc] at *))
  all_goals first
    | omega
    | (unfold InR; omega)
    | skip
  refine LoopVC.frame [2, 3, 9] (Σ' k : Nat, 2 * k ≤ l.length) (fun x => [(2, .i .i64 fun _ => x.1), (3, .i .i64 fun _ => (l.length : Int) - 1 - x.1)]) (fun x => [(0, vecO 36 fun _ => revU l x.1)]) [] (fun x => l.length - x.1)
      ⟨0, Nat.zero_le _⟩ rfl (fun _ => rfl) ?_ ?_ fun ⟨k, hk⟩ => ?_
  · cbv
    repeat' first | (refine Stp.mk ?_; cbv) | (refine Gen.mk fun r hr => ?_; (try simp only [Dat.ok, Dat.dec, Leaf.ok, Leaf.val, Span.eta, Set.eta, Window.eta, Table.eta, Want.eta, val_sl, val_nil] at hr); cbv) | exact trivial | rfl | refine Both.mk ?_ ?_ | (refine Imp.mk fun h => ?_; (try dsimp only at h); (try simp only [nc, Int.toNat_natCast, Bool.not_eq_true', Bool.not_eq_false', decide_eq_true_eq, decide_eq_false_iff_not, beq_iff_eq, beq_eq_false_iff_ne, ba_inj, bne_iff_ne, ne_eq, Bool.and_eq_true, Bool.or_eq_true, Bool.and_eq_false_iff, Bool.or_eq_false_iff, Int.not_le, Int.not_lt, Nat.not_le, Nat.not_lt] at h); (try simp only [nc] at h)) | refine Ob.mk ?_ ?_ | refine Chk.mk (by kernel_rfl) ?_ | refine Eq'.mk ?_ | (refine AllN.mk fun i hi => ?_; cbv) | (refine AllS.mk fun r hr => ?_; (try simp only [Dat.ok, Dat.dec, Leaf.ok, Leaf.val, Span.eta, Set.eta, Window.eta, Table.eta, Want.eta, val_sl] at hr); cbv)
    all_goals first | rfl | simp
  · cbv
    repeat' first | (refine Stp.mk ?_; cbv) | (refine Gen.mk fun r hr => ?_; (try simp only [Dat.ok, Dat.dec, Leaf.ok, Leaf.val, Span.eta, Set.eta, Window.eta, Table.eta, Want.eta, val_sl, val_nil] at hr); cbv) | exact trivial | rfl | refine Both.mk ?_ ?_ | (refine Imp.mk fun h => ?_; (try dsimp only at h); (try simp only [nc, Int.toNat_natCast, Bool.not_eq_true', Bool.not_eq_false', decide_eq_true_eq, decide_eq_false_iff_not, beq_iff_eq, beq_eq_false_iff_ne, ba_inj, bne_iff_ne, ne_eq, Bool.and_eq_true, Bool.or_eq_true, Bool.and_eq_false_iff, Bool.or_eq_false_iff, Int.not_le, Int.not_lt, Nat.not_le, Nat.not_lt] at h); (try simp only [nc] at h)) | refine Ob.mk ?_ ?_ | refine Chk.mk (by kernel_rfl) ?_ | refine Eq'.mk ?_ | (refine AllN.mk fun i hi => ?_; cbv) | (refine AllS.mk fun r hr => ?_; (try simp only [Dat.ok, Dat.dec, Leaf.ok, Leaf.val, Span.eta, Set.eta, Window.eta, Table.eta, Want.eta, val_sl] at hr); cbv)
    all_goals ((try dsimp only at *); (try simp only [nc, Int.toNat_natCast, Bool.not_eq_true', Bool.not_eq_false', decide_eq_true_eq, decide_eq_false_iff_not, beq_iff_eq, beq_eq_false_iff_ne, ba_inj, bne_iff_ne, ne_eq, Bool.and_eq_true, Bool.or_eq_true, Bool.and_eq_false_iff, Bool.or_eq_false_iff, Int.not_le, Int.not_lt, Nat.not_le, Nat.not_lt] at *); (try simp only [nc] at *))
    all_goals first
      | exact (revU_len l 0).symm
      | exact revU_len l 0
      | (show _ = ((revU l 0).getD _ Dat.d0); rw [revU_zero]; done)
      | (rw [revU_zero]; done)
      | (simp only [revU_zero]; done)
      | fail
  · have hlen : (revU l k).length = l.length := revU_len l k
    cbv
    repeat' first | (show Stp _; exfalso; first | omega | (exact h ‹_›) | (exact absurd ‹_› h) | (exact Bool.false_ne_true (h.symm.trans (show _ = true by assumption)))) | (refine Stp.mk ?_; cbv) | (refine Gen.mk fun r hr => ?_; (try simp only [Dat.ok, Dat.dec, Leaf.ok, Leaf.val, Span.eta, Set.eta, Window.eta, Table.eta, Want.eta, val_sl, val_nil] at hr); cbv) | exact trivial | rfl | refine Both.mk ?_ ?_ | (refine Imp.mk fun h => ?_; (try dsimp only at h); (try simp only [nc, Int.toNat_natCast, Bool.not_eq_true', Bool.not_eq_false', decide_eq_true_eq, decide_eq_false_iff_not, beq_iff_eq, beq_eq_false_iff_ne, ba_inj, bne_iff_ne, ne_eq, Bool.and_eq_true, Bool.or_eq_true, Bool.and_eq_false_iff, Bool.or_eq_false_iff, Int.not_le, Int.not_lt, Nat.not_le, Nat.not_lt] at h); (try simp only [nc] at h)) | refine Ob.mk ?_ ?_ | refine Chk.mk (by kernel_rfl) ?_ | refine Eq'.mk ?_ | (refine AllN.mk fun i hi => ?_; cbv) | (refine AllS.mk fun r hr => ?_; (try simp only [Dat.ok, Dat.dec, Leaf.ok, Leaf.val, Span.eta, Set.eta, Window.eta, Table.eta, Want.eta, val_sl] at hr); cbv)
    all_goals ((try dsimp only at *); (try simp only [nc, Int.toNat_natCast, Bool.not_eq_true', Bool.not_eq_false', decide_eq_true_eq, decide_eq_false_iff_not, beq_iff_eq, beq_eq_false_iff_ne, ba_inj, bne_iff_ne, ne_eq, Bool.and_eq_true, Bool.or_eq_true, Bool.and_eq_false_iff, Bool.or_eq_false_iff, Int.not_le, Int.not_lt, Nat.not_le, Nat.not_lt] at *); (try simp only [nc] at *))
    all_goals try rw [nc] at *
    all_goals first
      | omega
      | (unfold InR; omega)
      | (have hk1 : k < l.length - 1 - k := by omega
         have ej : ((l.length : Int) - 1 - k).toNat = l.length - 1 - k := by omega
         refine ⟨⟨k + 1, by omega⟩, ?_, ?_, rfl, by (try dsimp only); omega⟩
         · cbv
           repeat' first | (refine Stp.mk ?_; cbv) | (refine Gen.mk fun r hr => ?_; (try simp only [Dat.ok, Dat.dec, Leaf.ok, Leaf.val, Span.eta, Set.eta, Window.eta, Table.eta, Want.eta, val_sl, val_nil] at hr); cbv) | exact trivial | rfl | refine Both.mk ?_ ?_ | (refine Imp.mk fun h => ?_; (try dsimp only at h); (try simp only [nc, Int.toNat_natCast, Bool.not_eq_true', Bool.not_eq_false', decide_eq_true_eq, decide_eq_false_iff_not, beq_iff_eq, beq_eq_false_iff_ne, ba_inj, bne_iff_ne, ne_eq, Bool.and_eq_true, Bool.or_eq_true, Bool.and_eq_false_iff, Bool.or_eq_false_iff, Int.not_le, Int.not_lt, Nat.not_le, Nat.not_lt] at h); (try simp only [nc] at h)) | refine Ob.mk ?_ ?_ | refine Chk.mk (by kernel_rfl) ?_ | refine Eq'.mk ?_ | (refine AllN.mk fun i hi => ?_; cbv) | (refine AllS.mk fun r hr => ?_; (try simp only [Dat.ok, Dat.dec, Leaf.ok, Leaf.val, Span.eta, Set.eta, Window.eta, Table.eta, Want.eta, val_sl] at hr); cbv)
           all_goals first | omega | (show (l.length : Int) - 1 - k - 1 = (l.length : Int) - 1 - ((k + 1 : Nat) : Int); omega)
         · cbv
           repeat' first | (refine Stp.mk ?_; cbv) | (refine Gen.mk fun r hr => ?_; (try simp only [Dat.ok, Dat.dec, Leaf.ok, Leaf.val, Span.eta, Set.eta, Window.eta, Table.eta, Want.eta, val_sl, val_nil] at hr); cbv) | exact trivial | rfl | refine Both.mk ?_ ?_ | (refine Imp.mk fun h => ?_; (try dsimp only at h); (try simp only [nc, Int.toNat_natCast, Bool.not_eq_true', Bool.not_eq_false', decide_eq_true_eq, decide_eq_false_iff_not, beq_iff_eq, beq_eq_false_iff_ne, ba_inj, bne_iff_ne, ne_eq, Bool.and_eq_true, Bool.or_eq_true, Bool.and_eq_false_iff, Bool.or_eq_false_iff, Int.not_le, Int.not_lt, Nat.not_le, Nat.not_lt] at h); (try simp only [nc] at h)) | refine Ob.mk ?_ ?_ | refine Chk.mk (by kernel_rfl) ?_ | refine Eq'.mk ?_ | (refine AllN.mk fun i hi => ?_; cbv) | (refine AllS.mk fun r hr => ?_; (try simp only [Dat.ok, Dat.dec, Leaf.ok, Leaf.val, Span.eta, Set.eta, Window.eta, Table.eta, Want.eta, val_sl] at hr); cbv)
           all_goals ((try dsimp only at *); (try simp only [nc, Int.toNat_natCast, Bool.not_eq_true', Bool.not_eq_false', decide_eq_true_eq, decide_eq_false_iff_not, beq_iff_eq, beq_eq_false_iff_ne, ba_inj, bne_iff_ne, ne_eq, Bool.and_eq_true, Bool.or_eq_true, Bool.and_eq_false_iff, Bool.or_eq_false_iff, Int.not_le, Int.not_lt, Nat.not_le, Nat.not_lt] at *); (try simp only [nc] at *))
           all_goals try rw [nc]
           all_goals try simp only [ej, Int.toNat_natCast]
           all_goals first
             | (rw [revU_len, revU_len]; done)
             | (rw [revU_step hk1 (by omega)]; done)
             | (rw [revU_step hk1 (by omega)]; generalize decide (_ = l.length - 1 - k) = c1; generalize decide (_ = k) = c2; cases c1 <;> cases c2 <;> rfl)
             | fail)
      | (have e : revU l k = l.reverse := revU_done (by omega)
         rw [e]
         exact fin)
      | fail
theorem rvWant_ok {A : List AV} {H : Hp} {K : Kont} (h : rvWant_K A H K) : FnOk Try.prog 12 A H K := ownCon_ok (fun _ _ h => by cases h) (fun rest d _ hp => by
  have hp : (match (generalizing := false) rest with | [] => rvWant_P d | _ => False) := hp
  split at hp
  · exact rvWant_vc d hp
  · cases hp) h
theorem rvWant_okO : DtOk Try.prog 12 (.o (ownDet Want 36 rvWant_S)) := ownDet_ok (fun _ _ h => by cases h) (fun rest d _ hp => by
  have hp : (match (generalizing := false) rest with | [] => rvWant_P d | _ => False) := hp
  split at hp
  · exact rvWant_vc d hp
  · cases hp)
def dlWantd : FuncId → Option Dt := fun f => match f with
  | _ => none
theorem dlWantd_ok : DetOk Try.prog dlWantd := fun f d h => by
  unfold dlWantd at h
  split at h
  · cases h
def dlWant_P (l : List Want) (lo : Int) (up : Int) : Prop := 0 ≤ lo ∧ lo ≤ up ∧ up ≤ l.length ∧ 0 < l.length ∧ l.length ≤ 4611686018427387903
def dlWant_F (l : List Want) (lo : Int) (up : Int) : List Want := delU l lo.toNat up.toNat
def dlWant_N (l : List Want) (lo : Int) (up : Int) : Nat := (delU l lo.toNat up.toNat).length
def dlWant_S : OwnS Want := { pre := fun r l => match r with | [.i .i64 lo, .i .i64 up] => dlWant_P l (lo ()) (up ()) | _ => False, fin := fun r l => match r with | [.i .i64 lo, .i .i64 up] => dlWant_F l (lo ()) (up ()) | _ => l, res := some (fun r l => match r with | [.i .i64 lo, .i .i64 up] => dlWant_N l (lo ()) (up ()) | _ => 0), kl := true, ne := true }
noncomputable def dlWant_K : Con := ownCon Want 36 dlWant_S
set_option maxRecDepth 100000 in
set_option maxHeartbeats 4000000 in
theorem dlWant_vc (l : List Want) (lo : Int) (up : Int) (hp : dlWant_P l lo up) : FnOk Try.prog 13 [.nn 0 fun _ => l.length, .i .i64 fun _ => lo, .i .i64 fun _ => up] [vecO 36 fun _ => l] (outLe 1 (.own 0 fun _ => dlWant_N l lo up) [vecO 36 fun _ => dlWant_F l lo up] [0]) := by
  refine fn_ok envOk zl noCon_ok (draws_ok envOk zl dlWantd_ok mixed) (keep := [0, 1, 2, 6, 7, 16]) Try.func13 rfl ?_
  obtain ⟨p1, p2, p3, p4, p5⟩ : 0 ≤ lo ∧ lo ≤ up ∧ up ≤ l.length ∧ 0 < l.length ∧ l.length ≤ 4611686018427387903 := hp
  have hdl : (delU l lo.toNat up.toNat).length = lo.toNat + (l.length - up.toNat) := delU_len (by omega) (by omega)
  cbv
  repeat' first | (show Stp _; exfalso; first | omega | (exact h ‹_›) | (exact absurd ‹_› h) | (exact Bool.false_ne_true (h.symm.trans (show _ = true by assumption)))) | (refine Stp.mk ?_; cbv) | (refine Gen.mk fun r hr => ?_; (try simp only [Dat.ok, Dat.dec, Leaf.ok, Leaf.val, Span.eta, Set.eta, Window.eta, Table.eta, Want.eta, val_sl, val_nil] at hr); cbv) | exact trivial | rfl | refine Both.mk ?_ ?_ | (refine Imp.mk fun h => ?_; (try dsimp only at h); (try simp only [nc, Int.toNat_natCast, Bool.not_eq_true', Bool.not_eq_false', decide_eq_true_eq, decide_eq_false_iff_not, beq_iff_eq, beq_eq_false_iff_ne, ba_inj, bne_iff_ne, ne_eq, Bool.and_eq_true, Bool.or_eq_true, Bool.and_eq_false_iff, Bool.or_eq_false_iff, Int.not_le, Int.not_lt, Nat.not_le, Nat.not_lt] at h); (try simp only [nc] at h)) | refine Ob.mk ?_ ?_ | refine Chk.mk (by kernel_rfl) ?_ | refine Eq'.mk ?_ | (refine AllN.mk fun i hi => ?_; cbv) | (refine AllS.mk fun r hr => ?_; (try simp only [Dat.ok, Dat.dec, Leaf.ok, Leaf.val, Span.eta, Set.eta, Window.eta, Table.eta, Want.eta, val_sl] at hr); cbv)
  all_goals ((try dsimp only at *); (try simp only [nc, Int.toNat_natCast, Bool.not_eq_true', Bool.not_eq_false', decide_eq_true_eq, decide_eq_false_iff_not, beq_iff_eq, beq_eq_false_iff_ne, ba_inj, bne_iff_ne, ne_eq, Bool.and_eq_true, Bool.or_eq_true, Bool.and_eq_false_iff, Bool.or_eq_false_iff, Int.not_le, Int.not_lt, Nat.not_le, Nat.not_lt] at *); (try simp only [nc] at *))
  all_goals try rw [nc] at *
  all_goals first
    | omega
    | (unfold InR; omega)
    | (have e : delU l lo.toNat up.toNat = l := by
         have : lo = up := by omega
         subst this; exact delU_same l _
       first
         | (show l.length = (delU l lo.toNat up.toNat).length; rw [e])
         | (have e2 : dlWant_F l lo up = l := e
            rw [e2]))
    | (show _ = (delU l lo.toNat up.toNat).length; rw [hdl]; omega)
    | (have e3 : dlWant_F l lo up = delU l lo.toNat up.toNat := rfl
       have e4 : ((l.length : Int) - up).toNat = l.length - up.toNat := by omega
       have e5 : lo.toNat + ((l.length : Int) - up).toNat = lo.toNat + (l.length - up.toNat) := by omega
       rw [e3, delU_get (by omega) (by omega) (by omega)]
       try rw [e4]
       all_goals (cases decide (lo.toNat ≤ i ∧ i < lo.toNat + (l.length - up.toNat)) <;> rfl))
    | fail
theorem dlWant_ne (rest : List AV) (d : List Want) (_ : dlWant_S.ne = true) (hp : dlWant_S.pre rest d) : 0 < d.length := by
  have hp : (match (generalizing := false) rest with | [.i .i64 lo, .i .i64 up] => dlWant_P d (lo ()) (up ()) | _ => False) := hp
  split at hp
  · unfold dlWant_P at hp; omega
  · cases hp
theorem dlWant_ok {A : List AV} {H : Hp} {K : Kont} (h : dlWant_K A H K) : FnOk Try.prog 13 A H K := ownCon_ok dlWant_ne (fun rest d _ hp => by
  have hp : (match (generalizing := false) rest with | [.i .i64 lo, .i .i64 up] => dlWant_P d (lo ()) (up ()) | _ => False) := hp
  split at hp
  · rename_i lo up _ _; exact dlWant_vc d (lo ()) (up ()) hp
  · cases hp) h
theorem dlWant_okO : DtOk Try.prog 13 (.o (ownDet Want 36 dlWant_S)) := ownDet_ok dlWant_ne (fun rest d _ hp => by
  have hp : (match (generalizing := false) rest with | [.i .i64 lo, .i .i64 up] => dlWant_P d (lo ()) (up ()) | _ => False) := hp
  split at hp
  · rename_i lo up _ _; exact dlWant_vc d (lo ()) (up ()) hp
  · cases hp)

end Go.Proofs.Ytadjemhbfaonbaa
