/- median.Round, walked. -/
import Derived.Test.YtpofgnocliaahaaMedian
set_option linter.all false
namespace Go.Proofs.Ytpofgnocliaahaa
open Go Go.Abs

def roundV (l : List (List Int)) (f : Int) : List Int × Int :=
  if 64 < l.length then ([], 2) else match l.find? (fun x => decide (¬ (midV x f).2.2 = 0)) with
    | some x => ([], (midV x f).2.2)
    | none => (l.map fun x => (midV x f).1, 0)
def round_R (r : Th ((List Int) × Int)) : AV := .tup [.own 0 fun _ => (r ()).1.length, .i .i64 fun _ => (r ()).2]
def round_H (r : Th ((List Int) × Int)) : Hp := [vecO 3 fun _ => (r ()).1]
def round_P (l : (List (List Int))) (faults : Int) : Prop := l.length ≤ 1048576 ∧ ∀ k, (l.getD k Dat.d0).length ≤ 1099511627776
def round_C : PC := fun A K => match A with
  | [l, .i .i64 faults] => Ob (fun _ => Leaf.ok (List (List Int)) l ∧ round_P (Leaf.val l) (faults ())) (Gen (α := (List Int) × Int) (fun _ => roundV (Leaf.val l) (faults ())) fun r => K (round_R fun _ => r) (round_H fun _ => r))
  | _ => Bad 1002
noncomputable def cRo : FuncId → Con := fun f => match f with
  | 11 => pureCon (detPC mid_D)
  | _ => fun _ _ _ => Bad 1001
theorem cRo_ok : ConOk Try.prog cRo := fun f A H K h => by
  unfold cRo at h
  split at h
  · exact ⟨⟨Try.f11, Try.func11, by kernel_rfl, by kernel_rfl⟩, pureCon_ok mid_ok h⟩
  · cases h
structure RoX (l : List (List Int)) (f : Int) where
  k : Nat
  hk : k ≤ l.length
  hr : ∀ j, j < k → (midV (l.getD j Dat.d0) f).2.2 = 0
theorem find_bad {l : List (List Int)} {f : Int} {k : Nat} (hk : k < l.length) (hr : ∀ j, j < k → (midV (l.getD j Dat.d0) f).2.2 = 0) (hb : ¬ (midV (l.getD k Dat.d0) f).2.2 = 0) : l.find? (fun x => decide (¬ (midV x f).2.2 = 0)) = some (l.getD k Dat.d0) := by
  induction l generalizing k with
  | nil => cases hk
  | cons x r ih =>
    cases k with
    | zero =>
      have hb : ¬ (midV x f).2.2 = 0 := hb
      rw [List.find?_cons_of_pos (by simpa using hb)]; rfl
    | succ k =>
      have h0 : (midV x f).2.2 = 0 := hr 0 (Nat.zero_lt_succ _)
      rw [List.find?_cons_of_neg (by simpa using h0)]
      exact ih (k := k) (by simpa using hk) (fun j hj => hr (j + 1) (by omega)) hb
theorem find_none {l : List (List Int)} {f : Int} (hr : ∀ j, j < l.length → (midV (l.getD j Dat.d0) f).2.2 = 0) : l.find? (fun x => decide (¬ (midV x f).2.2 = 0)) = none := by
  rw [List.find?_eq_none]
  intro x hx
  obtain ⟨i, hi, rfl⟩ := List.getElem_of_mem hx
  have := hr i hi
  rw [List.getD_eq_getElem?_getD, List.getElem?_eq_getElem hi] at this
  simpa using this
set_option maxRecDepth 100000 in
set_option maxHeartbeats 4000000 in
theorem round_vc (l : (List (List Int))) (faults : Int) (hp : round_P l faults) : FnOk Try.prog 16 [Leaf.av fun _ => l, .i .i64 fun _ => faults] [] (outA (round_R fun _ => roundV l faults) (round_H fun _ => roundV l faults)) := by
  refine fn_ok envOk zl cRo_ok noDraws_ok (keep := [0, 1, 4, 5, 6, 8, 9, 11, 14, 15, 16, 17, 18, 29]) Try.func16 rfl ?_
  obtain ⟨hp1, hp2⟩ := hp
  have fin0 : ∀ (e : Int) kl H, roundV l faults = ([], e) → outA (round_R fun _ => roundV l faults) (round_H fun _ => roundV l faults) (.tup [.nil, .i .i64 fun _ => e]) H kl := fun e kl H h => by
    rw [h]
    cbv
    repeat' first | (refine Stp.mk ?_; cbv) | (refine Gen.mk fun r hr => ?_; (try simp only [Dat.ok, Dat.dec, Leaf.ok, Leaf.val, val_sl, val_nil] at hr); cbv) | exact trivial | rfl | refine Both.mk ?_ ?_ | (refine Imp.mk fun h => ?_; (try dsimp only at h); (try simp only [nc, Int.toNat_natCast, Bool.not_eq_true', Bool.not_eq_false', decide_eq_true_eq, decide_eq_false_iff_not, beq_iff_eq, beq_eq_false_iff_ne, ba_inj, bne_iff_ne, ne_eq, Bool.and_eq_true, Bool.or_eq_true, Bool.and_eq_false_iff, Bool.or_eq_false_iff, Int.not_le, Int.not_lt, Nat.not_le, Nat.not_lt] at h); (try simp only [nc] at h)) | refine Ob.mk ?_ ?_ | refine Chk.mk (by kernel_rfl) ?_ | refine Eq'.mk ?_ | (refine AllN.mk fun i hi => ?_; cbv) | (refine AllC.mk fun c hc hcm => ?_; (try dsimp only at hc); cbv) | (refine AllS.mk fun r hr => ?_; (try simp only [Dat.ok, Dat.dec, Leaf.ok, Leaf.val, val_sl] at hr); cbv)
    all_goals first | rfl | (exfalso; omega)
  have fin1 : ∀ d (n : Nat) (e : Int) kl H, roundV l faults = (d, e) → n = d.length → outA (round_R fun _ => roundV l faults) (round_H fun _ => roundV l faults) (.tup [.own 0 fun _ => n, .i .i64 fun _ => e]) (vecO 3 (fun _ => d) :: H) kl := fun d n e kl H h hn => by
    subst hn
    rw [h]
    cbv
    repeat' first | (refine Stp.mk ?_; cbv) | (refine Gen.mk fun r hr => ?_; (try simp only [Dat.ok, Dat.dec, Leaf.ok, Leaf.val, val_sl, val_nil] at hr); cbv) | exact trivial | rfl | refine Both.mk ?_ ?_ | (refine Imp.mk fun h => ?_; (try dsimp only at h); (try simp only [nc, Int.toNat_natCast, Bool.not_eq_true', Bool.not_eq_false', decide_eq_true_eq, decide_eq_false_iff_not, beq_iff_eq, beq_eq_false_iff_ne, ba_inj, bne_iff_ne, ne_eq, Bool.and_eq_true, Bool.or_eq_true, Bool.and_eq_false_iff, Bool.or_eq_false_iff, Int.not_le, Int.not_lt, Nat.not_le, Nat.not_lt] at h); (try simp only [nc] at h)) | refine Ob.mk ?_ ?_ | refine Chk.mk (by kernel_rfl) ?_ | refine Eq'.mk ?_ | (refine AllN.mk fun i hi => ?_; cbv) | (refine AllC.mk fun c hc hcm => ?_; (try dsimp only at hc); cbv) | (refine AllS.mk fun r hr => ?_; (try simp only [Dat.ok, Dat.dec, Leaf.ok, Leaf.val, val_sl] at hr); cbv)
  generalize outA (round_R fun _ => roundV l faults) (round_H fun _ => roundV l faults) = K at fin0 fin1 ⊢
  cbv
  repeat' first | (show Stp _; exfalso; first | omega | (exact h ‹_›) | (exact absurd ‹_› h) | (exact Bool.false_ne_true (h.symm.trans (show _ = true by assumption)))) | (refine Stp.mk ?_; cbv) | (refine Gen.mk fun r hr => ?_; (try simp only [Dat.ok, Dat.dec, Leaf.ok, Leaf.val, val_sl, val_nil] at hr); cbv) | exact trivial | rfl | refine Both.mk ?_ ?_ | (refine Imp.mk fun h => ?_; (try dsimp only at h); (try simp only [nc, Int.toNat_natCast, Bool.not_eq_true', Bool.not_eq_false', decide_eq_true_eq, decide_eq_false_iff_not, beq_iff_eq, beq_eq_false_iff_ne, ba_inj, bne_iff_ne, ne_eq, Bool.and_eq_true, Bool.or_eq_true, Bool.and_eq_false_iff, Bool.or_eq_false_iff, Int.not_le, Int.not_lt, Nat.not_le, Nat.not_lt] at h); (try simp only [nc] at h)) | refine Ob.mk ?_ ?_ | refine Chk.mk (by kernel_rfl) ?_ | refine Eq'.mk ?_ | (refine AllN.mk fun i hi => ?_; cbv) | (refine AllC.mk fun c hc hcm => ?_; (try dsimp only at hc); cbv) | (refine AllS.mk fun r hr => ?_; (try simp only [Dat.ok, Dat.dec, Leaf.ok, Leaf.val, val_sl] at hr); cbv)
  all_goals ((try dsimp only at *); (try simp only [nc, Int.toNat_natCast, Bool.not_eq_true', Bool.not_eq_false', decide_eq_true_eq, decide_eq_false_iff_not, beq_iff_eq, beq_eq_false_iff_ne, ba_inj, bne_iff_ne, ne_eq, Bool.and_eq_true, Bool.or_eq_true, Bool.and_eq_false_iff, Bool.or_eq_false_iff, Int.not_le, Int.not_lt, Nat.not_le, Nat.not_lt] at *); (try simp only [nc] at *))
  all_goals first
    | (refine fin0 _ _ _ ?_
       rw [roundV, if_pos (by omega)]
       done)
    | skip
  have hn : ¬ 64 < l.length := by omega
  refine LoopVC.frame [4, 5, 6, 8, 9, 11, 17, 18, 29] (RoX l faults) (fun x => [(17, .i .i64 fun _ => x.k), (6, .own 0 fun _ => x.k)]) (fun x => [(0, vecO 3 fun _ => (l.take x.k).map fun y => (midV y faults).1)]) [0] (fun x => l.length - x.k) ⟨0, Nat.zero_le _, fun j hj => absurd hj (Nat.not_lt_zero _)⟩ rfl (fun _ => rfl) ?_ ?_ fun ⟨k, hk, hr⟩ => ?_
  · cbv
    repeat' first | (refine Stp.mk ?_; cbv) | (refine Gen.mk fun r hr => ?_; (try simp only [Dat.ok, Dat.dec, Leaf.ok, Leaf.val, val_sl, val_nil] at hr); cbv) | exact trivial | rfl | refine Both.mk ?_ ?_ | (refine Imp.mk fun h => ?_; (try dsimp only at h); (try simp only [nc, Int.toNat_natCast, Bool.not_eq_true', Bool.not_eq_false', decide_eq_true_eq, decide_eq_false_iff_not, beq_iff_eq, beq_eq_false_iff_ne, ba_inj, bne_iff_ne, ne_eq, Bool.and_eq_true, Bool.or_eq_true, Bool.and_eq_false_iff, Bool.or_eq_false_iff, Int.not_le, Int.not_lt, Nat.not_le, Nat.not_lt] at h); (try simp only [nc] at h)) | refine Ob.mk ?_ ?_ | refine Chk.mk (by kernel_rfl) ?_ | refine Eq'.mk ?_ | (refine AllN.mk fun i hi => ?_; cbv) | (refine AllC.mk fun c hc hcm => ?_; (try dsimp only at hc); cbv) | (refine AllS.mk fun r hr => ?_; (try simp only [Dat.ok, Dat.dec, Leaf.ok, Leaf.val, val_sl] at hr); cbv)
  · cbv
    repeat' first | (refine Stp.mk ?_; cbv) | (refine Gen.mk fun r hr => ?_; (try simp only [Dat.ok, Dat.dec, Leaf.ok, Leaf.val, val_sl, val_nil] at hr); cbv) | exact trivial | rfl | refine Both.mk ?_ ?_ | (refine Imp.mk fun h => ?_; (try dsimp only at h); (try simp only [nc, Int.toNat_natCast, Bool.not_eq_true', Bool.not_eq_false', decide_eq_true_eq, decide_eq_false_iff_not, beq_iff_eq, beq_eq_false_iff_ne, ba_inj, bne_iff_ne, ne_eq, Bool.and_eq_true, Bool.or_eq_true, Bool.and_eq_false_iff, Bool.or_eq_false_iff, Int.not_le, Int.not_lt, Nat.not_le, Nat.not_lt] at h); (try simp only [nc] at h)) | refine Ob.mk ?_ ?_ | refine Chk.mk (by kernel_rfl) ?_ | refine Eq'.mk ?_ | (refine AllN.mk fun i hi => ?_; cbv) | (refine AllC.mk fun c hc hcm => ?_; (try dsimp only at hc); cbv) | (refine AllS.mk fun r hr => ?_; (try simp only [Dat.ok, Dat.dec, Leaf.ok, Leaf.val, val_sl] at hr); cbv)
  · have hlk : ((l.take k).map fun y => (midV y faults).1).length = k := by rw [List.length_map, List.length_take]; omega
    have hpk := hp2 k
    cbv
    repeat' first | (show Stp _; exfalso; first | omega | (exact h ‹_›) | (exact absurd ‹_› h) | (exact Bool.false_ne_true (h.symm.trans (show _ = true by assumption)))) | (refine Stp.mk ?_; cbv) | (refine Gen.mk fun r hr => ?_; (try simp only [Dat.ok, Dat.dec, Leaf.ok, Leaf.val, val_sl, val_nil] at hr); cbv) | exact trivial | rfl | refine Both.mk ?_ ?_ | (refine Imp.mk fun h => ?_; (try dsimp only at h); (try simp only [nc, Int.toNat_natCast, Bool.not_eq_true', Bool.not_eq_false', decide_eq_true_eq, decide_eq_false_iff_not, beq_iff_eq, beq_eq_false_iff_ne, ba_inj, bne_iff_ne, ne_eq, Bool.and_eq_true, Bool.or_eq_true, Bool.and_eq_false_iff, Bool.or_eq_false_iff, Int.not_le, Int.not_lt, Nat.not_le, Nat.not_lt] at h); (try simp only [nc] at h)) | refine Ob.mk ?_ ?_ | refine Chk.mk (by kernel_rfl) ?_ | refine Eq'.mk ?_ | (refine AllN.mk fun i hi => ?_; cbv) | (refine AllC.mk fun c hc hcm => ?_; (try dsimp only at hc); cbv) | (refine AllS.mk fun r hr => ?_; (try simp only [Dat.ok, Dat.dec, Leaf.ok, Leaf.val, val_sl] at hr); cbv)
    all_goals ((try dsimp only at *); (try simp only [nc, Int.toNat_natCast, Bool.not_eq_true', Bool.not_eq_false', decide_eq_true_eq, decide_eq_false_iff_not, beq_iff_eq, beq_eq_false_iff_ne, ba_inj, bne_iff_ne, ne_eq, Bool.and_eq_true, Bool.or_eq_true, Bool.and_eq_false_iff, Bool.or_eq_false_iff, Int.not_le, Int.not_lt, Nat.not_le, Nat.not_lt] at *); (try simp only [nc] at *))
    all_goals try simp only [Dat.dec, Leaf.val, val_sl] at *
    all_goals first
      | omega
      | (unfold InR; omega)
      | exact ⟨⟨rfl, fun i _ => Dat.hok _⟩, hpk⟩
      | exact ⟨by omega, Nat.le_refl _, by omega, by omega, by omega⟩
      | skip
    all_goals first
      | (have hk2 : k < l.length := by omega
         refine fin0 _ _ _ ?_
         rw [roundV, if_neg (by omega), find_bad hk2 hr (by assumption)]
         done)
      | (have hk2 : k < l.length := by omega
         refine ⟨⟨k + 1, by omega, fun j hj => by rcases Nat.lt_succ_iff_lt_or_eq.1 hj with q | rfl; exact hr j q; assumption⟩, ?_, ?_, rfl, by (try dsimp only); omega⟩
         · cbv
           repeat' first | (refine Stp.mk ?_; cbv) | (refine Gen.mk fun r hr => ?_; (try simp only [Dat.ok, Dat.dec, Leaf.ok, Leaf.val, val_sl, val_nil] at hr); cbv) | exact trivial | rfl | refine Both.mk ?_ ?_ | (refine Imp.mk fun h => ?_; (try dsimp only at h); (try simp only [nc, Int.toNat_natCast, Bool.not_eq_true', Bool.not_eq_false', decide_eq_true_eq, decide_eq_false_iff_not, beq_iff_eq, beq_eq_false_iff_ne, ba_inj, bne_iff_ne, ne_eq, Bool.and_eq_true, Bool.or_eq_true, Bool.and_eq_false_iff, Bool.or_eq_false_iff, Int.not_le, Int.not_lt, Nat.not_le, Nat.not_lt] at h); (try simp only [nc] at h)) | refine Ob.mk ?_ ?_ | refine Chk.mk (by kernel_rfl) ?_ | refine Eq'.mk ?_ | (refine AllN.mk fun i hi => ?_; cbv) | (refine AllC.mk fun c hc hcm => ?_; (try dsimp only at hc); cbv) | (refine AllS.mk fun r hr => ?_; (try simp only [Dat.ok, Dat.dec, Leaf.ok, Leaf.val, val_sl] at hr); cbv)
         · cbv
           repeat' first | (refine Stp.mk ?_; cbv) | (refine Gen.mk fun r hr => ?_; (try simp only [Dat.ok, Dat.dec, Leaf.ok, Leaf.val, val_sl, val_nil] at hr); cbv) | exact trivial | rfl | refine Both.mk ?_ ?_ | (refine Imp.mk fun h => ?_; (try dsimp only at h); (try simp only [nc, Int.toNat_natCast, Bool.not_eq_true', Bool.not_eq_false', decide_eq_true_eq, decide_eq_false_iff_not, beq_iff_eq, beq_eq_false_iff_ne, ba_inj, bne_iff_ne, ne_eq, Bool.and_eq_true, Bool.or_eq_true, Bool.and_eq_false_iff, Bool.or_eq_false_iff, Int.not_le, Int.not_lt, Nat.not_le, Nat.not_lt] at h); (try simp only [nc] at h)) | refine Ob.mk ?_ ?_ | refine Chk.mk (by kernel_rfl) ?_ | refine Eq'.mk ?_ | (refine AllN.mk fun i hi => ?_; cbv) | (refine AllC.mk fun c hc hcm => ?_; (try dsimp only at hc); cbv) | (refine AllS.mk fun r hr => ?_; (try simp only [Dat.ok, Dat.dec, Leaf.ok, Leaf.val, val_sl] at hr); cbv)
           all_goals ((try dsimp only at *); (try simp only [nc, Int.toNat_natCast, Bool.not_eq_true', Bool.not_eq_false', decide_eq_true_eq, decide_eq_false_iff_not, beq_iff_eq, beq_eq_false_iff_ne, ba_inj, bne_iff_ne, ne_eq, Bool.and_eq_true, Bool.or_eq_true, Bool.and_eq_false_iff, Bool.or_eq_false_iff, Int.not_le, Int.not_lt, Nat.not_le, Nat.not_lt] at *); (try simp only [nc] at *))
           all_goals first
             | (show _ = ((l.take (k + 1)).map _).length
                rw [List.length_map, List.length_take]; omega)
             | (show _ = ((l.take (k + 1)).map fun y => (midV y faults).1).getD i Dat.d0
                rw [take_snoc Dat.d0 hk2, List.map_append, gd_app, hlk]
                by_cases hik : i < k
                · simp only [show decide (i < k) = true from decide_eq_true hik, cond_true]
                · have : i = k := by omega
                  subst this
                  simp only [show decide (i < i) = false from decide_eq_false (by omega), cond_false, Nat.sub_self]
                  rfl)
             | fail)
      | (have hkl : k = l.length := by omega
         rw [hkl] at hr
         subst hkl
         have e : l.take l.length = l := List.take_length
         simp only [e] at *
         refine fin1 _ _ _ _ _ ?_ hlk.symm
         rw [roundV, if_neg (by omega), find_none hr])
      | fail
theorem round_ok : PcOk Try.prog 16 (round_C) := fun A K h => by
  unfold round_C at h
  split at h
  · rename_i l faults
    cases h with
    | mk h1 h2 =>
      obtain ⟨g0, hp⟩ := h1
      refine FnOk.pre ?_ (A' := [Leaf.av fun _ => (Leaf.val l : (List (List Int))), .i .i64 fun _ => faults ()]) (.mk (Leaf.hle _ g0) (.mk (.mk (.mk rfl) (.mk rfl)) (trivial)))
      exact FnOk.out (K := fun r H _ => K r H) (round_vc (Leaf.val l) (faults ()) hp) rfl h2.out
  · cases h

end Go.Proofs.Ytpofgnocliaahaa
