/- The program's functions, walked: LRises. -/
import Derived.Test.YtpooooomhnehfaaFenceL
set_option linter.all false
namespace Go.Proofs.Ytpooooomhnehfaa
open Go Go.Abs
structure RX (m : Nat) where
  k : Nat
  hk : k ≤ m
theorem rises_m3 {a b c : List Bool} {n j : Nat} (h : a = b ++ c) (hb : b.length = n) : a.getD ((n : Int) + (j : Int)).toNat Dat.d0 = c.getD j false := by
  subst h hb
  rw [show ((b.length : Int) + (j : Int)).toNat = b.length + j by omega, gd_app, show decide (b.length + j < b.length) = false by simp, cond_false, show b.length + j - b.length = j by omega]
  rfl
set_option maxRecDepth 100000 in
set_option maxHeartbeats 4000000 in
theorem rises_vc (n : Int) (l : (List Try)) (more : (List Try)) (fit_n : Siz.fit n) (fit_l : Siz.fit l) (fit_more : Siz.fit more) (hB : Siz.bulk n + Siz.bulk l + Siz.bulk more ≤ 1048576) : FnOk Try.prog 6 [.i .i64 fun _ => n, Leaf.av fun _ => l, Leaf.av fun _ => more] [] (outA (.bc true) []) := by
  refine fn_ok envOk zl con7_ok (draws_ok envOk noDet_ok mixed) (keep := [0, 1, 2, 6, 7, 8, 9, 10, 11, 12, 13, 14, 15, 71, 82, 83, 84, 120, 122, 123, 124, 125, 146]) Try.func6 rfl ?_
  have fin := @fin_b
  have finc := @fin_t
  have hl : l.length ≤ 1048576 ∧ more.length ≤ 1048576 := by
    have h1 := bulk_len Try.one_le l
    have h2 := bulk_len Try.one_le more
    simp only [Siz.bulk] at hB h1 h2
    omega
  generalize outA (.bc true) [] = K at fin finc
  cbv
  refine Ob.mk (by first | trivial | (refine ⟨rfl, fun i hi => ?_⟩; first | exact Dat.hok _ | exact ok_row rfl (Dat.hok _) (Dat.hok _) | exact ok_row rfl (Dat.hok _) (by simp only [Dat.ok, Dat.dec, Leaf.ok, Leaf.val, Try.eta, Fence.eta, Give.eta, GateOp.eta, GateAns.eta, Gate.eta, and_self]) | (simp only [Dat.ok, Dat.dec, Leaf.ok, Leaf.val, Try.eta, Fence.eta, Give.eta, GateOp.eta, GateAns.eta, Gate.eta, and_self]; done) | (revert i; decide)) | (simp only [Dat.ok, Dat.dec, Leaf.ok, Leaf.val, Try.eta, Fence.eta, Give.eta, GateOp.eta, GateAns.eta, Gate.eta, and_self]; done)) (Gen.mk fun r1 e1 => ?_)
  simp only [Dat.ok, Dat.dec, Leaf.ok, Leaf.val, Try.eta, Fence.eta, Give.eta, GateOp.eta, GateAns.eta, Gate.eta, val_sl] at e1
  cbv
  refine Ob.mk ⟨(by first | trivial | (refine ⟨rfl, fun i hi => ?_⟩; first | exact Dat.hok _ | exact ok_row rfl (Dat.hok _) (Dat.hok _) | exact ok_row rfl (Dat.hok _) (by simp only [Dat.ok, Dat.dec, Leaf.ok, Leaf.val, Try.eta, Fence.eta, Give.eta, GateOp.eta, GateAns.eta, Gate.eta, and_self]) | (simp only [Dat.ok, Dat.dec, Leaf.ok, Leaf.val, Try.eta, Fence.eta, Give.eta, GateOp.eta, GateAns.eta, Gate.eta, and_self]; done) | (revert i; decide)) | (simp only [Dat.ok, Dat.dec, Leaf.ok, Leaf.val, Try.eta, Fence.eta, Give.eta, GateOp.eta, GateAns.eta, Gate.eta, and_self]; done)), ?_⟩ (Gen.mk fun r2 e2 => ?_)
  · simp only [Dat.ok, Dat.dec, Leaf.ok, Leaf.val, Try.eta, Fence.eta, Give.eta, GateOp.eta, GateAns.eta, Gate.eta, val_sl]; show _ ≤ _; omega
  simp only [Dat.ok, Dat.dec, Leaf.ok, Leaf.val, Try.eta, Fence.eta, Give.eta, GateOp.eta, GateAns.eta, Gate.eta, val_sl] at e2
  subst r2
  cbv
  refine Ob.mk (by dsimp only; refine ⟨Nat.le_refl _, trivial, ?_, ?_⟩ <;> omega) (Ob.mk (Nat.le_refl _) (Ob.mk (by first | trivial | (refine ⟨rfl, fun i hi => ?_⟩; first | exact Dat.hok _ | exact ok_row rfl (Dat.hok _) (Dat.hok _) | exact ok_row rfl (Dat.hok _) (by simp only [Dat.ok, Dat.dec, Leaf.ok, Leaf.val, Try.eta, Fence.eta, Give.eta, GateOp.eta, GateAns.eta, Gate.eta, and_self]) | (simp only [Dat.ok, Dat.dec, Leaf.ok, Leaf.val, Try.eta, Fence.eta, Give.eta, GateOp.eta, GateAns.eta, Gate.eta, and_self]; done) | (revert i; decide)) | (simp only [Dat.ok, Dat.dec, Leaf.ok, Leaf.val, Try.eta, Fence.eta, Give.eta, GateOp.eta, GateAns.eta, Gate.eta, and_self]; done)) (Gen.mk fun r2 e2 => ?_)))
  simp only [Dat.ok, Dat.dec, Leaf.ok, Leaf.val, Try.eta, Fence.eta, Give.eta, GateOp.eta, GateAns.eta, Gate.eta, val_app (α := Try) _ _ 4 _ _ rfl rfl rfl] at e2
  cbv
  by_cases p1 : r1.2.2 = 0 ∧ r2.2.2 = 0
  · obtain ⟨p1, p2⟩ := p1
    obtain ⟨a1, a2, a3, a4, a5, a6, a7, a8⟩ := playV_ok e1 p1
    obtain ⟨b1, b2, b3, b4, b5, b6, b7, b8⟩ := playV_ok e2 p2
    rw [List.length_append] at b8
    have hv : ∀ t ∈ more, valid n t = true := fun t h => b4 t (by simp [h])
    have hok := run_ok (l := l) a4 (okF0 n)
    rw [runF_app, ← a5] at b5
    rw [runB_app, ← a6, ← a5] at b6
    rw [← a5] at hok
    repeat' first | (show Stp _; exfalso; first | omega | (exact h ‹_›) | (exact absurd ‹_› h)) | (refine Stp.mk ?_; cbv) | (refine Gen.mk fun r hr => ?_; (try simp only [Dat.ok, Dat.dec, Leaf.ok, Leaf.val, Try.eta, Fence.eta, Give.eta, GateOp.eta, GateAns.eta, Gate.eta, val_sl, val_nil] at hr); cbv) | exact trivial | rfl | refine Both.mk ?_ ?_ | (refine Imp.mk fun h => ?_; (try dsimp only at h); (try simp only [nc, Int.toNat_natCast, Bool.not_eq_true', Bool.not_eq_false', decide_eq_true_eq, decide_eq_false_iff_not, beq_iff_eq, beq_eq_false_iff_ne, bne_iff_ne, ne_eq, Bool.and_eq_true, Bool.or_eq_true, Bool.and_eq_false_iff, Bool.or_eq_false_iff, Int.not_le, Int.not_lt, Nat.not_le, Nat.not_lt] at h); (try simp only [nc] at h)) | refine Ob.mk ?_ ?_ | refine Eq'.mk ?_ | (refine AllN.mk fun i hi => ?_; cbv)
    all_goals ((try dsimp only at *); (try simp only [nc, Int.toNat_natCast, Bool.not_eq_true', Bool.not_eq_false', decide_eq_true_eq, decide_eq_false_iff_not, beq_iff_eq, beq_eq_false_iff_ne, bne_iff_ne, ne_eq, Bool.and_eq_true, Bool.or_eq_true, Bool.and_eq_false_iff, Bool.or_eq_false_iff, Int.not_le, Int.not_lt, Nat.not_le, Nat.not_lt] at *); (try simp only [nc] at *))
    all_goals first
      | exact finc
      | omega
      | (unfold InR; omega)
      | skip
    refine LoopVC.frame [6, 13, 83, 84, 120] (RX r1.1.length) (fun x => [(83, .i .i64 fun _ => x.k)]) (fun _ => []) [2] (fun x => r1.1.length - x.k) ⟨0, Nat.zero_le _⟩ rfl (fun _ => rfl) ?_ ?_ fun ⟨k, hk⟩ => ?_
    · cbv
      repeat' first | (show Stp _; exfalso; first | omega | (exact h ‹_›) | (exact absurd ‹_› h)) | (refine Stp.mk ?_; cbv) | (refine Gen.mk fun r hr => ?_; (try simp only [Dat.ok, Dat.dec, Leaf.ok, Leaf.val, Try.eta, Fence.eta, Give.eta, GateOp.eta, GateAns.eta, Gate.eta, val_sl, val_nil] at hr); cbv) | exact trivial | rfl | refine Both.mk ?_ ?_ | (refine Imp.mk fun h => ?_; (try dsimp only at h); (try simp only [nc, Int.toNat_natCast, Bool.not_eq_true', Bool.not_eq_false', decide_eq_true_eq, decide_eq_false_iff_not, beq_iff_eq, beq_eq_false_iff_ne, bne_iff_ne, ne_eq, Bool.and_eq_true, Bool.or_eq_true, Bool.and_eq_false_iff, Bool.or_eq_false_iff, Int.not_le, Int.not_lt, Nat.not_le, Nat.not_lt] at h); (try simp only [nc] at h)) | refine Ob.mk ?_ ?_ | refine Eq'.mk ?_ | (refine AllN.mk fun i hi => ?_; cbv)
    · cbv
      repeat' first | (show Stp _; exfalso; first | omega | (exact h ‹_›) | (exact absurd ‹_› h)) | (refine Stp.mk ?_; cbv) | (refine Gen.mk fun r hr => ?_; (try simp only [Dat.ok, Dat.dec, Leaf.ok, Leaf.val, Try.eta, Fence.eta, Give.eta, GateOp.eta, GateAns.eta, Gate.eta, val_sl, val_nil] at hr); cbv) | exact trivial | rfl | refine Both.mk ?_ ?_ | (refine Imp.mk fun h => ?_; (try dsimp only at h); (try simp only [nc, Int.toNat_natCast, Bool.not_eq_true', Bool.not_eq_false', decide_eq_true_eq, decide_eq_false_iff_not, beq_iff_eq, beq_eq_false_iff_ne, bne_iff_ne, ne_eq, Bool.and_eq_true, Bool.or_eq_true, Bool.and_eq_false_iff, Bool.or_eq_false_iff, Int.not_le, Int.not_lt, Nat.not_le, Nat.not_lt] at h); (try simp only [nc] at h)) | refine Ob.mk ?_ ?_ | refine Eq'.mk ?_ | (refine AllN.mk fun i hi => ?_; cbv)
    · cbv
      repeat' first | (show Stp _; exfalso; first | omega | (exact h ‹_›) | (exact absurd ‹_› h)) | (refine Stp.mk ?_; cbv) | (refine Gen.mk fun r hr => ?_; (try simp only [Dat.ok, Dat.dec, Leaf.ok, Leaf.val, Try.eta, Fence.eta, Give.eta, GateOp.eta, GateAns.eta, Gate.eta, val_sl, val_nil] at hr); cbv) | exact trivial | rfl | refine Both.mk ?_ ?_ | (refine Imp.mk fun h => ?_; (try dsimp only at h); (try simp only [nc, Int.toNat_natCast, Bool.not_eq_true', Bool.not_eq_false', decide_eq_true_eq, decide_eq_false_iff_not, beq_iff_eq, beq_eq_false_iff_ne, bne_iff_ne, ne_eq, Bool.and_eq_true, Bool.or_eq_true, Bool.and_eq_false_iff, Bool.or_eq_false_iff, Int.not_le, Int.not_lt, Nat.not_le, Nat.not_lt] at h); (try simp only [nc] at h)) | refine Ob.mk ?_ ?_ | refine Eq'.mk ?_ | (refine AllN.mk fun i hi => ?_; cbv)
      all_goals ((try dsimp only at *); (try simp only [nc, Int.toNat_natCast, Bool.not_eq_true', Bool.not_eq_false', decide_eq_true_eq, decide_eq_false_iff_not, beq_iff_eq, beq_eq_false_iff_ne, bne_iff_ne, ne_eq, Bool.and_eq_true, Bool.or_eq_true, Bool.and_eq_false_iff, Bool.or_eq_false_iff, Int.not_le, Int.not_lt, Nat.not_le, Nat.not_lt] at *); (try simp only [nc] at *))
      all_goals have m := run_mono hv hok k
      all_goals rw [← b5] at m
      all_goals first
        | omega
        | (unfold InR; omega)
        | (exfalso
           have hx : ¬ (r2.1.getD k Dat.d0).epoch < (r1.1.getD k Dat.d0).epoch := by omega
           by_cases q : (r2.1.getD k Dat.d0).epoch = (r1.1.getD k Dat.d0).epoch
           · have e := m.2 q.symm
             simp [e, -List.getD_eq_getElem?_getD] at h; done
           · simp [hx, q, -List.getD_eq_getElem?_getD] at h; done)
        | (refine ⟨⟨k + 1, by omega⟩, ?_, ?_, rfl, by (try dsimp only); omega⟩
           · cbv
             repeat' first | (refine Stp.mk ?_; cbv) | (refine Gen.mk fun r hr => ?_; (try simp only [Dat.ok, Dat.dec, Leaf.ok, Leaf.val, Try.eta, Fence.eta, Give.eta, GateOp.eta, GateAns.eta, Gate.eta, val_sl, val_nil] at hr); cbv) | exact trivial | rfl | refine Both.mk ?_ ?_ | (refine Imp.mk fun h => ?_; (try dsimp only at h); (try simp only [nc, Int.toNat_natCast, Bool.not_eq_true', Bool.not_eq_false', decide_eq_true_eq, decide_eq_false_iff_not, beq_iff_eq, beq_eq_false_iff_ne, bne_iff_ne, ne_eq, Bool.and_eq_true, Bool.or_eq_true, Bool.and_eq_false_iff, Bool.or_eq_false_iff, Int.not_le, Int.not_lt, Nat.not_le, Nat.not_lt] at h); (try simp only [nc] at h)) | refine Ob.mk ?_ ?_ | refine Eq'.mk ?_ | (refine AllN.mk fun i hi => ?_; cbv)
           · cbv
             repeat' first | (refine Stp.mk ?_; cbv) | (refine Gen.mk fun r hr => ?_; (try simp only [Dat.ok, Dat.dec, Leaf.ok, Leaf.val, Try.eta, Fence.eta, Give.eta, GateOp.eta, GateAns.eta, Gate.eta, val_sl, val_nil] at hr); cbv) | exact trivial | rfl | refine Both.mk ?_ ?_ | (refine Imp.mk fun h => ?_; (try dsimp only at h); (try simp only [nc, Int.toNat_natCast, Bool.not_eq_true', Bool.not_eq_false', decide_eq_true_eq, decide_eq_false_iff_not, beq_iff_eq, beq_eq_false_iff_ne, bne_iff_ne, ne_eq, Bool.and_eq_true, Bool.or_eq_true, Bool.and_eq_false_iff, Bool.or_eq_false_iff, Int.not_le, Int.not_lt, Nat.not_le, Nat.not_lt] at h); (try simp only [nc] at h)) | refine Ob.mk ?_ ?_ | refine Eq'.mk ?_ | (refine AllN.mk fun i hi => ?_; cbv))
        | skip
      · refine LoopVC.frame [6, 14, 15, 124, 125, 146] (RX more.length) (fun x => [(124, .i .i64 fun _ => x.k)]) (fun _ => []) [2] (fun x => more.length - x.k) ⟨0, Nat.zero_le _⟩ rfl (fun _ => rfl) ?_ ?_ fun ⟨j, hj⟩ => ?_
        · cbv
          repeat' first | (refine Stp.mk ?_; cbv) | (refine Gen.mk fun r hr => ?_; (try simp only [Dat.ok, Dat.dec, Leaf.ok, Leaf.val, Try.eta, Fence.eta, Give.eta, GateOp.eta, GateAns.eta, Gate.eta, val_sl, val_nil] at hr); cbv) | exact trivial | rfl | refine Both.mk ?_ ?_ | (refine Imp.mk fun h => ?_; (try dsimp only at h); (try simp only [nc, Int.toNat_natCast, Bool.not_eq_true', Bool.not_eq_false', decide_eq_true_eq, decide_eq_false_iff_not, beq_iff_eq, beq_eq_false_iff_ne, bne_iff_ne, ne_eq, Bool.and_eq_true, Bool.or_eq_true, Bool.and_eq_false_iff, Bool.or_eq_false_iff, Int.not_le, Int.not_lt, Nat.not_le, Nat.not_lt] at h); (try simp only [nc] at h)) | refine Ob.mk ?_ ?_ | refine Eq'.mk ?_ | (refine AllN.mk fun i hi => ?_; cbv)
        · cbv
          repeat' first | (refine Stp.mk ?_; cbv) | (refine Gen.mk fun r hr => ?_; (try simp only [Dat.ok, Dat.dec, Leaf.ok, Leaf.val, Try.eta, Fence.eta, Give.eta, GateOp.eta, GateAns.eta, Gate.eta, val_sl, val_nil] at hr); cbv) | exact trivial | rfl | refine Both.mk ?_ ?_ | (refine Imp.mk fun h => ?_; (try dsimp only at h); (try simp only [nc, Int.toNat_natCast, Bool.not_eq_true', Bool.not_eq_false', decide_eq_true_eq, decide_eq_false_iff_not, beq_iff_eq, beq_eq_false_iff_ne, bne_iff_ne, ne_eq, Bool.and_eq_true, Bool.or_eq_true, Bool.and_eq_false_iff, Bool.or_eq_false_iff, Int.not_le, Int.not_lt, Nat.not_le, Nat.not_lt] at h); (try simp only [nc] at h)) | refine Ob.mk ?_ ?_ | refine Eq'.mk ?_ | (refine AllN.mk fun i hi => ?_; cbv)
        · cbv
          repeat' first | (show Stp _; exfalso; first | omega | (exact h ‹_›) | (exact absurd ‹_› h)) | (refine Stp.mk ?_; cbv) | (refine Gen.mk fun r hr => ?_; (try simp only [Dat.ok, Dat.dec, Leaf.ok, Leaf.val, Try.eta, Fence.eta, Give.eta, GateOp.eta, GateAns.eta, Gate.eta, val_sl, val_nil] at hr); cbv) | exact trivial | rfl | refine Both.mk ?_ ?_ | (refine Imp.mk fun h => ?_; (try dsimp only at h); (try simp only [nc, Int.toNat_natCast, Bool.not_eq_true', Bool.not_eq_false', decide_eq_true_eq, decide_eq_false_iff_not, beq_iff_eq, beq_eq_false_iff_ne, bne_iff_ne, ne_eq, Bool.and_eq_true, Bool.or_eq_true, Bool.and_eq_false_iff, Bool.or_eq_false_iff, Int.not_le, Int.not_lt, Nat.not_le, Nat.not_lt] at h); (try simp only [nc] at h)) | refine Ob.mk ?_ ?_ | refine Eq'.mk ?_ | (refine AllN.mk fun i hi => ?_; cbv)
          all_goals ((try dsimp only at *); (try simp only [nc, Int.toNat_natCast, Bool.not_eq_true', Bool.not_eq_false', decide_eq_true_eq, decide_eq_false_iff_not, beq_iff_eq, beq_eq_false_iff_ne, bne_iff_ne, ne_eq, Bool.and_eq_true, Bool.or_eq_true, Bool.and_eq_false_iff, Bool.or_eq_false_iff, Int.not_le, Int.not_lt, Nat.not_le, Nat.not_lt] at *); (try simp only [nc] at *))
          all_goals try have hjl : j < more.length := by omega
          all_goals try have fv := valid_iff.1 (hv (more.getD j Dat.d0) (by rw [List.getD_eq_getElem?_getD, List.getElem?_eq_getElem hjl]; exact List.getElem_mem hjl))
          all_goals try have m2 := runB_le hv hok j hjl
          all_goals have m3 : r2.2.1.getD ((l.length : Int) + (j : Int)).toNat Dat.d0 = (runB r1.1 more).getD j false := rises_m3 b6 a8
          all_goals first
            | omega
            | (unfold InR; omega)
            | (refine ⟨trivial, ?_, ?_⟩ <;> omega)
            | (exfalso
               have q : r2.2.1.getD ((l.length : Int) + (j : Int)).toNat Dat.d0 = true := by assumption
               have q2 := m2 (m3 ▸ q)
               simp only [q, cond_true, decide_eq_true_eq] at h
               omega)
            | (exfalso; simp_all; done)
            | (refine ⟨⟨j + 1, by omega⟩, ?_, ?_, rfl, by (try dsimp only); omega⟩
               · cbv
                 repeat' first | (refine Stp.mk ?_; cbv) | (refine Gen.mk fun r hr => ?_; (try simp only [Dat.ok, Dat.dec, Leaf.ok, Leaf.val, Try.eta, Fence.eta, Give.eta, GateOp.eta, GateAns.eta, Gate.eta, val_sl, val_nil] at hr); cbv) | exact trivial | rfl | refine Both.mk ?_ ?_ | (refine Imp.mk fun h => ?_; (try dsimp only at h); (try simp only [nc, Int.toNat_natCast, Bool.not_eq_true', Bool.not_eq_false', decide_eq_true_eq, decide_eq_false_iff_not, beq_iff_eq, beq_eq_false_iff_ne, bne_iff_ne, ne_eq, Bool.and_eq_true, Bool.or_eq_true, Bool.and_eq_false_iff, Bool.or_eq_false_iff, Int.not_le, Int.not_lt, Nat.not_le, Nat.not_lt] at h); (try simp only [nc] at h)) | refine Ob.mk ?_ ?_ | refine Eq'.mk ?_ | (refine AllN.mk fun i hi => ?_; cbv)
               · cbv
                 repeat' first | (refine Stp.mk ?_; cbv) | (refine Gen.mk fun r hr => ?_; (try simp only [Dat.ok, Dat.dec, Leaf.ok, Leaf.val, Try.eta, Fence.eta, Give.eta, GateOp.eta, GateAns.eta, Gate.eta, val_sl, val_nil] at hr); cbv) | exact trivial | rfl | refine Both.mk ?_ ?_ | (refine Imp.mk fun h => ?_; (try dsimp only at h); (try simp only [nc, Int.toNat_natCast, Bool.not_eq_true', Bool.not_eq_false', decide_eq_true_eq, decide_eq_false_iff_not, beq_iff_eq, beq_eq_false_iff_ne, bne_iff_ne, ne_eq, Bool.and_eq_true, Bool.or_eq_true, Bool.and_eq_false_iff, Bool.or_eq_false_iff, Int.not_le, Int.not_lt, Nat.not_le, Nat.not_lt] at h); (try simp only [nc] at h)) | refine Ob.mk ?_ ?_ | refine Eq'.mk ?_ | (refine AllN.mk fun i hi => ?_; cbv))
            | (refine ⟨?_, ?_, ?_⟩; (first | trivial | (refine ⟨rfl, fun i hi => ?_⟩; first | exact Dat.hok _ | exact ok_row rfl (Dat.hok _) (Dat.hok _) | exact ok_row rfl (Dat.hok _) (by simp only [Dat.ok, Dat.dec, Leaf.ok, Leaf.val, Try.eta, Fence.eta, Give.eta, GateOp.eta, GateAns.eta, Gate.eta, and_self]) | (simp only [Dat.ok, Dat.dec, Leaf.ok, Leaf.val, Try.eta, Fence.eta, Give.eta, GateOp.eta, GateAns.eta, Gate.eta, and_self]; done) | (revert i; decide)) | (simp only [Dat.ok, Dat.dec, Leaf.ok, Leaf.val, Try.eta, Fence.eta, Give.eta, GateOp.eta, GateAns.eta, Gate.eta, and_self]; done)); (first | trivial | (refine ⟨rfl, fun i hi => ?_⟩; first | exact Dat.hok _ | exact ok_row rfl (Dat.hok _) (Dat.hok _) | exact ok_row rfl (Dat.hok _) (by simp only [Dat.ok, Dat.dec, Leaf.ok, Leaf.val, Try.eta, Fence.eta, Give.eta, GateOp.eta, GateAns.eta, Gate.eta, and_self]) | (simp only [Dat.ok, Dat.dec, Leaf.ok, Leaf.val, Try.eta, Fence.eta, Give.eta, GateOp.eta, GateAns.eta, Gate.eta, and_self]; done) | (revert i; decide)) | (simp only [Dat.ok, Dat.dec, Leaf.ok, Leaf.val, Try.eta, Fence.eta, Give.eta, GateOp.eta, GateAns.eta, Gate.eta, and_self]; done)); show _ ≤ _; simp only [Dat.ok, Dat.dec, Leaf.ok, Leaf.val, Try.eta, Fence.eta, Give.eta, GateOp.eta, GateAns.eta, Gate.eta, val_sl]; omega)
            | (refine fin ?_
               simp only [Dat.ok, Dat.dec, Leaf.ok, Leaf.val, Try.eta, Fence.eta, Give.eta, GateOp.eta, GateAns.eta, Gate.eta, val_sl, val_take (α := Bool) _ _ _ (show l.length ≤ r2.2.1.length by omega)]
               show decide (_ = _) = true
               rw [b6, ← a8]
               simp)
            | trace_state
  · repeat' first | (show Stp _; exfalso; first | omega | (exact h ‹_›) | (exact absurd ‹_› h)) | (refine Stp.mk ?_; cbv) | (refine Gen.mk fun r hr => ?_; (try simp only [Dat.ok, Dat.dec, Leaf.ok, Leaf.val, Try.eta, Fence.eta, Give.eta, GateOp.eta, GateAns.eta, Gate.eta, val_sl, val_nil] at hr); cbv) | exact trivial | rfl | refine Both.mk ?_ ?_ | (refine Imp.mk fun h => ?_; (try dsimp only at h); (try simp only [nc, Int.toNat_natCast, Bool.not_eq_true', Bool.not_eq_false', decide_eq_true_eq, decide_eq_false_iff_not, beq_iff_eq, beq_eq_false_iff_ne, bne_iff_ne, ne_eq, Bool.and_eq_true, Bool.or_eq_true, Bool.and_eq_false_iff, Bool.or_eq_false_iff, Int.not_le, Int.not_lt, Nat.not_le, Nat.not_lt] at h); (try simp only [nc] at h)) | refine Ob.mk ?_ ?_ | refine Eq'.mk ?_ | (refine AllN.mk fun i hi => ?_; cbv)
    all_goals ((try dsimp only at *); (try simp only [nc, Int.toNat_natCast, Bool.not_eq_true', Bool.not_eq_false', decide_eq_true_eq, decide_eq_false_iff_not, beq_iff_eq, beq_eq_false_iff_ne, bne_iff_ne, ne_eq, Bool.and_eq_true, Bool.or_eq_true, Bool.and_eq_false_iff, Bool.or_eq_false_iff, Int.not_le, Int.not_lt, Nat.not_le, Nat.not_lt] at *); (try simp only [nc] at *))
    all_goals first
      | exact finc
      | omega
      | (unfold InR; omega)
      | (refine fin ?_; simp; omega)
section
open Go.ChangeShapes Go.WideShapes Go.ChangeAt Go.RowKit Go.Joins Go.Deep
set_option linter.unusedVariables false
theorem rises_own : ownKnob Try.prog.godebug = none := by kernel_rfl
theorem rises_laidOut : laidOutB Try.prog = true := by kernel_rfl
theorem rises_readOk {ts : Array TypeId} (h : ts.toList.all (fun t => Try.prog.readableRec t && decide (t < Try.prog.types.size)) = true) : ∀ t ∈ ts.toList, Try.prog.readableRec t = true ∧ t < Try.prog.types.size := fun t ht => by
  have := List.all_eq_true.1 h t ht
  simpa using this
mutual
theorem rises_bD {H : Type} : ∀ d : DataW H, Rows.uptoBulk d = bulkD d
  | .lit l => by cases l <;> simp [Rows.uptoBulk, bulkD]
  | .nil => by simp [Rows.uptoBulk, bulkD]
  | .ptr d => by simp [Rows.uptoBulk, bulkD, rises_bD d]
  | .slice a b => by simp [Rows.uptoBulk, bulkD, rises_bL a, rises_bL b]
  | .agg a => by simp [Rows.uptoBulk, bulkD, rises_bL a]
  | .iface _ d => by simp [Rows.uptoBulk, bulkD, rises_bD d]
  | .map e => by simp [Rows.uptoBulk, bulkD, rises_bE e]
  | .held _ => by simp [Rows.uptoBulk, bulkD]
theorem rises_bL {H : Type} : ∀ d : List (DataW H), Rows.uptoBulkAll d = bulkL d
  | [] => by simp [Rows.uptoBulkAll, bulkL]
  | d :: r => by simp [Rows.uptoBulkAll, bulkL, rises_bD d, rises_bL r]
theorem rises_bE {H : Type} : ∀ d : List (Lit × DataW H), Rows.uptoBulkEntries d = bulkE d
  | [] => by simp [Rows.uptoBulkEntries, bulkE]
  | d :: r => by simp [Rows.uptoBulkEntries, bulkE, rises_bX d, rises_bE r]
theorem rises_bX {H : Type} : ∀ d : Lit × DataW H, Rows.uptoBulkEntry d = bulkX d
  | (l, d) => by cases l <;> simp [Rows.uptoBulkEntry, bulkX, rises_bD d]
end
set_option maxRecDepth 100000 in
theorem rises_lifted (os : Os) (started : os.Started) (H : Type) (enc : TypeId × Value → H) (F : Stop.Interp) :
    ReturnsInHanded {} Try.checked os 6 .any ((Rows.OpenSpec.upto Rows.fenceRisesSpec).pre6 enc Try.prog Try.f6 Rows.fenceRisesUptoRow.domain false) (((Rows.OpenSpec.upto Rows.fenceRisesSpec).at F).post enc Try.prog Try.f6 false true false false) := by
  refine returnsInHanded_of_cond (C := Try.checked) (s := Rows.OpenSpec.upto Rows.fenceRisesSpec) (k := Rows.uptoSmall) rfl rises_own started (by kernel_rfl) Try.func6
    (OpenSpec.witness (enc := enc) (C := Try.checked) (s := Rows.OpenSpec.upto Rows.fenceRisesSpec) (k := Rows.uptoSmall) rfl false ⟨#[], #[.int .i64 0, .slice none 0 0, .slice none 0 0], []⟩ 8 (by kernel_rfl) (by kernel_rfl) (by kernel_rfl)
      (x := ([.lit (.int .i64 0), .nil, .nil], [], [])) (by kernel_rfl) rfl (by kernel_rfl)) ?_
  intro W base args ds gs before hval0 hW _ hk _
  show Calls Try.prog 6 args W fun e W' => ∃ v, e = .returned v ∧ Rows.fenceRisesSpec.post enc Try.prog Try.f6 false true false false W args v W'
  have hval : ∀ (j : Nat) t v, Try.f6.params[j]? = some t → args[j]? = some v → Value.okWide Try.prog W .any base t v := hval0
  have hW' := hW
  have hlt := hW.lt
  obtain ⟨p, q, hA0, hV, rfl, hfz, hnd⟩ := hW
  have hA : DataW.TrodAll enc Try.prog W 0 (fun _ => true) true Try.f6.params.toList args.toList ds p := hA0
  have hA1 := hA
  rw [Try.params6] at hA hval
  obtain ⟨v0, vs0, d0, ds0, p0, q0, hargs, rfl, rfl, h0, r0⟩ := trodAll_cons hA
  obtain ⟨v1, vs1, d1, ds1, p1, q1, rfl, rfl, rfl, h1, r1⟩ := trodAll_cons r0
  obtain ⟨v2, vs2, d2, ds2, p2, q2, rfl, rfl, rfl, h2, r2⟩ := trodAll_cons r1
  obtain ⟨rfl, rfl, rfl⟩ := trodAll_nil r2
  obtain rfl : args = #[v0, v1, v2] := by cases args; simp_all
  obtain ⟨rfl, rfl⟩ := trodVars_none hV
  obtain ⟨z0, rfl⟩ := okWide_int Try.underlying3 (hval 0 3 v0 rfl rfl)
  obtain ⟨y0, u0, b0, e0⟩ := arg_leaf (α := Int) (opn_int Try.underlying3) rfl h0
  obtain ⟨z1, z'1, z''1, rfl⟩ := okWide_slice Try.underlying22 (hval 1 22 v1 rfl rfl)
  obtain ⟨y1, u1, b1, e1⟩ := arg_leaf (α := (List Try)) (opn_slice Try.underlying22 (by kernel_rfl) (by decide) opn_Try) rfl h1
  obtain ⟨z2, z'2, z''2, rfl⟩ := okWide_slice Try.underlying22 (hval 2 22 v2 rfl rfl)
  obtain ⟨y2, u2, b2, e2⟩ := arg_leaf (α := (List Try)) (opn_slice Try.underlying22 (by kernel_rfl) (by decide) opn_Try) rfl h2
  have hB : Siz.bulk y0 + Siz.bulk y1 + Siz.bulk y2 ≤ 1048576 := by
    have h := of_decide_eq_true hk
    rw [rises_bL] at h
    simp only [List.append_nil, bulkL] at h
    omega
  have hR := repL_cons (M := fun _ => False) (β := fun _ => none) (cp := fun _ => 0) (.c e0) (repL_cons (M := fun _ => False) (β := fun _ => none) (cp := fun _ => 0) (.c e1) (repL_cons (M := fun _ => False) (β := fun _ => none) (cp := fun _ => 0) (.c e2) (repL_nil)))
  refine (law_callsA (rises_vc y0 y1 y2 u0 u1 u2 hB) hR).mono fun e W' ⟨he, bel⟩ => ?_
  subst he
  exact ⟨_, rfl, _, _, _, [], _, [], hW', trodAll_mk1 (shut_bool Try.underlying4 _), trodAll_below rises_laidOut bel (rises_readOk (by kernel_rfl)) (fun x hx => hlt x (List.mem_append_left _ hx)) hA1, rfl, bel.frame _, fun h => by cases h⟩
theorem FenceRises_proved : Rows.FenceRisesUptoSaid :=
  OpenClaim.holds_of_cond 6 Try.f6 rfl rfl rfl rfl rfl rfl rfl ⟨rfl, rfl, rfl, rfl, rfl⟩ rfl rfl rfl rfl rfl (by kernel_rfl) Try.func6 (by kernel_rfl)
    (of_decide_eq_true (by kernel_rfl)) (by unfold Func.isWrapper; first | (rw [if_pos (by decide +kernel)]; kernel_rfl) | (rw [if_neg (by decide +kernel)]; exact ⟨rfl, rfl⟩))
    (fun os started H enc _ F => rises_lifted os started H enc F)
end

end Go.Proofs.Ytpooooomhnehfaa
