/- The program's functions, walked: Play. -/
import Derived.Test.YtpooooomhnehfaaFenceP
set_option linter.all false
namespace Go.Proofs.Ytpooooomhnehfaa
open Go Go.Abs
def det4 : FuncId → Option Det := fun f => match f with
  | 14 => some cl_D
  | 15 => some pa_D
  | _ => none
theorem det4_ok : DetOk Try.prog det4 := fun f d h => by
  unfold det4 at h
  split at h
  · cases h; exact ⟨⟨Try.f14, Try.func14, by kernel_rfl, by kernel_rfl⟩, cl_ok⟩
  · cases h; exact ⟨⟨Try.f15, Try.func15, by kernel_rfl, by kernel_rfl⟩, pa_ok⟩
  · cases h
structure PX (n : Int) (l : List Try) where
  k : Nat
  fs : List Fence
  out : List Bool
  hk : k ≤ l.length
  hfs : fs.length = n.toNat
  hout : out.length = k
  hr : playV n l = playL n (l.drop k) fs out

theorem step1 {fs : List Fence} {t : Try} {i : Nat} (h : t.kind = 1) (hi : i < fs.length) : (stepF fs t).getD i Dat.d0 = bif decide (i = t.fence.toNat) then (claimS (fs.getD t.fence.toNat Dat.d0) t.who t.epoch).1 else fs.getD i Dat.d0 := by
  simp only [stepF, h, if_true]
  exact gd_set _ _ _ _ _ hi

theorem play0 {n : Int} {l : List Try} {e : Int} {H : Hp} {kl : List Nat} (h : playV n l = ([], [], e)) : outA (play_R fun _ => playV n l) (play_H fun _ => playV n l) (.tup [.nil, .nil, .i .i64 fun _ => e]) H kl := by
  cbv
  repeat' first | (refine Stp.mk ?_; cbv) | (refine Gen.mk fun r hr => ?_; (try simp only [Dat.ok, Dat.dec, Leaf.ok, Leaf.val, Try.eta, Fence.eta, Give.eta, GateOp.eta, GateAns.eta, Gate.eta, val_sl, val_nil] at hr); cbv) | exact trivial | rfl | refine Both.mk ?_ ?_ | (refine Imp.mk fun h => ?_; (try dsimp only at h); (try simp only [nc, Int.toNat_natCast, Bool.not_eq_true', Bool.not_eq_false', decide_eq_true_eq, decide_eq_false_iff_not, beq_iff_eq, beq_eq_false_iff_ne, bne_iff_ne, ne_eq, Bool.and_eq_true, Bool.or_eq_true, Bool.and_eq_false_iff, Bool.or_eq_false_iff, Int.not_le, Int.not_lt, Nat.not_le, Nat.not_lt] at h); (try simp only [nc] at h)) | refine Ob.mk ?_ ?_ | refine Eq'.mk ?_ | (refine AllN.mk fun i hi => ?_; cbv)
  all_goals simp_all

set_option maxRecDepth 100000 in
set_option maxHeartbeats 4000000 in
theorem play_vc (n : Int) (l : (List Try)) : FnOk Try.prog 12 [.i .i64 fun _ => n, Leaf.av fun _ => l] [] (outA (play_R fun _ => playV n l) (play_H fun _ => playV n l)) := by
  refine fn_ok envOk zl con1_ok (draws_ok envOk det4_ok mixed) (keep := [0, 1, 4, 5, 6, 7, 8, 10, 11, 12, 18, 21, 24, 25, 26, 27, 60, 67]) Try.func12 rfl ?_
  have fin0 : ∀ e H kl, playV n l = ([], [], e) → outA (play_R fun _ => playV n l) (play_H fun _ => playV n l) (.tup [.nil, .nil, .i .i64 fun _ => e]) H kl := fun e H kl h => play0 h
  have fin1 : ∀ fs out kl H, playV n l = (fs, out, 0) → outA (play_R fun _ => playV n l) (play_H fun _ => playV n l) (.tup [.own 0 fun _ => fs.length, .own 1 fun _ => out.length, .i .i64 fun _ => 0]) (vecO 33 (fun _ => fs) :: vecO 4 (fun _ => out) :: H) kl := fun fs out kl H h => by
    cbv
    repeat' first | (refine Stp.mk ?_; cbv) | (refine Gen.mk fun r hr => ?_; (try simp only [Dat.ok, Dat.dec, Leaf.ok, Leaf.val, Try.eta, Fence.eta, Give.eta, GateOp.eta, GateAns.eta, Gate.eta, val_sl, val_nil] at hr); cbv) | exact trivial | rfl | refine Both.mk ?_ ?_ | (refine Imp.mk fun h => ?_; (try dsimp only at h); (try simp only [nc, Int.toNat_natCast, Bool.not_eq_true', Bool.not_eq_false', decide_eq_true_eq, decide_eq_false_iff_not, beq_iff_eq, beq_eq_false_iff_ne, bne_iff_ne, ne_eq, Bool.and_eq_true, Bool.or_eq_true, Bool.and_eq_false_iff, Bool.or_eq_false_iff, Int.not_le, Int.not_lt, Nat.not_le, Nat.not_lt] at h); (try simp only [nc] at h)) | refine Ob.mk ?_ ?_ | refine Eq'.mk ?_ | (refine AllN.mk fun i hi => ?_; cbv)
    all_goals simp_all
  generalize hK : outA (play_R fun _ => playV n l) (play_H fun _ => playV n l) = K at fin0 fin1
  clear hK
  cbv
  repeat' first | (refine Stp.mk ?_; cbv) | (refine Gen.mk fun r hr => ?_; (try simp only [Dat.ok, Dat.dec, Leaf.ok, Leaf.val, Try.eta, Fence.eta, Give.eta, GateOp.eta, GateAns.eta, Gate.eta, val_sl, val_nil] at hr); cbv) | exact trivial | rfl | refine Both.mk ?_ ?_ | (refine Imp.mk fun h => ?_; (try dsimp only at h); (try simp only [nc, Int.toNat_natCast, Bool.not_eq_true', Bool.not_eq_false', decide_eq_true_eq, decide_eq_false_iff_not, beq_iff_eq, beq_eq_false_iff_ne, bne_iff_ne, ne_eq, Bool.and_eq_true, Bool.or_eq_true, Bool.and_eq_false_iff, Bool.or_eq_false_iff, Int.not_le, Int.not_lt, Nat.not_le, Nat.not_lt] at h); (try simp only [nc] at h)) | refine Ob.mk ?_ ?_ | refine Eq'.mk ?_ | (refine AllN.mk fun i hi => ?_; cbv)
  · refine fin0 _ _ _ ?_
    simp_all [playV]
  · refine fin0 _ _ _ ?_
    simp_all [playV]
  · refine fin0 _ _ _ ?_
    all_goals ((try dsimp only at *); (try simp only [nc, Int.toNat_natCast, Bool.not_eq_true', Bool.not_eq_false', decide_eq_true_eq, decide_eq_false_iff_not, beq_iff_eq, beq_eq_false_iff_ne, bne_iff_ne, ne_eq, Bool.and_eq_true, Bool.or_eq_true, Bool.and_eq_false_iff, Bool.or_eq_false_iff, Int.not_le, Int.not_lt, Nat.not_le, Nat.not_lt] at *); (try simp only [nc] at *))
    rw [playV, if_neg (by omega), if_pos (by omega)]
  · all_goals ((try dsimp only at *); (try simp only [nc, Int.toNat_natCast, Bool.not_eq_true', Bool.not_eq_false', decide_eq_true_eq, decide_eq_false_iff_not, beq_iff_eq, beq_eq_false_iff_ne, bne_iff_ne, ne_eq, Bool.and_eq_true, Bool.or_eq_true, Bool.and_eq_false_iff, Bool.or_eq_false_iff, Int.not_le, Int.not_lt, Nat.not_le, Nat.not_lt] at *); (try simp only [nc] at *))
    omega
  · all_goals ((try dsimp only at *); (try simp only [nc, Int.toNat_natCast, Bool.not_eq_true', Bool.not_eq_false', decide_eq_true_eq, decide_eq_false_iff_not, beq_iff_eq, beq_eq_false_iff_ne, bne_iff_ne, ne_eq, Bool.and_eq_true, Bool.or_eq_true, Bool.and_eq_false_iff, Bool.or_eq_false_iff, Int.not_le, Int.not_lt, Nat.not_le, Nat.not_lt] at *); (try simp only [nc] at *))
    have h0 : playV n l = playL n l (List.replicate n.toNat ⟨0, 0⟩) [] := by rw [playV, if_neg (by omega), if_neg (by omega)]
    refine LoopVC.frame [4, 5, 6, 8, 10, 11, 12, 26, 27, 60, 67] (PX n l) (fun x => [(8, .own 1 fun _ => x.out.length), (26, .i .i64 fun _ => x.k)]) (fun x => [(0, vecO 33 fun _ => x.fs), (1, vecO 4 fun _ => x.out)]) [1] (fun x => l.length - x.k)
      ⟨0, List.replicate n.toNat ⟨0, 0⟩, [], Nat.zero_le _, by simp, rfl, by simpa using h0⟩ rfl (fun _ => rfl) ?_ ?_ fun ⟨k, fs, out, hk, hfs, hout, hr⟩ => ?_
    · cbv
      repeat' first | (refine Stp.mk ?_; cbv) | (refine Gen.mk fun r hr => ?_; (try simp only [Dat.ok, Dat.dec, Leaf.ok, Leaf.val, Try.eta, Fence.eta, Give.eta, GateOp.eta, GateAns.eta, Gate.eta, val_sl, val_nil] at hr); cbv) | exact trivial | rfl | refine Both.mk ?_ ?_ | (refine Imp.mk fun h => ?_; (try dsimp only at h); (try simp only [nc, Int.toNat_natCast, Bool.not_eq_true', Bool.not_eq_false', decide_eq_true_eq, decide_eq_false_iff_not, beq_iff_eq, beq_eq_false_iff_ne, bne_iff_ne, ne_eq, Bool.and_eq_true, Bool.or_eq_true, Bool.and_eq_false_iff, Bool.or_eq_false_iff, Int.not_le, Int.not_lt, Nat.not_le, Nat.not_lt] at h); (try simp only [nc] at h)) | refine Ob.mk ?_ ?_ | refine Eq'.mk ?_ | (refine AllN.mk fun i hi => ?_; cbv)
      all_goals simp
    · cbv
      repeat' first | (refine Stp.mk ?_; cbv) | (refine Gen.mk fun r hr => ?_; (try simp only [Dat.ok, Dat.dec, Leaf.ok, Leaf.val, Try.eta, Fence.eta, Give.eta, GateOp.eta, GateAns.eta, Gate.eta, val_sl, val_nil] at hr); cbv) | exact trivial | rfl | refine Both.mk ?_ ?_ | (refine Imp.mk fun h => ?_; (try dsimp only at h); (try simp only [nc, Int.toNat_natCast, Bool.not_eq_true', Bool.not_eq_false', decide_eq_true_eq, decide_eq_false_iff_not, beq_iff_eq, beq_eq_false_iff_ne, bne_iff_ne, ne_eq, Bool.and_eq_true, Bool.or_eq_true, Bool.and_eq_false_iff, Bool.or_eq_false_iff, Int.not_le, Int.not_lt, Nat.not_le, Nat.not_lt] at h); (try simp only [nc] at h)) | refine Ob.mk ?_ ?_ | refine Eq'.mk ?_ | (refine AllN.mk fun i hi => ?_; cbv)
      all_goals ((try dsimp only at *); (try simp only [nc, Int.toNat_natCast, Bool.not_eq_true', Bool.not_eq_false', decide_eq_true_eq, decide_eq_false_iff_not, beq_iff_eq, beq_eq_false_iff_ne, bne_iff_ne, ne_eq, Bool.and_eq_true, Bool.or_eq_true, Bool.and_eq_false_iff, Bool.or_eq_false_iff, Int.not_le, Int.not_lt, Nat.not_le, Nat.not_lt] at *); (try simp only [nc] at *))
      all_goals simp [*]
    · cbv
      repeat' first | (refine Stp.mk ?_; cbv) | (refine Gen.mk fun r hr => ?_; (try simp only [Dat.ok, Dat.dec, Leaf.ok, Leaf.val, Try.eta, Fence.eta, Give.eta, GateOp.eta, GateAns.eta, Gate.eta, val_sl, val_nil] at hr); cbv) | exact trivial | rfl | refine Both.mk ?_ ?_ | (refine Imp.mk fun h => ?_; (try dsimp only at h); (try simp only [nc, Int.toNat_natCast, Bool.not_eq_true', Bool.not_eq_false', decide_eq_true_eq, decide_eq_false_iff_not, beq_iff_eq, beq_eq_false_iff_ne, bne_iff_ne, ne_eq, Bool.and_eq_true, Bool.or_eq_true, Bool.and_eq_false_iff, Bool.or_eq_false_iff, Int.not_le, Int.not_lt, Nat.not_le, Nat.not_lt] at h); (try simp only [nc] at h)) | refine Ob.mk ?_ ?_ | refine Eq'.mk ?_ | (refine AllN.mk fun i hi => ?_; cbv)
      all_goals ((try dsimp only at *); (try simp only [nc, Int.toNat_natCast, Bool.not_eq_true', Bool.not_eq_false', decide_eq_true_eq, decide_eq_false_iff_not, beq_iff_eq, beq_eq_false_iff_ne, bne_iff_ne, ne_eq, Bool.and_eq_true, Bool.or_eq_true, Bool.and_eq_false_iff, Bool.or_eq_false_iff, Int.not_le, Int.not_lt, Nat.not_le, Nat.not_lt] at *); (try simp only [nc] at *))
      all_goals first
        | omega
        | (unfold InR; omega)
        | (simp only [Dat.ok, Dat.dec, Leaf.ok, Leaf.val, Try.eta, Fence.eta, Give.eta, GateOp.eta, GateAns.eta, Gate.eta]; done)
        | (simp only [Dat.ok, Dat.dec, Leaf.ok, Leaf.val, Try.eta, Fence.eta, Give.eta, GateOp.eta, GateAns.eta, Gate.eta, and_self]; done)
        | (refine fin0 _ _ _ ?_
           rw [hr, drop_cons Dat.d0 (by omega), playL, if_neg (by rw [valid_iff]; rintro ⟨a, b, c, d, e⟩; first | omega | simp_all)])
        | (rw [← hfs]
           refine fin1 fs out _ [] ?_
           rw [hr, drop_nil (by omega), playL])
        | skip
      all_goals (
        refine ⟨⟨k + 1, stepF fs (l.getD k Dat.d0), out ++ [stepB fs (l.getD k Dat.d0)], by omega, by rw [stepF_len, hfs], by simp [hout], ?_⟩, ?_, ?_, rfl, by (try dsimp only); omega⟩
        · rw [hr, drop_cons Dat.d0 (by omega), playL, if_pos (valid_iff.2 ⟨by first | exact .inl ‹_› | exact .inr ‹_›, by omega, by omega, by assumption, by assumption⟩)]
        · cbv
          repeat' first | (refine Stp.mk ?_; cbv) | (refine Gen.mk fun r hr => ?_; (try simp only [Dat.ok, Dat.dec, Leaf.ok, Leaf.val, Try.eta, Fence.eta, Give.eta, GateOp.eta, GateAns.eta, Gate.eta, val_sl, val_nil] at hr); cbv) | exact trivial | rfl | refine Both.mk ?_ ?_ | (refine Imp.mk fun h => ?_; (try dsimp only at h); (try simp only [nc, Int.toNat_natCast, Bool.not_eq_true', Bool.not_eq_false', decide_eq_true_eq, decide_eq_false_iff_not, beq_iff_eq, beq_eq_false_iff_ne, bne_iff_ne, ne_eq, Bool.and_eq_true, Bool.or_eq_true, Bool.and_eq_false_iff, Bool.or_eq_false_iff, Int.not_le, Int.not_lt, Nat.not_le, Nat.not_lt] at h); (try simp only [nc] at h)) | refine Ob.mk ?_ ?_ | refine Eq'.mk ?_ | (refine AllN.mk fun i hi => ?_; cbv)
          all_goals simp
        · cbv
          repeat' first | (refine Stp.mk ?_; cbv) | (refine Gen.mk fun r hr => ?_; (try simp only [Dat.ok, Dat.dec, Leaf.ok, Leaf.val, Try.eta, Fence.eta, Give.eta, GateOp.eta, GateAns.eta, Gate.eta, val_sl, val_nil] at hr); cbv) | exact trivial | rfl | refine Both.mk ?_ ?_ | (refine Imp.mk fun h => ?_; (try dsimp only at h); (try simp only [nc, Int.toNat_natCast, Bool.not_eq_true', Bool.not_eq_false', decide_eq_true_eq, decide_eq_false_iff_not, beq_iff_eq, beq_eq_false_iff_ne, bne_iff_ne, ne_eq, Bool.and_eq_true, Bool.or_eq_true, Bool.and_eq_false_iff, Bool.or_eq_false_iff, Int.not_le, Int.not_lt, Nat.not_le, Nat.not_lt] at h); (try simp only [nc] at h)) | refine Ob.mk ?_ ?_ | refine Eq'.mk ?_ | (refine AllN.mk fun i hi => ?_; cbv)
          all_goals ((try dsimp only at *); (try simp only [nc, Int.toNat_natCast, Bool.not_eq_true', Bool.not_eq_false', decide_eq_true_eq, decide_eq_false_iff_not, beq_iff_eq, beq_eq_false_iff_ne, bne_iff_ne, ne_eq, Bool.and_eq_true, Bool.or_eq_true, Bool.and_eq_false_iff, Bool.or_eq_false_iff, Int.not_le, Int.not_lt, Nat.not_le, Nat.not_lt] at *); (try simp only [nc] at *))
          all_goals first
            | (simp [stepF_len]; done)
            | (rw [step1 (t := l.getD k Dat.d0) (by assumption) hi]; simp only [Dat.ok, Dat.dec, Leaf.ok, Leaf.val, Try.eta, Fence.eta, Give.eta, GateOp.eta, GateAns.eta, Gate.eta]; cases decide (i = _) <;> rfl)
            | (rw [stepF, if_neg (show ¬ (l.getD k Dat.d0).kind = 1 by assumption)])
            | (rw [gd_snoc _ _ _ _ hi, stepB, if_pos (show (l.getD k Dat.d0).kind = 1 by assumption)]; simp only [Dat.ok, Dat.dec, Leaf.ok, Leaf.val, Try.eta, Fence.eta, Give.eta, GateOp.eta, GateAns.eta, Gate.eta])
            | (rw [gd_snoc _ _ _ _ hi, stepB, if_neg (show ¬ (l.getD k Dat.d0).kind = 1 by assumption)]; simp only [Dat.ok, Dat.dec, Leaf.ok, Leaf.val, Try.eta, Fence.eta, Give.eta, GateOp.eta, GateAns.eta, Gate.eta])
            | (trace_state; fail))
theorem play_ok : PcOk Try.prog 12 (play_C) := fun A K h => by
  unfold play_C at h
  split at h
  · rename_i n l
    cases h with
    | mk h1 h2 =>
      have g0 := h1
      refine FnOk.pre ?_ (A' := [.i .i64 fun _ => n (), Leaf.av fun _ => (Leaf.val l : (List Try))]) (.mk (.mk (.mk rfl) (.mk rfl)) (.mk (Leaf.hle _ g0) (trivial)))
      exact FnOk.out (K := fun r H _ => K r H) (play_vc (n ()) (Leaf.val l)) rfl h2.out
  · cases h

end Go.Proofs.Ytpooooomhnehfaa
