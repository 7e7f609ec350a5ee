/- What happens at one fence is no matter at another one; for all inputs. -/
import Derived.Test.YtpooooomhnehfaaFenceL
set_option linter.all false
namespace Go.Proofs.Ytpooooomhnehfaa
open Go Go.Abs

def atF (c : Int) (p : Try × Bool) : Bool := decide (p.1.fence = c)
theorem stepB_at {fs gs : List Fence} {t : Try} (h : fs.getD t.fence.toNat Dat.d0 = gs.getD t.fence.toNat Dat.d0) : stepB fs t = stepB gs t := by unfold stepB; rw [h]
theorem apart {n : Int} {c : Nat} : ∀ {l : List Try} {fs gs : List Fence}, (∀ t ∈ l, valid n t = true) → okF fs → okF gs → c < fs.length → c < gs.length → fs.getD c Dat.d0 = gs.getD c Dat.d0 →
    (runF gs (l.filter fun t => decide (t.fence = (c : Int)))).getD c Dat.d0 = (runF fs l).getD c Dat.d0 ∧ runB gs (l.filter fun t => decide (t.fence = (c : Int))) = ((l.zip (runB fs l)).filter (atF c)).map (·.2)
  | [], fs, gs, _, _, _, _, _, h => ⟨h.symm, rfl⟩
  | t :: r, fs, gs, hv, ho, hg, hl1, hl2, h => by
    have hvt := hv t (by simp)
    have hf := step_at hvt ho c
    have hk := step_at hvt hg c
    by_cases hc : t.fence = (c : Int)
    · have hB : stepB fs t = stepB gs t := stepB_at (by rw [hc, Int.toNat_natCast]; exact h)
      have ih := apart (c := c) (l := r) (fs := stepF fs t) (gs := stepF gs t) (fun x hx => hv x (by simp [hx])) (step_ok hvt ho) (step_ok hvt hg) (by rw [stepF_len]; exact hl1) (by rw [stepF_len]; exact hl2) (by
        rw [hf, hk, h]
        simp only [hl1, hl2, true_and])
      rw [List.filter_cons_of_pos (by simp [hc]), runF, runF, runB, runB, List.zip_cons_cons, List.filter_cons_of_pos (by simp [atF, hc]), List.map_cons, ih.1, ih.2, hB]
      exact ⟨rfl, rfl⟩
    · have ih := apart (c := c) (l := r) (fs := stepF fs t) (gs := gs) (fun x hx => hv x (by simp [hx])) (step_ok hvt ho) hg (by rw [stepF_len]; exact hl1) hl2 (by
        rw [hf, if_neg fun q => hc q.2.1]; exact h)
      rw [List.filter_cons_of_neg (by simp [hc]), runF, runB, List.zip_cons_cons, List.filter_cons_of_neg (by simp [atF, hc])]
      exact ih
structure ApX (c : Int) (l : List Try) (o : List Bool) where
  k : Nat
  hk : k ≤ l.length
  own : List Try
  want : List Bool
  h1 : own = ((((l.zip o).take k).filter (atF c)).map (·.1))
  h2 : want = ((((l.zip o).take k).filter (atF c)).map (·.2))
theorem ap_step {l : List Try} {o : List Bool} {k : Nat} (hk : k < l.length) (ho : o.length = l.length) : (l.zip o).take (k + 1) = (l.zip o).take k ++ [(l.getD k Dat.d0, o.getD k Dat.d0)] := by
  rw [take_snoc (Dat.d0, Dat.d0) (by simp; omega)]
  congr 2
  have : k < (l.zip o).length := by simp; omega
  rw [List.getD_eq_getElem?_getD, List.getElem?_eq_getElem this, List.getD_eq_getElem?_getD, List.getD_eq_getElem?_getD, List.getElem?_eq_getElem hk, List.getElem?_eq_getElem (show k < o.length by omega)]
  simp
theorem ap_len {c : Int} {l : List Try} {o : List Bool} {k : Nat} : (((l.zip o).take k).filter (atF c)).length ≤ k := Nat.le_trans (List.length_filter_le _ _) (by simp; omega)
theorem zip_fst {c : Int} : ∀ {l : List Try} {o : List Bool}, o.length = l.length → ((l.zip o).filter (atF c)).map (·.1) = l.filter fun t => decide (t.fence = c)
  | [], _, _ => rfl
  | t :: l, [], h => by simp at h
  | t :: l, b :: o, h => by
    have ih := zip_fst (c := c) (l := l) (o := o) (by simpa using h)
    rw [List.zip_cons_cons]
    by_cases hc : t.fence = c
    · rw [List.filter_cons_of_pos (by simp [atF, hc]), List.filter_cons_of_pos (by simp [hc]), List.map_cons, ih]
    · rw [List.filter_cons_of_neg (by simp [atF, hc]), List.filter_cons_of_neg (by simp [hc]), ih]
theorem ap_fin {n k : Int} {l own : List Try} {want : List Bool} {r1 r : List Fence × List Bool × Int} (e1 : r1 = playV n l) (p0 : r1.2.2 = 0) (hk0 : 0 ≤ k) (hk1 : k < n) {m : Nat} (hm : l.length ≤ m)
    (h1 : own = ((((l.zip r1.2.1).take m).filter (atF k)).map (·.1))) (h2 : want = ((((l.zip r1.2.1).take m).filter (atF k)).map (·.2))) (hr : r = playV n own) :
    r.2.2 = 0 ∧ r.1.length = n ∧ r.1.getD k.toNat Dat.d0 = r1.1.getD k.toNat Dat.d0 ∧ r.2.1 = want := by
  obtain ⟨a1, a2, a3, a4, a5, a6, a7, a8⟩ := playV_ok e1 p0
  have hz : (l.zip r1.2.1).take m = l.zip r1.2.1 := List.take_of_length_le (by rw [List.length_zip]; omega)
  rw [hz] at h1 h2
  rw [zip_fst a8] at h1
  have hk : k = (k.toNat : Int) := by omega
  rw [hk] at h1 h2
  have hv : ∀ t ∈ own, valid n t = true := fun t ht => a4 t (by rw [h1] at ht; exact (List.mem_filter.1 ht).1)
  have hl : own.length ≤ 500 := by rw [h1]; exact Nat.le_trans (List.length_filter_le _ _) a3
  rw [playV_of a1 a2 hl hv] at hr
  obtain ⟨q1, q2⟩ := apart (c := k.toNat) (l := l) (fs := fs0 n) (gs := fs0 n) a4 (okF0 n) (okF0 n) (by simp; omega) (by simp; omega) rfl
  subst hr
  refine ⟨rfl, ?_, ?_, ?_⟩
  · show ((runF (fs0 n) own).length : Int) = n
    rw [runF_len]; simp; omega
  · show (runF (fs0 n) own).getD _ _ = _
    rw [h1, q1, a5]
  · show runB (fs0 n) own = want
    rw [h1, h2, q2, a6]
def dAp : FuncId → Option Dt := fun f => match f with
  | 16 => some (.c eqB_D)
  | _ => none
theorem dAp_ok : DetOk Try.prog dAp := fun f d h => by
  unfold dAp at h
  split at h
  · cases h; exact ⟨⟨Try.f16, Try.func16, by kernel_rfl, by kernel_rfl⟩, eqB_ok⟩
  · cases h
set_option maxRecDepth 100000 in
set_option maxHeartbeats 4000000 in
theorem apartL_vc (n : Int) (l : (List Try)) (k : Int) (fit_n : Siz.fit n) (fit_l : Siz.fit l) (fit_k : Siz.fit k) (hB : Siz.bulk n + Siz.bulk l + Siz.bulk k ≤ 1048576) : FnOk Try.prog 5 [.i .i64 fun _ => n, Leaf.av fun _ => l, .i .i64 fun _ => k] [] (outA (.bc true) []) := by
  refine fn_ok envOk zl con7_ok (draws_ok envOk zl dAp_ok mixed) (keep := [0, 1, 2, 6, 7, 8, 9, 10, 11, 12, 13, 14, 15, 16, 51, 70, 71, 72, 73, 80]) Try.func5 rfl ?_
  have fin := @fin_b
  have finc := @fin_t
  have hl : l.length ≤ 1048576 := by
    have h1 := bulk_len Try.one_le l
    simp only [Siz.bulk] at hB h1
    omega
  generalize outA (.bc true) [] = K at fin finc
  cbv
  refine Ob.mk (by first | trivial | (refine ⟨rfl, fun i hi => ?_⟩; first | exact Dat.hok _ | exact ok_row rfl (Dat.hok _) (Dat.hok _) | exact ok_row rfl (Dat.hok _) (by simp only [Dat.ok, Dat.dec, Leaf.ok, Leaf.val, Fence.eta, Try.eta, Gate.eta, Give.eta, GateOp.eta, GateAns.eta, and_self]) | (simp only [Dat.ok, Dat.dec, Leaf.ok, Leaf.val, Fence.eta, Try.eta, Gate.eta, Give.eta, GateOp.eta, GateAns.eta, and_self]; done) | (revert i; decide)) | (simp only [Dat.ok, Dat.dec, Leaf.ok, Leaf.val, Fence.eta, Try.eta, Gate.eta, Give.eta, GateOp.eta, GateAns.eta, and_self]; done)) (Gen.mk fun r1 e1 => ?_)
  simp only [Dat.ok, Dat.dec, Leaf.ok, Leaf.val, Fence.eta, Try.eta, Gate.eta, Give.eta, GateOp.eta, GateAns.eta, val_sl] at e1
  cbv
  repeat' first | (show Stp _; exfalso; first | omega | (exact h ‹_›) | (exact absurd ‹_› h) | (exact Bool.false_ne_true (h.symm.trans (show _ = true by assumption)))) | (refine Stp.mk ?_; cbv) | (refine Gen.mk fun r hr => ?_; (try simp only [Dat.ok, Dat.dec, Leaf.ok, Leaf.val, Fence.eta, Try.eta, Gate.eta, Give.eta, GateOp.eta, GateAns.eta, val_sl, val_nil] at hr); cbv) | exact trivial | rfl | refine Both.mk ?_ ?_ | (refine Imp.mk fun h => ?_; (try dsimp only at h); (try simp only [nc, Int.toNat_natCast, Bool.not_eq_true', Bool.not_eq_false', decide_eq_true_eq, decide_eq_false_iff_not, beq_iff_eq, beq_eq_false_iff_ne, ba_inj, bne_iff_ne, ne_eq, Bool.and_eq_true, Bool.or_eq_true, Bool.and_eq_false_iff, Bool.or_eq_false_iff, Int.not_le, Int.not_lt, Nat.not_le, Nat.not_lt] at h); (try simp only [nc] at h)) | refine Ob.mk ?_ ?_ | refine Chk.mk (by kernel_rfl) ?_ | refine Eq'.mk ?_ | (refine AllN.mk fun i hi => ?_; cbv) | (refine AllS.mk fun r hr => ?_; (try simp only [Dat.ok, Dat.dec, Leaf.ok, Leaf.val, Fence.eta, Try.eta, Gate.eta, Give.eta, GateOp.eta, GateAns.eta, val_sl] at hr); cbv)
  all_goals ((try dsimp only at *); (try simp only [nc, Int.toNat_natCast, Bool.not_eq_true', Bool.not_eq_false', decide_eq_true_eq, decide_eq_false_iff_not, beq_iff_eq, beq_eq_false_iff_ne, ba_inj, bne_iff_ne, ne_eq, Bool.and_eq_true, Bool.or_eq_true, Bool.and_eq_false_iff, Bool.or_eq_false_iff, Int.not_le, Int.not_lt, Nat.not_le, Nat.not_lt] at *); (try simp only [nc] at *))
  all_goals try (
    have p0 : r1.2.2 = 0 := by assumption
    obtain ⟨a1, a2, a3, a4, a5, a6, a7, a8⟩ := playV_ok e1 p0)
  all_goals first
    | exact finc
    | (exfalso; omega)
    | (refine fin ?_; rw [beq_iff_eq]; omega)
    | skip
  refine LoopVC.frame [10, 11, 12, 13, 72, 73, 80] (ApX k l r1.2.1) (fun x => [(72, .i .i64 fun _ => x.k), (10, .own 2 fun _ => x.own.length), (11, .own 3 fun _ => x.want.length)]) (fun x => [(2, vecO 30 fun _ => x.own), (3, vecO 4 fun _ => x.want)]) [2, 3] (fun x => l.length - x.k)
    ⟨0, Nat.zero_le _, [], [], rfl, rfl⟩ rfl (fun _ => rfl) ?_ ?_ fun ⟨m, hm, own, want, h1, h2⟩ => ?_
  · cbv
    repeat' first | (refine Stp.mk ?_; cbv) | (refine Gen.mk fun r hr => ?_; (try simp only [Dat.ok, Dat.dec, Leaf.ok, Leaf.val, Fence.eta, Try.eta, Gate.eta, Give.eta, GateOp.eta, GateAns.eta, val_sl, val_nil] at hr); cbv) | exact trivial | rfl | refine Both.mk ?_ ?_ | (refine Imp.mk fun h => ?_; (try dsimp only at h); (try simp only [nc, Int.toNat_natCast, Bool.not_eq_true', Bool.not_eq_false', decide_eq_true_eq, decide_eq_false_iff_not, beq_iff_eq, beq_eq_false_iff_ne, ba_inj, bne_iff_ne, ne_eq, Bool.and_eq_true, Bool.or_eq_true, Bool.and_eq_false_iff, Bool.or_eq_false_iff, Int.not_le, Int.not_lt, Nat.not_le, Nat.not_lt] at h); (try simp only [nc] at h)) | refine Ob.mk ?_ ?_ | refine Chk.mk (by kernel_rfl) ?_ | refine Eq'.mk ?_ | (refine AllN.mk fun i hi => ?_; cbv) | (refine AllS.mk fun r hr => ?_; (try simp only [Dat.ok, Dat.dec, Leaf.ok, Leaf.val, Fence.eta, Try.eta, Gate.eta, Give.eta, GateOp.eta, GateAns.eta, val_sl] at hr); cbv)
  · cbv
    repeat' first | (refine Stp.mk ?_; cbv) | (refine Gen.mk fun r hr => ?_; (try simp only [Dat.ok, Dat.dec, Leaf.ok, Leaf.val, Fence.eta, Try.eta, Gate.eta, Give.eta, GateOp.eta, GateAns.eta, val_sl, val_nil] at hr); cbv) | exact trivial | rfl | refine Both.mk ?_ ?_ | (refine Imp.mk fun h => ?_; (try dsimp only at h); (try simp only [nc, Int.toNat_natCast, Bool.not_eq_true', Bool.not_eq_false', decide_eq_true_eq, decide_eq_false_iff_not, beq_iff_eq, beq_eq_false_iff_ne, ba_inj, bne_iff_ne, ne_eq, Bool.and_eq_true, Bool.or_eq_true, Bool.and_eq_false_iff, Bool.or_eq_false_iff, Int.not_le, Int.not_lt, Nat.not_le, Nat.not_lt] at h); (try simp only [nc] at h)) | refine Ob.mk ?_ ?_ | refine Chk.mk (by kernel_rfl) ?_ | refine Eq'.mk ?_ | (refine AllN.mk fun i hi => ?_; cbv) | (refine AllS.mk fun r hr => ?_; (try simp only [Dat.ok, Dat.dec, Leaf.ok, Leaf.val, Fence.eta, Try.eta, Gate.eta, Give.eta, GateOp.eta, GateAns.eta, val_sl] at hr); cbv)
  have len1 : own.length ≤ m := by rw [h1, List.length_map]; exact ap_len
  have len2 : want.length ≤ m := by rw [h2, List.length_map]; exact ap_len
  cbv
  repeat' first | (show Stp _; exfalso; first | omega | (exact h ‹_›) | (exact absurd ‹_› h) | (exact Bool.false_ne_true (h.symm.trans (show _ = true by assumption)))) | (refine Stp.mk ?_; cbv) | (refine Gen.mk fun r hr => ?_; (try simp only [Dat.ok, Dat.dec, Leaf.ok, Leaf.val, Fence.eta, Try.eta, Gate.eta, Give.eta, GateOp.eta, GateAns.eta, val_sl, val_nil] at hr); cbv) | exact trivial | rfl | refine Both.mk ?_ ?_ | (refine Imp.mk fun h => ?_; (try dsimp only at h); (try simp only [nc, Int.toNat_natCast, Bool.not_eq_true', Bool.not_eq_false', decide_eq_true_eq, decide_eq_false_iff_not, beq_iff_eq, beq_eq_false_iff_ne, ba_inj, bne_iff_ne, ne_eq, Bool.and_eq_true, Bool.or_eq_true, Bool.and_eq_false_iff, Bool.or_eq_false_iff, Int.not_le, Int.not_lt, Nat.not_le, Nat.not_lt] at h); (try simp only [nc] at h)) | refine Ob.mk ?_ ?_ | refine Chk.mk (by kernel_rfl) ?_ | refine Eq'.mk ?_ | (refine AllN.mk fun i hi => ?_; cbv) | (refine AllS.mk fun r hr => ?_; (try simp only [Dat.ok, Dat.dec, Leaf.ok, Leaf.val, Fence.eta, Try.eta, Gate.eta, Give.eta, GateOp.eta, GateAns.eta, val_sl] at hr); cbv)
  all_goals ((try dsimp only at *); (try simp only [nc, Int.toNat_natCast, Bool.not_eq_true', Bool.not_eq_false', decide_eq_true_eq, decide_eq_false_iff_not, beq_iff_eq, beq_eq_false_iff_ne, ba_inj, bne_iff_ne, ne_eq, Bool.and_eq_true, Bool.or_eq_true, Bool.and_eq_false_iff, Bool.or_eq_false_iff, Int.not_le, Int.not_lt, Nat.not_le, Nat.not_lt] at *); (try simp only [nc] at *))
  all_goals first
    | omega
    | (unfold InR; omega)
    | exact ⟨Nat.le_refl _, Nat.le_refl _, by omega, by omega⟩
    | exact ⟨rfl, fun i _ => Dat.hok _⟩
    | (have e1 := ap_step (l := l) (o := r1.2.1) (k := m) (by omega) a8
       first
         | (have hc : atF k (l.getD m Dat.d0, r1.2.1.getD m Dat.d0) = true := decide_eq_true (by assumption)
            refine ⟨⟨m + 1, by omega, own ++ [l.getD m Dat.d0], want ++ [r1.2.1.getD m Dat.d0], by rw [e1, List.filter_append, List.filter_cons_of_pos hc, h1]; simp, by rw [e1, List.filter_append, List.filter_cons_of_pos hc, h2]; simp⟩, ?_, ?_, rfl, by (try dsimp only); omega⟩
            · cbv
              repeat' first | (refine Stp.mk ?_; cbv) | (refine Gen.mk fun r hr => ?_; (try simp only [Dat.ok, Dat.dec, Leaf.ok, Leaf.val, Fence.eta, Try.eta, Gate.eta, Give.eta, GateOp.eta, GateAns.eta, val_sl, val_nil] at hr); cbv) | exact trivial | rfl | refine Both.mk ?_ ?_ | (refine Imp.mk fun h => ?_; (try dsimp only at h); (try simp only [nc, Int.toNat_natCast, Bool.not_eq_true', Bool.not_eq_false', decide_eq_true_eq, decide_eq_false_iff_not, beq_iff_eq, beq_eq_false_iff_ne, ba_inj, bne_iff_ne, ne_eq, Bool.and_eq_true, Bool.or_eq_true, Bool.and_eq_false_iff, Bool.or_eq_false_iff, Int.not_le, Int.not_lt, Nat.not_le, Nat.not_lt] at h); (try simp only [nc] at h)) | refine Ob.mk ?_ ?_ | refine Chk.mk (by kernel_rfl) ?_ | refine Eq'.mk ?_ | (refine AllN.mk fun i hi => ?_; cbv) | (refine AllS.mk fun r hr => ?_; (try simp only [Dat.ok, Dat.dec, Leaf.ok, Leaf.val, Fence.eta, Try.eta, Gate.eta, Give.eta, GateOp.eta, GateAns.eta, val_sl] at hr); cbv)
              all_goals simp
            · cbv
              repeat' first | (refine Stp.mk ?_; cbv) | (refine Gen.mk fun r hr => ?_; (try simp only [Dat.ok, Dat.dec, Leaf.ok, Leaf.val, Fence.eta, Try.eta, Gate.eta, Give.eta, GateOp.eta, GateAns.eta, val_sl, val_nil] at hr); cbv) | exact trivial | rfl | refine Both.mk ?_ ?_ | (refine Imp.mk fun h => ?_; (try dsimp only at h); (try simp only [nc, Int.toNat_natCast, Bool.not_eq_true', Bool.not_eq_false', decide_eq_true_eq, decide_eq_false_iff_not, beq_iff_eq, beq_eq_false_iff_ne, ba_inj, bne_iff_ne, ne_eq, Bool.and_eq_true, Bool.or_eq_true, Bool.and_eq_false_iff, Bool.or_eq_false_iff, Int.not_le, Int.not_lt, Nat.not_le, Nat.not_lt] at h); (try simp only [nc] at h)) | refine Ob.mk ?_ ?_ | refine Chk.mk (by kernel_rfl) ?_ | refine Eq'.mk ?_ | (refine AllN.mk fun i hi => ?_; cbv) | (refine AllS.mk fun r hr => ?_; (try simp only [Dat.ok, Dat.dec, Leaf.ok, Leaf.val, Fence.eta, Try.eta, Gate.eta, Give.eta, GateOp.eta, GateAns.eta, val_sl] at hr); cbv)
              all_goals ((try dsimp only at *); (try simp only [nc, Int.toNat_natCast, Bool.not_eq_true', Bool.not_eq_false', decide_eq_true_eq, decide_eq_false_iff_not, beq_iff_eq, beq_eq_false_iff_ne, ba_inj, bne_iff_ne, ne_eq, Bool.and_eq_true, Bool.or_eq_true, Bool.and_eq_false_iff, Bool.or_eq_false_iff, Int.not_le, Int.not_lt, Nat.not_le, Nat.not_lt] at *); (try simp only [nc] at *))
              all_goals first
                | (rw [gd_snoc _ _ _ _ hi]; cases decide (i < own.length) <;> rfl)
                | (rw [gd_snoc _ _ _ _ hi]; cases decide (i < want.length) <;> rfl)
                | (rw [gd_snoc _ _ _ _ hi]; done)
                | (simp; done)
                | fail)
         | (have hc : ¬ atF k (l.getD m Dat.d0, r1.2.1.getD m Dat.d0) = true := fun h => absurd (of_decide_eq_true h) (by assumption)
            refine ⟨⟨m + 1, by omega, own, want, by rw [e1, List.filter_append, List.filter_cons_of_neg hc, h1]; simp, by rw [e1, List.filter_append, List.filter_cons_of_neg hc, h2]; simp⟩, ?_, ?_, rfl, by (try dsimp only); omega⟩
            · cbv
              repeat' first | (refine Stp.mk ?_; cbv) | (refine Gen.mk fun r hr => ?_; (try simp only [Dat.ok, Dat.dec, Leaf.ok, Leaf.val, Fence.eta, Try.eta, Gate.eta, Give.eta, GateOp.eta, GateAns.eta, val_sl, val_nil] at hr); cbv) | exact trivial | rfl | refine Both.mk ?_ ?_ | (refine Imp.mk fun h => ?_; (try dsimp only at h); (try simp only [nc, Int.toNat_natCast, Bool.not_eq_true', Bool.not_eq_false', decide_eq_true_eq, decide_eq_false_iff_not, beq_iff_eq, beq_eq_false_iff_ne, ba_inj, bne_iff_ne, ne_eq, Bool.and_eq_true, Bool.or_eq_true, Bool.and_eq_false_iff, Bool.or_eq_false_iff, Int.not_le, Int.not_lt, Nat.not_le, Nat.not_lt] at h); (try simp only [nc] at h)) | refine Ob.mk ?_ ?_ | refine Chk.mk (by kernel_rfl) ?_ | refine Eq'.mk ?_ | (refine AllN.mk fun i hi => ?_; cbv) | (refine AllS.mk fun r hr => ?_; (try simp only [Dat.ok, Dat.dec, Leaf.ok, Leaf.val, Fence.eta, Try.eta, Gate.eta, Give.eta, GateOp.eta, GateAns.eta, val_sl] at hr); cbv)
            · cbv
              repeat' first | (refine Stp.mk ?_; cbv) | (refine Gen.mk fun r hr => ?_; (try simp only [Dat.ok, Dat.dec, Leaf.ok, Leaf.val, Fence.eta, Try.eta, Gate.eta, Give.eta, GateOp.eta, GateAns.eta, val_sl, val_nil] at hr); cbv) | exact trivial | rfl | refine Both.mk ?_ ?_ | (refine Imp.mk fun h => ?_; (try dsimp only at h); (try simp only [nc, Int.toNat_natCast, Bool.not_eq_true', Bool.not_eq_false', decide_eq_true_eq, decide_eq_false_iff_not, beq_iff_eq, beq_eq_false_iff_ne, ba_inj, bne_iff_ne, ne_eq, Bool.and_eq_true, Bool.or_eq_true, Bool.and_eq_false_iff, Bool.or_eq_false_iff, Int.not_le, Int.not_lt, Nat.not_le, Nat.not_lt] at h); (try simp only [nc] at h)) | refine Ob.mk ?_ ?_ | refine Chk.mk (by kernel_rfl) ?_ | refine Eq'.mk ?_ | (refine AllN.mk fun i hi => ?_; cbv) | (refine AllS.mk fun r hr => ?_; (try simp only [Dat.ok, Dat.dec, Leaf.ok, Leaf.val, Fence.eta, Try.eta, Gate.eta, Give.eta, GateOp.eta, GateAns.eta, val_sl] at hr); cbv)))
    | (exfalso; omega)
    | skip
  all_goals try obtain ⟨q1, q2, q3, q4⟩ := ap_fin e1 (by assumption) (show 0 ≤ k by assumption) (show k < n by assumption) (show l.length ≤ m by omega) h1 h2 hr
  all_goals first
    | omega
    | (exfalso; rw [q3] at h; simp at h; done)
    | (refine fin ?_
       simp only [Dat.ok, Dat.dec, Leaf.ok, Leaf.val, Fence.eta, Try.eta, Gate.eta, Give.eta, GateOp.eta, GateAns.eta, val_sl]
       rw [q4]
       show decide (_ = _) = true
       simp; done)
    | (refine ⟨Nat.le_refl _, Nat.le_refl _, ⟨rfl, fun i _ => Dat.hok _⟩, ⟨rfl, fun i _ => Dat.hok _⟩, ?_⟩
       simp only [Dat.ok, Dat.dec, Leaf.ok, Leaf.val, Fence.eta, Try.eta, Gate.eta, Give.eta, GateOp.eta, GateAns.eta, val_sl]
       show _ ≤ _
       rw [q4]; omega)
    | fail
section
open Go.ChangeShapes Go.WideShapes Go.ChangeAt Go.RowKit Go.Joins Go.Deep
set_option linter.unusedVariables false
theorem apartL_own : ownKnob Try.prog.godebug = none := by kernel_rfl
theorem apartL_laidOut : laidOutB Try.prog = true := by kernel_rfl
theorem apartL_readOk {ts : Array TypeId} (h : ts.toList.all (fun t => Try.prog.readableRec t && decide (t < Try.prog.types.size)) = true) : ∀ t ∈ ts.toList, Try.prog.readableRec t = true ∧ t < Try.prog.types.size := fun t ht => by
  have := List.all_eq_true.1 h t ht
  simpa using this
mutual
theorem apartL_bD {H : Type} : ∀ d : DataW H, Rows.uptoBulk d = bulkD d
  | .lit l => by cases l <;> simp [Rows.uptoBulk, bulkD]
  | .nil => by simp [Rows.uptoBulk, bulkD]
  | .ptr d => by simp [Rows.uptoBulk, bulkD, apartL_bD d]
  | .slice a b => by simp [Rows.uptoBulk, bulkD, apartL_bL a, apartL_bL b]
  | .agg a => by simp [Rows.uptoBulk, bulkD, apartL_bL a]
  | .iface _ d => by simp [Rows.uptoBulk, bulkD, apartL_bD d]
  | .map e => by simp [Rows.uptoBulk, bulkD, apartL_bE e]
  | .held _ => by simp [Rows.uptoBulk, bulkD]
theorem apartL_bL {H : Type} : ∀ d : List (DataW H), Rows.uptoBulkAll d = bulkL d
  | [] => by simp [Rows.uptoBulkAll, bulkL]
  | d :: r => by simp [Rows.uptoBulkAll, bulkL, apartL_bD d, apartL_bL r]
theorem apartL_bE {H : Type} : ∀ d : List (Lit × DataW H), Rows.uptoBulkEntries d = bulkE d
  | [] => by simp [Rows.uptoBulkEntries, bulkE]
  | d :: r => by simp [Rows.uptoBulkEntries, bulkE, apartL_bX d, apartL_bE r]
theorem apartL_bX {H : Type} : ∀ d : Lit × DataW H, Rows.uptoBulkEntry d = bulkX d
  | (l, d) => by cases l <;> simp [Rows.uptoBulkEntry, bulkX, apartL_bD d]
end
set_option maxRecDepth 100000 in
theorem apartL_lifted (os : Os) (started : os.Started) (H : Type) (enc : TypeId × Value → H) (F : Stop.Interp) :
    ReturnsInHanded {} Try.checked os 5 .any ((Rows.OpenSpec.upto Rows.fenceApartSpec).pre6 enc Try.prog Try.f5 Rows.fenceApartUptoRow.domain false) (((Rows.OpenSpec.upto Rows.fenceApartSpec).at F).post enc Try.prog Try.f5 false true false false) := by
  refine returnsInHanded_of_cond (C := Try.checked) (s := Rows.OpenSpec.upto Rows.fenceApartSpec) (k := Rows.uptoSmall) rfl apartL_own started (by kernel_rfl) Try.func5
    (OpenSpec.witness (enc := enc) (C := Try.checked) (s := Rows.OpenSpec.upto Rows.fenceApartSpec) (k := Rows.uptoSmall) rfl false ⟨#[], #[.int .i64 0, .slice none 0 0, .int .i64 0], []⟩ 8 (by kernel_rfl) (by kernel_rfl) (by kernel_rfl)
      (x := ([.lit (.int .i64 0), .nil, .lit (.int .i64 0)], [], [])) (by kernel_rfl) rfl (by kernel_rfl)) ?_
  intro W base args ds gs before hval0 hW _ hk _
  show Calls Try.prog 5 args W fun e W' => ∃ v, e = .returned v ∧ Rows.fenceApartSpec.post enc Try.prog Try.f5 false true false false W args v W'
  have hval : ∀ (j : Nat) t v, Try.f5.params[j]? = some t → args[j]? = some v → Value.okWide Try.prog W .any base t v := hval0
  have hW' := hW
  have hlt := hW.lt
  obtain ⟨p, q, hA0, hV, rfl, hfz, hnd⟩ := hW
  have hA : DataW.TrodAll enc Try.prog W 0 (fun _ => true) true Try.f5.params.toList args.toList ds p := hA0
  have hA1 := hA
  rw [Try.params5] at hA hval
  obtain ⟨v0, vs0, d0, ds0, p0, q0, hargs, rfl, rfl, h0, r0⟩ := trodAll_cons hA
  obtain ⟨v1, vs1, d1, ds1, p1, q1, rfl, rfl, rfl, h1, r1⟩ := trodAll_cons r0
  obtain ⟨v2, vs2, d2, ds2, p2, q2, rfl, rfl, rfl, h2, r2⟩ := trodAll_cons r1
  obtain ⟨rfl, rfl, rfl⟩ := trodAll_nil r2
  obtain rfl : args = #[v0, v1, v2] := by cases args; simp_all
  obtain ⟨rfl, rfl⟩ := trodVars_none hV
  obtain ⟨z0, rfl⟩ := okWide_int Try.underlying3 (hval 0 3 v0 rfl rfl)
  obtain ⟨y0, u0, b0, e0⟩ := arg_leaf (α := Int) (opn_int Try.underlying3) rfl h0
  obtain ⟨z1, z'1, z''1, rfl⟩ := okWide_slice Try.underlying22 (hval 1 22 v1 rfl rfl)
  obtain ⟨y1, u1, b1, e1⟩ := arg_leaf (α := (List Try)) (opn_slice Try.underlying22 (by kernel_rfl) (by decide) opn_Try) rfl h1
  obtain ⟨z2, rfl⟩ := okWide_int Try.underlying3 (hval 2 3 v2 rfl rfl)
  obtain ⟨y2, u2, b2, e2⟩ := arg_leaf (α := Int) (opn_int Try.underlying3) rfl h2
  have hB : Siz.bulk y0 + Siz.bulk y1 + Siz.bulk y2 ≤ 1048576 := by
    have h := of_decide_eq_true hk
    rw [apartL_bL] at h
    simp only [List.append_nil, bulkL] at h
    omega
  have hR := repL_cons (M := fun _ => False) (β := fun _ => none) (cp := fun _ => 0) (.c e0) (repL_cons (M := fun _ => False) (β := fun _ => none) (cp := fun _ => 0) (.c e1) (repL_cons (M := fun _ => False) (β := fun _ => none) (cp := fun _ => 0) (.c e2) (repL_nil)))
  refine (law_callsA (apartL_vc y0 y1 y2 u0 u1 u2 hB) hR).mono fun e W' ⟨he, bel⟩ => ?_
  subst he
  exact ⟨_, rfl, _, _, _, [], _, [], hW', trodAll_mk1 (shut_bool Try.underlying4 _), trodAll_below apartL_laidOut bel (apartL_readOk (by kernel_rfl)) (fun x hx => hlt x (List.mem_append_left _ hx)) hA1, rfl, bel.frame _, fun h => by cases h⟩
theorem FenceApart_proved : Rows.FenceApartUptoSaid :=
  OpenClaim.holds_of_cond 5 Try.f5 rfl rfl rfl rfl rfl rfl rfl ⟨rfl, rfl, rfl, rfl, rfl⟩ rfl rfl rfl rfl rfl (by kernel_rfl) Try.func5 (by kernel_rfl)
    (of_decide_eq_true (by kernel_rfl)) (by unfold Func.isWrapper; first | (rw [if_pos (by decide +kernel)]; kernel_rfl) | (rw [if_neg (by decide +kernel)]; exact ⟨rfl, rfl⟩))
    (fun os started H enc _ F => apartL_lifted os started H enc F)
end

end Go.Proofs.Ytpooooomhnehfaa
