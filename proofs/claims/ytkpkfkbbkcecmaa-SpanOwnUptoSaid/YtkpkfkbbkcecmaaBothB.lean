/- The program's functions, walked: BothB. -/
import Derived.Test.YtkpkfkbbkcecmaaSpanP
set_option linter.all false
namespace Go.Proofs.Ytkpkfkbbkcecmaa
open Go Go.Abs
def mx (a b : Int) : Int := if b > a then b else a
def capS (x y : Span) : Span := ⟨mx x.frm y.frm, mn x.to y.to⟩
def bothR : List Span → List Span → List Span
  | [], _ => []
  | _ :: _, [] => []
  | x :: a, y :: b => (if (capS x y).frm < (capS x y).to then [capS x y] else []) ++ (if x.to < y.to then bothR a (y :: b) else bothR (x :: a) b)
termination_by a b => a.length + b.length
def bothV (a b : Set) : Set := ⟨a.size, bothR a.spans b.spans⟩
theorem bothR_nil {a b : List Span} (h : a = [] ∨ b = []) : bothR a b = [] := by
  rcases h with rfl | rfl
  · rw [bothR]
  · cases a <;> rw [bothR]
theorem bothR_drop {a b : List Span} {i j : Nat} (hi : i < a.length) (hj : j < b.length) : bothR (a.drop i) (b.drop j) =
    (if (capS (a.getD i Dat.d0) (b.getD j Dat.d0)).frm < (capS (a.getD i Dat.d0) (b.getD j Dat.d0)).to then [capS (a.getD i Dat.d0) (b.getD j Dat.d0)] else []) ++
    (if (a.getD i Dat.d0).to < (b.getD j Dat.d0).to then bothR (a.drop (i + 1)) (b.drop j) else bothR (a.drop i) (b.drop (j + 1))) := by
  rw [drop_cons Dat.d0 hi, drop_cons Dat.d0 hj, bothR]
def bothC_R (r : Th (Set)) : AV := .agg [.i .i64 fun _ => (r ()).size, .own 0 fun _ => (r ()).spans.length]
def bothC_H (r : Th (Set)) : Hp := [vecO 39 fun _ => (r ()).spans]
def bothC_P (a : Set) (b : Set) : Prop := a.spans.length ≤ 1000 ∧ b.spans.length ≤ 1000
def bothC_C : PC := fun A K => match A with
  | [.agg a, .agg b] => Ob (fun _ => Dat.ok Set a ∧ Dat.ok Set b ∧ bothC_P (Dat.dec a) (Dat.dec b)) (Gen (α := Set) (fun _ => bothV (Dat.dec a) (Dat.dec b)) fun r => K (bothC_R fun _ => r) (bothC_H fun _ => r))
  | _ => Bad 1002
structure BoX (a b : Set) where
  i : Nat
  j : Nat
  out : List Span
  hi : i ≤ a.spans.length
  hj : j ≤ b.spans.length
  ho : out.length ≤ i + j
  hr : bothR a.spans b.spans = out ++ bothR (a.spans.drop i) (b.spans.drop j)
set_option maxRecDepth 100000 in
set_option maxHeartbeats 4000000 in
theorem bothC_vc (a : Set) (b : Set) (hp : bothC_P a b) : FnOk Try.prog 32 [.agg (Dat.enc fun _ => a), .agg (Dat.enc fun _ => b)] [] (outA (bothC_R fun _ => bothV a b) (bothC_H fun _ => bothV a b)) := by
  refine fn_ok envOk zl noCon_ok (draws_ok envOk zl noDet_ok mixed) (keep := [0, 1, 2, 3, 4, 5, 6, 7, 8, 9, 10, 25, 51, 62]) Try.func32 rfl ?_
  obtain ⟨hp1, hp2⟩ : a.spans.length ≤ 1000 ∧ b.spans.length ≤ 1000 := hp
  cbv
  refine LoopVC.frame [6, 7, 8, 9, 10, 25, 51, 62] (BoX a b) (fun x => [(6, .i .i64 fun _ => x.i), (7, .i .i64 fun _ => x.j)]) (fun x => [(3, .blk [.i .i64 fun _ => a.size, .own 4 fun _ => x.out.length]), (4, vecO 39 fun _ => x.out)]) [4] (fun x => (a.spans.length - x.i) + (b.spans.length - x.j))
      ⟨0, 0, [], Nat.zero_le _, Nat.zero_le _, Nat.zero_le _, by simp⟩ rfl (fun _ => rfl) ?_ ?_ fun ⟨p, q, out, hp, hq, ho, hr⟩ => ?_
  · cbv
    repeat' first | (refine Stp.mk ?_; cbv) | (refine Gen.mk fun r hr => ?_; (try simp only [Dat.ok, Dat.dec, Leaf.ok, Leaf.val, Span.eta, Set.eta, val_sl, val_nil] at hr); cbv) | exact trivial | rfl | refine Both.mk ?_ ?_ | (refine Imp.mk fun h => ?_; (try dsimp only at h); (try simp only [nc, Int.toNat_natCast, Bool.not_eq_true', Bool.not_eq_false', decide_eq_true_eq, decide_eq_false_iff_not, beq_iff_eq, beq_eq_false_iff_ne, ba_inj, bne_iff_ne, ne_eq, Bool.and_eq_true, Bool.or_eq_true, Bool.and_eq_false_iff, Bool.or_eq_false_iff, Int.not_le, Int.not_lt, Nat.not_le, Nat.not_lt] at h); (try simp only [nc] at h)) | refine Ob.mk ?_ ?_ | refine Chk.mk (by kernel_rfl) ?_ | refine Eq'.mk ?_ | (refine AllN.mk fun i hi => ?_; cbv) | (refine AllC.mk fun c hc hcm => ?_; (try dsimp only at hc); cbv) | (refine AllS.mk fun r hr => ?_; (try simp only [Dat.ok, Dat.dec, Leaf.ok, Leaf.val, Span.eta, Set.eta, val_sl] at hr); cbv)
    all_goals simp
  · cbv
    repeat' first | (refine Stp.mk ?_; cbv) | (refine Gen.mk fun r hr => ?_; (try simp only [Dat.ok, Dat.dec, Leaf.ok, Leaf.val, Span.eta, Set.eta, val_sl, val_nil] at hr); cbv) | exact trivial | rfl | refine Both.mk ?_ ?_ | (refine Imp.mk fun h => ?_; (try dsimp only at h); (try simp only [nc, Int.toNat_natCast, Bool.not_eq_true', Bool.not_eq_false', decide_eq_true_eq, decide_eq_false_iff_not, beq_iff_eq, beq_eq_false_iff_ne, ba_inj, bne_iff_ne, ne_eq, Bool.and_eq_true, Bool.or_eq_true, Bool.and_eq_false_iff, Bool.or_eq_false_iff, Int.not_le, Int.not_lt, Nat.not_le, Nat.not_lt] at h); (try simp only [nc] at h)) | refine Ob.mk ?_ ?_ | refine Chk.mk (by kernel_rfl) ?_ | refine Eq'.mk ?_ | (refine AllN.mk fun i hi => ?_; cbv) | (refine AllC.mk fun c hc hcm => ?_; (try dsimp only at hc); cbv) | (refine AllS.mk fun r hr => ?_; (try simp only [Dat.ok, Dat.dec, Leaf.ok, Leaf.val, Span.eta, Set.eta, val_sl] at hr); cbv)
    all_goals ((try dsimp only at *); (try simp only [nc, Int.toNat_natCast, Bool.not_eq_true', Bool.not_eq_false', decide_eq_true_eq, decide_eq_false_iff_not, beq_iff_eq, beq_eq_false_iff_ne, ba_inj, bne_iff_ne, ne_eq, Bool.and_eq_true, Bool.or_eq_true, Bool.and_eq_false_iff, Bool.or_eq_false_iff, Int.not_le, Int.not_lt, Nat.not_le, Nat.not_lt] at *); (try simp only [nc] at *))
  · cbv
    repeat' first | (refine Stp.mk ?_; cbv) | (refine Gen.mk fun r hr => ?_; (try simp only [Dat.ok, Dat.dec, Leaf.ok, Leaf.val, Span.eta, Set.eta, val_sl, val_nil] at hr); cbv) | exact trivial | rfl | refine Both.mk ?_ ?_ | (refine Imp.mk fun h => ?_; (try dsimp only at h); (try simp only [nc, Int.toNat_natCast, Bool.not_eq_true', Bool.not_eq_false', decide_eq_true_eq, decide_eq_false_iff_not, beq_iff_eq, beq_eq_false_iff_ne, ba_inj, bne_iff_ne, ne_eq, Bool.and_eq_true, Bool.or_eq_true, Bool.and_eq_false_iff, Bool.or_eq_false_iff, Int.not_le, Int.not_lt, Nat.not_le, Nat.not_lt] at h); (try simp only [nc] at h)) | refine Ob.mk ?_ ?_ | refine Chk.mk (by kernel_rfl) ?_ | refine Eq'.mk ?_ | (refine AllN.mk fun i hi => ?_; cbv) | (refine AllC.mk fun c hc hcm => ?_; (try dsimp only at hc); cbv) | (refine AllS.mk fun r hr => ?_; (try simp only [Dat.ok, Dat.dec, Leaf.ok, Leaf.val, Span.eta, Set.eta, val_sl] at hr); cbv)
    all_goals ((try dsimp only at *); (try simp only [nc, Int.toNat_natCast, Bool.not_eq_true', Bool.not_eq_false', decide_eq_true_eq, decide_eq_false_iff_not, beq_iff_eq, beq_eq_false_iff_ne, ba_inj, bne_iff_ne, ne_eq, Bool.and_eq_true, Bool.or_eq_true, Bool.and_eq_false_iff, Bool.or_eq_false_iff, Int.not_le, Int.not_lt, Nat.not_le, Nat.not_lt] at *); (try simp only [nc] at *))
    all_goals first
      | omega
      | (unfold InR; omega)
      | (have c1 : (capS (a.spans.getD p Dat.d0) (b.spans.getD q Dat.d0)).frm < (capS (a.spans.getD p Dat.d0) (b.spans.getD q Dat.d0)).to := by assumption
         have c2 : (a.spans.getD p Dat.d0).to < (b.spans.getD q Dat.d0).to := by assumption
         refine ⟨⟨p + 1, q, out ++ [capS (a.spans.getD p Dat.d0) (b.spans.getD q Dat.d0)], by omega, by omega, by rw [List.length_append]; show out.length + 1 ≤ _; omega, by rw [hr, bothR_drop (by omega) (by omega), if_pos c1, if_pos c2]; simp⟩, ?_, ?_, rfl, by (try dsimp only); omega⟩
         · cbv
           repeat' first | (refine Stp.mk ?_; cbv) | (refine Gen.mk fun r hr => ?_; (try simp only [Dat.ok, Dat.dec, Leaf.ok, Leaf.val, Span.eta, Set.eta, val_sl, val_nil] at hr); cbv) | exact trivial | rfl | refine Both.mk ?_ ?_ | (refine Imp.mk fun h => ?_; (try dsimp only at h); (try simp only [nc, Int.toNat_natCast, Bool.not_eq_true', Bool.not_eq_false', decide_eq_true_eq, decide_eq_false_iff_not, beq_iff_eq, beq_eq_false_iff_ne, ba_inj, bne_iff_ne, ne_eq, Bool.and_eq_true, Bool.or_eq_true, Bool.and_eq_false_iff, Bool.or_eq_false_iff, Int.not_le, Int.not_lt, Nat.not_le, Nat.not_lt] at h); (try simp only [nc] at h)) | refine Ob.mk ?_ ?_ | refine Chk.mk (by kernel_rfl) ?_ | refine Eq'.mk ?_ | (refine AllN.mk fun i hi => ?_; cbv) | (refine AllC.mk fun c hc hcm => ?_; (try dsimp only at hc); cbv) | (refine AllS.mk fun r hr => ?_; (try simp only [Dat.ok, Dat.dec, Leaf.ok, Leaf.val, Span.eta, Set.eta, val_sl] at hr); cbv)
           all_goals simp
         · cbv
           repeat' first | (refine Stp.mk ?_; cbv) | (refine Gen.mk fun r hr => ?_; (try simp only [Dat.ok, Dat.dec, Leaf.ok, Leaf.val, Span.eta, Set.eta, val_sl, val_nil] at hr); cbv) | exact trivial | rfl | refine Both.mk ?_ ?_ | (refine Imp.mk fun h => ?_; (try dsimp only at h); (try simp only [nc, Int.toNat_natCast, Bool.not_eq_true', Bool.not_eq_false', decide_eq_true_eq, decide_eq_false_iff_not, beq_iff_eq, beq_eq_false_iff_ne, ba_inj, bne_iff_ne, ne_eq, Bool.and_eq_true, Bool.or_eq_true, Bool.and_eq_false_iff, Bool.or_eq_false_iff, Int.not_le, Int.not_lt, Nat.not_le, Nat.not_lt] at h); (try simp only [nc] at h)) | refine Ob.mk ?_ ?_ | refine Chk.mk (by kernel_rfl) ?_ | refine Eq'.mk ?_ | (refine AllN.mk fun i hi => ?_; cbv) | (refine AllC.mk fun c hc hcm => ?_; (try dsimp only at hc); cbv) | (refine AllS.mk fun r hr => ?_; (try simp only [Dat.ok, Dat.dec, Leaf.ok, Leaf.val, Span.eta, Set.eta, val_sl] at hr); cbv)
           all_goals ((try dsimp only at *); (try simp only [nc, Int.toNat_natCast, Bool.not_eq_true', Bool.not_eq_false', decide_eq_true_eq, decide_eq_false_iff_not, beq_iff_eq, beq_eq_false_iff_ne, ba_inj, bne_iff_ne, ne_eq, Bool.and_eq_true, Bool.or_eq_true, Bool.and_eq_false_iff, Bool.or_eq_false_iff, Int.not_le, Int.not_lt, Nat.not_le, Nat.not_lt] at *); (try simp only [nc] at *))
           all_goals first
             | (rw [gd_snoc _ _ _ _ hi]; cases decide (i < out.length) <;> rfl)
             | (simp; done)
             | fail)
      | (have c1 : (capS (a.spans.getD p Dat.d0) (b.spans.getD q Dat.d0)).frm < (capS (a.spans.getD p Dat.d0) (b.spans.getD q Dat.d0)).to := by assumption
         have c2 : ¬ (a.spans.getD p Dat.d0).to < (b.spans.getD q Dat.d0).to := by omega
         refine ⟨⟨p, q + 1, out ++ [capS (a.spans.getD p Dat.d0) (b.spans.getD q Dat.d0)], by omega, by omega, by rw [List.length_append]; show out.length + 1 ≤ _; omega, by rw [hr, bothR_drop (by omega) (by omega), if_pos c1, if_neg c2]; simp⟩, ?_, ?_, rfl, by (try dsimp only); omega⟩
         · cbv
           repeat' first | (refine Stp.mk ?_; cbv) | (refine Gen.mk fun r hr => ?_; (try simp only [Dat.ok, Dat.dec, Leaf.ok, Leaf.val, Span.eta, Set.eta, val_sl, val_nil] at hr); cbv) | exact trivial | rfl | refine Both.mk ?_ ?_ | (refine Imp.mk fun h => ?_; (try dsimp only at h); (try simp only [nc, Int.toNat_natCast, Bool.not_eq_true', Bool.not_eq_false', decide_eq_true_eq, decide_eq_false_iff_not, beq_iff_eq, beq_eq_false_iff_ne, ba_inj, bne_iff_ne, ne_eq, Bool.and_eq_true, Bool.or_eq_true, Bool.and_eq_false_iff, Bool.or_eq_false_iff, Int.not_le, Int.not_lt, Nat.not_le, Nat.not_lt] at h); (try simp only [nc] at h)) | refine Ob.mk ?_ ?_ | refine Chk.mk (by kernel_rfl) ?_ | refine Eq'.mk ?_ | (refine AllN.mk fun i hi => ?_; cbv) | (refine AllC.mk fun c hc hcm => ?_; (try dsimp only at hc); cbv) | (refine AllS.mk fun r hr => ?_; (try simp only [Dat.ok, Dat.dec, Leaf.ok, Leaf.val, Span.eta, Set.eta, val_sl] at hr); cbv)
           all_goals simp
         · cbv
           repeat' first | (refine Stp.mk ?_; cbv) | (refine Gen.mk fun r hr => ?_; (try simp only [Dat.ok, Dat.dec, Leaf.ok, Leaf.val, Span.eta, Set.eta, val_sl, val_nil] at hr); cbv) | exact trivial | rfl | refine Both.mk ?_ ?_ | (refine Imp.mk fun h => ?_; (try dsimp only at h); (try simp only [nc, Int.toNat_natCast, Bool.not_eq_true', Bool.not_eq_false', decide_eq_true_eq, decide_eq_false_iff_not, beq_iff_eq, beq_eq_false_iff_ne, ba_inj, bne_iff_ne, ne_eq, Bool.and_eq_true, Bool.or_eq_true, Bool.and_eq_false_iff, Bool.or_eq_false_iff, Int.not_le, Int.not_lt, Nat.not_le, Nat.not_lt] at h); (try simp only [nc] at h)) | refine Ob.mk ?_ ?_ | refine Chk.mk (by kernel_rfl) ?_ | refine Eq'.mk ?_ | (refine AllN.mk fun i hi => ?_; cbv) | (refine AllC.mk fun c hc hcm => ?_; (try dsimp only at hc); cbv) | (refine AllS.mk fun r hr => ?_; (try simp only [Dat.ok, Dat.dec, Leaf.ok, Leaf.val, Span.eta, Set.eta, val_sl] at hr); cbv)
           all_goals ((try dsimp only at *); (try simp only [nc, Int.toNat_natCast, Bool.not_eq_true', Bool.not_eq_false', decide_eq_true_eq, decide_eq_false_iff_not, beq_iff_eq, beq_eq_false_iff_ne, ba_inj, bne_iff_ne, ne_eq, Bool.and_eq_true, Bool.or_eq_true, Bool.and_eq_false_iff, Bool.or_eq_false_iff, Int.not_le, Int.not_lt, Nat.not_le, Nat.not_lt] at *); (try simp only [nc] at *))
           all_goals first
             | (rw [gd_snoc _ _ _ _ hi]; cases decide (i < out.length) <;> rfl)
             | (simp; done)
             | fail)
      | (have c1 : ¬ (capS (a.spans.getD p Dat.d0) (b.spans.getD q Dat.d0)).frm < (capS (a.spans.getD p Dat.d0) (b.spans.getD q Dat.d0)).to := Int.not_lt.2 (by assumption)
         have c2 : (a.spans.getD p Dat.d0).to < (b.spans.getD q Dat.d0).to := by assumption
         refine ⟨⟨p + 1, q, out, by omega, by omega, by omega, by rw [hr, bothR_drop (by omega) (by omega), if_neg c1, if_pos c2]; simp⟩, ?_, ?_, rfl, by (try dsimp only); omega⟩
         · cbv
           repeat' first | (refine Stp.mk ?_; cbv) | (refine Gen.mk fun r hr => ?_; (try simp only [Dat.ok, Dat.dec, Leaf.ok, Leaf.val, Span.eta, Set.eta, val_sl, val_nil] at hr); cbv) | exact trivial | rfl | refine Both.mk ?_ ?_ | (refine Imp.mk fun h => ?_; (try dsimp only at h); (try simp only [nc, Int.toNat_natCast, Bool.not_eq_true', Bool.not_eq_false', decide_eq_true_eq, decide_eq_false_iff_not, beq_iff_eq, beq_eq_false_iff_ne, ba_inj, bne_iff_ne, ne_eq, Bool.and_eq_true, Bool.or_eq_true, Bool.and_eq_false_iff, Bool.or_eq_false_iff, Int.not_le, Int.not_lt, Nat.not_le, Nat.not_lt] at h); (try simp only [nc] at h)) | refine Ob.mk ?_ ?_ | refine Chk.mk (by kernel_rfl) ?_ | refine Eq'.mk ?_ | (refine AllN.mk fun i hi => ?_; cbv) | (refine AllC.mk fun c hc hcm => ?_; (try dsimp only at hc); cbv) | (refine AllS.mk fun r hr => ?_; (try simp only [Dat.ok, Dat.dec, Leaf.ok, Leaf.val, Span.eta, Set.eta, val_sl] at hr); cbv)
           all_goals simp
         · cbv
           repeat' first | (refine Stp.mk ?_; cbv) | (refine Gen.mk fun r hr => ?_; (try simp only [Dat.ok, Dat.dec, Leaf.ok, Leaf.val, Span.eta, Set.eta, val_sl, val_nil] at hr); cbv) | exact trivial | rfl | refine Both.mk ?_ ?_ | (refine Imp.mk fun h => ?_; (try dsimp only at h); (try simp only [nc, Int.toNat_natCast, Bool.not_eq_true', Bool.not_eq_false', decide_eq_true_eq, decide_eq_false_iff_not, beq_iff_eq, beq_eq_false_iff_ne, ba_inj, bne_iff_ne, ne_eq, Bool.and_eq_true, Bool.or_eq_true, Bool.and_eq_false_iff, Bool.or_eq_false_iff, Int.not_le, Int.not_lt, Nat.not_le, Nat.not_lt] at h); (try simp only [nc] at h)) | refine Ob.mk ?_ ?_ | refine Chk.mk (by kernel_rfl) ?_ | refine Eq'.mk ?_ | (refine AllN.mk fun i hi => ?_; cbv) | (refine AllC.mk fun c hc hcm => ?_; (try dsimp only at hc); cbv) | (refine AllS.mk fun r hr => ?_; (try simp only [Dat.ok, Dat.dec, Leaf.ok, Leaf.val, Span.eta, Set.eta, val_sl] at hr); cbv)
           all_goals ((try dsimp only at *); (try simp only [nc, Int.toNat_natCast, Bool.not_eq_true', Bool.not_eq_false', decide_eq_true_eq, decide_eq_false_iff_not, beq_iff_eq, beq_eq_false_iff_ne, ba_inj, bne_iff_ne, ne_eq, Bool.and_eq_true, Bool.or_eq_true, Bool.and_eq_false_iff, Bool.or_eq_false_iff, Int.not_le, Int.not_lt, Nat.not_le, Nat.not_lt] at *); (try simp only [nc] at *))
           all_goals first
             | (rw [gd_snoc _ _ _ _ hi]; cases decide (i < out.length) <;> rfl)
             | (simp; done)
             | fail)
      | (have c1 : ¬ (capS (a.spans.getD p Dat.d0) (b.spans.getD q Dat.d0)).frm < (capS (a.spans.getD p Dat.d0) (b.spans.getD q Dat.d0)).to := Int.not_lt.2 (by assumption)
         have c2 : ¬ (a.spans.getD p Dat.d0).to < (b.spans.getD q Dat.d0).to := by omega
         refine ⟨⟨p, q + 1, out, by omega, by omega, by omega, by rw [hr, bothR_drop (by omega) (by omega), if_neg c1, if_neg c2]; simp⟩, ?_, ?_, rfl, by (try dsimp only); omega⟩
         · cbv
           repeat' first | (refine Stp.mk ?_; cbv) | (refine Gen.mk fun r hr => ?_; (try simp only [Dat.ok, Dat.dec, Leaf.ok, Leaf.val, Span.eta, Set.eta, val_sl, val_nil] at hr); cbv) | exact trivial | rfl | refine Both.mk ?_ ?_ | (refine Imp.mk fun h => ?_; (try dsimp only at h); (try simp only [nc, Int.toNat_natCast, Bool.not_eq_true', Bool.not_eq_false', decide_eq_true_eq, decide_eq_false_iff_not, beq_iff_eq, beq_eq_false_iff_ne, ba_inj, bne_iff_ne, ne_eq, Bool.and_eq_true, Bool.or_eq_true, Bool.and_eq_false_iff, Bool.or_eq_false_iff, Int.not_le, Int.not_lt, Nat.not_le, Nat.not_lt] at h); (try simp only [nc] at h)) | refine Ob.mk ?_ ?_ | refine Chk.mk (by kernel_rfl) ?_ | refine Eq'.mk ?_ | (refine AllN.mk fun i hi => ?_; cbv) | (refine AllC.mk fun c hc hcm => ?_; (try dsimp only at hc); cbv) | (refine AllS.mk fun r hr => ?_; (try simp only [Dat.ok, Dat.dec, Leaf.ok, Leaf.val, Span.eta, Set.eta, val_sl] at hr); cbv)
           all_goals simp
         · cbv
           repeat' first | (refine Stp.mk ?_; cbv) | (refine Gen.mk fun r hr => ?_; (try simp only [Dat.ok, Dat.dec, Leaf.ok, Leaf.val, Span.eta, Set.eta, val_sl, val_nil] at hr); cbv) | exact trivial | rfl | refine Both.mk ?_ ?_ | (refine Imp.mk fun h => ?_; (try dsimp only at h); (try simp only [nc, Int.toNat_natCast, Bool.not_eq_true', Bool.not_eq_false', decide_eq_true_eq, decide_eq_false_iff_not, beq_iff_eq, beq_eq_false_iff_ne, ba_inj, bne_iff_ne, ne_eq, Bool.and_eq_true, Bool.or_eq_true, Bool.and_eq_false_iff, Bool.or_eq_false_iff, Int.not_le, Int.not_lt, Nat.not_le, Nat.not_lt] at h); (try simp only [nc] at h)) | refine Ob.mk ?_ ?_ | refine Chk.mk (by kernel_rfl) ?_ | refine Eq'.mk ?_ | (refine AllN.mk fun i hi => ?_; cbv) | (refine AllC.mk fun c hc hcm => ?_; (try dsimp only at hc); cbv) | (refine AllS.mk fun r hr => ?_; (try simp only [Dat.ok, Dat.dec, Leaf.ok, Leaf.val, Span.eta, Set.eta, val_sl] at hr); cbv)
           all_goals ((try dsimp only at *); (try simp only [nc, Int.toNat_natCast, Bool.not_eq_true', Bool.not_eq_false', decide_eq_true_eq, decide_eq_false_iff_not, beq_iff_eq, beq_eq_false_iff_ne, ba_inj, bne_iff_ne, ne_eq, Bool.and_eq_true, Bool.or_eq_true, Bool.and_eq_false_iff, Bool.or_eq_false_iff, Int.not_le, Int.not_lt, Nat.not_le, Nat.not_lt] at *); (try simp only [nc] at *))
           all_goals first
             | (rw [gd_snoc _ _ _ _ hi]; cases decide (i < out.length) <;> rfl)
             | (simp; done)
             | fail)
      | (have e : bothR a.spans b.spans = out := by rw [hr, bothR_nil (by first | exact .inl (drop_nil (by omega)) | exact .inr (drop_nil (by omega)))]; simp
         first
           | (show _ = (bothR a.spans b.spans).length; rw [e]; done)
           | (show _ = ((bothR a.spans b.spans).getD _ _).frm; rw [e]; done)
           | (show _ = ((bothR a.spans b.spans).getD _ _).to; rw [e]; done))
      | fail
theorem bothC_ok : PcOk Try.prog 32 (bothC_C) := fun A K h => by
  unfold bothC_C at h
  split at h
  · rename_i a b
    cases h with
    | mk h1 h2 =>
      obtain ⟨g0, g1, hp⟩ := h1
      refine FnOk.pre ?_ (A' := [.agg (Dat.enc fun _ => (Dat.dec a : Set)), .agg (Dat.enc fun _ => (Dat.dec b : Set))]) (.mk (Dat.hle _ g0) (.mk (Dat.hle _ g1) (trivial)))
      exact FnOk.out (K := fun r H _ => K r H) (bothC_vc (Dat.dec a) (Dat.dec b) hp) rfl h2.out
  · cases h
def twoV (a b : Set) : Int := if checkV a = 0 then (if checkV b = 0 then (if a.size = b.size then 0 else 1) else checkV b) else checkV a
def two_R (r : Th (Int)) : AV := .i .i64 fun _ => (r ())
def two_P (a : Set) (b : Set) : Prop := a.spans.length ≤ 9223372036854775807 ∧ b.spans.length ≤ 9223372036854775807
def two_D : Det := fun A => match A with
  | [.agg a, .agg b] => some (fun _ => Dat.ok Set a ∧ Dat.ok Set b ∧ two_P (Dat.dec a) (Dat.dec b), two_R fun _ => twoV (Dat.dec a) (Dat.dec b))
  | _ => none
noncomputable def cTwo : FuncId → Con := fun f => match f with
  | 17 => pureCon (detPC check_D)
  | _ => fun _ _ _ => Bad 1001
theorem cTwo_ok : ConOk Try.prog cTwo := fun f A H K h => by
  unfold cTwo at h
  split at h
  · exact ⟨⟨Try.f17, Try.func17, by kernel_rfl, by kernel_rfl⟩, pureCon_ok check_ok h⟩
  · cases h
set_option maxRecDepth 100000 in
set_option maxHeartbeats 4000000 in
theorem two_vc (a : Set) (b : Set) (hp : two_P a b) : FnOk Try.prog 30 [.agg (Dat.enc fun _ => a), .agg (Dat.enc fun _ => b)] [] (outA (two_R fun _ => twoV a b) []) := by
  refine fn_ok envOk zl cTwo_ok noDraws_ok (keep := [0, 1, 2, 3, 4, 6, 7, 10, 11, 12, 17, 24]) Try.func30 rfl ?_
  obtain ⟨hp1, hp2⟩ : a.spans.length ≤ 9223372036854775807 ∧ b.spans.length ≤ 9223372036854775807 := hp
  have fin : ∀ e H kl, e = twoV a b → outA (two_R fun _ => twoV a b) [] (.i .i64 fun _ => e) H kl := by
    rintro e H kl rfl
    cbv
    repeat' first | (refine Stp.mk ?_; cbv) | (refine Gen.mk fun r hr => ?_; (try simp only [Dat.ok, Dat.dec, Leaf.ok, Leaf.val, Span.eta, Set.eta, val_sl, val_nil] at hr); cbv) | exact trivial | rfl | refine Both.mk ?_ ?_ | (refine Imp.mk fun h => ?_; (try dsimp only at h); (try simp only [nc, Int.toNat_natCast, Bool.not_eq_true', Bool.not_eq_false', decide_eq_true_eq, decide_eq_false_iff_not, beq_iff_eq, beq_eq_false_iff_ne, ba_inj, bne_iff_ne, ne_eq, Bool.and_eq_true, Bool.or_eq_true, Bool.and_eq_false_iff, Bool.or_eq_false_iff, Int.not_le, Int.not_lt, Nat.not_le, Nat.not_lt] at h); (try simp only [nc] at h)) | refine Ob.mk ?_ ?_ | refine Chk.mk (by kernel_rfl) ?_ | refine Eq'.mk ?_ | (refine AllN.mk fun i hi => ?_; cbv) | (refine AllC.mk fun c hc hcm => ?_; (try dsimp only at hc); cbv) | (refine AllS.mk fun r hr => ?_; (try simp only [Dat.ok, Dat.dec, Leaf.ok, Leaf.val, Span.eta, Set.eta, val_sl] at hr); cbv)
  generalize outA (two_R fun _ => twoV a b) [] = K at fin
  cbv
  refine .un 3 ?_
  cbv
  repeat' first | (show Stp _; exfalso; first | omega | (exact h ‹_›) | (exact absurd ‹_› h) | (exact Bool.false_ne_true (h.symm.trans (show _ = true by assumption)))) | (refine Stp.mk ?_; cbv) | (refine Gen.mk fun r hr => ?_; (try simp only [Dat.ok, Dat.dec, Leaf.ok, Leaf.val, Span.eta, Set.eta, val_sl, val_nil] at hr); cbv) | exact trivial | rfl | refine Both.mk ?_ ?_ | (refine Imp.mk fun h => ?_; (try dsimp only at h); (try simp only [nc, Int.toNat_natCast, Bool.not_eq_true', Bool.not_eq_false', decide_eq_true_eq, decide_eq_false_iff_not, beq_iff_eq, beq_eq_false_iff_ne, ba_inj, bne_iff_ne, ne_eq, Bool.and_eq_true, Bool.or_eq_true, Bool.and_eq_false_iff, Bool.or_eq_false_iff, Int.not_le, Int.not_lt, Nat.not_le, Nat.not_lt] at h); (try simp only [nc] at h)) | refine Ob.mk ?_ ?_ | refine Chk.mk (by kernel_rfl) ?_ | refine Eq'.mk ?_ | (refine AllN.mk fun i hi => ?_; cbv) | (refine AllC.mk fun c hc hcm => ?_; (try dsimp only at hc); cbv) | (refine AllS.mk fun r hr => ?_; (try simp only [Dat.ok, Dat.dec, Leaf.ok, Leaf.val, Span.eta, Set.eta, val_sl] at hr); cbv)
  all_goals ((try dsimp only at *); (try simp only [nc, Int.toNat_natCast, Bool.not_eq_true', Bool.not_eq_false', decide_eq_true_eq, decide_eq_false_iff_not, beq_iff_eq, beq_eq_false_iff_ne, ba_inj, bne_iff_ne, ne_eq, Bool.and_eq_true, Bool.or_eq_true, Bool.and_eq_false_iff, Bool.or_eq_false_iff, Int.not_le, Int.not_lt, Nat.not_le, Nat.not_lt] at *); (try simp only [nc] at *))
  all_goals try simp only [Dat.ok, Dat.dec, Leaf.ok, Leaf.val, Span.eta, Set.eta, val_sl] at *
  all_goals first
    | omega
    | (unfold InR; omega)
    | exact ⟨⟨trivial, rfl, fun i _ => Dat.hok _⟩, hp1⟩
    | exact ⟨⟨trivial, rfl, fun i _ => Dat.hok _⟩, hp2⟩
    | (refine fin _ _ _ ?_
       unfold twoV
       first
         | (rw [if_neg (by assumption)]; done)
         | (rw [if_pos (by assumption), if_neg (by assumption)]; done)
         | (rw [if_pos (by assumption), if_pos (by assumption), if_neg (by assumption)]; done)
         | (rw [if_pos (by assumption), if_pos (by assumption), if_pos (by assumption)]; done))
    | fail
theorem two_ok : PcOk Try.prog 30 (detPC two_D) := det_okA fun A p r h hp0 => by
  unfold two_D at h
  split at h
  · rename_i a b
    cases h
    obtain ⟨g0, g1, hp⟩ := hp0
    exact ⟨rfl, FnOk.pre (A' := [.agg (Dat.enc fun _ => (Dat.dec a : Set)), .agg (Dat.enc fun _ => (Dat.dec b : Set))]) (two_vc (Dat.dec a) (Dat.dec b) hp) (.mk (Dat.hle _ g0) (.mk (Dat.hle _ g1) (trivial)))⟩
  · cases h
def fewV (s : Set) : Set × Int := if 200 < s.spans.length then (⟨0, []⟩, 2) else (s, 0)
def bothP (a b : Set) : Set × Int := if twoV a b = 0 then fewV (bothV a b) else (⟨0, []⟩, twoV a b)
def bothPC_R (r : Th (Set × Int)) : AV := .tup [.agg [.i .i64 fun _ => (r ()).1.size, .own 0 fun _ => (r ()).1.spans.length], .i .i64 fun _ => (r ()).2]
def bothPC_H (r : Th (Set × Int)) : Hp := [vecO 39 fun _ => (r ()).1.spans]
def bothPC_P (a : Set) (b : Set) : Prop := a.spans.length ≤ 9223372036854775807 ∧ b.spans.length ≤ 9223372036854775807
def bothPC_C : PC := fun A K => match A with
  | [.agg a, .agg b] => Ob (fun _ => Dat.ok Set a ∧ Dat.ok Set b ∧ bothPC_P (Dat.dec a) (Dat.dec b)) (Gen (α := Set × Int) (fun _ => bothP (Dat.dec a) (Dat.dec b)) fun r => K (bothPC_R fun _ => r) (bothPC_H fun _ => r))
  | _ => Bad 1002
noncomputable def cBo : FuncId → Con := fun f => match f with
  | 30 => pureCon (detPC two_D)
  | 32 => pureCon bothC_C
  | 31 => inlCon E noCon noDraws [0, 1, 2, 3, 7] Try.f31
  | _ => fun _ _ _ => Bad 1001
theorem cBo_ok : ConOk Try.prog cBo := fun f A H K h => by
  unfold cBo at h
  split at h
  · exact ⟨⟨Try.f30, Try.func30, by kernel_rfl, by kernel_rfl⟩, pureCon_ok two_ok h⟩
  · exact ⟨⟨Try.f32, Try.func32, by kernel_rfl, by kernel_rfl⟩, pureCon_ok bothC_ok h⟩
  · exact ⟨⟨Try.f31, Try.func31, by kernel_rfl, by kernel_rfl⟩, inl_ok envOk zl noCon_ok noDraws_ok Try.func31 h⟩
  · cases h
theorem two_right {a b : Set} (h : twoV a b = 0) : Right a ∧ Right b ∧ a.size = b.size := by
  unfold twoV at h
  split at h
  · rename_i h1
    split at h
    · rename_i h2
      split at h
      · exact ⟨check_iff.1 h1, check_iff.1 h2, by assumption⟩
      · cases h
    · rename_i h2; exact absurd h h2
  · rename_i h1; exact absurd h h1
set_option maxRecDepth 100000 in
set_option maxHeartbeats 4000000 in
theorem bothPC_vc (a : Set) (b : Set) (hp : bothPC_P a b) : FnOk Try.prog 18 [.agg (Dat.enc fun _ => a), .agg (Dat.enc fun _ => b)] [] (outA (bothPC_R fun _ => bothP a b) (bothPC_H fun _ => bothP a b)) := by
  refine fn_ok envOk zl cBo_ok noDraws_ok (keep := [0, 1, 2, 3, 4, 5, 6, 11]) Try.func18 rfl ?_
  obtain ⟨hp1, hp2⟩ : a.spans.length ≤ 9223372036854775807 ∧ b.spans.length ≤ 9223372036854775807 := hp
  cbv
  repeat' first | (refine Stp.mk ?_; cbv) | (refine Gen.mk fun r hr => ?_; (try simp only [Dat.ok, Dat.dec, Leaf.ok, Leaf.val, Span.eta, Set.eta, val_sl, val_nil] at hr); cbv) | exact trivial | rfl | refine Both.mk ?_ ?_ | (refine Imp.mk fun h => ?_; (try dsimp only at h); (try simp only [nc, Int.toNat_natCast, Bool.not_eq_true', Bool.not_eq_false', decide_eq_true_eq, decide_eq_false_iff_not, beq_iff_eq, beq_eq_false_iff_ne, ba_inj, bne_iff_ne, ne_eq, Bool.and_eq_true, Bool.or_eq_true, Bool.and_eq_false_iff, Bool.or_eq_false_iff, Int.not_le, Int.not_lt, Nat.not_le, Nat.not_lt] at h); (try simp only [nc] at h)) | refine Ob.mk ?_ ?_ | refine Chk.mk (by kernel_rfl) ?_ | refine Eq'.mk ?_ | (refine AllN.mk fun i hi => ?_; cbv) | (refine AllC.mk fun c hc hcm => ?_; (try dsimp only at hc); cbv) | (refine AllS.mk fun r hr => ?_; (try simp only [Dat.ok, Dat.dec, Leaf.ok, Leaf.val, Span.eta, Set.eta, val_sl] at hr); cbv)
  all_goals ((try dsimp only at *); (try simp only [nc, Int.toNat_natCast, Bool.not_eq_true', Bool.not_eq_false', decide_eq_true_eq, decide_eq_false_iff_not, beq_iff_eq, beq_eq_false_iff_ne, ba_inj, bne_iff_ne, ne_eq, Bool.and_eq_true, Bool.or_eq_true, Bool.and_eq_false_iff, Bool.or_eq_false_iff, Int.not_le, Int.not_lt, Nat.not_le, Nat.not_lt] at *); (try simp only [nc] at *))
  all_goals try simp only [Dat.ok, Dat.dec, Leaf.ok, Leaf.val, Span.eta, Set.eta, val_sl] at *
  all_goals try have hR := two_right (show twoV a b = 0 by assumption)
  all_goals try have hl1 := hR.1.len
  all_goals try have hl2 := hR.2.1.len
  all_goals first
    | exact ⟨⟨trivial, rfl, fun i _ => Dat.hok _⟩, ⟨trivial, rfl, fun i _ => Dat.hok _⟩, hp1, hp2⟩
    | exact ⟨⟨trivial, rfl, fun i _ => Dat.hok _⟩, ⟨trivial, rfl, fun i _ => Dat.hok _⟩, show a.spans.length ≤ 1000 by omega, show b.spans.length ≤ 1000 by omega⟩
    | (have e : bothP a b = (⟨0, []⟩, twoV a b) := if_neg (by assumption)
       rw [e]; done)
    | (have e : bothP a b = (⟨0, []⟩, twoV a b) := if_neg (by assumption)
       rw [e]; rfl)
    | (have hrl : 200 < ((r.spans.length : Nat) : Int) := (by assumption)
       subst hr
       have e : bothP a b = (⟨0, []⟩, 2) := by rw [bothP, if_pos (by assumption), fewV, if_pos (by omega)]
       rw [e]; done)
    | (have hrl : 200 < ((r.spans.length : Nat) : Int) := (by assumption)
       subst hr
       have e : bothP a b = (⟨0, []⟩, 2) := by rw [bothP, if_pos (by assumption), fewV, if_pos (by omega)]
       rw [e]; rfl)
    | (subst hr
       have e : bothP a b = (bothV a b, 0) := by rw [bothP, if_pos (by assumption), fewV, if_neg (by omega)]
       rw [e]; done)
    | (exfalso; omega)
    | fail
theorem bothPC_ok : PcOk Try.prog 18 (bothPC_C) := fun A K h => by
  unfold bothPC_C at h
  split at h
  · rename_i a b
    cases h with
    | mk h1 h2 =>
      obtain ⟨g0, g1, hp⟩ := h1
      refine FnOk.pre ?_ (A' := [.agg (Dat.enc fun _ => (Dat.dec a : Set)), .agg (Dat.enc fun _ => (Dat.dec b : Set))]) (.mk (Dat.hle _ g0) (.mk (Dat.hle _ g1) (trivial)))
      exact FnOk.out (K := fun r H _ => K r H) (bothPC_vc (Dat.dec a) (Dat.dec b) hp) rfl h2.out
  · cases h

end Go.Proofs.Ytkpkfkbbkcecmaa
