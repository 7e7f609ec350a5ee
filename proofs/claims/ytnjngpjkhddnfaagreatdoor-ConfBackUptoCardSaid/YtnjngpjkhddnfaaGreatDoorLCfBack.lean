/- What is written is read as it was; what is read is written, and read again as that; for all inputs. -/
import Derived.Test.YtnjngpjkhddnfaaGreatDoorConfL
import Derived.Test.YtnjngpjkhddnfaaGreatDoorConfQ
import Derived.Test.YtnjngpjkhddnfaaGreatDoorCards
import Derived.Test.YtnjngpjkhddnfaaGreatDoorTie
import Derived.Deep.DeepHandedRow
import Derived.Stop.LaidErr
import Derived.Shelf.Vars
set_option linter.all false
namespace Go.Proofs.YtnjngpjkhddnfaaGreatDoor
open Go Go.Abs

attribute [local irreducible] writeV readV judgeV
structure eqWant_X (l m : List Want) where
  k : Nat
  hk : k ≤ l.length
  hv : ∀ j, j < k → l.getD j Dat.d0 = m.getD j Dat.d0
def eqWant_R (r : Th (Bool)) : AV := .b fun _ => (r ())
def eqWant_S (l : (List Want)) (m : (List Want)) : Bool := decide (l = m)
def eqWant_P (l : (List Want)) (m : (List Want)) : Prop := l.length ≤ 9223372036854775807
def eqWant_D : Det := fun A => match A with
  | [l, m] => some (fun _ => Leaf.ok (List Want) l ∧ Leaf.ok (List Want) m ∧ eqWant_P (Leaf.val l) (Leaf.val m), eqWant_R fun _ => eqWant_S (Leaf.val l) (Leaf.val m))
  | _ => none
set_option maxRecDepth 100000 in
set_option maxHeartbeats 4000000 in
theorem eqWant_vc (l : (List Want)) (m : (List Want)) (hp : eqWant_P l m) : FnOk Tryz.prog 11 [Leaf.av fun _ => l, Leaf.av fun _ => m] [] (outA (eqWant_R fun _ => eqWant_S l m) []) := by
  refine fn_ok envOk zl noCon_ok (draws_ok envOk zl noDet_ok mixed) (keep := [0, 1, 4, 5, 10, 12, 13, 14, 24]) Tryz.func11 rfl ?_
  have hp' : l.length ≤ 9223372036854775807 := hp
  have fin : ∀ (b : Bool) H kl, b = decide (l = m) → outA (eqWant_R fun _ => eqWant_S l m) [] (.bc b) H kl := by
    rintro b H kl rfl
    cbv
    repeat' first | (refine Stp.mk ?_; cbv) | (refine Gen.mk fun r hr => ?_; (try simp only [Dat.ok, Dat.dec, Leaf.ok, Leaf.val, Z0, Z1, Z2, Z3, Z4, Z5, Z6, Z7, val_sl, val_nil] at hr); cbv) | exact trivial | rfl | refine Both.mk ?_ ?_ | (refine Imp.mk fun h => ?_; (try dsimp only at h); (try simp only [nc, Int.toNat_natCast, ne_eq, zz] at h); (try simp only [nc] at h)) | refine Ob.mk ?_ ?_ | refine Chk.mk (by kernel_rfl) ?_ | refine Eq'.mk ?_ | (refine AllN.mk fun i hi => ?_; cbv) | (refine AllC.mk fun c hc hcm => ?_; (try dsimp only at hc); cbv) | (refine AllS.mk fun r hr => ?_; (try simp only [Dat.ok, Dat.dec, Leaf.ok, Leaf.val, Z0, Z1, Z2, Z3, Z4, Z5, Z6, Z7, val_sl] at hr); cbv)
  generalize outA (eqWant_R fun _ => eqWant_S l m) [] = K at fin
  cbv
  refine Both.mk (Imp.mk fun h1 => ?_) (Imp.mk fun h1 => ?_)
  all_goals (refine Stp.mk ?_; cbv; (try dsimp only at h1); (try simp only [nc, Int.toNat_natCast, ne_eq, zz] at h1); (try simp only [nc] at h1))
  · refine fin _ _ _ ?_
    exact (decide_eq_false (fun h => by subst h; omega)).symm
  · have hlen : l.length = m.length := by omega
    refine LoopVC.frame [4, 5, 13, 14, 24] (eqWant_X l m) (fun x => [(13, .i .i64 fun _ => x.k)]) (fun _ => []) [] (fun x => l.length - x.k)
      ⟨0, Nat.zero_le _, fun j hj => absurd hj (Nat.not_lt_zero _)⟩ rfl (fun _ => rfl) ?_ ?_ fun ⟨k, hk, hv⟩ => ?_
    · cbv
      repeat' first | (refine Stp.mk ?_; cbv) | (refine Gen.mk fun r hr => ?_; (try simp only [Dat.ok, Dat.dec, Leaf.ok, Leaf.val, Z0, Z1, Z2, Z3, Z4, Z5, Z6, Z7, val_sl, val_nil] at hr); cbv) | exact trivial | rfl | refine Both.mk ?_ ?_ | (refine Imp.mk fun h => ?_; (try dsimp only at h); (try simp only [nc, Int.toNat_natCast, ne_eq, zz] at h); (try simp only [nc] at h)) | refine Ob.mk ?_ ?_ | refine Chk.mk (by kernel_rfl) ?_ | refine Eq'.mk ?_ | (refine AllN.mk fun i hi => ?_; cbv) | (refine AllC.mk fun c hc hcm => ?_; (try dsimp only at hc); cbv) | (refine AllS.mk fun r hr => ?_; (try simp only [Dat.ok, Dat.dec, Leaf.ok, Leaf.val, Z0, Z1, Z2, Z3, Z4, Z5, Z6, Z7, val_sl] at hr); cbv)
    · cbv
    · cbv
      repeat' first | (refine Stp.mk ?_; cbv) | (refine Gen.mk fun r hr => ?_; (try simp only [Dat.ok, Dat.dec, Leaf.ok, Leaf.val, Z0, Z1, Z2, Z3, Z4, Z5, Z6, Z7, val_sl, val_nil] at hr); cbv) | exact trivial | rfl | refine Both.mk ?_ ?_ | (refine Imp.mk fun h => ?_; (try dsimp only at h); (try simp only [nc, Int.toNat_natCast, ne_eq, zz] at h); (try simp only [nc] at h)) | refine Ob.mk ?_ ?_ | refine Chk.mk (by kernel_rfl) ?_ | refine Eq'.mk ?_ | (refine AllN.mk fun i hi => ?_; cbv) | (refine AllC.mk fun c hc hcm => ?_; (try dsimp only at hc); cbv) | (refine AllS.mk fun r hr => ?_; (try simp only [Dat.ok, Dat.dec, Leaf.ok, Leaf.val, Z0, Z1, Z2, Z3, Z4, Z5, Z6, Z7, val_sl] at hr); cbv)
      all_goals ((try dsimp only at *); (try simp only [nc, Int.toNat_natCast, ne_eq, zz] at *); (try simp only [nc] at *))
      all_goals first
        | omega
        | (unfold InR; omega)
        | (refine fin _ _ _ (decide_eq_true ?_).symm
           apply List.ext_getElem hlen
           intro i h1 h2
           have := hv i (by omega)
           simpa [h1, h2] using this)
        | (refine fin _ _ _ (decide_eq_false fun h => ?_).symm
           subst h
           simp_all; done)
        | skip
      all_goals (
        refine ⟨⟨k + 1, by omega, fun j hj => ?_⟩, ?_, trivial, rfl, by (try dsimp only); omega⟩
        · rcases Nat.lt_succ_iff_lt_or_eq.1 hj with hj | rfl
          · exact hv j hj
          · first | assumption | (generalize l.getD j Dat.d0 = a at *; generalize m.getD j Dat.d0 = b at *; cases a; cases b; simp_all; done)
        · cbv
          repeat' first | (refine Stp.mk ?_; cbv) | (refine Gen.mk fun r hr => ?_; (try simp only [Dat.ok, Dat.dec, Leaf.ok, Leaf.val, Z0, Z1, Z2, Z3, Z4, Z5, Z6, Z7, val_sl, val_nil] at hr); cbv) | exact trivial | rfl | refine Both.mk ?_ ?_ | (refine Imp.mk fun h => ?_; (try dsimp only at h); (try simp only [nc, Int.toNat_natCast, ne_eq, zz] at h); (try simp only [nc] at h)) | refine Ob.mk ?_ ?_ | refine Chk.mk (by kernel_rfl) ?_ | refine Eq'.mk ?_ | (refine AllN.mk fun i hi => ?_; cbv) | (refine AllC.mk fun c hc hcm => ?_; (try dsimp only at hc); cbv) | (refine AllS.mk fun r hr => ?_; (try simp only [Dat.ok, Dat.dec, Leaf.ok, Leaf.val, Z0, Z1, Z2, Z3, Z4, Z5, Z6, Z7, val_sl] at hr); cbv))
theorem eqWant_ok : PcOk Tryz.prog 11 (detPC eqWant_D) := det_okA fun A p r h hp0 => by
  unfold eqWant_D at h
  split at h
  · rename_i l m
    cases h
    obtain ⟨g0, g1, hp⟩ := hp0
    exact ⟨rfl, FnOk.pre (A' := [Leaf.av fun _ => (Leaf.val l : (List Want)), Leaf.av fun _ => (Leaf.val m : (List Want))]) (eqWant_vc (Leaf.val l) (Leaf.val m) hp) (.mk (Leaf.hle _ g0) (.mk (Leaf.hle _ g1) (trivial)))⟩
  · cases h
structure eqJob_X (l m : List PlanJob) where
  k : Nat
  hk : k ≤ l.length
  hv : ∀ j, j < k → l.getD j Dat.d0 = m.getD j Dat.d0
def eqJob_R (r : Th (Bool)) : AV := .b fun _ => (r ())
def eqJob_S (l : (List PlanJob)) (m : (List PlanJob)) : Bool := decide (l = m)
def eqJob_P (l : (List PlanJob)) (m : (List PlanJob)) : Prop := l.length ≤ 9223372036854775807
def eqJob_D : Det := fun A => match A with
  | [l, m] => some (fun _ => Leaf.ok (List PlanJob) l ∧ Leaf.ok (List PlanJob) m ∧ eqJob_P (Leaf.val l) (Leaf.val m), eqJob_R fun _ => eqJob_S (Leaf.val l) (Leaf.val m))
  | _ => none
set_option maxRecDepth 100000 in
set_option maxHeartbeats 4000000 in
theorem eqJob_vc (l : (List PlanJob)) (m : (List PlanJob)) (hp : eqJob_P l m) : FnOk Tryz.prog 12 [Leaf.av fun _ => l, Leaf.av fun _ => m] [] (outA (eqJob_R fun _ => eqJob_S l m) []) := by
  refine fn_ok envOk zl noCon_ok (draws_ok envOk zl noDet_ok mixed) (keep := [0, 1, 4, 5, 10, 12, 13, 14, 24]) Tryz.func12 rfl ?_
  have hp' : l.length ≤ 9223372036854775807 := hp
  have fin : ∀ (b : Bool) H kl, b = decide (l = m) → outA (eqJob_R fun _ => eqJob_S l m) [] (.bc b) H kl := by
    rintro b H kl rfl
    cbv
    repeat' first | (refine Stp.mk ?_; cbv) | (refine Gen.mk fun r hr => ?_; (try simp only [Dat.ok, Dat.dec, Leaf.ok, Leaf.val, Z0, Z1, Z2, Z3, Z4, Z5, Z6, Z7, val_sl, val_nil] at hr); cbv) | exact trivial | rfl | refine Both.mk ?_ ?_ | (refine Imp.mk fun h => ?_; (try dsimp only at h); (try simp only [nc, Int.toNat_natCast, ne_eq, zz] at h); (try simp only [nc] at h)) | refine Ob.mk ?_ ?_ | refine Chk.mk (by kernel_rfl) ?_ | refine Eq'.mk ?_ | (refine AllN.mk fun i hi => ?_; cbv) | (refine AllC.mk fun c hc hcm => ?_; (try dsimp only at hc); cbv) | (refine AllS.mk fun r hr => ?_; (try simp only [Dat.ok, Dat.dec, Leaf.ok, Leaf.val, Z0, Z1, Z2, Z3, Z4, Z5, Z6, Z7, val_sl] at hr); cbv)
  generalize outA (eqJob_R fun _ => eqJob_S l m) [] = K at fin
  cbv
  refine Both.mk (Imp.mk fun h1 => ?_) (Imp.mk fun h1 => ?_)
  all_goals (refine Stp.mk ?_; cbv; (try dsimp only at h1); (try simp only [nc, Int.toNat_natCast, ne_eq, zz] at h1); (try simp only [nc] at h1))
  · refine fin _ _ _ ?_
    exact (decide_eq_false (fun h => by subst h; omega)).symm
  · have hlen : l.length = m.length := by omega
    refine LoopVC.frame [4, 5, 13, 14, 24] (eqJob_X l m) (fun x => [(13, .i .i64 fun _ => x.k)]) (fun _ => []) [] (fun x => l.length - x.k)
      ⟨0, Nat.zero_le _, fun j hj => absurd hj (Nat.not_lt_zero _)⟩ rfl (fun _ => rfl) ?_ ?_ fun ⟨k, hk, hv⟩ => ?_
    · cbv
      repeat' first | (refine Stp.mk ?_; cbv) | (refine Gen.mk fun r hr => ?_; (try simp only [Dat.ok, Dat.dec, Leaf.ok, Leaf.val, Z0, Z1, Z2, Z3, Z4, Z5, Z6, Z7, val_sl, val_nil] at hr); cbv) | exact trivial | rfl | refine Both.mk ?_ ?_ | (refine Imp.mk fun h => ?_; (try dsimp only at h); (try simp only [nc, Int.toNat_natCast, ne_eq, zz] at h); (try simp only [nc] at h)) | refine Ob.mk ?_ ?_ | refine Chk.mk (by kernel_rfl) ?_ | refine Eq'.mk ?_ | (refine AllN.mk fun i hi => ?_; cbv) | (refine AllC.mk fun c hc hcm => ?_; (try dsimp only at hc); cbv) | (refine AllS.mk fun r hr => ?_; (try simp only [Dat.ok, Dat.dec, Leaf.ok, Leaf.val, Z0, Z1, Z2, Z3, Z4, Z5, Z6, Z7, val_sl] at hr); cbv)
    · cbv
    · cbv
      repeat' first | (refine Stp.mk ?_; cbv) | (refine Gen.mk fun r hr => ?_; (try simp only [Dat.ok, Dat.dec, Leaf.ok, Leaf.val, Z0, Z1, Z2, Z3, Z4, Z5, Z6, Z7, val_sl, val_nil] at hr); cbv) | exact trivial | rfl | refine Both.mk ?_ ?_ | (refine Imp.mk fun h => ?_; (try dsimp only at h); (try simp only [nc, Int.toNat_natCast, ne_eq, zz] at h); (try simp only [nc] at h)) | refine Ob.mk ?_ ?_ | refine Chk.mk (by kernel_rfl) ?_ | refine Eq'.mk ?_ | (refine AllN.mk fun i hi => ?_; cbv) | (refine AllC.mk fun c hc hcm => ?_; (try dsimp only at hc); cbv) | (refine AllS.mk fun r hr => ?_; (try simp only [Dat.ok, Dat.dec, Leaf.ok, Leaf.val, Z0, Z1, Z2, Z3, Z4, Z5, Z6, Z7, val_sl] at hr); cbv)
      all_goals ((try dsimp only at *); (try simp only [nc, Int.toNat_natCast, ne_eq, zz] at *); (try simp only [nc] at *))
      all_goals first
        | omega
        | (unfold InR; omega)
        | (refine fin _ _ _ (decide_eq_true ?_).symm
           apply List.ext_getElem hlen
           intro i h1 h2
           have := hv i (by omega)
           simpa [h1, h2] using this)
        | (refine fin _ _ _ (decide_eq_false fun h => ?_).symm
           subst h
           simp_all; done)
        | skip
      all_goals (
        refine ⟨⟨k + 1, by omega, fun j hj => ?_⟩, ?_, trivial, rfl, by (try dsimp only); omega⟩
        · rcases Nat.lt_succ_iff_lt_or_eq.1 hj with hj | rfl
          · exact hv j hj
          · first | assumption | (generalize l.getD j Dat.d0 = a at *; generalize m.getD j Dat.d0 = b at *; cases a; cases b; simp_all; done) | (generalize l.getD j Dat.d0 = a at *; generalize m.getD j Dat.d0 = b at *; obtain ⟨x1, ⟨x2, x3, x4⟩⟩ := a; obtain ⟨y1, ⟨y2, y3, y4⟩⟩ := b; simp_all; done)
        · cbv
          repeat' first | (refine Stp.mk ?_; cbv) | (refine Gen.mk fun r hr => ?_; (try simp only [Dat.ok, Dat.dec, Leaf.ok, Leaf.val, Z0, Z1, Z2, Z3, Z4, Z5, Z6, Z7, val_sl, val_nil] at hr); cbv) | exact trivial | rfl | refine Both.mk ?_ ?_ | (refine Imp.mk fun h => ?_; (try dsimp only at h); (try simp only [nc, Int.toNat_natCast, ne_eq, zz] at h); (try simp only [nc] at h)) | refine Ob.mk ?_ ?_ | refine Chk.mk (by kernel_rfl) ?_ | refine Eq'.mk ?_ | (refine AllN.mk fun i hi => ?_; cbv) | (refine AllC.mk fun c hc hcm => ?_; (try dsimp only at hc); cbv) | (refine AllS.mk fun r hr => ?_; (try simp only [Dat.ok, Dat.dec, Leaf.ok, Leaf.val, Z0, Z1, Z2, Z3, Z4, Z5, Z6, Z7, val_sl] at hr); cbv))
theorem eqJob_ok : PcOk Tryz.prog 12 (detPC eqJob_D) := det_okA fun A p r h hp0 => by
  unfold eqJob_D at h
  split at h
  · rename_i l m
    cases h
    obtain ⟨g0, g1, hp⟩ := hp0
    exact ⟨rfl, FnOk.pre (A' := [Leaf.av fun _ => (Leaf.val l : (List PlanJob)), Leaf.av fun _ => (Leaf.val m : (List PlanJob))]) (eqJob_vc (Leaf.val l) (Leaf.val m) hp) (.mk (Leaf.hle _ g0) (.mk (Leaf.hle _ g1) (trivial)))⟩
  · cases h
noncomputable def cSp : FuncId → Con := fun f => match f with
  | 11 => pureCon (detPC eqWant_D)
  | 12 => pureCon (detPC eqJob_D)
  | _ => fun _ _ _ => Bad 1001
theorem cSp_ok : ConOk Tryz.prog cSp := fun f A H K h => by
  unfold cSp at h
  split at h
  · exact ⟨⟨Tryz.f11, Tryz.func11, by kernel_rfl, by kernel_rfl⟩, pureCon_ok eqWant_ok h⟩
  · exact ⟨⟨Tryz.f12, Tryz.func12, by kernel_rfl, by kernel_rfl⟩, pureCon_ok eqJob_ok h⟩
  · cases h
def dSp : FuncId → Option Dt := fun f => match f with
  | 11 => some (.c eqWant_D)
  | 12 => some (.c eqJob_D)
  | _ => none
theorem dSp_ok : DetOk Tryz.prog dSp := fun f d h => by
  unfold dSp at h
  split at h
  · cases h; exact ⟨⟨Tryz.f11, Tryz.func11, by kernel_rfl, by kernel_rfl⟩, eqWant_ok⟩
  · cases h; exact ⟨⟨Tryz.f12, Tryz.func12, by kernel_rfl, by kernel_rfl⟩, eqJob_ok⟩
  · cases h
def sameC_R (r : Th (Bool)) : AV := .b fun _ => (r ())
def sameC_S (p : Plan) (q : Plan) : Bool := decide (p = q)
def sameC_P (p : Plan) (q : Plan) : Prop := p.wants.length ≤ 9223372036854775807 ∧ p.jobs.length ≤ 9223372036854775807 ∧ q.wants.length ≤ 9223372036854775807 ∧ q.jobs.length ≤ 9223372036854775807
def sameC_D : Det := fun A => match A with
  | [.agg p, .agg q] => some (fun _ => Dat.ok Plan p ∧ Dat.ok Plan q ∧ sameC_P (Dat.dec p) (Dat.dec q), sameC_R fun _ => sameC_S (Dat.dec p) (Dat.dec q))
  | _ => none
set_option maxRecDepth 100000 in
set_option maxHeartbeats 4000000 in
theorem sameC_vc (p : Plan) (q : Plan) (hp : sameC_P p q) : FnOk Tryz.prog 18 [.agg (Dat.enc fun _ => p), .agg (Dat.enc fun _ => q)] [] (outA (sameC_R fun _ => sameC_S p q) []) := by
  refine fn_ok envOk zl cSp_ok (draws_ok envOk zl dSp_ok mixed) (keep := [0, 1, 2, 3, 4]) Tryz.func18 rfl ?_
  obtain ⟨hp1, hp2, hp3, hp4⟩ : p.wants.length ≤ 9223372036854775807 ∧ p.jobs.length ≤ 9223372036854775807 ∧ q.wants.length ≤ 9223372036854775807 ∧ q.jobs.length ≤ 9223372036854775807 := hp
  cbv
  repeat' first | (show Stp _; exfalso; first | omega | (exact h ‹_›) | (exact absurd ‹_› h) | (exact Bool.false_ne_true (h.symm.trans (show _ = true by assumption)))) | (refine Stp.mk ?_; cbv) | (refine Gen.mk fun r hr => ?_; (try simp only [Dat.ok, Dat.dec, Leaf.ok, Leaf.val, Z0, Z1, Z2, Z3, Z4, Z5, Z6, Z7, val_sl, val_nil] at hr); cbv) | exact trivial | rfl | refine Both.mk ?_ ?_ | (refine Imp.mk fun h => ?_; (try dsimp only at h); (try simp only [nc, Int.toNat_natCast, ne_eq, zz] at h); (try simp only [nc] at h)) | refine Ob.mk ?_ ?_ | refine Chk.mk (by kernel_rfl) ?_ | refine Eq'.mk ?_ | (refine AllN.mk fun i hi => ?_; cbv) | (refine AllC.mk fun c hc hcm => ?_; (try dsimp only at hc); cbv) | (refine AllS.mk fun r hr => ?_; (try simp only [Dat.ok, Dat.dec, Leaf.ok, Leaf.val, Z0, Z1, Z2, Z3, Z4, Z5, Z6, Z7, val_sl] at hr); cbv)
  all_goals ((try dsimp only at *); (try simp only [nc, Int.toNat_natCast, ne_eq, zz] at *); (try simp only [nc] at *))
  all_goals try simp only [Dat.dec, Leaf.val, Z0, Z1, Z2, Z3, Z4, Z5, Z6, Z7, val_sl] at *
  all_goals first
    | exact ⟨⟨rfl, fun i _ => Dat.hok _⟩, ⟨rfl, fun i _ => Dat.hok _⟩, hp1⟩
    | exact ⟨⟨rfl, fun i _ => Dat.hok _⟩, ⟨rfl, fun i _ => Dat.hok _⟩, hp2⟩
    | (show _ = decide (p = q)
       obtain ⟨pf, pw, pj⟩ := p
       obtain ⟨qf, qw, qj⟩ := q
       dsimp only at *
       have hf : pf = qf := by assumption
       have hw : eqWant_S pw qw = true := by assumption
       have hw : pw = qw := of_decide_eq_true hw
       subst hf hw
       show decide (pj = qj) = _
       exact decide_eq_decide.2 ⟨fun h => by rw [h], fun h => by injection h⟩)
    | (show false = decide (p = q)
       refine (decide_eq_false fun h => ?_).symm
       subst h
       first
         | exact absurd rfl (by assumption)
         | exact absurd ((by assumption : eqWant_S p.wants p.wants = false).symm.trans (decide_eq_true rfl)) (by decide))
    | fail
theorem sameC_ok : PcOk Tryz.prog 18 (detPC sameC_D) := det_okA fun A p r h hp0 => by
  unfold sameC_D at h
  split at h
  · rename_i p q
    cases h
    obtain ⟨g0, g1, hp⟩ := hp0
    exact ⟨rfl, FnOk.pre (A' := [.agg (Dat.enc fun _ => (Dat.dec p : Plan)), .agg (Dat.enc fun _ => (Dat.dec q : Plan))]) (sameC_vc (Dat.dec p) (Dat.dec q) hp) (.mk (Dat.hle _ g0) (.mk (Dat.hle _ g1) (trivial)))⟩
  · cases h
theorem write_is {p : Plan} (h : (writeV p).2 = 0) : pchkV p = 0 ∧ (writeV p).1 = textP p := by
  unfold writeV at h ⊢
  split
  · rename_i c; exact ⟨c, rfl⟩
  · rename_i c; rw [if_neg c] at h; exact absurd h c
theorem write_at {p : Plan} (h : pchkV p = 0) : writeV p = (textP p, 0) := by
  unfold writeV; rw [if_pos h]
theorem back_eq {p : Plan} (h : (writeV p).2 = 0) : readV (writeV p).1 = (p, 0, 0) := by
  rw [(write_is h).2]; exact read_text (write_is h).1
theorem read_len (s : ByteArray) : (readV s).1.wants.length ≤ 9223372036854775807 ∧ (readV s).1.jobs.length ≤ 9223372036854775807 := by
  by_cases h : (readV s).2.2 = 0
  · have := pchk_iff.1 (rd_ok h).1
    omega
  · have e : (readV s).1 = plan0 := by
      rcases rd_cases s with ⟨-, e⟩ | ⟨r1, -, e⟩ | ⟨a, x, b, r1, -, -, -, e⟩
      · rw [e]
      · rw [e] at h ⊢
        unfold endS at h ⊢
        split
        · rfl
        · split
          · rename_i c d; rw [if_neg c, if_pos d] at h; exact absurd rfl h
          · rfl
      · rw [e]
    rw [e]; exact ⟨by decide, by decide⟩
noncomputable def cBk : FuncId → Con := fun f => match f with
  | 16 => pureCon (detPC writeC_D)
  | 17 => pureCon readC_C
  | 18 => pureCon (detPC sameC_D)
  | 10 => pureCon (detPC clives_D)
  | _ => fun _ _ _ => Bad 1001
theorem cBk_ok : ConOk Tryz.prog cBk := fun f A H K h => by
  unfold cBk at h
  split at h
  · exact ⟨⟨Tryz.f16, Tryz.func16, by kernel_rfl, by kernel_rfl⟩, pureCon_ok writeC_ok h⟩
  · exact ⟨⟨Tryz.f17, Tryz.func17, by kernel_rfl, by kernel_rfl⟩, pureCon_ok readC_ok h⟩
  · exact ⟨⟨Tryz.f18, Tryz.func18, by kernel_rfl, by kernel_rfl⟩, pureCon_ok sameC_ok h⟩
  · exact ⟨⟨Tryz.f10, Tryz.func10, by kernel_rfl, by kernel_rfl⟩, pureCon_ok clives_ok h⟩
  · cases h
def dBk : FuncId → Option Dt := fun f => match f with
  | 18 => some (.c sameC_D)
  | 10 => some (.c clives_D)
  | _ => none
theorem dBk_ok : DetOk Tryz.prog dBk := fun f d h => by
  unfold dBk at h
  split at h
  · cases h; exact ⟨⟨Tryz.f18, Tryz.func18, by kernel_rfl, by kernel_rfl⟩, sameC_ok⟩
  · cases h; exact ⟨⟨Tryz.f10, Tryz.func10, by kernel_rfl, by kernel_rfl⟩, clives_ok⟩
  · cases h
set_option maxRecDepth 100000 in
set_option maxHeartbeats 4000000 in
theorem cfback_vc (p : Plan) (s : ByteArray) (fit_p : Siz.fit p) (fit_s : Siz.fit s) (hB : Siz.bulk p + Siz.bulk s ≤ 1048576) : FnOk Tryz.prog 5 [.agg (Dat.enc fun _ => p), .s fun _ => s] [] (outA (.bc true) []) := by
  refine fn_ok envOk zl cBk_ok (draws_ok envOk zl dBk_ok mixed) (keep := [0, 1, 2, 4, 5, 6, 7, 9, 10, 11, 12, 13, 14, 15, 17, 24, 38, 57]) Tryz.func5 rfl ?_
  have fin := @fin_b
  have finc := @fin_t
  have e40 : maxLen ≤ 9223372036854775807 := by unfold maxLen; decide
  generalize outA (.bc true) [] = K at fin finc
  cbv
  repeat' first | (show Stp _; exfalso; first | omega | (exact h ‹_›) | (exact absurd ‹_› h) | (exact Bool.false_ne_true (h.symm.trans (show _ = true by assumption)))) | (refine Stp.mk ?_; cbv) | (refine Gen.mk fun r hr => ?_; (try simp only [Dat.ok, Dat.dec, Leaf.ok, Leaf.val, Z0, Z1, Z2, Z3, Z4, Z5, Z6, Z7, val_sl, val_nil] at hr); cbv) | exact trivial | rfl | refine Both.mk ?_ ?_ | (refine Imp.mk fun h => ?_; (try dsimp only at h); (try simp only [nc, Int.toNat_natCast, ne_eq, zz] at h); (try simp only [nc] at h)) | refine Ob.mk ?_ ?_ | refine Chk.mk (by kernel_rfl) ?_ | refine Eq'.mk ?_ | (refine AllN.mk fun i hi => ?_; cbv) | (refine AllC.mk fun c hc hcm => ?_; (try dsimp only at hc); cbv) | (refine AllS.mk fun r hr => ?_; (try simp only [Dat.ok, Dat.dec, Leaf.ok, Leaf.val, Z0, Z1, Z2, Z3, Z4, Z5, Z6, Z7, val_sl] at hr); cbv)
  all_goals ((try dsimp only at *); (try simp only [nc, Int.toNat_natCast, ne_eq, zz] at *); (try simp only [nc] at *))
  all_goals try simp only [Dat.dec, Leaf.val, Z0, Z1, Z2, Z3, Z4, Z5, Z6, Z7, val_sl] at *
  all_goals try subst_vars
  all_goals have b1 := @back_eq p
  all_goals have b2 := @rd_ok s
  all_goals have b3 := @rd_not s
  all_goals have b4 := read_len s
  all_goals have b5 := @write_at (readV s).1
  all_goals have b6 := @back_eq (readV s).1
  all_goals try have e1 := b1 (by assumption)
  all_goals try have e2 := (b2 (by assumption)).1
  all_goals try have e3 := b5 e2
  all_goals try have e4 := b6 (congrArg Prod.snd e3)
  all_goals try simp only [e1] at *
  all_goals try simp only [e4] at *
  all_goals have pl : p.wants.length ≤ 9223372036854775807 ∧ p.jobs.length ≤ 9223372036854775807 := ⟨Nat.le_trans fit_p.2.1.1 e40, Nat.le_trans fit_p.2.2.1 e40⟩
  all_goals first
    | exact Nat.le_refl _
    | exact finc
    | exact ⟨⟨trivial, ⟨rfl, fun i _ => Dat.hok _⟩, rfl, fun i _ => Dat.hok _⟩, pl⟩
    | exact ⟨⟨trivial, ⟨rfl, fun i _ => Dat.hok _⟩, rfl, fun i _ => Dat.hok _⟩, b4⟩
    | exact ⟨⟨trivial, ⟨rfl, fun i _ => Dat.hok _⟩, rfl, fun i _ => Dat.hok _⟩, ⟨trivial, ⟨rfl, fun i _ => Dat.hok _⟩, rfl, fun i _ => Dat.hok _⟩, pl.1, pl.2, pl.1, pl.2⟩
    | exact ⟨⟨trivial, ⟨rfl, fun i _ => Dat.hok _⟩, rfl, fun i _ => Dat.hok _⟩, ⟨trivial, ⟨rfl, fun i _ => Dat.hok _⟩, rfl, fun i _ => Dat.hok _⟩, b4.1, b4.2, b4.1, b4.2⟩
    | (refine fin ?_
       exact decide_eq_true rfl)
    | (refine fin ?_
       have q : (readV s).2.2 = 10 := Decidable.byContradiction fun q => absurd (b3 q) (by assumption)
       show ((readV s).2.2 == 10) = true
       rw [q]; rfl)
    | (exfalso; omega)
    | exact absurd trivial (by assumption)
    | (exfalso; exact absurd ((by assumption : sameC_S p p = false).symm.trans (decide_eq_true rfl)) (by decide))
    | (exfalso; exact absurd (congrArg Prod.snd e3) (by assumption))
    | fail
section
open Go.ChangeShapes Go.WideShapes Go.ChangeAt Go.RowKit Go.Joins Go.Deep
set_option linter.unusedVariables false
theorem cfback_own : ownKnob Tryz.prog.godebug = none := by kernel_rfl
theorem cfback_tab3 {W : World} (h : laidMetH Tryz.prog Rows.confBackUptoRow.laid W) : Lib.TabIs Tryz.prog W "internal/strconv.uint64pow10" .u64 Lib.pow10Tab := by
  have h2 : laidMet Tryz.prog (Rows.confBackUptoRow.laid.drop 2) W := laidMet.tail (laidMet.tail (h))
  have hT : (Tryz.prog.globals[3]?).map (·.type) = some 198 := by kernel_rfl
  have hz : Lib.pow10Tab = [1, 10, 100, 1000, 10000, 100000, 1000000, 10000000, 100000000, 1000000000, 10000000000, 100000000000, 1000000000000, 10000000000000, 100000000000000, 1000000000000000, 10000000000000000, 100000000000000000, 1000000000000000000, 10000000000000000000] := by decide +kernel
  rw [hz]
  exact Lib.tabIs_of_head (n := 20) (e := 128) (by kernel_rfl) hT (by kernel_rfl) (by kernel_rfl) (by kernel_rfl) (by kernel_rfl) h2
theorem cfback_dom {W : World} (h : laidMetH Tryz.prog Rows.confBackUptoRow.laid W) (hsh : W.ShapedOpen Tryz.prog) : Dom W fun _ => False := by
  have ht := cfback_tab3 h
  have vlt : ∀ {n : String} {g : Nat} {cs : Array Value}, Tryz.prog.globalNamed n = some g → W.var? Tryz.prog n = some cs → g < W.heap.size := fun {n g cs} hg hv => by
    unfold World.var? at hv
    rw [hg] at hv
    rcases Nat.lt_or_ge g W.heap.size with q | q
    · exact q
    · simp [Array.getElem?_eq_none q] at hv
  have clt : ∀ {a : Addr} {v : Value}, W.cell? a = some v → a.block < W.heap.size := fun {a v} hv => by
    rcases Nat.lt_or_ge a.block W.heap.size with q | q
    · exact q
    · simp [World.cell?, Array.getElem?_eq_none q] at hv
  have h0 := cell_of_shapedOpen_int (P := Tryz.prog) (g := 0) (t := 3) (zero := #[.int .i64 0]) (k := .i64) hsh (of_decide_eq_true (by kernel_rfl)) (by kernel_rfl) rfl (by kernel_rfl) (by kernel_rfl) (by kernel_rfl)
  have g1 : laidMet Tryz.prog (Rows.confBackUptoRow.laid.drop 5) W := laidMet.tail (laidMet.tail (laidMet.tail (laidMet.tail (laidMet.tail (h)))))
  have h1 : ∃ t p, W.var? Tryz.prog "strconv.ErrSyntax" = some #[.iface t p] := by
    have st : "*" ++ "errors.errorString" = "*errors.errorString" := by decide
    have hr : ∀ u, Tryz.prog.typeName? 3 u = some "*errors.errorString" → u = 206 := fun u hu => typeName_ptr_named (nm := "errors.errorString") (by rw [st]; kernel_rfl) (by kernel_rfl) (by decide) u (by rw [st]; exact hu)
    obtain ⟨a, _, h1, _⟩ := laid_sentinel (g := 4) (ti := 86) (tp := 206) (te := 208) (ts := 9) (ms := #[("Error", 89)]) g1 (by kernel_rfl) (by kernel_rfl) Tryz.underlying86 hr Tryz.underlying206 Tryz.underlying208 rfl rfl (by kernel_rfl) (by kernel_rfl) (by kernel_rfl)
    exact ⟨_, _, h1⟩
  have g2 : laidMet Tryz.prog (Rows.confBackUptoRow.laid.drop 4) W := laidMet.tail (laidMet.tail (laidMet.tail (laidMet.tail (h))))
  have h2 : ∃ t p, W.var? Tryz.prog "strconv.ErrRange" = some #[.iface t p] := by
    have st : "*" ++ "errors.errorString" = "*errors.errorString" := by decide
    have hr : ∀ u, Tryz.prog.typeName? 3 u = some "*errors.errorString" → u = 206 := fun u hu => typeName_ptr_named (nm := "errors.errorString") (by rw [st]; kernel_rfl) (by kernel_rfl) (by decide) u (by rw [st]; exact hu)
    obtain ⟨a, _, h1, _⟩ := laid_sentinel (g := 5) (ti := 86) (tp := 206) (te := 208) (ts := 9) (ms := #[("Error", 89)]) g2 (by kernel_rfl) (by kernel_rfl) Tryz.underlying86 hr Tryz.underlying206 Tryz.underlying208 rfl rfl (by kernel_rfl) (by kernel_rfl) (by kernel_rfl)
    exact ⟨_, _, h1⟩
  have l3 : 3 < W.heap.size := by
    have hv := ht
    unfold Lib.TabIs World.var? at hv
    rw [show Tryz.prog.globalNamed "internal/strconv.uint64pow10" = some 3 by kernel_rfl] at hv
    rcases Nat.lt_or_ge 3 W.heap.size with q | q
    · exact q
    · simp [Array.getElem?_eq_none q] at hv
  have m0 : 0 < W.heap.size := clt h0.choose_spec
  have m1 : 4 < W.heap.size := (by obtain ⟨t, p, e⟩ := h1; exact vlt (g := 4) (by kernel_rfl) e)
  have m2 : 5 < W.heap.size := (by obtain ⟨t, p, e⟩ := h2; exact vlt (g := 5) (by kernel_rfl) e)
  refine ⟨fun _ h => h.elim, fun g hg => ⟨?_, fun h => h⟩, ht, h0, h1, h2⟩
  simp [Kd.tl, kdI] at hg
  rcases hg with rfl | rfl | rfl | rfl <;> assumption
def cfback_setC (cs : Array Value) : Obj → Obj
  | .cells _ t frozen => .cells cs t frozen
  | o => o
noncomputable def cfback_low : Nat := (World.holding Tryz.prog default ⟨#[], #[], []⟩).heap.size
noncomputable def cfback_laidWorld (os : Os) : World :=
  { World.holding Tryz.prog os ⟨#[.cells #[.string ⟨#[118, 97, 108, 117, 101, 32, 111, 117, 116, 32, 111, 102, 32, 114, 97, 110, 103, 101]⟩] 208, .cells #[.string ⟨#[105, 110, 118, 97, 108, 105, 100, 32, 115, 121, 110, 116, 97, 120]⟩] 208], #[], []⟩ with heap := ((((((((World.holding Tryz.prog os ⟨#[.cells #[.string ⟨#[118, 97, 108, 117, 101, 32, 111, 117, 116, 32, 111, 102, 32, 114, 97, 110, 103, 101]⟩] 208, .cells #[.string ⟨#[105, 110, 118, 97, 108, 105, 100, 32, 115, 121, 110, 116, 97, 120]⟩] 208], #[], []⟩).heap).modify 6 (cfback_setC #[.int .u8 0, .int .u8 1, .int .u8 28, .int .u8 2, .int .u8 29, .int .u8 14, .int .u8 24, .int .u8 3, .int .u8 30, .int .u8 22, .int .u8 20, .int .u8 15, .int .u8 25, .int .u8 17, .int .u8 4, .int .u8 8, .int .u8 31, .int .u8 27, .int .u8 13, .int .u8 23, .int .u8 21, .int .u8 19, .int .u8 16, .int .u8 7, .int .u8 26, .int .u8 12, .int .u8 18, .int .u8 6, .int .u8 11, .int .u8 5, .int .u8 10, .int .u8 9])).modify 7 (cfback_setC #[.int .u8 0, .int .u8 1, .int .u8 56, .int .u8 2, .int .u8 57, .int .u8 49, .int .u8 28, .int .u8 3, .int .u8 61, .int .u8 58, .int .u8 42, .int .u8 50, .int .u8 38, .int .u8 29, .int .u8 17, .int .u8 4, .int .u8 62, .int .u8 47, .int .u8 59, .int .u8 36, .int .u8 45, .int .u8 43, .int .u8 51, .int .u8 22, .int .u8 53, .int .u8 39, .int .u8 33, .int .u8 30, .int .u8 24, .int .u8 18, .int .u8 12, .int .u8 5, .int .u8 63, .int .u8 55, .int .u8 48, .int .u8 27, .int .u8 60, .int .u8 41, .int .u8 37, .int .u8 16, .int .u8 46, .int .u8 35, .int .u8 44, .int .u8 21, .int .u8 52, .int .u8 32, .int .u8 23, .int .u8 11, .int .u8 54, .int .u8 26, .int .u8 40, .int .u8 15, .int .u8 34, .int .u8 20, .int .u8 31, .int .u8 10, .int .u8 25, .int .u8 14, .int .u8 19, .int .u8 9, .int .u8 13, .int .u8 8, .int .u8 7, .int .u8 6])).modify 3 (cfback_setC #[.int .u64 1, .int .u64 10, .int .u64 100, .int .u64 1000, .int .u64 10000, .int .u64 100000, .int .u64 1000000, .int .u64 10000000, .int .u64 100000000, .int .u64 1000000000, .int .u64 10000000000, .int .u64 100000000000, .int .u64 1000000000000, .int .u64 10000000000000, .int .u64 100000000000000, .int .u64 1000000000000000, .int .u64 10000000000000000, .int .u64 100000000000000000, .int .u64 1000000000000000000, .int .u64 10000000000000000000])).modify 2 (cfback_setC #[.int .u8 128, .int .u8 191, .int .u8 160, .int .u8 191, .int .u8 128, .int .u8 159, .int .u8 144, .int .u8 191, .int .u8 128, .int .u8 143, .int .u8 0, .int .u8 0, .int .u8 0, .int .u8 0, .int .u8 0, .int .u8 0, .int .u8 0, .int .u8 0, .int .u8 0, .int .u8 0, .int .u8 0, .int .u8 0, .int .u8 0, .int .u8 0, .int .u8 0, .int .u8 0, .int .u8 0, .int .u8 0, .int .u8 0, .int .u8 0, .int .u8 0, .int .u8 0])).modify 5 (cfback_setC #[.iface 206 (.pointer (some ⟨cfback_low + 0, 0, none⟩))])).modify 4 (cfback_setC #[.iface 206 (.pointer (some ⟨cfback_low + 1, 0, none⟩))])).modify 1 (cfback_setC ((Go.Pinned.utf8FirstZ.map fun n : Nat => Value.int .u8 (n : Int)).toArray)) }
theorem cfback_laid_met (os : Os) : laidMet Tryz.prog Rows.confBackUptoRow.laid ((cfback_laidWorld os).forCall (fun _ _ => 0) ⟨#[], #[.agg #[.int .i64 0, .slice none 0 0, .slice none 0 0], .string .empty], []⟩).memory :=
  laidMet_of_run' 8 (by kernel_rfl) (by kernel_rfl)
theorem cfback_reads (os : Os) {H : Type} (enc : TypeId × Value → H) : ∃ places, DataW.whole enc Tryz.prog ((cfback_laidWorld os).forCall (fun _ _ => 0) ⟨#[], #[.agg #[.int .i64 0, .slice none 0 0, .slice none 0 0], .string .empty], []⟩).memory Tryz.f5.params.toList Rows.confBackSpec.vars false (#[.agg #[.int .i64 0, .slice none 0 0, .slice none 0 0], .string .empty] : Array Value).toList 8 = some ([.agg [.lit (.int .i64 0), .nil, .nil], .lit (.string [])], [], places) :=
  ⟨[], by kernel_rfl⟩
theorem cfback_laidOut : laidOutB Tryz.prog = true := by kernel_rfl
theorem cfback_readOk {ts : Array TypeId} (h : ts.toList.all (fun t => Tryz.prog.readableRec t && decide (t < Tryz.prog.types.size)) = true) : ∀ t ∈ ts.toList, Tryz.prog.readableRec t = true ∧ t < Tryz.prog.types.size := fun t ht => by
  have := List.all_eq_true.1 h t ht
  simpa using this
mutual
theorem cfback_bD {H : Type} : ∀ d : DataW H, Rows.uptoBulk d = bulkD d
  | .lit l => by cases l <;> simp [Rows.uptoBulk, bulkD]
  | .nil => by simp [Rows.uptoBulk, bulkD]
  | .ptr d => by simp [Rows.uptoBulk, bulkD, cfback_bD d]
  | .slice a b => by simp [Rows.uptoBulk, bulkD, cfback_bL a, cfback_bL b]
  | .agg a => by simp [Rows.uptoBulk, bulkD, cfback_bL a]
  | .iface _ d => by simp [Rows.uptoBulk, bulkD, cfback_bD d]
  | .map e => by simp [Rows.uptoBulk, bulkD, cfback_bE e]
  | .held _ => by simp [Rows.uptoBulk, bulkD]
theorem cfback_bL {H : Type} : ∀ d : List (DataW H), Rows.uptoBulkAll d = bulkL d
  | [] => by simp [Rows.uptoBulkAll, bulkL]
  | d :: r => by simp [Rows.uptoBulkAll, bulkL, cfback_bD d, cfback_bL r]
theorem cfback_bE {H : Type} : ∀ d : List (Lit × DataW H), Rows.uptoBulkEntries d = bulkE d
  | [] => by simp [Rows.uptoBulkEntries, bulkE]
  | d :: r => by simp [Rows.uptoBulkEntries, bulkE, cfback_bX d, cfback_bE r]
theorem cfback_bX {H : Type} : ∀ d : Lit × DataW H, Rows.uptoBulkEntry d = bulkX d
  | (l, d) => by cases l <;> simp [Rows.uptoBulkEntry, bulkX, cfback_bD d]
end
set_option maxRecDepth 100000 in
theorem cfback_lifted (os : Os) (started : os.Started) (H : Type) (enc : TypeId × Value → H) (F : Stop.Interp) :
    ReturnsInHanded {} Tryz.checked os 5 .any ((Rows.OpenSpec.upto Rows.confBackSpec).preRow enc Tryz.prog Tryz.f5 Rows.confBackUptoRow.domain false Rows.confBackUptoRow.laid) (((Rows.OpenSpec.upto Rows.confBackSpec).at F).post enc Tryz.prog Tryz.f5 false true false false) := by
  obtain ⟨places, hx⟩ := cfback_reads os enc
  refine returnsInHanded_of_row (C := Tryz.checked) (s := Rows.OpenSpec.upto Rows.confBackSpec) cfback_own started (by kernel_rfl) Tryz.func5
    (witness_row_at (enc := enc) (C := Tryz.checked) false (cfback_laidWorld os) #[.agg #[.int .i64 0, .slice none 0 0, .slice none 0 0], .string .empty] rfl (by kernel_rfl) (by kernel_rfl) (by kernel_rfl)
      (OpenSpec.preRow_of_cond 8 hx (by kernel_rfl) (fun k hk => by cases hk; kernel_rfl) (by kernel_rfl) (cfback_laid_met os))) ?_
  intro W base args ds gs before hval0 hW _ hk0 _ hL hsh9 _
  have hk := hk0 _ rfl
  show Calls Tryz.prog 5 args W fun e W' => ∃ v, e = .returned v ∧ Rows.confBackSpec.post enc Tryz.prog Tryz.f5 false true false false W args v W'
  have hval : ∀ (j : Nat) t v, Tryz.f5.params[j]? = some t → args[j]? = some v → Value.okWide Tryz.prog W .any base t v := hval0
  have hW' := hW
  have hlt := hW.lt
  obtain ⟨p, q, hA0, hV, rfl, hfz, hnd⟩ := hW
  have hA : DataW.TrodAll enc Tryz.prog W 0 (fun _ => true) true Tryz.f5.params.toList args.toList ds p := hA0
  have hA1 := hA
  rw [Tryz.params5] at hA hval
  obtain ⟨v0, vs0, d0, ds0, p0, q0, hargs, rfl, rfl, h0, r0⟩ := trodAll_cons hA
  obtain ⟨v1, vs1, d1, ds1, p1, q1, rfl, rfl, rfl, h1, r1⟩ := trodAll_cons r0
  obtain ⟨rfl, rfl, rfl⟩ := trodAll_nil r1
  obtain rfl : args = #[v0, v1] := by cases args; simp_all
  obtain ⟨rfl, rfl⟩ := trodVars_none hV
  obtain ⟨cs0, rfl, _⟩ := okWide_struct Tryz.underlying25 (hval 0 25 v0 rfl rfl)
  obtain ⟨y0, u0, b0, e0⟩ := arg_agg (α := Plan) opn_Plan h0
  obtain ⟨z1, rfl⟩ := okWide_string Tryz.underlying9 (hval 1 9 v1 rfl rfl)
  obtain ⟨y1, u1, b1, e1⟩ := arg_leaf (α := ByteArray) (opn_str Tryz.underlying9) rfl h1
  have hB : Siz.bulk y0 + Siz.bulk y1 ≤ 1048576 := by
    have h := of_decide_eq_true hk
    rw [cfback_bL] at h
    simp only [List.append_nil, bulkL] at h
    omega
  have hR := repL_cons (M := fun _ => False) (β := fun _ => none) (cp := fun _ => 0) (.c e0) (repL_cons (M := fun _ => False) (β := fun _ => none) (cp := fun _ => 0) (.c e1) (repL_nil))
  refine (law_callsA (cfback_vc y0 y1 u0 u1 hB) hR (cfback_dom hL hsh9)).mono fun e W' ⟨he, bel⟩ => ?_
  subst he
  exact ⟨_, rfl, _, _, _, [], _, [], hW', trodAll_mk1 (shut_bool Tryz.underlying4 _), trodAll_below cfback_laidOut bel (cfback_readOk (by kernel_rfl)) (fun x hx => hlt x (List.mem_append_left _ hx)) hA1, rfl, bel.frame _, fun h => by cases h⟩
theorem cfback_bare : Rows.ConfBackUptoSaid :=
  OpenClaim.holds_of_cond 5 Tryz.f5 rfl rfl rfl rfl rfl rfl rfl ⟨rfl, rfl, rfl, rfl, rfl⟩ rfl rfl rfl rfl rfl (by kernel_rfl) Tryz.func5 (by kernel_rfl)
    (of_decide_eq_true (by kernel_rfl)) (by unfold Func.isWrapper; first | (rw [if_pos (by decide +kernel)]; kernel_rfl) | (rw [if_neg (by decide +kernel)]; exact ⟨rfl, rfl⟩))
    (fun os started H enc _ F => by rw [OpenClaim.pre_eq_preRow]; exact cfback_lifted os started H enc F)
theorem cfback_plain (f : FuncId) (fn : Func) (hf : Tryz.pinned.checked.prog.funcNamed "dutyroster/dutykeep.ConfBack" = some f) (hfn : Tryz.pinned.checked.prog.funcs[f]? = some fn) :
    true = Tryz.pinned.checked.prog.looks [] ∧ ∀ (j : Nat) t, fn.params[j]? = some t → Tryz.pinned.checked.prog.wantsStandIn t = false := by
  obtain rfl : f = 5 := Option.some.inj ((show Tryz.prog.funcNamed "dutyroster/dutykeep.ConfBack" = some 5 by kernel_rfl).symm.trans hf) |>.symm
  obtain rfl : fn = Tryz.f5 := (Option.some.inj (Tryz.func5.symm.trans hfn)).symm
  refine ⟨by kernel_rfl, fun j t ht => ?_⟩
  rw [Tryz.params5] at ht
  have hm := Array.mem_of_getElem? ht
  simp at hm
  rcases hm with rfl | rfl
  all_goals (show Tryz.prog.wantsStandIn _ = false; kernel_rfl)
set_option maxRecDepth 100000 in
theorem ConfBack_proved : Rows.ConfBackUptoCardSaid :=
  Claim7.holds_tied_plain_at .later [] _ _ _ _ cfback_bare (fun _ h => by cases h) (by kernel_rfl) (fun _ h => by cases h) confBackUpto_row_tie rfl ⟨rfl, rfl⟩ (by kernel_rfl) rfl cfback_plain (by kernel_rfl)
end

end Go.Proofs.YtnjngpjkhddnfaaGreatDoor
