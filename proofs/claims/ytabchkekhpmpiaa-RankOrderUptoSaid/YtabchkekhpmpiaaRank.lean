/- rank.by, Of, Good: walked. -/
import Derived.Test.YtabchkekhpmpiaaRankS
import Derived.Test.YtabchkekhpmpiaaReply2
set_option linter.all false
namespace Go.Proofs.Ytabchkekhpmpiaa
open Go Go.Abs

def rngL (n : Nat) : List Int := lst n fun i => (i : Int)
def byL (k : Nat) (l : List Task) : List Int := stabL (keyAt k l) (rngL l.length)
def byV (k : Nat) (l : List Task) : List Int × Int := if tchkV l = 0 then (byL k l, 0) else ([], tchkV l)
theorem rngL_len (n : Nat) : (rngL n).length = n := lst_len _ _
theorem rngL_get {n i : Nat} (h : i < n) : (rngL n).getD i 0 = i := lst_get h
theorem rngL_mem {n : Nat} {x : Int} (h : x ∈ rngL n) : 0 ≤ x ∧ x.toNat < n := by
  obtain ⟨i, hi, rfl⟩ := List.getElem_of_mem h
  rw [rngL_len] at hi
  have := rngL_get hi
  rw [List.getD_eq_getElem?_getD, List.getElem?_eq_getElem (by rw [rngL_len]; exact hi)] at this
  have e : (rngL n)[i] = (i : Int) := this
  rw [e]; omega
def cntR (n i : Nat) : List Int := lst n fun j => if j < i then (j : Int) else 0
theorem cntR_len (n i : Nat) : (cntR n i).length = n := lst_len _ _
theorem cntR_get {n i j : Nat} (h : j < n) : (cntR n i).getD j 0 = if j < i then (j : Int) else 0 := lst_get h
theorem cntR_all (n : Nat) : cntR n n = rngL n := lst_congr fun i hi => if_pos hi
theorem cntR_step {n i j : Nat} (hj : j < n) : (bif decide (j = i) then (i : Int) else (cntR n i).getD j 0) = (cntR n (i + 1)).getD j 0 := by
  rw [cntR_get hj, cntR_get hj]
  by_cases h : j = i
  · subst h; simp
  · by_cases h2 : j < i
    · simp [h, h2, Nat.lt_succ_of_lt h2]
    · simp [h, h2, show ¬ j < i + 1 by omega]
noncomputable def cBy : FuncId → Con := fun f => match f with
  | 47 => pureCon (detPC tchk_D)
  | 75 => lendCon stab_K
  | _ => fun _ _ _ => Bad 1001
theorem cBy_ok : ConOk Try.prog cBy := fun f A H K h => by
  unfold cBy at h
  split at h
  · exact ⟨⟨Try.f47, Try.func47, by kernel_rfl, by kernel_rfl⟩, pureCon_ok tchk_ok h⟩
  · exact ⟨⟨Try.f75, Try.func75, by kernel_rfl, by kernel_rfl⟩, lend_ok stab_ok h⟩
  · cases h
structure ByX (n : Nat) where
  i : Nat
  hi : i ≤ n
def by_R (r : Th (List Int × Int)) : AV := .tup [.own 0 fun _ => (r ()).1.length, .i .i64 fun _ => (r ()).2]
def by_H (r : Th (List Int × Int)) : Hp := [vecO 3 fun _ => (r ()).1]
def by_C : PC := fun A K => match A with
  | [x, .fn k []] => Ob (fun _ => Leaf.ok (List Task) x ∧ isKey k ∧ (Leaf.val x : List Task).length ≤ 9223372036854775807) (Gen (α := List Int × Int) (fun _ => byV k (Leaf.val x)) fun r => K (by_R fun _ => r) (by_H fun _ => r))
  | _ => Bad 1002
set_option maxRecDepth 100000 in
set_option maxHeartbeats 4000000 in
theorem by_vcByDue (l : List Task) (hp : l.length ≤ 9223372036854775807) : FnOk Try.prog 48 [Leaf.av fun _ => l, .fn 49 []] [] (outA (by_R fun _ => byV 49 l) (by_H fun _ => byV 49 l)) := by
  refine fn_ok envOk zl cBy_ok noDraws_ok (keep := [0, 1, 2, 3, 4, 5, 6, 7, 8, 12, 18, 19, 20]) Try.func48 rfl ?_
  have hp' : l.length ≤ 9223372036854775807 := hp
  have fin0 : ∀ (e : Int) kl H, byV 49 l = ([], e) → outA (by_R fun _ => byV 49 l) (by_H fun _ => byV 49 l) (.tup [.nil, .i .i64 fun _ => e]) H kl := fun e kl H h => by
    rw [h]
    cbv
    repeat' first | (refine Stp.mk ?_; cbv) | (refine Gen.mk fun r hr => ?_; (try simp only [Dat.ok, Dat.dec, Leaf.ok, Leaf.val, Span.eta, Set.eta, Task.eta, Done.eta, Late.eta, val_sl, val_nil] at hr); cbv) | exact trivial | rfl | refine Both.mk ?_ ?_ | (refine Imp.mk fun h => ?_; (try dsimp only at h); (try simp only [nc, Int.toNat_natCast, Bool.not_eq_true', Bool.not_eq_false', decide_eq_true_eq, decide_eq_false_iff_not, beq_iff_eq, beq_eq_false_iff_ne, ba_inj, bne_iff_ne, ne_eq, Bool.and_eq_true, Bool.or_eq_true, Bool.and_eq_false_iff, Bool.or_eq_false_iff, Int.not_le, Int.not_lt, Nat.not_le, Nat.not_lt] at h); (try simp only [nc] at h)) | refine Ob.mk ?_ ?_ | refine Chk.mk (by kernel_rfl) ?_ | refine Eq'.mk ?_ | (refine AllN.mk fun i hi => ?_; cbv) | (refine AllS.mk fun r hr => ?_; (try simp only [Dat.ok, Dat.dec, Leaf.ok, Leaf.val, Span.eta, Set.eta, Task.eta, Done.eta, Late.eta, val_sl] at hr); cbv)
    all_goals first | rfl | (exfalso; omega)
  have fin1 : ∀ (d : List Int) (n : Nat) kl x y H, byV 49 l = (d, 0) → n = d.length → outA (by_R fun _ => byV 49 l) (by_H fun _ => byV 49 l) (.tup [.own 2 fun _ => n, .i .i64 fun _ => 0]) (x :: y :: vecO 3 (fun _ => d) :: H) kl := fun d n kl x y H h hn => by
    subst hn
    rw [h]
    cbv
    repeat' first | (refine Stp.mk ?_; cbv) | (refine Gen.mk fun r hr => ?_; (try simp only [Dat.ok, Dat.dec, Leaf.ok, Leaf.val, Span.eta, Set.eta, Task.eta, Done.eta, Late.eta, val_sl, val_nil] at hr); cbv) | exact trivial | rfl | refine Both.mk ?_ ?_ | (refine Imp.mk fun h => ?_; (try dsimp only at h); (try simp only [nc, Int.toNat_natCast, Bool.not_eq_true', Bool.not_eq_false', decide_eq_true_eq, decide_eq_false_iff_not, beq_iff_eq, beq_eq_false_iff_ne, ba_inj, bne_iff_ne, ne_eq, Bool.and_eq_true, Bool.or_eq_true, Bool.and_eq_false_iff, Bool.or_eq_false_iff, Int.not_le, Int.not_lt, Nat.not_le, Nat.not_lt] at h); (try simp only [nc] at h)) | refine Ob.mk ?_ ?_ | refine Chk.mk (by kernel_rfl) ?_ | refine Eq'.mk ?_ | (refine AllN.mk fun i hi => ?_; cbv) | (refine AllS.mk fun r hr => ?_; (try simp only [Dat.ok, Dat.dec, Leaf.ok, Leaf.val, Span.eta, Set.eta, Task.eta, Done.eta, Late.eta, val_sl] at hr); cbv)
  generalize outA (by_R fun _ => byV 49 l) (by_H fun _ => byV 49 l) = K at fin0 fin1 ⊢
  cbv
  repeat' first | (show Stp _; exfalso; first | omega | (exact h ‹_›) | (exact absurd ‹_› h) | (exact Bool.false_ne_true (h.symm.trans (show _ = true by assumption)))) | (refine Stp.mk ?_; cbv) | (refine Gen.mk fun r hr => ?_; (try simp only [Dat.ok, Dat.dec, Leaf.ok, Leaf.val, Span.eta, Set.eta, Task.eta, Done.eta, Late.eta, val_sl, val_nil] at hr); cbv) | exact trivial | rfl | refine Both.mk ?_ ?_ | (refine Imp.mk fun h => ?_; (try dsimp only at h); (try simp only [nc, Int.toNat_natCast, Bool.not_eq_true', Bool.not_eq_false', decide_eq_true_eq, decide_eq_false_iff_not, beq_iff_eq, beq_eq_false_iff_ne, ba_inj, bne_iff_ne, ne_eq, Bool.and_eq_true, Bool.or_eq_true, Bool.and_eq_false_iff, Bool.or_eq_false_iff, Int.not_le, Int.not_lt, Nat.not_le, Nat.not_lt] at h); (try simp only [nc] at h)) | refine Ob.mk ?_ ?_ | refine Chk.mk (by kernel_rfl) ?_ | refine Eq'.mk ?_ | (refine AllN.mk fun i hi => ?_; cbv) | (refine AllS.mk fun r hr => ?_; (try simp only [Dat.ok, Dat.dec, Leaf.ok, Leaf.val, Span.eta, Set.eta, Task.eta, Done.eta, Late.eta, val_sl] at hr); cbv)
  all_goals ((try dsimp only at *); (try simp only [nc, Int.toNat_natCast, Bool.not_eq_true', Bool.not_eq_false', decide_eq_true_eq, decide_eq_false_iff_not, beq_iff_eq, beq_eq_false_iff_ne, ba_inj, bne_iff_ne, ne_eq, Bool.and_eq_true, Bool.or_eq_true, Bool.and_eq_false_iff, Bool.or_eq_false_iff, Int.not_le, Int.not_lt, Nat.not_le, Nat.not_lt] at *); (try simp only [nc] at *))
  all_goals try simp only [Dat.dec, Leaf.val, Span.eta, Set.eta, Task.eta, Done.eta, Late.eta, val_sl] at *
  all_goals first
    | exact ⟨⟨rfl, fun i _ => Dat.hok _⟩, hp'⟩
    | (refine fin0 _ _ _ ?_; rw [byV, if_neg (by assumption)])
    | skip
  all_goals have hT := tchk_iff.1 (by assumption : tchkV l = 0)
  all_goals first
    | exact ⟨by omega, by omega, by omega, by omega⟩
    | skip
  refine LoopVC.frame [8, 19, 20] (ByX l.length) (fun x => [(19, .i .i64 fun _ => x.i)]) (fun x => [(2, vecO 3 fun _ => cntR l.length x.i)]) [] (fun x => l.length - x.i) ⟨0, Nat.zero_le _⟩ rfl (fun _ => rfl) ?_ ?_ fun ⟨i, hi⟩ => ?_
  · cbv
    repeat' first | (refine Stp.mk ?_; cbv) | (refine Gen.mk fun r hr => ?_; (try simp only [Dat.ok, Dat.dec, Leaf.ok, Leaf.val, Span.eta, Set.eta, Task.eta, Done.eta, Late.eta, val_sl, val_nil] at hr); cbv) | exact trivial | rfl | refine Both.mk ?_ ?_ | (refine Imp.mk fun h => ?_; (try dsimp only at h); (try simp only [nc, Int.toNat_natCast, Bool.not_eq_true', Bool.not_eq_false', decide_eq_true_eq, decide_eq_false_iff_not, beq_iff_eq, beq_eq_false_iff_ne, ba_inj, bne_iff_ne, ne_eq, Bool.and_eq_true, Bool.or_eq_true, Bool.and_eq_false_iff, Bool.or_eq_false_iff, Int.not_le, Int.not_lt, Nat.not_le, Nat.not_lt] at h); (try simp only [nc] at h)) | refine Ob.mk ?_ ?_ | refine Chk.mk (by kernel_rfl) ?_ | refine Eq'.mk ?_ | (refine AllN.mk fun i hi => ?_; cbv) | (refine AllS.mk fun r hr => ?_; (try simp only [Dat.ok, Dat.dec, Leaf.ok, Leaf.val, Span.eta, Set.eta, Task.eta, Done.eta, Late.eta, val_sl] at hr); cbv)
  · cbv
    repeat' first | (refine Stp.mk ?_; cbv) | (refine Gen.mk fun r hr => ?_; (try simp only [Dat.ok, Dat.dec, Leaf.ok, Leaf.val, Span.eta, Set.eta, Task.eta, Done.eta, Late.eta, val_sl, val_nil] at hr); cbv) | exact trivial | rfl | refine Both.mk ?_ ?_ | (refine Imp.mk fun h => ?_; (try dsimp only at h); (try simp only [nc, Int.toNat_natCast, Bool.not_eq_true', Bool.not_eq_false', decide_eq_true_eq, decide_eq_false_iff_not, beq_iff_eq, beq_eq_false_iff_ne, ba_inj, bne_iff_ne, ne_eq, Bool.and_eq_true, Bool.or_eq_true, Bool.and_eq_false_iff, Bool.or_eq_false_iff, Int.not_le, Int.not_lt, Nat.not_le, Nat.not_lt] at h); (try simp only [nc] at h)) | refine Ob.mk ?_ ?_ | refine Chk.mk (by kernel_rfl) ?_ | refine Eq'.mk ?_ | (refine AllN.mk fun i hi => ?_; cbv) | (refine AllS.mk fun r hr => ?_; (try simp only [Dat.ok, Dat.dec, Leaf.ok, Leaf.val, Span.eta, Set.eta, Task.eta, Done.eta, Late.eta, val_sl] at hr); cbv)
    all_goals ((try dsimp only at *); (try simp only [nc, Int.toNat_natCast, Bool.not_eq_true', Bool.not_eq_false', decide_eq_true_eq, decide_eq_false_iff_not, beq_iff_eq, beq_eq_false_iff_ne, ba_inj, bne_iff_ne, ne_eq, Bool.and_eq_true, Bool.or_eq_true, Bool.and_eq_false_iff, Bool.or_eq_false_iff, Int.not_le, Int.not_lt, Nat.not_le, Nat.not_lt] at *); (try simp only [nc] at *))
    all_goals first
      | (rw [cntR_len]; done)
      | (rw [cntR_len]; rfl)
      | (refine Eq.trans ?_ (cntR_get (by assumption)).symm; rw [if_neg (Nat.not_lt_zero _)]; done)
      | fail
  · have hcl := cntR_len l.length i
    cbv
    repeat' first | (show Stp _; exfalso; first | omega | (exact h ‹_›) | (exact absurd ‹_› h) | (exact Bool.false_ne_true (h.symm.trans (show _ = true by assumption)))) | (refine Stp.mk ?_; cbv) | (refine Gen.mk fun r hr => ?_; (try simp only [Dat.ok, Dat.dec, Leaf.ok, Leaf.val, Span.eta, Set.eta, Task.eta, Done.eta, Late.eta, val_sl, val_nil] at hr); cbv) | exact trivial | rfl | refine Both.mk ?_ ?_ | (refine Imp.mk fun h => ?_; (try dsimp only at h); (try simp only [nc, Int.toNat_natCast, Bool.not_eq_true', Bool.not_eq_false', decide_eq_true_eq, decide_eq_false_iff_not, beq_iff_eq, beq_eq_false_iff_ne, ba_inj, bne_iff_ne, ne_eq, Bool.and_eq_true, Bool.or_eq_true, Bool.and_eq_false_iff, Bool.or_eq_false_iff, Int.not_le, Int.not_lt, Nat.not_le, Nat.not_lt] at h); (try simp only [nc] at h)) | refine Ob.mk ?_ ?_ | refine Chk.mk (by kernel_rfl) ?_ | refine Eq'.mk ?_ | (refine AllN.mk fun i hi => ?_; cbv) | (refine AllS.mk fun r hr => ?_; (try simp only [Dat.ok, Dat.dec, Leaf.ok, Leaf.val, Span.eta, Set.eta, Task.eta, Done.eta, Late.eta, val_sl] at hr); cbv)
    all_goals ((try dsimp only at *); (try simp only [nc, Int.toNat_natCast, Bool.not_eq_true', Bool.not_eq_false', decide_eq_true_eq, decide_eq_false_iff_not, beq_iff_eq, beq_eq_false_iff_ne, ba_inj, bne_iff_ne, ne_eq, Bool.and_eq_true, Bool.or_eq_true, Bool.and_eq_false_iff, Bool.or_eq_false_iff, Int.not_le, Int.not_lt, Nat.not_le, Nat.not_lt] at *); (try simp only [nc] at *))
    all_goals try rw [nc] at *
    all_goals first
      | omega
      | exact ⟨by omega, by omega⟩
      | (unfold InR; omega)
      | skip
    · refine ⟨⟨i + 1, by omega⟩, ?_, ?_, rfl, by (try dsimp only); omega⟩
      · cbv
        repeat' first | (refine Stp.mk ?_; cbv) | (refine Gen.mk fun r hr => ?_; (try simp only [Dat.ok, Dat.dec, Leaf.ok, Leaf.val, Span.eta, Set.eta, Task.eta, Done.eta, Late.eta, val_sl, val_nil] at hr); cbv) | exact trivial | rfl | refine Both.mk ?_ ?_ | (refine Imp.mk fun h => ?_; (try dsimp only at h); (try simp only [nc, Int.toNat_natCast, Bool.not_eq_true', Bool.not_eq_false', decide_eq_true_eq, decide_eq_false_iff_not, beq_iff_eq, beq_eq_false_iff_ne, ba_inj, bne_iff_ne, ne_eq, Bool.and_eq_true, Bool.or_eq_true, Bool.and_eq_false_iff, Bool.or_eq_false_iff, Int.not_le, Int.not_lt, Nat.not_le, Nat.not_lt] at h); (try simp only [nc] at h)) | refine Ob.mk ?_ ?_ | refine Chk.mk (by kernel_rfl) ?_ | refine Eq'.mk ?_ | (refine AllN.mk fun i hi => ?_; cbv) | (refine AllS.mk fun r hr => ?_; (try simp only [Dat.ok, Dat.dec, Leaf.ok, Leaf.val, Span.eta, Set.eta, Task.eta, Done.eta, Late.eta, val_sl] at hr); cbv)
      · cbv
        repeat' first | (refine Stp.mk ?_; cbv) | (refine Gen.mk fun r hr => ?_; (try simp only [Dat.ok, Dat.dec, Leaf.ok, Leaf.val, Span.eta, Set.eta, Task.eta, Done.eta, Late.eta, val_sl, val_nil] at hr); cbv) | exact trivial | rfl | refine Both.mk ?_ ?_ | (refine Imp.mk fun h => ?_; (try dsimp only at h); (try simp only [nc, Int.toNat_natCast, Bool.not_eq_true', Bool.not_eq_false', decide_eq_true_eq, decide_eq_false_iff_not, beq_iff_eq, beq_eq_false_iff_ne, ba_inj, bne_iff_ne, ne_eq, Bool.and_eq_true, Bool.or_eq_true, Bool.and_eq_false_iff, Bool.or_eq_false_iff, Int.not_le, Int.not_lt, Nat.not_le, Nat.not_lt] at h); (try simp only [nc] at h)) | refine Ob.mk ?_ ?_ | refine Chk.mk (by kernel_rfl) ?_ | refine Eq'.mk ?_ | (refine AllN.mk fun i hi => ?_; cbv) | (refine AllS.mk fun r hr => ?_; (try simp only [Dat.ok, Dat.dec, Leaf.ok, Leaf.val, Span.eta, Set.eta, Task.eta, Done.eta, Late.eta, val_sl] at hr); cbv)
        all_goals ((try dsimp only at *); (try simp only [nc, Int.toNat_natCast, Bool.not_eq_true', Bool.not_eq_false', decide_eq_true_eq, decide_eq_false_iff_not, beq_iff_eq, beq_eq_false_iff_ne, ba_inj, bne_iff_ne, ne_eq, Bool.and_eq_true, Bool.or_eq_true, Bool.and_eq_false_iff, Bool.or_eq_false_iff, Int.not_le, Int.not_lt, Nat.not_le, Nat.not_lt] at *); (try simp only [nc] at *))
        all_goals first
          | (rw [cntR_len, cntR_len]; done)
          | exact cntR_step (by omega)
          | fail
    · have e0 : i = l.length := by omega
      subst e0
      have e1 := val_len (α := Int) (l := cntR l.length l.length) (n := l.length) 1 hcl.symm
      refine ⟨rfl, hcl.symm, fun i _ => Dat.hok _, rfl, ⟨rfl, fun i _ => Dat.hok _⟩, ?_⟩
      rw [e1]
      simp only [Dat.dec, Leaf.val, Span.eta, Set.eta, Task.eta, Done.eta, Late.eta, val_sl]
      exact ⟨by first | exact .inl rfl | exact .inr (.inl rfl) | exact .inr (.inr rfl), by omega, fun x hx => rngL_mem (by rw [cntR_all] at hx; exact hx)⟩
    · have e0 : i = l.length := by omega
      subst e0
      have e1 := val_len (α := Int) (l := cntR l.length l.length) (n := l.length) 1 hcl.symm
      rw [e1] at hr
      subst hr
      refine fin1 (stabFin _ _) _ _ _ _ _ ?_ ?_
      · rw [byV, if_pos (by assumption)]
        congr 1
        show byL _ l = stabFin _ _
        unfold stabFin byL
        simp only [Dat.dec, Leaf.val, Span.eta, Set.eta, Task.eta, Done.eta, Late.eta, val_sl]
        rw [cntR_all]
      · show l.length = (stabFin _ _).length
        unfold stabFin
        exact (stabL_len.trans hcl).symm
set_option maxRecDepth 100000 in
set_option maxHeartbeats 4000000 in
theorem by_vcByEvery (l : List Task) (hp : l.length ≤ 9223372036854775807) : FnOk Try.prog 48 [Leaf.av fun _ => l, .fn 55 []] [] (outA (by_R fun _ => byV 55 l) (by_H fun _ => byV 55 l)) := by
  refine fn_ok envOk zl cBy_ok noDraws_ok (keep := [0, 1, 2, 3, 4, 5, 6, 7, 8, 12, 18, 19, 20]) Try.func48 rfl ?_
  have hp' : l.length ≤ 9223372036854775807 := hp
  have fin0 : ∀ (e : Int) kl H, byV 55 l = ([], e) → outA (by_R fun _ => byV 55 l) (by_H fun _ => byV 55 l) (.tup [.nil, .i .i64 fun _ => e]) H kl := fun e kl H h => by
    rw [h]
    cbv
    repeat' first | (refine Stp.mk ?_; cbv) | (refine Gen.mk fun r hr => ?_; (try simp only [Dat.ok, Dat.dec, Leaf.ok, Leaf.val, Span.eta, Set.eta, Task.eta, Done.eta, Late.eta, val_sl, val_nil] at hr); cbv) | exact trivial | rfl | refine Both.mk ?_ ?_ | (refine Imp.mk fun h => ?_; (try dsimp only at h); (try simp only [nc, Int.toNat_natCast, Bool.not_eq_true', Bool.not_eq_false', decide_eq_true_eq, decide_eq_false_iff_not, beq_iff_eq, beq_eq_false_iff_ne, ba_inj, bne_iff_ne, ne_eq, Bool.and_eq_true, Bool.or_eq_true, Bool.and_eq_false_iff, Bool.or_eq_false_iff, Int.not_le, Int.not_lt, Nat.not_le, Nat.not_lt] at h); (try simp only [nc] at h)) | refine Ob.mk ?_ ?_ | refine Chk.mk (by kernel_rfl) ?_ | refine Eq'.mk ?_ | (refine AllN.mk fun i hi => ?_; cbv) | (refine AllS.mk fun r hr => ?_; (try simp only [Dat.ok, Dat.dec, Leaf.ok, Leaf.val, Span.eta, Set.eta, Task.eta, Done.eta, Late.eta, val_sl] at hr); cbv)
    all_goals first | rfl | (exfalso; omega)
  have fin1 : ∀ (d : List Int) (n : Nat) kl x y H, byV 55 l = (d, 0) → n = d.length → outA (by_R fun _ => byV 55 l) (by_H fun _ => byV 55 l) (.tup [.own 2 fun _ => n, .i .i64 fun _ => 0]) (x :: y :: vecO 3 (fun _ => d) :: H) kl := fun d n kl x y H h hn => by
    subst hn
    rw [h]
    cbv
    repeat' first | (refine Stp.mk ?_; cbv) | (refine Gen.mk fun r hr => ?_; (try simp only [Dat.ok, Dat.dec, Leaf.ok, Leaf.val, Span.eta, Set.eta, Task.eta, Done.eta, Late.eta, val_sl, val_nil] at hr); cbv) | exact trivial | rfl | refine Both.mk ?_ ?_ | (refine Imp.mk fun h => ?_; (try dsimp only at h); (try simp only [nc, Int.toNat_natCast, Bool.not_eq_true', Bool.not_eq_false', decide_eq_true_eq, decide_eq_false_iff_not, beq_iff_eq, beq_eq_false_iff_ne, ba_inj, bne_iff_ne, ne_eq, Bool.and_eq_true, Bool.or_eq_true, Bool.and_eq_false_iff, Bool.or_eq_false_iff, Int.not_le, Int.not_lt, Nat.not_le, Nat.not_lt] at h); (try simp only [nc] at h)) | refine Ob.mk ?_ ?_ | refine Chk.mk (by kernel_rfl) ?_ | refine Eq'.mk ?_ | (refine AllN.mk fun i hi => ?_; cbv) | (refine AllS.mk fun r hr => ?_; (try simp only [Dat.ok, Dat.dec, Leaf.ok, Leaf.val, Span.eta, Set.eta, Task.eta, Done.eta, Late.eta, val_sl] at hr); cbv)
  generalize outA (by_R fun _ => byV 55 l) (by_H fun _ => byV 55 l) = K at fin0 fin1 ⊢
  cbv
  repeat' first | (show Stp _; exfalso; first | omega | (exact h ‹_›) | (exact absurd ‹_› h) | (exact Bool.false_ne_true (h.symm.trans (show _ = true by assumption)))) | (refine Stp.mk ?_; cbv) | (refine Gen.mk fun r hr => ?_; (try simp only [Dat.ok, Dat.dec, Leaf.ok, Leaf.val, Span.eta, Set.eta, Task.eta, Done.eta, Late.eta, val_sl, val_nil] at hr); cbv) | exact trivial | rfl | refine Both.mk ?_ ?_ | (refine Imp.mk fun h => ?_; (try dsimp only at h); (try simp only [nc, Int.toNat_natCast, Bool.not_eq_true', Bool.not_eq_false', decide_eq_true_eq, decide_eq_false_iff_not, beq_iff_eq, beq_eq_false_iff_ne, ba_inj, bne_iff_ne, ne_eq, Bool.and_eq_true, Bool.or_eq_true, Bool.and_eq_false_iff, Bool.or_eq_false_iff, Int.not_le, Int.not_lt, Nat.not_le, Nat.not_lt] at h); (try simp only [nc] at h)) | refine Ob.mk ?_ ?_ | refine Chk.mk (by kernel_rfl) ?_ | refine Eq'.mk ?_ | (refine AllN.mk fun i hi => ?_; cbv) | (refine AllS.mk fun r hr => ?_; (try simp only [Dat.ok, Dat.dec, Leaf.ok, Leaf.val, Span.eta, Set.eta, Task.eta, Done.eta, Late.eta, val_sl] at hr); cbv)
  all_goals ((try dsimp only at *); (try simp only [nc, Int.toNat_natCast, Bool.not_eq_true', Bool.not_eq_false', decide_eq_true_eq, decide_eq_false_iff_not, beq_iff_eq, beq_eq_false_iff_ne, ba_inj, bne_iff_ne, ne_eq, Bool.and_eq_true, Bool.or_eq_true, Bool.and_eq_false_iff, Bool.or_eq_false_iff, Int.not_le, Int.not_lt, Nat.not_le, Nat.not_lt] at *); (try simp only [nc] at *))
  all_goals try simp only [Dat.dec, Leaf.val, Span.eta, Set.eta, Task.eta, Done.eta, Late.eta, val_sl] at *
  all_goals first
    | exact ⟨⟨rfl, fun i _ => Dat.hok _⟩, hp'⟩
    | (refine fin0 _ _ _ ?_; rw [byV, if_neg (by assumption)])
    | skip
  all_goals have hT := tchk_iff.1 (by assumption : tchkV l = 0)
  all_goals first
    | exact ⟨by omega, by omega, by omega, by omega⟩
    | skip
  refine LoopVC.frame [8, 19, 20] (ByX l.length) (fun x => [(19, .i .i64 fun _ => x.i)]) (fun x => [(2, vecO 3 fun _ => cntR l.length x.i)]) [] (fun x => l.length - x.i) ⟨0, Nat.zero_le _⟩ rfl (fun _ => rfl) ?_ ?_ fun ⟨i, hi⟩ => ?_
  · cbv
    repeat' first | (refine Stp.mk ?_; cbv) | (refine Gen.mk fun r hr => ?_; (try simp only [Dat.ok, Dat.dec, Leaf.ok, Leaf.val, Span.eta, Set.eta, Task.eta, Done.eta, Late.eta, val_sl, val_nil] at hr); cbv) | exact trivial | rfl | refine Both.mk ?_ ?_ | (refine Imp.mk fun h => ?_; (try dsimp only at h); (try simp only [nc, Int.toNat_natCast, Bool.not_eq_true', Bool.not_eq_false', decide_eq_true_eq, decide_eq_false_iff_not, beq_iff_eq, beq_eq_false_iff_ne, ba_inj, bne_iff_ne, ne_eq, Bool.and_eq_true, Bool.or_eq_true, Bool.and_eq_false_iff, Bool.or_eq_false_iff, Int.not_le, Int.not_lt, Nat.not_le, Nat.not_lt] at h); (try simp only [nc] at h)) | refine Ob.mk ?_ ?_ | refine Chk.mk (by kernel_rfl) ?_ | refine Eq'.mk ?_ | (refine AllN.mk fun i hi => ?_; cbv) | (refine AllS.mk fun r hr => ?_; (try simp only [Dat.ok, Dat.dec, Leaf.ok, Leaf.val, Span.eta, Set.eta, Task.eta, Done.eta, Late.eta, val_sl] at hr); cbv)
  · cbv
    repeat' first | (refine Stp.mk ?_; cbv) | (refine Gen.mk fun r hr => ?_; (try simp only [Dat.ok, Dat.dec, Leaf.ok, Leaf.val, Span.eta, Set.eta, Task.eta, Done.eta, Late.eta, val_sl, val_nil] at hr); cbv) | exact trivial | rfl | refine Both.mk ?_ ?_ | (refine Imp.mk fun h => ?_; (try dsimp only at h); (try simp only [nc, Int.toNat_natCast, Bool.not_eq_true', Bool.not_eq_false', decide_eq_true_eq, decide_eq_false_iff_not, beq_iff_eq, beq_eq_false_iff_ne, ba_inj, bne_iff_ne, ne_eq, Bool.and_eq_true, Bool.or_eq_true, Bool.and_eq_false_iff, Bool.or_eq_false_iff, Int.not_le, Int.not_lt, Nat.not_le, Nat.not_lt] at h); (try simp only [nc] at h)) | refine Ob.mk ?_ ?_ | refine Chk.mk (by kernel_rfl) ?_ | refine Eq'.mk ?_ | (refine AllN.mk fun i hi => ?_; cbv) | (refine AllS.mk fun r hr => ?_; (try simp only [Dat.ok, Dat.dec, Leaf.ok, Leaf.val, Span.eta, Set.eta, Task.eta, Done.eta, Late.eta, val_sl] at hr); cbv)
    all_goals ((try dsimp only at *); (try simp only [nc, Int.toNat_natCast, Bool.not_eq_true', Bool.not_eq_false', decide_eq_true_eq, decide_eq_false_iff_not, beq_iff_eq, beq_eq_false_iff_ne, ba_inj, bne_iff_ne, ne_eq, Bool.and_eq_true, Bool.or_eq_true, Bool.and_eq_false_iff, Bool.or_eq_false_iff, Int.not_le, Int.not_lt, Nat.not_le, Nat.not_lt] at *); (try simp only [nc] at *))
    all_goals first
      | (rw [cntR_len]; done)
      | (rw [cntR_len]; rfl)
      | (refine Eq.trans ?_ (cntR_get (by assumption)).symm; rw [if_neg (Nat.not_lt_zero _)]; done)
      | fail
  · have hcl := cntR_len l.length i
    cbv
    repeat' first | (show Stp _; exfalso; first | omega | (exact h ‹_›) | (exact absurd ‹_› h) | (exact Bool.false_ne_true (h.symm.trans (show _ = true by assumption)))) | (refine Stp.mk ?_; cbv) | (refine Gen.mk fun r hr => ?_; (try simp only [Dat.ok, Dat.dec, Leaf.ok, Leaf.val, Span.eta, Set.eta, Task.eta, Done.eta, Late.eta, val_sl, val_nil] at hr); cbv) | exact trivial | rfl | refine Both.mk ?_ ?_ | (refine Imp.mk fun h => ?_; (try dsimp only at h); (try simp only [nc, Int.toNat_natCast, Bool.not_eq_true', Bool.not_eq_false', decide_eq_true_eq, decide_eq_false_iff_not, beq_iff_eq, beq_eq_false_iff_ne, ba_inj, bne_iff_ne, ne_eq, Bool.and_eq_true, Bool.or_eq_true, Bool.and_eq_false_iff, Bool.or_eq_false_iff, Int.not_le, Int.not_lt, Nat.not_le, Nat.not_lt] at h); (try simp only [nc] at h)) | refine Ob.mk ?_ ?_ | refine Chk.mk (by kernel_rfl) ?_ | refine Eq'.mk ?_ | (refine AllN.mk fun i hi => ?_; cbv) | (refine AllS.mk fun r hr => ?_; (try simp only [Dat.ok, Dat.dec, Leaf.ok, Leaf.val, Span.eta, Set.eta, Task.eta, Done.eta, Late.eta, val_sl] at hr); cbv)
    all_goals ((try dsimp only at *); (try simp only [nc, Int.toNat_natCast, Bool.not_eq_true', Bool.not_eq_false', decide_eq_true_eq, decide_eq_false_iff_not, beq_iff_eq, beq_eq_false_iff_ne, ba_inj, bne_iff_ne, ne_eq, Bool.and_eq_true, Bool.or_eq_true, Bool.and_eq_false_iff, Bool.or_eq_false_iff, Int.not_le, Int.not_lt, Nat.not_le, Nat.not_lt] at *); (try simp only [nc] at *))
    all_goals try rw [nc] at *
    all_goals first
      | omega
      | exact ⟨by omega, by omega⟩
      | (unfold InR; omega)
      | skip
    · refine ⟨⟨i + 1, by omega⟩, ?_, ?_, rfl, by (try dsimp only); omega⟩
      · cbv
        repeat' first | (refine Stp.mk ?_; cbv) | (refine Gen.mk fun r hr => ?_; (try simp only [Dat.ok, Dat.dec, Leaf.ok, Leaf.val, Span.eta, Set.eta, Task.eta, Done.eta, Late.eta, val_sl, val_nil] at hr); cbv) | exact trivial | rfl | refine Both.mk ?_ ?_ | (refine Imp.mk fun h => ?_; (try dsimp only at h); (try simp only [nc, Int.toNat_natCast, Bool.not_eq_true', Bool.not_eq_false', decide_eq_true_eq, decide_eq_false_iff_not, beq_iff_eq, beq_eq_false_iff_ne, ba_inj, bne_iff_ne, ne_eq, Bool.and_eq_true, Bool.or_eq_true, Bool.and_eq_false_iff, Bool.or_eq_false_iff, Int.not_le, Int.not_lt, Nat.not_le, Nat.not_lt] at h); (try simp only [nc] at h)) | refine Ob.mk ?_ ?_ | refine Chk.mk (by kernel_rfl) ?_ | refine Eq'.mk ?_ | (refine AllN.mk fun i hi => ?_; cbv) | (refine AllS.mk fun r hr => ?_; (try simp only [Dat.ok, Dat.dec, Leaf.ok, Leaf.val, Span.eta, Set.eta, Task.eta, Done.eta, Late.eta, val_sl] at hr); cbv)
      · cbv
        repeat' first | (refine Stp.mk ?_; cbv) | (refine Gen.mk fun r hr => ?_; (try simp only [Dat.ok, Dat.dec, Leaf.ok, Leaf.val, Span.eta, Set.eta, Task.eta, Done.eta, Late.eta, val_sl, val_nil] at hr); cbv) | exact trivial | rfl | refine Both.mk ?_ ?_ | (refine Imp.mk fun h => ?_; (try dsimp only at h); (try simp only [nc, Int.toNat_natCast, Bool.not_eq_true', Bool.not_eq_false', decide_eq_true_eq, decide_eq_false_iff_not, beq_iff_eq, beq_eq_false_iff_ne, ba_inj, bne_iff_ne, ne_eq, Bool.and_eq_true, Bool.or_eq_true, Bool.and_eq_false_iff, Bool.or_eq_false_iff, Int.not_le, Int.not_lt, Nat.not_le, Nat.not_lt] at h); (try simp only [nc] at h)) | refine Ob.mk ?_ ?_ | refine Chk.mk (by kernel_rfl) ?_ | refine Eq'.mk ?_ | (refine AllN.mk fun i hi => ?_; cbv) | (refine AllS.mk fun r hr => ?_; (try simp only [Dat.ok, Dat.dec, Leaf.ok, Leaf.val, Span.eta, Set.eta, Task.eta, Done.eta, Late.eta, val_sl] at hr); cbv)
        all_goals ((try dsimp only at *); (try simp only [nc, Int.toNat_natCast, Bool.not_eq_true', Bool.not_eq_false', decide_eq_true_eq, decide_eq_false_iff_not, beq_iff_eq, beq_eq_false_iff_ne, ba_inj, bne_iff_ne, ne_eq, Bool.and_eq_true, Bool.or_eq_true, Bool.and_eq_false_iff, Bool.or_eq_false_iff, Int.not_le, Int.not_lt, Nat.not_le, Nat.not_lt] at *); (try simp only [nc] at *))
        all_goals first
          | (rw [cntR_len, cntR_len]; done)
          | exact cntR_step (by omega)
          | fail
    · have e0 : i = l.length := by omega
      subst e0
      have e1 := val_len (α := Int) (l := cntR l.length l.length) (n := l.length) 1 hcl.symm
      refine ⟨rfl, hcl.symm, fun i _ => Dat.hok _, rfl, ⟨rfl, fun i _ => Dat.hok _⟩, ?_⟩
      rw [e1]
      simp only [Dat.dec, Leaf.val, Span.eta, Set.eta, Task.eta, Done.eta, Late.eta, val_sl]
      exact ⟨by first | exact .inl rfl | exact .inr (.inl rfl) | exact .inr (.inr rfl), by omega, fun x hx => rngL_mem (by rw [cntR_all] at hx; exact hx)⟩
    · have e0 : i = l.length := by omega
      subst e0
      have e1 := val_len (α := Int) (l := cntR l.length l.length) (n := l.length) 1 hcl.symm
      rw [e1] at hr
      subst hr
      refine fin1 (stabFin _ _) _ _ _ _ _ ?_ ?_
      · rw [byV, if_pos (by assumption)]
        congr 1
        show byL _ l = stabFin _ _
        unfold stabFin byL
        simp only [Dat.dec, Leaf.val, Span.eta, Set.eta, Task.eta, Done.eta, Late.eta, val_sl]
        rw [cntR_all]
      · show l.length = (stabFin _ _).length
        unfold stabFin
        exact (stabL_len.trans hcl).symm
set_option maxRecDepth 100000 in
set_option maxHeartbeats 4000000 in
theorem by_vcFind (l : List Task) (hp : l.length ≤ 9223372036854775807) : FnOk Try.prog 48 [Leaf.av fun _ => l, .fn 50 []] [] (outA (by_R fun _ => byV 50 l) (by_H fun _ => byV 50 l)) := by
  refine fn_ok envOk zl cBy_ok noDraws_ok (keep := [0, 1, 2, 3, 4, 5, 6, 7, 8, 12, 18, 19, 20]) Try.func48 rfl ?_
  have hp' : l.length ≤ 9223372036854775807 := hp
  have fin0 : ∀ (e : Int) kl H, byV 50 l = ([], e) → outA (by_R fun _ => byV 50 l) (by_H fun _ => byV 50 l) (.tup [.nil, .i .i64 fun _ => e]) H kl := fun e kl H h => by
    rw [h]
    cbv
    repeat' first | (refine Stp.mk ?_; cbv) | (refine Gen.mk fun r hr => ?_; (try simp only [Dat.ok, Dat.dec, Leaf.ok, Leaf.val, Span.eta, Set.eta, Task.eta, Done.eta, Late.eta, val_sl, val_nil] at hr); cbv) | exact trivial | rfl | refine Both.mk ?_ ?_ | (refine Imp.mk fun h => ?_; (try dsimp only at h); (try simp only [nc, Int.toNat_natCast, Bool.not_eq_true', Bool.not_eq_false', decide_eq_true_eq, decide_eq_false_iff_not, beq_iff_eq, beq_eq_false_iff_ne, ba_inj, bne_iff_ne, ne_eq, Bool.and_eq_true, Bool.or_eq_true, Bool.and_eq_false_iff, Bool.or_eq_false_iff, Int.not_le, Int.not_lt, Nat.not_le, Nat.not_lt] at h); (try simp only [nc] at h)) | refine Ob.mk ?_ ?_ | refine Chk.mk (by kernel_rfl) ?_ | refine Eq'.mk ?_ | (refine AllN.mk fun i hi => ?_; cbv) | (refine AllS.mk fun r hr => ?_; (try simp only [Dat.ok, Dat.dec, Leaf.ok, Leaf.val, Span.eta, Set.eta, Task.eta, Done.eta, Late.eta, val_sl] at hr); cbv)
    all_goals first | rfl | (exfalso; omega)
  have fin1 : ∀ (d : List Int) (n : Nat) kl x y H, byV 50 l = (d, 0) → n = d.length → outA (by_R fun _ => byV 50 l) (by_H fun _ => byV 50 l) (.tup [.own 2 fun _ => n, .i .i64 fun _ => 0]) (x :: y :: vecO 3 (fun _ => d) :: H) kl := fun d n kl x y H h hn => by
    subst hn
    rw [h]
    cbv
    repeat' first | (refine Stp.mk ?_; cbv) | (refine Gen.mk fun r hr => ?_; (try simp only [Dat.ok, Dat.dec, Leaf.ok, Leaf.val, Span.eta, Set.eta, Task.eta, Done.eta, Late.eta, val_sl, val_nil] at hr); cbv) | exact trivial | rfl | refine Both.mk ?_ ?_ | (refine Imp.mk fun h => ?_; (try dsimp only at h); (try simp only [nc, Int.toNat_natCast, Bool.not_eq_true', Bool.not_eq_false', decide_eq_true_eq, decide_eq_false_iff_not, beq_iff_eq, beq_eq_false_iff_ne, ba_inj, bne_iff_ne, ne_eq, Bool.and_eq_true, Bool.or_eq_true, Bool.and_eq_false_iff, Bool.or_eq_false_iff, Int.not_le, Int.not_lt, Nat.not_le, Nat.not_lt] at h); (try simp only [nc] at h)) | refine Ob.mk ?_ ?_ | refine Chk.mk (by kernel_rfl) ?_ | refine Eq'.mk ?_ | (refine AllN.mk fun i hi => ?_; cbv) | (refine AllS.mk fun r hr => ?_; (try simp only [Dat.ok, Dat.dec, Leaf.ok, Leaf.val, Span.eta, Set.eta, Task.eta, Done.eta, Late.eta, val_sl] at hr); cbv)
  generalize outA (by_R fun _ => byV 50 l) (by_H fun _ => byV 50 l) = K at fin0 fin1 ⊢
  cbv
  repeat' first | (show Stp _; exfalso; first | omega | (exact h ‹_›) | (exact absurd ‹_› h) | (exact Bool.false_ne_true (h.symm.trans (show _ = true by assumption)))) | (refine Stp.mk ?_; cbv) | (refine Gen.mk fun r hr => ?_; (try simp only [Dat.ok, Dat.dec, Leaf.ok, Leaf.val, Span.eta, Set.eta, Task.eta, Done.eta, Late.eta, val_sl, val_nil] at hr); cbv) | exact trivial | rfl | refine Both.mk ?_ ?_ | (refine Imp.mk fun h => ?_; (try dsimp only at h); (try simp only [nc, Int.toNat_natCast, Bool.not_eq_true', Bool.not_eq_false', decide_eq_true_eq, decide_eq_false_iff_not, beq_iff_eq, beq_eq_false_iff_ne, ba_inj, bne_iff_ne, ne_eq, Bool.and_eq_true, Bool.or_eq_true, Bool.and_eq_false_iff, Bool.or_eq_false_iff, Int.not_le, Int.not_lt, Nat.not_le, Nat.not_lt] at h); (try simp only [nc] at h)) | refine Ob.mk ?_ ?_ | refine Chk.mk (by kernel_rfl) ?_ | refine Eq'.mk ?_ | (refine AllN.mk fun i hi => ?_; cbv) | (refine AllS.mk fun r hr => ?_; (try simp only [Dat.ok, Dat.dec, Leaf.ok, Leaf.val, Span.eta, Set.eta, Task.eta, Done.eta, Late.eta, val_sl] at hr); cbv)
  all_goals ((try dsimp only at *); (try simp only [nc, Int.toNat_natCast, Bool.not_eq_true', Bool.not_eq_false', decide_eq_true_eq, decide_eq_false_iff_not, beq_iff_eq, beq_eq_false_iff_ne, ba_inj, bne_iff_ne, ne_eq, Bool.and_eq_true, Bool.or_eq_true, Bool.and_eq_false_iff, Bool.or_eq_false_iff, Int.not_le, Int.not_lt, Nat.not_le, Nat.not_lt] at *); (try simp only [nc] at *))
  all_goals try simp only [Dat.dec, Leaf.val, Span.eta, Set.eta, Task.eta, Done.eta, Late.eta, val_sl] at *
  all_goals first
    | exact ⟨⟨rfl, fun i _ => Dat.hok _⟩, hp'⟩
    | (refine fin0 _ _ _ ?_; rw [byV, if_neg (by assumption)])
    | skip
  all_goals have hT := tchk_iff.1 (by assumption : tchkV l = 0)
  all_goals first
    | exact ⟨by omega, by omega, by omega, by omega⟩
    | skip
  refine LoopVC.frame [8, 19, 20] (ByX l.length) (fun x => [(19, .i .i64 fun _ => x.i)]) (fun x => [(2, vecO 3 fun _ => cntR l.length x.i)]) [] (fun x => l.length - x.i) ⟨0, Nat.zero_le _⟩ rfl (fun _ => rfl) ?_ ?_ fun ⟨i, hi⟩ => ?_
  · cbv
    repeat' first | (refine Stp.mk ?_; cbv) | (refine Gen.mk fun r hr => ?_; (try simp only [Dat.ok, Dat.dec, Leaf.ok, Leaf.val, Span.eta, Set.eta, Task.eta, Done.eta, Late.eta, val_sl, val_nil] at hr); cbv) | exact trivial | rfl | refine Both.mk ?_ ?_ | (refine Imp.mk fun h => ?_; (try dsimp only at h); (try simp only [nc, Int.toNat_natCast, Bool.not_eq_true', Bool.not_eq_false', decide_eq_true_eq, decide_eq_false_iff_not, beq_iff_eq, beq_eq_false_iff_ne, ba_inj, bne_iff_ne, ne_eq, Bool.and_eq_true, Bool.or_eq_true, Bool.and_eq_false_iff, Bool.or_eq_false_iff, Int.not_le, Int.not_lt, Nat.not_le, Nat.not_lt] at h); (try simp only [nc] at h)) | refine Ob.mk ?_ ?_ | refine Chk.mk (by kernel_rfl) ?_ | refine Eq'.mk ?_ | (refine AllN.mk fun i hi => ?_; cbv) | (refine AllS.mk fun r hr => ?_; (try simp only [Dat.ok, Dat.dec, Leaf.ok, Leaf.val, Span.eta, Set.eta, Task.eta, Done.eta, Late.eta, val_sl] at hr); cbv)
  · cbv
    repeat' first | (refine Stp.mk ?_; cbv) | (refine Gen.mk fun r hr => ?_; (try simp only [Dat.ok, Dat.dec, Leaf.ok, Leaf.val, Span.eta, Set.eta, Task.eta, Done.eta, Late.eta, val_sl, val_nil] at hr); cbv) | exact trivial | rfl | refine Both.mk ?_ ?_ | (refine Imp.mk fun h => ?_; (try dsimp only at h); (try simp only [nc, Int.toNat_natCast, Bool.not_eq_true', Bool.not_eq_false', decide_eq_true_eq, decide_eq_false_iff_not, beq_iff_eq, beq_eq_false_iff_ne, ba_inj, bne_iff_ne, ne_eq, Bool.and_eq_true, Bool.or_eq_true, Bool.and_eq_false_iff, Bool.or_eq_false_iff, Int.not_le, Int.not_lt, Nat.not_le, Nat.not_lt] at h); (try simp only [nc] at h)) | refine Ob.mk ?_ ?_ | refine Chk.mk (by kernel_rfl) ?_ | refine Eq'.mk ?_ | (refine AllN.mk fun i hi => ?_; cbv) | (refine AllS.mk fun r hr => ?_; (try simp only [Dat.ok, Dat.dec, Leaf.ok, Leaf.val, Span.eta, Set.eta, Task.eta, Done.eta, Late.eta, val_sl] at hr); cbv)
    all_goals ((try dsimp only at *); (try simp only [nc, Int.toNat_natCast, Bool.not_eq_true', Bool.not_eq_false', decide_eq_true_eq, decide_eq_false_iff_not, beq_iff_eq, beq_eq_false_iff_ne, ba_inj, bne_iff_ne, ne_eq, Bool.and_eq_true, Bool.or_eq_true, Bool.and_eq_false_iff, Bool.or_eq_false_iff, Int.not_le, Int.not_lt, Nat.not_le, Nat.not_lt] at *); (try simp only [nc] at *))
    all_goals first
      | (rw [cntR_len]; done)
      | (rw [cntR_len]; rfl)
      | (refine Eq.trans ?_ (cntR_get (by assumption)).symm; rw [if_neg (Nat.not_lt_zero _)]; done)
      | fail
  · have hcl := cntR_len l.length i
    cbv
    repeat' first | (show Stp _; exfalso; first | omega | (exact h ‹_›) | (exact absurd ‹_› h) | (exact Bool.false_ne_true (h.symm.trans (show _ = true by assumption)))) | (refine Stp.mk ?_; cbv) | (refine Gen.mk fun r hr => ?_; (try simp only [Dat.ok, Dat.dec, Leaf.ok, Leaf.val, Span.eta, Set.eta, Task.eta, Done.eta, Late.eta, val_sl, val_nil] at hr); cbv) | exact trivial | rfl | refine Both.mk ?_ ?_ | (refine Imp.mk fun h => ?_; (try dsimp only at h); (try simp only [nc, Int.toNat_natCast, Bool.not_eq_true', Bool.not_eq_false', decide_eq_true_eq, decide_eq_false_iff_not, beq_iff_eq, beq_eq_false_iff_ne, ba_inj, bne_iff_ne, ne_eq, Bool.and_eq_true, Bool.or_eq_true, Bool.and_eq_false_iff, Bool.or_eq_false_iff, Int.not_le, Int.not_lt, Nat.not_le, Nat.not_lt] at h); (try simp only [nc] at h)) | refine Ob.mk ?_ ?_ | refine Chk.mk (by kernel_rfl) ?_ | refine Eq'.mk ?_ | (refine AllN.mk fun i hi => ?_; cbv) | (refine AllS.mk fun r hr => ?_; (try simp only [Dat.ok, Dat.dec, Leaf.ok, Leaf.val, Span.eta, Set.eta, Task.eta, Done.eta, Late.eta, val_sl] at hr); cbv)
    all_goals ((try dsimp only at *); (try simp only [nc, Int.toNat_natCast, Bool.not_eq_true', Bool.not_eq_false', decide_eq_true_eq, decide_eq_false_iff_not, beq_iff_eq, beq_eq_false_iff_ne, ba_inj, bne_iff_ne, ne_eq, Bool.and_eq_true, Bool.or_eq_true, Bool.and_eq_false_iff, Bool.or_eq_false_iff, Int.not_le, Int.not_lt, Nat.not_le, Nat.not_lt] at *); (try simp only [nc] at *))
    all_goals try rw [nc] at *
    all_goals first
      | omega
      | exact ⟨by omega, by omega⟩
      | (unfold InR; omega)
      | skip
    · refine ⟨⟨i + 1, by omega⟩, ?_, ?_, rfl, by (try dsimp only); omega⟩
      · cbv
        repeat' first | (refine Stp.mk ?_; cbv) | (refine Gen.mk fun r hr => ?_; (try simp only [Dat.ok, Dat.dec, Leaf.ok, Leaf.val, Span.eta, Set.eta, Task.eta, Done.eta, Late.eta, val_sl, val_nil] at hr); cbv) | exact trivial | rfl | refine Both.mk ?_ ?_ | (refine Imp.mk fun h => ?_; (try dsimp only at h); (try simp only [nc, Int.toNat_natCast, Bool.not_eq_true', Bool.not_eq_false', decide_eq_true_eq, decide_eq_false_iff_not, beq_iff_eq, beq_eq_false_iff_ne, ba_inj, bne_iff_ne, ne_eq, Bool.and_eq_true, Bool.or_eq_true, Bool.and_eq_false_iff, Bool.or_eq_false_iff, Int.not_le, Int.not_lt, Nat.not_le, Nat.not_lt] at h); (try simp only [nc] at h)) | refine Ob.mk ?_ ?_ | refine Chk.mk (by kernel_rfl) ?_ | refine Eq'.mk ?_ | (refine AllN.mk fun i hi => ?_; cbv) | (refine AllS.mk fun r hr => ?_; (try simp only [Dat.ok, Dat.dec, Leaf.ok, Leaf.val, Span.eta, Set.eta, Task.eta, Done.eta, Late.eta, val_sl] at hr); cbv)
      · cbv
        repeat' first | (refine Stp.mk ?_; cbv) | (refine Gen.mk fun r hr => ?_; (try simp only [Dat.ok, Dat.dec, Leaf.ok, Leaf.val, Span.eta, Set.eta, Task.eta, Done.eta, Late.eta, val_sl, val_nil] at hr); cbv) | exact trivial | rfl | refine Both.mk ?_ ?_ | (refine Imp.mk fun h => ?_; (try dsimp only at h); (try simp only [nc, Int.toNat_natCast, Bool.not_eq_true', Bool.not_eq_false', decide_eq_true_eq, decide_eq_false_iff_not, beq_iff_eq, beq_eq_false_iff_ne, ba_inj, bne_iff_ne, ne_eq, Bool.and_eq_true, Bool.or_eq_true, Bool.and_eq_false_iff, Bool.or_eq_false_iff, Int.not_le, Int.not_lt, Nat.not_le, Nat.not_lt] at h); (try simp only [nc] at h)) | refine Ob.mk ?_ ?_ | refine Chk.mk (by kernel_rfl) ?_ | refine Eq'.mk ?_ | (refine AllN.mk fun i hi => ?_; cbv) | (refine AllS.mk fun r hr => ?_; (try simp only [Dat.ok, Dat.dec, Leaf.ok, Leaf.val, Span.eta, Set.eta, Task.eta, Done.eta, Late.eta, val_sl] at hr); cbv)
        all_goals ((try dsimp only at *); (try simp only [nc, Int.toNat_natCast, Bool.not_eq_true', Bool.not_eq_false', decide_eq_true_eq, decide_eq_false_iff_not, beq_iff_eq, beq_eq_false_iff_ne, ba_inj, bne_iff_ne, ne_eq, Bool.and_eq_true, Bool.or_eq_true, Bool.and_eq_false_iff, Bool.or_eq_false_iff, Int.not_le, Int.not_lt, Nat.not_le, Nat.not_lt] at *); (try simp only [nc] at *))
        all_goals first
          | (rw [cntR_len, cntR_len]; done)
          | exact cntR_step (by omega)
          | fail
    · have e0 : i = l.length := by omega
      subst e0
      have e1 := val_len (α := Int) (l := cntR l.length l.length) (n := l.length) 1 hcl.symm
      refine ⟨rfl, hcl.symm, fun i _ => Dat.hok _, rfl, ⟨rfl, fun i _ => Dat.hok _⟩, ?_⟩
      rw [e1]
      simp only [Dat.dec, Leaf.val, Span.eta, Set.eta, Task.eta, Done.eta, Late.eta, val_sl]
      exact ⟨by first | exact .inl rfl | exact .inr (.inl rfl) | exact .inr (.inr rfl), by omega, fun x hx => rngL_mem (by rw [cntR_all] at hx; exact hx)⟩
    · have e0 : i = l.length := by omega
      subst e0
      have e1 := val_len (α := Int) (l := cntR l.length l.length) (n := l.length) 1 hcl.symm
      rw [e1] at hr
      subst hr
      refine fin1 (stabFin _ _) _ _ _ _ _ ?_ ?_
      · rw [byV, if_pos (by assumption)]
        congr 1
        show byL _ l = stabFin _ _
        unfold stabFin byL
        simp only [Dat.dec, Leaf.val, Span.eta, Set.eta, Task.eta, Done.eta, Late.eta, val_sl]
        rw [cntR_all]
      · show l.length = (stabFin _ _).length
        unfold stabFin
        exact (stabL_len.trans hcl).symm
theorem byT_ok : PcOk Try.prog 48 by_C := fun A K h => by
  unfold by_C at h
  split at h
  · rename_i x k
    cases h with
    | mk h1 h2 =>
      obtain ⟨g0, hk, hp⟩ := h1
      rcases hk with rfl | rfl | rfl
      · refine FnOk.pre ?_ (A' := [Leaf.av fun _ => (Leaf.val x : List Task), .fn 49 []]) (.mk (Leaf.hle _ g0) (.mk trivial trivial))
        exact FnOk.out (K := fun r H _ => K r H) (by_vcByDue _ hp) rfl h2.out
      · refine FnOk.pre ?_ (A' := [Leaf.av fun _ => (Leaf.val x : List Task), .fn 55 []]) (.mk (Leaf.hle _ g0) (.mk trivial trivial))
        exact FnOk.out (K := fun r H _ => K r H) (by_vcByEvery _ hp) rfl h2.out
      · refine FnOk.pre ?_ (A' := [Leaf.av fun _ => (Leaf.val x : List Task), .fn 50 []]) (.mk (Leaf.hle _ g0) (.mk trivial trivial))
        exact FnOk.out (K := fun r H _ => K r H) (by_vcFind _ hp) rfl h2.out
  · cases h
noncomputable def cRk : FuncId → Con := fun f => match f with
  | 48 => pureCon by_C
  | _ => fun _ _ _ => Bad 1001
theorem cRk_ok : ConOk Try.prog cRk := fun f A H K h => by
  unfold cRk at h
  split at h
  · exact ⟨⟨Try.f48, Try.func48, by kernel_rfl, by kernel_rfl⟩, pureCon_ok byT_ok h⟩
  · cases h
def bVByDue (l : List Task) : List Int × Int := byV 49 l
def rByDue_R (r : Th ((List Int) × Int)) : AV := .tup [.own 0 fun _ => (r ()).1.length, .i .i64 fun _ => (r ()).2]
def rByDue_H (r : Th ((List Int) × Int)) : Hp := [vecO 3 fun _ => (r ()).1]
def rByDue_P (l : (List Task)) : Prop := l.length ≤ 9223372036854775807
def rByDue_C : PC := fun A K => match A with
  | [l] => Ob (fun _ => Leaf.ok (List Task) l ∧ rByDue_P (Leaf.val l)) (Gen (α := (List Int) × Int) (fun _ => bVByDue (Leaf.val l)) fun r => K (rByDue_R fun _ => r) (rByDue_H fun _ => r))
  | _ => Bad 1002
set_option maxRecDepth 100000 in
set_option maxHeartbeats 4000000 in
theorem rByDue_vc (l : (List Task)) (hp : rByDue_P l) : FnOk Try.prog 22 [Leaf.av fun _ => l] [] (outA (rByDue_R fun _ => bVByDue l) (rByDue_H fun _ => bVByDue l)) := by
  refine fn_ok envOk zl cRk_ok noDraws_ok (keep := [0, 2, 3]) Try.func22 rfl ?_
  have hp' : l.length ≤ 9223372036854775807 := hp
  cbv
  repeat' first | (show Stp _; exfalso; first | omega | (exact h ‹_›) | (exact absurd ‹_› h) | (exact Bool.false_ne_true (h.symm.trans (show _ = true by assumption)))) | (refine Stp.mk ?_; cbv) | (refine Gen.mk fun r hr => ?_; (try simp only [Dat.ok, Dat.dec, Leaf.ok, Leaf.val, Span.eta, Set.eta, Task.eta, Done.eta, Late.eta, val_sl, val_nil] at hr); cbv) | exact trivial | rfl | refine Both.mk ?_ ?_ | (refine Imp.mk fun h => ?_; (try dsimp only at h); (try simp only [nc, Int.toNat_natCast, Bool.not_eq_true', Bool.not_eq_false', decide_eq_true_eq, decide_eq_false_iff_not, beq_iff_eq, beq_eq_false_iff_ne, ba_inj, bne_iff_ne, ne_eq, Bool.and_eq_true, Bool.or_eq_true, Bool.and_eq_false_iff, Bool.or_eq_false_iff, Int.not_le, Int.not_lt, Nat.not_le, Nat.not_lt] at h); (try simp only [nc] at h)) | refine Ob.mk ?_ ?_ | refine Chk.mk (by kernel_rfl) ?_ | refine Eq'.mk ?_ | (refine AllN.mk fun i hi => ?_; cbv) | (refine AllS.mk fun r hr => ?_; (try simp only [Dat.ok, Dat.dec, Leaf.ok, Leaf.val, Span.eta, Set.eta, Task.eta, Done.eta, Late.eta, val_sl] at hr); cbv)
  all_goals ((try dsimp only at *); (try simp only [nc, Int.toNat_natCast, Bool.not_eq_true', Bool.not_eq_false', decide_eq_true_eq, decide_eq_false_iff_not, beq_iff_eq, beq_eq_false_iff_ne, ba_inj, bne_iff_ne, ne_eq, Bool.and_eq_true, Bool.or_eq_true, Bool.and_eq_false_iff, Bool.or_eq_false_iff, Int.not_le, Int.not_lt, Nat.not_le, Nat.not_lt] at *); (try simp only [nc] at *))
  all_goals try simp only [Dat.dec, Leaf.val, Span.eta, Set.eta, Task.eta, Done.eta, Late.eta, val_sl] at *
  all_goals try (rename (_ = byV _ _) => hq3; subst hq3)
  all_goals first
    | rfl
    | exact ⟨⟨rfl, fun i _ => Dat.hok _⟩, by first | exact .inl rfl | exact .inr (.inl rfl) | exact .inr (.inr rfl), hp'⟩
    | fail
theorem rByDue_ok : PcOk Try.prog 22 (rByDue_C) := fun A K h => by
  unfold rByDue_C at h
  split at h
  · rename_i l
    cases h with
    | mk h1 h2 =>
      obtain ⟨g0, hp⟩ := h1
      refine FnOk.pre ?_ (A' := [Leaf.av fun _ => (Leaf.val l : (List Task))]) (.mk (Leaf.hle _ g0) (trivial))
      exact FnOk.out (K := fun r H _ => K r H) (rByDue_vc (Leaf.val l) hp) rfl h2.out
  · cases h
def bVByEvery (l : List Task) : List Int × Int := byV 55 l
def rByEvery_R (r : Th ((List Int) × Int)) : AV := .tup [.own 0 fun _ => (r ()).1.length, .i .i64 fun _ => (r ()).2]
def rByEvery_H (r : Th ((List Int) × Int)) : Hp := [vecO 3 fun _ => (r ()).1]
def rByEvery_P (l : (List Task)) : Prop := l.length ≤ 9223372036854775807
def rByEvery_C : PC := fun A K => match A with
  | [l] => Ob (fun _ => Leaf.ok (List Task) l ∧ rByEvery_P (Leaf.val l)) (Gen (α := (List Int) × Int) (fun _ => bVByEvery (Leaf.val l)) fun r => K (rByEvery_R fun _ => r) (rByEvery_H fun _ => r))
  | _ => Bad 1002
set_option maxRecDepth 100000 in
set_option maxHeartbeats 4000000 in
theorem rByEvery_vc (l : (List Task)) (hp : rByEvery_P l) : FnOk Try.prog 29 [Leaf.av fun _ => l] [] (outA (rByEvery_R fun _ => bVByEvery l) (rByEvery_H fun _ => bVByEvery l)) := by
  refine fn_ok envOk zl cRk_ok noDraws_ok (keep := [0, 2, 3]) Try.func29 rfl ?_
  have hp' : l.length ≤ 9223372036854775807 := hp
  cbv
  repeat' first | (show Stp _; exfalso; first | omega | (exact h ‹_›) | (exact absurd ‹_› h) | (exact Bool.false_ne_true (h.symm.trans (show _ = true by assumption)))) | (refine Stp.mk ?_; cbv) | (refine Gen.mk fun r hr => ?_; (try simp only [Dat.ok, Dat.dec, Leaf.ok, Leaf.val, Span.eta, Set.eta, Task.eta, Done.eta, Late.eta, val_sl, val_nil] at hr); cbv) | exact trivial | rfl | refine Both.mk ?_ ?_ | (refine Imp.mk fun h => ?_; (try dsimp only at h); (try simp only [nc, Int.toNat_natCast, Bool.not_eq_true', Bool.not_eq_false', decide_eq_true_eq, decide_eq_false_iff_not, beq_iff_eq, beq_eq_false_iff_ne, ba_inj, bne_iff_ne, ne_eq, Bool.and_eq_true, Bool.or_eq_true, Bool.and_eq_false_iff, Bool.or_eq_false_iff, Int.not_le, Int.not_lt, Nat.not_le, Nat.not_lt] at h); (try simp only [nc] at h)) | refine Ob.mk ?_ ?_ | refine Chk.mk (by kernel_rfl) ?_ | refine Eq'.mk ?_ | (refine AllN.mk fun i hi => ?_; cbv) | (refine AllS.mk fun r hr => ?_; (try simp only [Dat.ok, Dat.dec, Leaf.ok, Leaf.val, Span.eta, Set.eta, Task.eta, Done.eta, Late.eta, val_sl] at hr); cbv)
  all_goals ((try dsimp only at *); (try simp only [nc, Int.toNat_natCast, Bool.not_eq_true', Bool.not_eq_false', decide_eq_true_eq, decide_eq_false_iff_not, beq_iff_eq, beq_eq_false_iff_ne, ba_inj, bne_iff_ne, ne_eq, Bool.and_eq_true, Bool.or_eq_true, Bool.and_eq_false_iff, Bool.or_eq_false_iff, Int.not_le, Int.not_lt, Nat.not_le, Nat.not_lt] at *); (try simp only [nc] at *))
  all_goals try simp only [Dat.dec, Leaf.val, Span.eta, Set.eta, Task.eta, Done.eta, Late.eta, val_sl] at *
  all_goals try (rename (_ = byV _ _) => hq3; subst hq3)
  all_goals first
    | rfl
    | exact ⟨⟨rfl, fun i _ => Dat.hok _⟩, by first | exact .inl rfl | exact .inr (.inl rfl) | exact .inr (.inr rfl), hp'⟩
    | fail
theorem rByEvery_ok : PcOk Try.prog 29 (rByEvery_C) := fun A K h => by
  unfold rByEvery_C at h
  split at h
  · rename_i l
    cases h with
    | mk h1 h2 =>
      obtain ⟨g0, hp⟩ := h1
      refine FnOk.pre ?_ (A' := [Leaf.av fun _ => (Leaf.val l : (List Task))]) (.mk (Leaf.hle _ g0) (trivial))
      exact FnOk.out (K := fun r H _ => K r H) (rByEvery_vc (Leaf.val l) hp) rfl h2.out
  · cases h
/- The tasks in an order; none where it is no order of them. -/
def ofRk (l : List Task) : List Int → List Bool → List Task → Option (List Task)
  | [], _, out => some out
  | i :: r, seen, out => if i < 0 ∨ (l.length : Int) ≤ i then none else if seen.getD i.toNat false = true then none else ofRk l r (seen.set i.toNat true) (out ++ [l.getD i.toNat Dat.d0])
def noB (n : Nat) : List Bool := List.replicate n false
def ordV (l : List Task) (o : List Int) : List Task × Int :=
  if tchkV l = 0 then (if o.length = l.length then (match ofRk l o (noB l.length) [] with | some m => (m, 0) | none => ([], 4)) else ([], 4)) else ([], tchkV l)
theorem noB_get {n i : Nat} : (noB n).getD i false = false := by
  unfold noB
  rw [List.getD_eq_getElem?_getD, List.getElem?_replicate]
  split <;> rfl
theorem noB_len (n : Nat) : (noB n).length = n := by unfold noB; simp
theorem ofRk_drop {l : List Task} {o : List Int} {k : Nat} {seen : List Bool} {out : List Task} (hk : k < o.length) : ofRk l (o.drop k) seen out = if o.getD k 0 < 0 ∨ (l.length : Int) ≤ o.getD k 0 then none else if seen.getD (o.getD k 0).toNat false = true then none else ofRk l (o.drop (k + 1)) (seen.set (o.getD k 0).toNat true) (out ++ [l.getD (o.getD k 0).toNat Dat.d0]) := by
  rw [drop_cons 0 hk, ofRk]
theorem snocT_len (l : List Task) (w : Task) : (l ++ [w]).length = l.length + 1 := by rw [List.length_append, List.length_singleton]
def ord_R (r : Th ((List Task) × Int)) : AV := .tup [.own 0 fun _ => (r ()).1.length, .i .i64 fun _ => (r ()).2]
def ord_H (r : Th ((List Task) × Int)) : Hp := [vecO 32 fun _ => (r ()).1]
def ord_P (l : (List Task)) (o : (List Int)) : Prop := l.length ≤ 9223372036854775807 ∧ o.length ≤ 9223372036854775807
def ord_C : PC := fun A K => match A with
  | [l, o] => Ob (fun _ => Leaf.ok (List Task) l ∧ Leaf.ok (List Int) o ∧ ord_P (Leaf.val l) (Leaf.val o)) (Gen (α := (List Task) × Int) (fun _ => ordV (Leaf.val l) (Leaf.val o)) fun r => K (ord_R fun _ => r) (ord_H fun _ => r))
  | _ => Bad 1002
noncomputable def cOr : FuncId → Con := fun f => match f with
  | 47 => pureCon (detPC tchk_D)
  | _ => fun _ _ _ => Bad 1001
theorem cOr_ok : ConOk Try.prog cOr := fun f A H K h => by
  unfold cOr at h
  split at h
  · exact ⟨⟨Try.f47, Try.func47, by kernel_rfl, by kernel_rfl⟩, pureCon_ok tchk_ok h⟩
  · cases h
structure OrX (l : List Task) (o : List Int) where
  k : Nat
  seen : List Bool
  out : List Task
  hk : k ≤ o.length
  hs : seen.length = l.length
  hl : out.length = k
  hr : ofRk l o (noB l.length) [] = ofRk l (o.drop k) seen out
set_option maxRecDepth 100000 in
set_option maxHeartbeats 4000000 in
theorem ord_vc (l : (List Task)) (o : (List Int)) (hp : ord_P l o) : FnOk Try.prog 20 [Leaf.av fun _ => l, Leaf.av fun _ => o] [] (outA (ord_R fun _ => ordV l o) (ord_H fun _ => ordV l o)) := by
  refine fn_ok envOk zl cOr_ok noDraws_ok (keep := [0, 1, 4, 5, 6, 7, 8, 10, 14, 20, 24, 25, 26, 27, 43]) Try.func20 rfl ?_
  obtain ⟨hp1, hp2⟩ : l.length ≤ 9223372036854775807 ∧ o.length ≤ 9223372036854775807 := hp
  have fin0 : ∀ (e : Int) kl H, ordV l o = ([], e) → outA (ord_R fun _ => ordV l o) (ord_H fun _ => ordV l o) (.tup [.nil, .i .i64 fun _ => e]) H kl := fun e kl H h => by
    rw [h]
    cbv
    repeat' first | (refine Stp.mk ?_; cbv) | (refine Gen.mk fun r hr => ?_; (try simp only [Dat.ok, Dat.dec, Leaf.ok, Leaf.val, Span.eta, Set.eta, Task.eta, Done.eta, Late.eta, val_sl, val_nil] at hr); cbv) | exact trivial | rfl | refine Both.mk ?_ ?_ | (refine Imp.mk fun h => ?_; (try dsimp only at h); (try simp only [nc, Int.toNat_natCast, Bool.not_eq_true', Bool.not_eq_false', decide_eq_true_eq, decide_eq_false_iff_not, beq_iff_eq, beq_eq_false_iff_ne, ba_inj, bne_iff_ne, ne_eq, Bool.and_eq_true, Bool.or_eq_true, Bool.and_eq_false_iff, Bool.or_eq_false_iff, Int.not_le, Int.not_lt, Nat.not_le, Nat.not_lt] at h); (try simp only [nc] at h)) | refine Ob.mk ?_ ?_ | refine Chk.mk (by kernel_rfl) ?_ | refine Eq'.mk ?_ | (refine AllN.mk fun i hi => ?_; cbv) | (refine AllS.mk fun r hr => ?_; (try simp only [Dat.ok, Dat.dec, Leaf.ok, Leaf.val, Span.eta, Set.eta, Task.eta, Done.eta, Late.eta, val_sl] at hr); cbv)
    all_goals first | rfl | (exfalso; omega)
  have fin1 : ∀ (d : List Task) (n : Nat) kl x H, ordV l o = (d, 0) → n = d.length → outA (ord_R fun _ => ordV l o) (ord_H fun _ => ordV l o) (.tup [.own 1 fun _ => n, .i .i64 fun _ => 0]) (x :: vecO 32 (fun _ => d) :: H) kl := fun d n kl x H h hn => by
    subst hn
    rw [h]
    cbv
    repeat' first | (refine Stp.mk ?_; cbv) | (refine Gen.mk fun r hr => ?_; (try simp only [Dat.ok, Dat.dec, Leaf.ok, Leaf.val, Span.eta, Set.eta, Task.eta, Done.eta, Late.eta, val_sl, val_nil] at hr); cbv) | exact trivial | rfl | refine Both.mk ?_ ?_ | (refine Imp.mk fun h => ?_; (try dsimp only at h); (try simp only [nc, Int.toNat_natCast, Bool.not_eq_true', Bool.not_eq_false', decide_eq_true_eq, decide_eq_false_iff_not, beq_iff_eq, beq_eq_false_iff_ne, ba_inj, bne_iff_ne, ne_eq, Bool.and_eq_true, Bool.or_eq_true, Bool.and_eq_false_iff, Bool.or_eq_false_iff, Int.not_le, Int.not_lt, Nat.not_le, Nat.not_lt] at h); (try simp only [nc] at h)) | refine Ob.mk ?_ ?_ | refine Chk.mk (by kernel_rfl) ?_ | refine Eq'.mk ?_ | (refine AllN.mk fun i hi => ?_; cbv) | (refine AllS.mk fun r hr => ?_; (try simp only [Dat.ok, Dat.dec, Leaf.ok, Leaf.val, Span.eta, Set.eta, Task.eta, Done.eta, Late.eta, val_sl] at hr); cbv)
  generalize outA (ord_R fun _ => ordV l o) (ord_H fun _ => ordV l o) = K at fin0 fin1 ⊢
  cbv
  repeat' first | (show Stp _; exfalso; first | omega | (exact h ‹_›) | (exact absurd ‹_› h) | (exact Bool.false_ne_true (h.symm.trans (show _ = true by assumption)))) | (refine Stp.mk ?_; cbv) | (refine Gen.mk fun r hr => ?_; (try simp only [Dat.ok, Dat.dec, Leaf.ok, Leaf.val, Span.eta, Set.eta, Task.eta, Done.eta, Late.eta, val_sl, val_nil] at hr); cbv) | exact trivial | rfl | refine Both.mk ?_ ?_ | (refine Imp.mk fun h => ?_; (try dsimp only at h); (try simp only [nc, Int.toNat_natCast, Bool.not_eq_true', Bool.not_eq_false', decide_eq_true_eq, decide_eq_false_iff_not, beq_iff_eq, beq_eq_false_iff_ne, ba_inj, bne_iff_ne, ne_eq, Bool.and_eq_true, Bool.or_eq_true, Bool.and_eq_false_iff, Bool.or_eq_false_iff, Int.not_le, Int.not_lt, Nat.not_le, Nat.not_lt] at h); (try simp only [nc] at h)) | refine Ob.mk ?_ ?_ | refine Chk.mk (by kernel_rfl) ?_ | refine Eq'.mk ?_ | (refine AllN.mk fun i hi => ?_; cbv) | (refine AllS.mk fun r hr => ?_; (try simp only [Dat.ok, Dat.dec, Leaf.ok, Leaf.val, Span.eta, Set.eta, Task.eta, Done.eta, Late.eta, val_sl] at hr); cbv)
  all_goals ((try dsimp only at *); (try simp only [nc, Int.toNat_natCast, Bool.not_eq_true', Bool.not_eq_false', decide_eq_true_eq, decide_eq_false_iff_not, beq_iff_eq, beq_eq_false_iff_ne, ba_inj, bne_iff_ne, ne_eq, Bool.and_eq_true, Bool.or_eq_true, Bool.and_eq_false_iff, Bool.or_eq_false_iff, Int.not_le, Int.not_lt, Nat.not_le, Nat.not_lt] at *); (try simp only [nc] at *))
  all_goals try simp only [Dat.dec, Leaf.val, Span.eta, Set.eta, Task.eta, Done.eta, Late.eta, val_sl] at *
  all_goals first
    | exact ⟨⟨rfl, fun i _ => Dat.hok _⟩, hp1⟩
    | (refine fin0 _ _ _ ?_; rw [ordV, if_neg (by assumption)]; done)
    | (refine fin0 _ _ _ ?_; rw [ordV, if_pos (by assumption), if_neg (by omega)]; done)
    | skip
  all_goals have hT := tchk_iff.1 (by assumption : tchkV l = 0)
  all_goals first
    | exact ⟨by omega, by omega, by omega, by omega⟩
    | skip
  have hol : o.length = l.length := by omega
  have hoV : ∀ m, ofRk l o (noB l.length) [] = m → ordV l o = (match m with | some m => (m, 0) | none => ([], 4)) := fun m h => by rw [ordV, if_pos (by assumption), if_pos hol, h]
  refine LoopVC.frame [4, 5, 8, 10, 26, 27, 43] (OrX l o) (fun x => [(26, .i .i64 fun _ => x.k), (8, .own 1 fun _ => x.out.length)]) (fun x => [(0, vecO 4 fun _ => x.seen), (1, vecO 32 fun _ => x.out)]) [1] (fun x => o.length - x.k) ⟨0, noB l.length, [], Nat.zero_le _, by unfold noB; simp, rfl, by rw [List.drop_zero]⟩ rfl (fun _ => rfl) ?_ ?_ fun ⟨k, seen, out, hk, hs, hl, hr⟩ => ?_
  · cbv
    repeat' first | (refine Stp.mk ?_; cbv) | (refine Gen.mk fun r hr => ?_; (try simp only [Dat.ok, Dat.dec, Leaf.ok, Leaf.val, Span.eta, Set.eta, Task.eta, Done.eta, Late.eta, val_sl, val_nil] at hr); cbv) | exact trivial | rfl | refine Both.mk ?_ ?_ | (refine Imp.mk fun h => ?_; (try dsimp only at h); (try simp only [nc, Int.toNat_natCast, Bool.not_eq_true', Bool.not_eq_false', decide_eq_true_eq, decide_eq_false_iff_not, beq_iff_eq, beq_eq_false_iff_ne, ba_inj, bne_iff_ne, ne_eq, Bool.and_eq_true, Bool.or_eq_true, Bool.and_eq_false_iff, Bool.or_eq_false_iff, Int.not_le, Int.not_lt, Nat.not_le, Nat.not_lt] at h); (try simp only [nc] at h)) | refine Ob.mk ?_ ?_ | refine Chk.mk (by kernel_rfl) ?_ | refine Eq'.mk ?_ | (refine AllN.mk fun i hi => ?_; cbv) | (refine AllS.mk fun r hr => ?_; (try simp only [Dat.ok, Dat.dec, Leaf.ok, Leaf.val, Span.eta, Set.eta, Task.eta, Done.eta, Late.eta, val_sl] at hr); cbv)
  · cbv
    repeat' first | (refine Stp.mk ?_; cbv) | (refine Gen.mk fun r hr => ?_; (try simp only [Dat.ok, Dat.dec, Leaf.ok, Leaf.val, Span.eta, Set.eta, Task.eta, Done.eta, Late.eta, val_sl, val_nil] at hr); cbv) | exact trivial | rfl | refine Both.mk ?_ ?_ | (refine Imp.mk fun h => ?_; (try dsimp only at h); (try simp only [nc, Int.toNat_natCast, Bool.not_eq_true', Bool.not_eq_false', decide_eq_true_eq, decide_eq_false_iff_not, beq_iff_eq, beq_eq_false_iff_ne, ba_inj, bne_iff_ne, ne_eq, Bool.and_eq_true, Bool.or_eq_true, Bool.and_eq_false_iff, Bool.or_eq_false_iff, Int.not_le, Int.not_lt, Nat.not_le, Nat.not_lt] at h); (try simp only [nc] at h)) | refine Ob.mk ?_ ?_ | refine Chk.mk (by kernel_rfl) ?_ | refine Eq'.mk ?_ | (refine AllN.mk fun i hi => ?_; cbv) | (refine AllS.mk fun r hr => ?_; (try simp only [Dat.ok, Dat.dec, Leaf.ok, Leaf.val, Span.eta, Set.eta, Task.eta, Done.eta, Late.eta, val_sl] at hr); cbv)
    all_goals ((try dsimp only at *); (try simp only [nc, Int.toNat_natCast, Bool.not_eq_true', Bool.not_eq_false', decide_eq_true_eq, decide_eq_false_iff_not, beq_iff_eq, beq_eq_false_iff_ne, ba_inj, bne_iff_ne, ne_eq, Bool.and_eq_true, Bool.or_eq_true, Bool.and_eq_false_iff, Bool.or_eq_false_iff, Int.not_le, Int.not_lt, Nat.not_le, Nat.not_lt] at *); (try simp only [nc] at *))
    all_goals first
      | exact (noB_len _).symm
      | exact noB_get.symm
      | fail
  · cbv
    repeat' first | (show Stp _; exfalso; first | omega | (exact h ‹_›) | (exact absurd ‹_› h) | (exact Bool.false_ne_true (h.symm.trans (show _ = true by assumption)))) | (refine Stp.mk ?_; cbv) | (refine Gen.mk fun r hr => ?_; (try simp only [Dat.ok, Dat.dec, Leaf.ok, Leaf.val, Span.eta, Set.eta, Task.eta, Done.eta, Late.eta, val_sl, val_nil] at hr); cbv) | exact trivial | rfl | refine Both.mk ?_ ?_ | (refine Imp.mk fun h => ?_; (try dsimp only at h); (try simp only [nc, Int.toNat_natCast, Bool.not_eq_true', Bool.not_eq_false', decide_eq_true_eq, decide_eq_false_iff_not, beq_iff_eq, beq_eq_false_iff_ne, ba_inj, bne_iff_ne, ne_eq, Bool.and_eq_true, Bool.or_eq_true, Bool.and_eq_false_iff, Bool.or_eq_false_iff, Int.not_le, Int.not_lt, Nat.not_le, Nat.not_lt] at h); (try simp only [nc] at h)) | refine Ob.mk ?_ ?_ | refine Chk.mk (by kernel_rfl) ?_ | refine Eq'.mk ?_ | (refine AllN.mk fun i hi => ?_; cbv) | (refine AllS.mk fun r hr => ?_; (try simp only [Dat.ok, Dat.dec, Leaf.ok, Leaf.val, Span.eta, Set.eta, Task.eta, Done.eta, Late.eta, val_sl] at hr); cbv)
    all_goals ((try dsimp only at *); (try simp only [nc, Int.toNat_natCast, Bool.not_eq_true', Bool.not_eq_false', decide_eq_true_eq, decide_eq_false_iff_not, beq_iff_eq, beq_eq_false_iff_ne, ba_inj, bne_iff_ne, ne_eq, Bool.and_eq_true, Bool.or_eq_true, Bool.and_eq_false_iff, Bool.or_eq_false_iff, Int.not_le, Int.not_lt, Nat.not_le, Nat.not_lt] at *); (try simp only [nc] at *))
    all_goals try rw [nc] at *
    all_goals first
      | omega
      | exact ⟨by omega, by omega⟩
      | exact ⟨Nat.le_refl _, trivial, by omega, by omega⟩
      | exact ⟨Nat.le_refl _, Nat.le_refl _, by omega, by omega⟩
      | (unfold InR; omega)
      | (have hk2 : k < o.length := by omega
         have hd := ofRk_drop (l := l) (seen := seen) (out := out) hk2
         have hge : o.getD k 0 < 0 ∨ (l.length : Int) ≤ o.getD k 0 := by first | exact .inl (by assumption) | exact .inr (by assumption)
         rw [if_pos hge, ← hr] at hd
         exact fin0 _ _ _ (hoV _ hd))
      | (have hk2 : k < o.length := by omega
         have hd := ofRk_drop (l := l) (seen := seen) (out := out) hk2
         have hge : ¬ (o.getD k 0 < 0 ∨ (l.length : Int) ≤ o.getD k 0) := fun q => q.elim (Int.not_lt.2 (by assumption)) (Int.not_le.2 (by assumption))
         have hse : seen.getD (o.getD k 0).toNat false = true := by assumption
         rw [if_neg hge, if_pos hse, ← hr] at hd
         exact fin0 _ _ _ (hoV _ hd))
      | (have hd : ofRk l o (noB l.length) [] = some out := by rw [hr, List.drop_eq_nil_of_le (by omega), ofRk]
         exact fin1 out _ _ _ _ (hoV _ hd) rfl)
      | skip
    · have hk2 : k < o.length := by omega
      have hd := ofRk_drop (l := l) (seen := seen) (out := out) hk2
      have hge : ¬ (o.getD k 0 < 0 ∨ (l.length : Int) ≤ o.getD k 0) := fun q => q.elim (Int.not_lt.2 (by assumption)) (Int.not_le.2 (by assumption))
      have hse : seen.getD (o.getD k 0).toNat false = false := by assumption
      have hse : ¬ seen.getD (o.getD k 0).toNat false = true := by rw [hse]; decide
      rw [if_neg hge, if_neg hse, ← hr] at hd
      have hpl : (o.getD k 0).toNat < seen.length := by omega
      refine ⟨⟨k + 1, _, _, by omega, by rw [List.length_set]; exact hs, (snocT_len _ _).trans (by omega), hd⟩, ?_, ?_, rfl, show o.length - (k + 1) < o.length - k by omega⟩
      · cbv
        repeat' first | (refine Stp.mk ?_; cbv) | (refine Gen.mk fun r hr => ?_; (try simp only [Dat.ok, Dat.dec, Leaf.ok, Leaf.val, Span.eta, Set.eta, Task.eta, Done.eta, Late.eta, val_sl, val_nil] at hr); cbv) | exact trivial | rfl | refine Both.mk ?_ ?_ | (refine Imp.mk fun h => ?_; (try dsimp only at h); (try simp only [nc, Int.toNat_natCast, Bool.not_eq_true', Bool.not_eq_false', decide_eq_true_eq, decide_eq_false_iff_not, beq_iff_eq, beq_eq_false_iff_ne, ba_inj, bne_iff_ne, ne_eq, Bool.and_eq_true, Bool.or_eq_true, Bool.and_eq_false_iff, Bool.or_eq_false_iff, Int.not_le, Int.not_lt, Nat.not_le, Nat.not_lt] at h); (try simp only [nc] at h)) | refine Ob.mk ?_ ?_ | refine Chk.mk (by kernel_rfl) ?_ | refine Eq'.mk ?_ | (refine AllN.mk fun i hi => ?_; cbv) | (refine AllS.mk fun r hr => ?_; (try simp only [Dat.ok, Dat.dec, Leaf.ok, Leaf.val, Span.eta, Set.eta, Task.eta, Done.eta, Late.eta, val_sl] at hr); cbv)
        all_goals first | rfl | exact (snocT_len _ _).symm
      · cbv
        repeat' first | (refine Stp.mk ?_; cbv) | (refine Gen.mk fun r hr => ?_; (try simp only [Dat.ok, Dat.dec, Leaf.ok, Leaf.val, Span.eta, Set.eta, Task.eta, Done.eta, Late.eta, val_sl, val_nil] at hr); cbv) | exact trivial | rfl | refine Both.mk ?_ ?_ | (refine Imp.mk fun h => ?_; (try dsimp only at h); (try simp only [nc, Int.toNat_natCast, Bool.not_eq_true', Bool.not_eq_false', decide_eq_true_eq, decide_eq_false_iff_not, beq_iff_eq, beq_eq_false_iff_ne, ba_inj, bne_iff_ne, ne_eq, Bool.and_eq_true, Bool.or_eq_true, Bool.and_eq_false_iff, Bool.or_eq_false_iff, Int.not_le, Int.not_lt, Nat.not_le, Nat.not_lt] at h); (try simp only [nc] at h)) | refine Ob.mk ?_ ?_ | refine Chk.mk (by kernel_rfl) ?_ | refine Eq'.mk ?_ | (refine AllN.mk fun i hi => ?_; cbv) | (refine AllS.mk fun r hr => ?_; (try simp only [Dat.ok, Dat.dec, Leaf.ok, Leaf.val, Span.eta, Set.eta, Task.eta, Done.eta, Late.eta, val_sl] at hr); cbv)
        all_goals ((try dsimp only at *); (try simp only [nc, Int.toNat_natCast, Bool.not_eq_true', Bool.not_eq_false', decide_eq_true_eq, decide_eq_false_iff_not, beq_iff_eq, beq_eq_false_iff_ne, ba_inj, bne_iff_ne, ne_eq, Bool.and_eq_true, Bool.or_eq_true, Bool.and_eq_false_iff, Bool.or_eq_false_iff, Int.not_le, Int.not_lt, Nat.not_le, Nat.not_lt] at *); (try simp only [nc] at *))
        all_goals first
          | exact (snocT_len _ _).symm
          | (rw [List.length_set]; done)
          | exact (gd_set _ _ _ _ _ (by assumption)).symm
          | (rw [gd_snoc _ _ _ _ (by assumption)]; cases decide (i < out.length) <;> rfl)
          | fail
theorem ord_ok : PcOk Try.prog 20 (ord_C) := fun A K h => by
  unfold ord_C at h
  split at h
  · rename_i l o
    cases h with
    | mk h1 h2 =>
      obtain ⟨g0, g1, hp⟩ := h1
      refine FnOk.pre ?_ (A' := [Leaf.av fun _ => (Leaf.val l : (List Task)), Leaf.av fun _ => (Leaf.val o : (List Int))]) (.mk (Leaf.hle _ g0) (.mk (Leaf.hle _ g1) (trivial)))
      exact FnOk.out (K := fun r H _ => K r H) (ord_vc (Leaf.val l) (Leaf.val o) hp) rfl h2.out
  · cases h

end Go.Proofs.Ytabchkekhpmpiaa
