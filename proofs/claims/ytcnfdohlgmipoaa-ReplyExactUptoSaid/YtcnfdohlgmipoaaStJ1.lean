/- slices.SortStableFunc of jobs: ranges turned. -/
import Derived.Test.YtcnfdohlgmipoaaAbsG4
import Derived.Test.YtcnfdohlgmipoaaTy
set_option linter.all false
namespace Go.Proofs.Ytcnfdohlgmipoaa
open Go Go.Abs

def swapU {α : Type} (l : List α) (a b n : Nat) (d : α) : List α := lst l.length fun i => if a ≤ i ∧ i < a + n then l.getD (i - a + b) d else if b ≤ i ∧ i < b + n then l.getD (i - b + a) d else l.getD i d
def dSw : FuncId → Option Dt := fun f => match f with
  | _ => none
theorem dSw_ok : DetOk Try.prog dSw := fun f d h => by
  unfold dSw at h
  split at h
  · cases h
def swR_P (l : List job) (a : Int) (b : Int) (n : Int) : Prop := 0 ≤ a ∧ 0 ≤ n ∧ a + n ≤ b ∧ b + n ≤ l.length ∧ l.length ≤ 1048576
def swR_F (l : List job) (a : Int) (b : Int) (n : Int) : List job := swapU l a.toNat b.toNat n.toNat ⟨⟨0, 0, 0, 0⟩, 0, 0⟩
def swR_S : OwnS job := { pre := fun r l => match r with | [.i .i64 a, .i .i64 b, .i .i64 n, .fn 29 []] => swR_P l (a ()) (b ()) (n ()) | _ => False, fin := fun r l => match r with | [.i .i64 a, .i .i64 b, .i .i64 n, .fn 29 []] => swR_F l (a ()) (b ()) (n ()) | _ => l, res := none, kl := false }
noncomputable def swR_K : Con := ownCon job 70 swR_S
structure SwX (n : Int) where
  k : Nat
  hk : k ≤ n
theorem swapU_len {α : Type} (l : List α) (a b n : Nat) (d : α) : (swapU l a b n d).length = l.length := lst_len _ _
theorem swapU_get {α : Type} (l : List α) (a b n : Nat) (d : α) {i : Nat} (hi : i < l.length) : (swapU l a b n d).getD i d = if a ≤ i ∧ i < a + n then l.getD (i - a + b) d else if b ≤ i ∧ i < b + n then l.getD (i - b + a) d else l.getD i d := lst_get hi
theorem swapU_zero {α : Type} (l : List α) (a b : Nat) (d : α) : swapU l a b 0 d = l := lst_eq rfl fun i hi => by
  rw [if_neg (by omega), if_neg (by omega)]
theorem swapU_step {α : Type} {l : List α} {a b n k : Nat} {d : α} (hk : k < n) (h3 : a + n ≤ b) (h4 : b + n ≤ l.length) {i : Nat} (hi : i < l.length) :
    (swapU l a b (k + 1) d).getD i d = if i = b + k then (swapU l a b k d).getD (a + k) d else if i = a + k then (swapU l a b k d).getD (b + k) d else (swapU l a b k d).getD i d := by
  rw [swapU_get l a b (k + 1) d hi]
  by_cases h1 : i = b + k
  · subst h1
    rw [if_neg (by omega), if_pos (by omega), if_pos rfl, swapU_get l a b k d (by omega), if_neg (by omega), if_neg (by omega)]
    congr 1; omega
  · rw [if_neg h1]
    by_cases h2 : i = a + k
    · subst h2
      rw [if_pos (by omega), if_pos rfl, swapU_get l a b k d (by omega), if_neg (by omega), if_neg (by omega)]
      congr 1; omega
    · rw [if_neg h2, swapU_get l a b k d hi]
      by_cases h5 : a ≤ i ∧ i < a + k
      · rw [if_pos (by omega), if_pos h5]
      · rw [if_neg (by omega), if_neg h5]
        by_cases h6 : b ≤ i ∧ i < b + k
        · rw [if_pos (by omega), if_pos h6]
        · rw [if_neg (by omega), if_neg h6]
abbrev jd0 : job := ⟨⟨0, 0, 0, 0⟩, 0, 0⟩
theorem swapU_c {l : List job} {a b n k i : Nat} (f : job → Int) (hk : k < n) (h3 : a + n ≤ b) (h4 : b + n ≤ l.length) (hi : i < l.length) :
    (bif decide (i = b + k) then f ((swapU l a b k jd0).getD (a + k) Dat.d0) else bif decide (i = a + k) then f ((swapU l a b k jd0).getD (b + k) Dat.d0) else f ((swapU l a b k jd0).getD i Dat.d0)) = f ((swapU l a b (k + 1) jd0).getD i Dat.d0) := by
  have := swapU_step (d := jd0) hk h3 h4 hi
  show _ = f ((swapU l a b (k + 1) jd0).getD i jd0)
  rw [this]
  by_cases q1 : i = b + k
  · rw [decide_eq_true q1, if_pos q1]; rfl
  · rw [decide_eq_false q1, if_neg q1]
    by_cases q2 : i = a + k
    · rw [decide_eq_true q2, if_pos q2]; rfl
    · rw [decide_eq_false q2, if_neg q2]; rfl
set_option maxRecDepth 100000 in
set_option maxHeartbeats 4000000 in
theorem swR_vc (l : List job) (a : Int) (b : Int) (n : Int) (hp : swR_P l a b n) : FnOk Try.prog 61 [.own 0 fun _ => l.length, .i .i64 fun _ => a, .i .i64 fun _ => b, .i .i64 fun _ => n, .fn 29 []] [vecO 70 fun _ => l] (outLe 1 (.tup []) [vecO 70 fun _ => swR_F l a b n] []) := by
  refine fn_ok envOk zl noCon_ok (draws_ok envOk zl dSw_ok mixed) (keep := [0, 1, 2, 3, 10, 13]) Try.func61 rfl ?_
  obtain ⟨h1, h2, h3, h4, h5⟩ := hp
  obtain ⟨A, rfl⟩ := Int.eq_ofNat_of_zero_le h1
  obtain ⟨N, rfl⟩ := Int.eq_ofNat_of_zero_le h2
  obtain ⟨B, rfl⟩ := Int.eq_ofNat_of_zero_le (show 0 ≤ b by omega)
  cbv
  repeat' first | (show Stp _; exfalso; first | omega | (exact h ‹_›) | (exact absurd ‹_› h) | (exact Bool.false_ne_true (h.symm.trans (show _ = true by assumption)))) | (refine Stp.mk ?_; cbv) | (refine Gen.mk fun r hr => ?_; (try simp only [Dat.ok, Dat.dec, Leaf.ok, Leaf.val, Span.eta, Set.eta, Task.eta, Done.eta, job.eta, Late.eta, val_sl, val_nil] at hr); cbv) | exact trivial | rfl | refine Both.mk ?_ ?_ | (refine Imp.mk fun h => ?_; (try dsimp only at h); (try simp only [nc, Int.toNat_natCast, ne_eq, zz] at h); (try simp only [nc] at h)) | refine Ob.mk ?_ ?_ | refine Chk.mk (by kernel_rfl) ?_ | refine Eq'.mk ?_ | (refine AllN.mk fun i hi => ?_; cbv) | (refine AllC.mk fun c hc hcm => ?_; (try dsimp only at hc); cbv) | (refine AllS.mk fun r hr => ?_; (try simp only [Dat.ok, Dat.dec, Leaf.ok, Leaf.val, Span.eta, Set.eta, Task.eta, Done.eta, job.eta, Late.eta, val_sl] at hr); cbv)
  all_goals ((try dsimp only at *); (try simp only [nc, Int.toNat_natCast, ne_eq, zz] at *); (try simp only [nc] at *))
  refine LoopVC.frame [10, 13] (SwX (N : Int)) (fun x => [(10, .i .i64 fun _ => x.k)]) (fun x => [(0, vecO 70 fun _ => swapU l A B x.k jd0)]) [] (fun x => N - x.k) ⟨0, by omega⟩ rfl (fun _ => rfl) ?_ ?_ fun ⟨k, hk⟩ => ?_
  · cbv
    repeat' first | (refine Stp.mk ?_; cbv) | (refine Gen.mk fun r hr => ?_; (try simp only [Dat.ok, Dat.dec, Leaf.ok, Leaf.val, Span.eta, Set.eta, Task.eta, Done.eta, job.eta, Late.eta, val_sl, val_nil] at hr); cbv) | exact trivial | rfl | refine Both.mk ?_ ?_ | (refine Imp.mk fun h => ?_; (try dsimp only at h); (try simp only [nc, Int.toNat_natCast, ne_eq, zz] at h); (try simp only [nc] at h)) | refine Ob.mk ?_ ?_ | refine Chk.mk (by kernel_rfl) ?_ | refine Eq'.mk ?_ | (refine AllN.mk fun i hi => ?_; cbv) | (refine AllC.mk fun c hc hcm => ?_; (try dsimp only at hc); cbv) | (refine AllS.mk fun r hr => ?_; (try simp only [Dat.ok, Dat.dec, Leaf.ok, Leaf.val, Span.eta, Set.eta, Task.eta, Done.eta, job.eta, Late.eta, val_sl] at hr); cbv)
  · cbv
    repeat' first | (refine Stp.mk ?_; cbv) | (refine Gen.mk fun r hr => ?_; (try simp only [Dat.ok, Dat.dec, Leaf.ok, Leaf.val, Span.eta, Set.eta, Task.eta, Done.eta, job.eta, Late.eta, val_sl, val_nil] at hr); cbv) | exact trivial | rfl | refine Both.mk ?_ ?_ | (refine Imp.mk fun h => ?_; (try dsimp only at h); (try simp only [nc, Int.toNat_natCast, ne_eq, zz] at h); (try simp only [nc] at h)) | refine Ob.mk ?_ ?_ | refine Chk.mk (by kernel_rfl) ?_ | refine Eq'.mk ?_ | (refine AllN.mk fun i hi => ?_; cbv) | (refine AllC.mk fun c hc hcm => ?_; (try dsimp only at hc); cbv) | (refine AllS.mk fun r hr => ?_; (try simp only [Dat.ok, Dat.dec, Leaf.ok, Leaf.val, Span.eta, Set.eta, Task.eta, Done.eta, job.eta, Late.eta, val_sl] at hr); cbv)
    all_goals try dsimp only
    all_goals try simp only [swapU_zero]
  have eA : ((A : Int) + (k : Int)).toNat = A + k := by omega
  have eB : ((B : Int) + (k : Int)).toNat = B + k := by omega
  have hlen := swapU_len l A B k jd0
  cbv
  repeat' first | (show Stp _; exfalso; first | omega | (exact h ‹_›) | (exact absurd ‹_› h) | (exact Bool.false_ne_true (h.symm.trans (show _ = true by assumption)))) | (refine Stp.mk ?_; cbv) | (refine Gen.mk fun r hr => ?_; (try simp only [Dat.ok, Dat.dec, Leaf.ok, Leaf.val, Span.eta, Set.eta, Task.eta, Done.eta, job.eta, Late.eta, val_sl, val_nil] at hr); cbv) | exact trivial | rfl | refine Both.mk ?_ ?_ | (refine Imp.mk fun h => ?_; (try dsimp only at h); (try simp only [nc, Int.toNat_natCast, ne_eq, zz] at h); (try simp only [nc] at h)) | refine Ob.mk ?_ ?_ | refine Chk.mk (by kernel_rfl) ?_ | refine Eq'.mk ?_ | (refine AllN.mk fun i hi => ?_; cbv) | (refine AllC.mk fun c hc hcm => ?_; (try dsimp only at hc); cbv) | (refine AllS.mk fun r hr => ?_; (try simp only [Dat.ok, Dat.dec, Leaf.ok, Leaf.val, Span.eta, Set.eta, Task.eta, Done.eta, job.eta, Late.eta, val_sl] at hr); cbv)
  all_goals ((try dsimp only at *); (try simp only [nc, Int.toNat_natCast, ne_eq, zz] at *); (try simp only [nc] at *))
  all_goals first
    | omega
    | (unfold InR; omega)
    | exact ⟨by omega, by omega⟩
    | (rw [eA, hlen]; omega)
    | (rw [eB, hlen]; omega)
    | skip
  all_goals first
    | (refine ⟨⟨k + 1, by omega⟩, ?_, ?_, rfl, by (try dsimp only); omega⟩
       · cbv
         repeat' first | (refine Stp.mk ?_; cbv) | (refine Gen.mk fun r hr => ?_; (try simp only [Dat.ok, Dat.dec, Leaf.ok, Leaf.val, Span.eta, Set.eta, Task.eta, Done.eta, job.eta, Late.eta, val_sl, val_nil] at hr); cbv) | exact trivial | rfl | refine Both.mk ?_ ?_ | (refine Imp.mk fun h => ?_; (try dsimp only at h); (try simp only [nc, Int.toNat_natCast, ne_eq, zz] at h); (try simp only [nc] at h)) | refine Ob.mk ?_ ?_ | refine Chk.mk (by kernel_rfl) ?_ | refine Eq'.mk ?_ | (refine AllN.mk fun i hi => ?_; cbv) | (refine AllC.mk fun c hc hcm => ?_; (try dsimp only at hc); cbv) | (refine AllS.mk fun r hr => ?_; (try simp only [Dat.ok, Dat.dec, Leaf.ok, Leaf.val, Span.eta, Set.eta, Task.eta, Done.eta, job.eta, Late.eta, val_sl] at hr); cbv)
       · cbv
         repeat' first | (refine Stp.mk ?_; cbv) | (refine Gen.mk fun r hr => ?_; (try simp only [Dat.ok, Dat.dec, Leaf.ok, Leaf.val, Span.eta, Set.eta, Task.eta, Done.eta, job.eta, Late.eta, val_sl, val_nil] at hr); cbv) | exact trivial | rfl | refine Both.mk ?_ ?_ | (refine Imp.mk fun h => ?_; (try dsimp only at h); (try simp only [nc, Int.toNat_natCast, ne_eq, zz] at h); (try simp only [nc] at h)) | refine Ob.mk ?_ ?_ | refine Chk.mk (by kernel_rfl) ?_ | refine Eq'.mk ?_ | (refine AllN.mk fun i hi => ?_; cbv) | (refine AllC.mk fun c hc hcm => ?_; (try dsimp only at hc); cbv) | (refine AllS.mk fun r hr => ?_; (try simp only [Dat.ok, Dat.dec, Leaf.ok, Leaf.val, Span.eta, Set.eta, Task.eta, Done.eta, job.eta, Late.eta, val_sl] at hr); cbv)
         all_goals ((try dsimp only at *); (try simp only [nc, Int.toNat_natCast, ne_eq, zz] at *); (try simp only [nc] at *))
         all_goals first
           | exact hlen.trans (swapU_len l A B (k + 1) jd0).symm
           | (have hi' : i < l.length := by rw [hlen] at hi; exact hi
              have sc := fun f => @swapU_c l A B N k i f (by omega) (by omega) (by omega) hi'
              simp only [eA, eB]
              first
                | exact sc fun x => x.done.task
                | exact sc fun x => x.done.job
                | exact sc fun x => x.done.came
                | exact sc fun x => x.done.at_
                | exact sc fun x => x.due
                | exact sc fun x => x.left)
           | fail)
    | (obtain rfl : k = N := by omega
       rfl)
    | fail
theorem swR_ok {A : List AV} {H : Hp} {K : Kont} (h : swR_K A H K) : FnOk Try.prog 61 A H K := ownCon_ok (fun _ _ h => by cases h) (fun rest d _ hp => by
  have hp : (match (generalizing := false) rest with | [.i .i64 a, .i .i64 b, .i .i64 n, .fn 29 []] => swR_P d (a ()) (b ()) (n ()) | _ => False) := hp
  split at hp
  · rename_i a b n _ _; exact swR_vc d (a ()) (b ()) (n ()) hp
  · cases hp) h
theorem swR_okO : DtOk Try.prog 61 (.o (ownDet job 70 swR_S)) := ownDet_ok (fun _ _ h => by cases h) (fun rest d _ hp => by
  have hp : (match (generalizing := false) rest with | [.i .i64 a, .i .i64 b, .i .i64 n, .fn 29 []] => swR_P d (a ()) (b ()) (n ()) | _ => False) := hp
  split at hp
  · rename_i a b n _ _; exact swR_vc d (a ()) (b ()) (n ()) hp
  · cases hp)

end Go.Proofs.Ytcnfdohlgmipoaa
