/- container/heap's Push and Pop at a queue of jobs, walked once each. -/
import Derived.Test.YtcnfdohlgmipoaaPlayR
import Derived.Test.YtcnfdohlgmipoaaCmpO
import Derived.Test.YtcnfdohlgmipoaaAbsG4
set_option linter.all false
namespace Go.Proofs.Ytcnfdohlgmipoaa
open Go Go.Abs

def dLs : FuncId → Option Dt := fun f => match f with
  | 30 => some (.c cmpI_D)
  | 82 => some (.c orI_D)
  | _ => none
theorem dLs_ok : DetOk Try.prog dLs := fun f d h => by
  unfold dLs at h
  split at h
  · cases h; exact ⟨⟨Try.f30, Try.func30, by kernel_rfl, by kernel_rfl⟩, cmpI_ok⟩
  · cases h; exact ⟨⟨Try.f82, Try.func82, by kernel_rfl, by kernel_rfl⟩, orI_ok⟩
  · cases h
noncomputable def cLs : FuncId → Con := fun f => match f with
  | 30 => pureCon (detPC cmpI_D)
  | _ => fun _ _ _ => Bad 1001
theorem cLs_ok : ConOk Try.prog cLs := fun f A H K h => by
  unfold cLs at h
  split at h
  · exact ⟨⟨Try.f30, Try.func30, by kernel_rfl, by kernel_rfl⟩, pureCon_ok cmpI_ok h⟩
  · cases h
noncomputable def cUp : FuncId → Con := fun f => match f with
  | 78 => inlCon E cLs (draws E dLs) [0, 1, 2, 6, 7, 8, 9, 28] Try.f78
  | 81 => inlCon E noCon (draws E dLs) [0, 1, 2] Try.f81
  | _ => fun _ _ _ => Bad 1001
theorem cUp_ok : ConOk Try.prog cUp := fun f A H K h => by
  unfold cUp at h
  split at h
  · exact ⟨⟨Try.f78, Try.func78, by kernel_rfl, by kernel_rfl⟩, inl_ok envOk zl cLs_ok (draws_ok envOk zl dLs_ok mixed) Try.func78 h⟩
  · exact ⟨⟨Try.f81, Try.func81, by kernel_rfl, by kernel_rfl⟩, inl_ok envOk zl noCon_ok (draws_ok envOk zl dLs_ok mixed) Try.func81 h⟩
  · cases h
noncomputable def cPush : FuncId → Con := fun f => match f with
  | 80 => inlCon E noCon (draws E dLs) [0, 1] Try.f80
  | 33 => inlCon E noCon noDraws [0, 2] Try.f33
  | 43 => inlCon E cUp noDraws [0, 1, 4, 17] Try.f43
  | _ => fun _ _ _ => Bad 1001
theorem cPush_ok : ConOk Try.prog cPush := fun f A H K h => by
  unfold cPush at h
  split at h
  · exact ⟨⟨Try.f80, Try.func80, by kernel_rfl, by kernel_rfl⟩, inl_ok envOk zl noCon_ok (draws_ok envOk zl dLs_ok mixed) Try.func80 h⟩
  · exact ⟨⟨Try.f33, Try.func33, by kernel_rfl, by kernel_rfl⟩, inl_ok envOk zl noCon_ok noDraws_ok Try.func33 h⟩
  · exact ⟨⟨Try.f43, Try.func43, by kernel_rfl, by kernel_rfl⟩, inl_ok envOk zl cUp_ok noDraws_ok Try.func43 h⟩
  · cases h
noncomputable def cPop : FuncId → Con := fun f => match f with
  | 79 => inlCon E noCon (draws E dLs) [0, 2, 3, 4] Try.f79
  | 33 => inlCon E noCon noDraws [0, 2] Try.f33
  | 81 => inlCon E noCon (draws E dLs) [0, 1, 2] Try.f81
  | 46 => inlCon E cUp noDraws [0, 1, 2, 6, 7, 8, 9, 10, 21, 33, 39] Try.f46
  | _ => fun _ _ _ => Bad 1001
theorem cPop_ok : ConOk Try.prog cPop := fun f A H K h => by
  unfold cPop at h
  split at h
  · exact ⟨⟨Try.f79, Try.func79, by kernel_rfl, by kernel_rfl⟩, inl_ok envOk zl noCon_ok (draws_ok envOk zl dLs_ok mixed) Try.func79 h⟩
  · exact ⟨⟨Try.f33, Try.func33, by kernel_rfl, by kernel_rfl⟩, inl_ok envOk zl noCon_ok noDraws_ok Try.func33 h⟩
  · exact ⟨⟨Try.f81, Try.func81, by kernel_rfl, by kernel_rfl⟩, inl_ok envOk zl noCon_ok (draws_ok envOk zl dLs_ok mixed) Try.func81 h⟩
  · exact ⟨⟨Try.f46, Try.func46, by kernel_rfl, by kernel_rfl⟩, inl_ok envOk zl cUp_ok noDraws_ok Try.func46 h⟩
  · cases h
theorem swapH_c {l : List job} {a b i : Nat} (f : job → Int) (ha : a < l.length) (hb : b < l.length) :
    (bif decide (i = b) then f (l.getD a Dat.d0) else bif decide (i = a) then f (l.getD b Dat.d0) else f (l.getD i Dat.d0)) = f ((swapH jz l a b).getD i Dat.d0) := by
  have := swapH_get jz (k := i) ha hb
  show _ = f ((swapH jz l a b).getD i jz)
  rw [this]
  by_cases q1 : i = b
  · rw [decide_eq_true q1, if_pos q1]; rfl
  · rw [decide_eq_false q1, if_neg q1]
    by_cases q2 : i = a
    · rw [decide_eq_true q2, if_pos q2]; rfl
    · rw [decide_eq_false q2, if_neg q2]; rfl
theorem par_eq (m : Nat) : ((m : Int) - 1).tdiv 2 = ((m - 1) / 2 : Nat) := by
  cases m with
  | zero => rfl
  | succ m =>
    rw [show ((m + 1 : Nat) : Int) - 1 = (m : Int) by omega, show m + 1 - 1 = m by omega]
    exact (Int.ofNat_tdiv m 2).symm
theorem cmpV_cases (a b : Int) : (a < b ∧ cmpV a b = -1) ∨ (a = b ∧ cmpV a b = 0) ∨ (b < a ∧ cmpV a b = 1) := by
  unfold cmpV
  split
  · exact .inl ⟨by assumption, rfl⟩
  · split
    · exact .inr (.inr ⟨by assumption, rfl⟩)
    · exact .inr (.inl ⟨by omega, rfl⟩)
theorem cmp2 {c d e f : Int} : orV [0, cmpV c d, cmpV e f] < 0 ↔ (c < d ∨ (c = d ∧ e < f)) := by
  rcases cmpV_cases c d with ⟨h1, e1⟩ | ⟨h1, e1⟩ | ⟨h1, e1⟩ <;> rcases cmpV_cases e f with ⟨h2, e2⟩ | ⟨h2, e2⟩ | ⟨h2, e2⟩ <;> rw [e1, e2] <;> simp [orV] <;> omega
theorem cmp3 {a b c d e f : Int} : orV [cmpV a b, cmpV c d, cmpV e f] < 0 ↔ (a < b ∨ (a = b ∧ (c < d ∨ (c = d ∧ e < f)))) := by
  rcases cmpV_cases a b with ⟨h1, e1⟩ | ⟨h1, e1⟩ | ⟨h1, e1⟩
  · rw [e1]; simp [orV, h1]
  · rw [e1]
    have := @cmp2 c d e f
    constructor
    · intro h; exact .inr ⟨h1, this.1 h⟩
    · rintro (h | ⟨_, h⟩)
      · omega
      · exact this.2 h
  · rw [e1]; simp [orV]; omega
theorem lt_edf {a b : job} : orV [cmpV a.due b.due, cmpV a.done.task b.done.task, cmpV a.done.job b.done.job] < 0 ↔ keyLt false a b := by
  rw [cmp3]; unfold keyLt; simp
theorem lt_fix {a b : job} : orV [0, cmpV a.done.task b.done.task, cmpV a.done.job b.done.job] < 0 ↔ keyLt true a b := by
  rw [cmp2]; unfold keyLt; simp
theorem rowN3 (a b c : Int) : slV (α := Int) (.sl 1 (fun _ => 3) (rowN 1 [.i .i64 fun _ => a, .i .i64 fun _ => b, .i .i64 fun _ => c])) = [a, b, c] := rfl
theorem or3_ok (a b c : Int) : Leaf.ok (List Int) (.sl 1 (fun _ => 3) (rowN 1 [.i .i64 fun _ => a, .i .i64 fun _ => b, .i .i64 fun _ => c])) ∧ orI_P (slV (.sl 1 (fun _ => 3) (rowN 1 [.i .i64 fun _ => a, .i .i64 fun _ => b, .i .i64 fun _ => c]))) :=
  ⟨⟨rfl, fun i hi => by rcases i with _ | _ | _ | i <;> first | trivial | (exfalso; have hi : i + 3 < 3 := hi; omega)⟩, by rw [rowN3]; show 3 ≤ 9223372036854775807; decide⟩
theorem appU_c {l : List job} {n i : Nat} {x : job} (f : job → Int) (hn : n ≤ l.length) (hi : i < n + 1) : (bif decide (i < n) then f (l.getD i Dat.d0) else f x) = f ((l.take n ++ [x]).getD i Dat.d0) := by
  by_cases h : i < n
  · rw [decide_eq_true h, cond_true]
    congr 1
    simp [List.getD_eq_getElem?_getD, List.getElem?_append, h, hn, show i < l.length by omega]
  · have : i = n := by omega
    subst this
    rw [decide_eq_false h, cond_false]
    congr 1
    simp [List.getD_eq_getElem?_getD, List.getElem?_append, hn]
theorem up_step {fx : Bool} {f : Nat} {l : List job} {m : Nat} (h1 : ¬ (m - 1) / 2 = m) (h2 : keyLt fx (l.getD m Dat.d0) (l.getD ((m - 1) / 2) Dat.d0)) : upH (keyLt fx) jz (f + 1) l m = upH (keyLt fx) jz f (swapH jz l ((m - 1) / 2) m) ((m - 1) / 2) := by
  rw [upH, if_neg]
  rintro (h | h)
  · exact h1 h
  · exact h h2
theorem up_end {fx : Bool} {f : Nat} {l : List job} {m : Nat} (h : (m - 1) / 2 = m ∨ ¬ keyLt fx (l.getD m Dat.d0) (l.getD ((m - 1) / 2) Dat.d0)) : upH (keyLt fx) jz (f + 1) l m = l := by
  rw [upH]; exact if_pos h
structure HdX (fx : Bool) (l0 : List job) (n : Nat) where
  f : Nat
  i : Nat
  l : List job
  hf : n - i < f
  hl : l.length = l0.length
  hp : l.Perm l0
  hi : i ≤ n
  he : downH (keyLt fx) jz (n + 1) l0 0 n = downH (keyLt fx) jz f l i n
structure HuX (fx : Bool) (l0 : List job) (n : Nat) where
  f : Nat
  m : Nat
  l : List job
  hf : m < f
  hm : m ≤ n
  hl : l.length = n + 1
  hp : l.Perm l0
  he : upH (keyLt fx) jz (n + 1) l0 n = upH (keyLt fx) jz f l m
theorem jget_mem {l : List job} {k : Nat} (h : k < l.length) : l.getD k Dat.d0 ∈ l := by
  have e : l.getD k Dat.d0 = l[k] := by simp [h]
  rw [e]; exact List.getElem_mem _
structure HuY (fx : Bool) (l0 : List job) (n : Nat) where
  f : Nat
  m : Nat
  l : List job
  hf : m < f
  hm : m ≤ n
  hl : l.length = n + 1
  he : upH (keyLt fx) jz (n + 1) l0 n = upH (keyLt fx) jz f l m
set_option maxRecDepth 100000 in
set_option maxHeartbeats 4000000 in
theorem push_vc (l : List job) (n : Nat) (x : job) (fx : Bool) (hn : n ≤ l.length) (hl : l.length ≤ 1000000) : FnOk Try.prog 31 [.ifc 73 (.ptr 0 0), .ifc 70 (.agg (Dat.enc fun _ => x))] [.blk [.own 1 fun _ => n, .b fun _ => fx], vecO 70 fun _ => l]
    (outLe 2 (.tup []) [.blk [.own 1 fun _ => n + 1, .b fun _ => fx], vecO 70 fun _ => pushA fx l n x] [1]) := by
  refine fn_ok envOk zl cPush_ok noDraws_ok (keep := [0, 1]) Try.func31 rfl ?_
  cbv
  repeat' first | (show Stp _; exfalso; first | omega | (exact h ‹_›) | (exact absurd ‹_› h) | (exact Bool.false_ne_true (h.symm.trans (show _ = true by assumption)))) | (refine Stp.mk ?_; cbv) | (refine Gen.mk fun r hr => ?_; (try simp only [Dat.ok, Dat.dec, Leaf.ok, Leaf.val, Span.eta, Set.eta, Task.eta, Done.eta, job.eta, Late.eta, val_sl, val_nil] at hr); cbv) | exact trivial | rfl | refine Both.mk ?_ ?_ | (refine Imp.mk fun h => ?_; (try dsimp only at h); (try simp only [nc, Int.toNat_natCast, ne_eq, zz] at h); (try simp only [nc] at h)) | refine Ob.mk ?_ ?_ | refine Chk.mk (by kernel_rfl) ?_ | refine Eq'.mk ?_ | (refine AllN.mk fun i hi => ?_; cbv) | (refine AllC.mk fun c hc hcm => ?_; (try dsimp only at hc); cbv) | (refine AllS.mk fun r hr => ?_; (try simp only [Dat.ok, Dat.dec, Leaf.ok, Leaf.val, Span.eta, Set.eta, Task.eta, Done.eta, job.eta, Late.eta, val_sl] at hr); cbv)
  all_goals ((try dsimp only at *); (try simp only [nc, Int.toNat_natCast, ne_eq, zz] at *); (try simp only [nc] at *))
  all_goals try (first
    | omega
    | (unfold InR; omega)
    | exact ⟨by omega, by omega⟩
    | exact ⟨hn, Nat.le_refl _, by omega, by omega⟩)
  refine LoopVC.frame [1, 4, 17] (HuY fx (l.take n ++ [x]) n) (fun x => [(1, .i .i64 fun _ => x.m)]) (fun y => [(1, vecO 70 fun _ => y.l)]) [1] (fun x => x.m) ⟨n + 1, n, l.take n ++ [x], Nat.lt_succ_self _, Nat.le_refl _, by simp [hn], rfl⟩ rfl (fun _ => rfl) ?_ ?_ fun ⟨f3, m3, l3, hf3, hm3, hl3, he3⟩ => ?_
  · cbv
    repeat' first | (refine Stp.mk ?_; cbv) | (refine Gen.mk fun r hr => ?_; (try simp only [Dat.ok, Dat.dec, Leaf.ok, Leaf.val, Span.eta, Set.eta, Task.eta, Done.eta, job.eta, Late.eta, val_sl, val_nil] at hr); cbv) | exact trivial | rfl | refine Both.mk ?_ ?_ | (refine Imp.mk fun h => ?_; (try dsimp only at h); (try simp only [nc, Int.toNat_natCast, ne_eq, zz] at h); (try simp only [nc] at h)) | refine Ob.mk ?_ ?_ | refine Chk.mk (by kernel_rfl) ?_ | refine Eq'.mk ?_ | (refine AllN.mk fun i hi => ?_; cbv) | (refine AllC.mk fun c hc hcm => ?_; (try dsimp only at hc); cbv) | (refine AllS.mk fun r hr => ?_; (try simp only [Dat.ok, Dat.dec, Leaf.ok, Leaf.val, Span.eta, Set.eta, Task.eta, Done.eta, job.eta, Late.eta, val_sl] at hr); cbv)
    all_goals (show ((n + 1 : Nat) : Int) - 1 = (n : Int); omega)
  · cbv
    repeat' first | (refine Stp.mk ?_; cbv) | (refine Gen.mk fun r hr => ?_; (try simp only [Dat.ok, Dat.dec, Leaf.ok, Leaf.val, Span.eta, Set.eta, Task.eta, Done.eta, job.eta, Late.eta, val_sl, val_nil] at hr); cbv) | exact trivial | rfl | refine Both.mk ?_ ?_ | (refine Imp.mk fun h => ?_; (try dsimp only at h); (try simp only [nc, Int.toNat_natCast, ne_eq, zz] at h); (try simp only [nc] at h)) | refine Ob.mk ?_ ?_ | refine Chk.mk (by kernel_rfl) ?_ | refine Eq'.mk ?_ | (refine AllN.mk fun i hi => ?_; cbv) | (refine AllC.mk fun c hc hcm => ?_; (try dsimp only at hc); cbv) | (refine AllS.mk fun r hr => ?_; (try simp only [Dat.ok, Dat.dec, Leaf.ok, Leaf.val, Span.eta, Set.eta, Task.eta, Done.eta, job.eta, Late.eta, val_sl] at hr); cbv)
    all_goals ((try dsimp only at *); (try simp only [nc, Int.toNat_natCast, ne_eq, zz] at *); (try simp only [nc] at *))
    all_goals first
      | (simp [hn]; done)
      | exact appU_c (fun x => x.done.task) hn hi
      | exact appU_c (fun x => x.done.job) hn hi
      | exact appU_c (fun x => x.done.came) hn hi
      | exact appU_c (fun x => x.done.at_) hn hi
      | exact appU_c (fun x => x.due) hn hi
      | exact appU_c (fun x => x.left) hn hi
      | fail
  cbv
  repeat' first | (show Stp _; exfalso; first | omega | (exact h ‹_›) | (exact absurd ‹_› h) | (exact Bool.false_ne_true (h.symm.trans (show _ = true by assumption)))) | (refine Stp.mk ?_; cbv) | (refine Gen.mk fun r hr => ?_; (try simp only [Dat.ok, Dat.dec, Leaf.ok, Leaf.val, Span.eta, Set.eta, Task.eta, Done.eta, job.eta, Late.eta, val_sl, val_nil] at hr); cbv) | exact trivial | rfl | refine Both.mk ?_ ?_ | (refine Imp.mk fun h => ?_; (try dsimp only at h); (try simp only [nc, Int.toNat_natCast, ne_eq, zz] at h); (try simp only [nc] at h)) | refine Ob.mk ?_ ?_ | refine Chk.mk (by kernel_rfl) ?_ | refine Eq'.mk ?_ | (refine AllN.mk fun i hi => ?_; cbv) | (refine AllC.mk fun c hc hcm => ?_; (try dsimp only at hc); cbv) | (refine AllS.mk fun r hr => ?_; (try simp only [Dat.ok, Dat.dec, Leaf.ok, Leaf.val, Span.eta, Set.eta, Task.eta, Done.eta, job.eta, Late.eta, val_sl] at hr); cbv)
  all_goals ((try dsimp only at *); (try simp only [nc, Int.toNat_natCast, ne_eq, zz] at *); (try simp only [nc] at *))
  all_goals try rw [nc] at *
  all_goals try simp only [Dat.dec, Leaf.val, Span.eta, Set.eta, Task.eta, Done.eta, job.eta, Late.eta, val_sl, rowN3, par_eq, Int.toNat_natCast] at *
  all_goals try (first
    | omega
    | (unfold InR; omega)
    | exact ⟨by omega, by omega⟩
    | exact ⟨by decide, by unfold InR; omega⟩
    | exact ⟨by omega, by omega, by omega⟩
    | exact ⟨Nat.le_refl _, or3_ok _ _ _⟩)
  all_goals obtain ⟨f4, rfl⟩ : ∃ f4, f3 = f4 + 1 := ⟨f3 - 1, by omega⟩
  all_goals first
    | (have hk9 : keyLt fx (l3.getD m3 Dat.d0) (l3.getD ((m3 - 1) / 2) Dat.d0) := by
         first
           | (have e : fx = false := by assumption
              rw [e]; exact lt_edf.1 (by assumption))
           | (have e : fx = true := by assumption
              rw [e]; exact lt_fix.1 (by assumption))
       refine ⟨⟨f4, (m3 - 1) / 2, swapH jz l3 ((m3 - 1) / 2) m3, by omega, by omega, by rw [swapH_len]; exact hl3, he3.trans (up_step (by omega) hk9)⟩, ?_, ?_, rfl, by (try dsimp only); omega⟩
       · cbv
         repeat' first | (refine Stp.mk ?_; cbv) | (refine Gen.mk fun r hr => ?_; (try simp only [Dat.ok, Dat.dec, Leaf.ok, Leaf.val, Span.eta, Set.eta, Task.eta, Done.eta, job.eta, Late.eta, val_sl, val_nil] at hr); cbv) | exact trivial | rfl | refine Both.mk ?_ ?_ | (refine Imp.mk fun h => ?_; (try dsimp only at h); (try simp only [nc, Int.toNat_natCast, ne_eq, zz] at h); (try simp only [nc] at h)) | refine Ob.mk ?_ ?_ | refine Chk.mk (by kernel_rfl) ?_ | refine Eq'.mk ?_ | (refine AllN.mk fun i hi => ?_; cbv) | (refine AllC.mk fun c hc hcm => ?_; (try dsimp only at hc); cbv) | (refine AllS.mk fun r hr => ?_; (try simp only [Dat.ok, Dat.dec, Leaf.ok, Leaf.val, Span.eta, Set.eta, Task.eta, Done.eta, job.eta, Late.eta, val_sl] at hr); cbv)
       · cbv
         repeat' first | (refine Stp.mk ?_; cbv) | (refine Gen.mk fun r hr => ?_; (try simp only [Dat.ok, Dat.dec, Leaf.ok, Leaf.val, Span.eta, Set.eta, Task.eta, Done.eta, job.eta, Late.eta, val_sl, val_nil] at hr); cbv) | exact trivial | rfl | refine Both.mk ?_ ?_ | (refine Imp.mk fun h => ?_; (try dsimp only at h); (try simp only [nc, Int.toNat_natCast, ne_eq, zz] at h); (try simp only [nc] at h)) | refine Ob.mk ?_ ?_ | refine Chk.mk (by kernel_rfl) ?_ | refine Eq'.mk ?_ | (refine AllN.mk fun i hi => ?_; cbv) | (refine AllC.mk fun c hc hcm => ?_; (try dsimp only at hc); cbv) | (refine AllS.mk fun r hr => ?_; (try simp only [Dat.ok, Dat.dec, Leaf.ok, Leaf.val, Span.eta, Set.eta, Task.eta, Done.eta, job.eta, Late.eta, val_sl] at hr); cbv)
         all_goals ((try dsimp only at *); (try simp only [nc, Int.toNat_natCast, ne_eq, zz] at *); (try simp only [nc] at *))
         all_goals try simp only [par_eq, Int.toNat_natCast]
         all_goals first
           | exact (swapH_len jz l3 _ _).symm
           | exact swapH_c (fun x => x.done.task) (by omega) (by omega)
           | exact swapH_c (fun x => x.done.job) (by omega) (by omega)
           | exact swapH_c (fun x => x.done.came) (by omega) (by omega)
           | exact swapH_c (fun x => x.done.at_) (by omega) (by omega)
           | exact swapH_c (fun x => x.due) (by omega) (by omega)
           | exact swapH_c (fun x => x.left) (by omega) (by omega)
           | fail)
    | (have e9 : pushA fx l n x = l3 := by
         refine he3.trans (up_end ?_)
         first
           | (left; omega)
           | (right
              intro h9
              first
                | (have e : fx = false := by assumption
                   rw [e] at h9
                   have := lt_edf.2 h9
                   omega)
                | (have e : fx = true := by assumption
                   rw [e] at h9
                   have := lt_fix.2 h9
                   omega))
       rw [e9]
       done)
    | fail
theorem down_step {fx : Bool} {f : Nat} {l : List job} {i n : Nat} (h1 : 2 * i + 1 < n) (h2 : keyLt fx (l.getD (kidH (keyLt fx) jz l i n) Dat.d0) (l.getD i Dat.d0)) : downH (keyLt fx) jz (f + 1) l i n = downH (keyLt fx) jz f (swapH jz l i (kidH (keyLt fx) jz l i n)) (kidH (keyLt fx) jz l i n) n := by
  rw [downH, if_neg]
  rintro (h | h)
  · omega
  · exact h h2
theorem down_end {fx : Bool} {f : Nat} {l : List job} {i n : Nat} (h : n ≤ 2 * i + 1 ∨ ¬ keyLt fx (l.getD (kidH (keyLt fx) jz l i n) Dat.d0) (l.getD i Dat.d0)) : downH (keyLt fx) jz (f + 1) l i n = l := by
  rw [downH]; exact if_pos h
structure HdY (fx : Bool) (l0 : List job) (n : Nat) where
  f : Nat
  i : Nat
  l : List job
  hf : n - i < f
  hl : l.length = l0.length
  hi : i ≤ n
  he : downH (keyLt fx) jz (n + 1) l0 0 n = downH (keyLt fx) jz f l i n
theorem k1 (i : Nat) : (2 * (i : Int) + 1).toNat = 2 * i + 1 := by omega
theorem k2 (i : Nat) : (2 * (i : Int) + 1 + 1).toNat = 2 * i + 2 := by omega
theorem kid_2 {fx : Bool} {l : List job} {i n : Nat} (h : 2 * i + 2 < n) (hk : keyLt fx (l.getD (2 * i + 2) Dat.d0) (l.getD (2 * i + 1) Dat.d0)) : kidH (keyLt fx) jz l i n = 2 * i + 2 := by unfold kidH; rw [if_pos ⟨h, hk⟩]
theorem kid_1 {fx : Bool} {l : List job} {i n : Nat} (h : 2 * i + 2 < n → ¬ keyLt fx (l.getD (2 * i + 2) Dat.d0) (l.getD (2 * i + 1) Dat.d0)) : kidH (keyLt fx) jz l i n = 2 * i + 1 := by unfold kidH; rw [if_neg fun q => h q.1 q.2]
def ltN (fx : Bool) (a b : job) : Int := match fx with
  | false => orV [cmpV a.due b.due, cmpV a.done.task b.done.task, cmpV a.done.job b.done.job]
  | true => orV [0, cmpV a.done.task b.done.task, cmpV a.done.job b.done.job]
theorem ltN_iff {fx : Bool} {a b : job} : ltN fx a b < 0 ↔ keyLt fx a b := by
  cases fx
  · exact lt_edf
  · exact lt_fix
theorem ltN_f {fx : Bool} {a b : job} (h : fx = false) : orV [cmpV a.due b.due, cmpV a.done.task b.done.task, cmpV a.done.job b.done.job] = ltN fx a b := by subst h; rfl
theorem ltN_t {fx : Bool} {a b : job} (h : fx = true) : orV [0, cmpV a.done.task b.done.task, cmpV a.done.job b.done.job] = ltN fx a b := by subst h; rfl
set_option maxRecDepth 100000 in
set_option maxHeartbeats 4000000 in
theorem pop_vc (l : List job) (n : Nat) (fx : Bool) (h0 : 0 < n) (hn : n ≤ l.length) (hl : l.length ≤ 1000000) : FnOk Try.prog 34 [.ifc 73 (.ptr 0 0)] [.blk [.own 1 fun _ => n, .b fun _ => fx], vecO 70 fun _ => l]
    (outLe 2 (.ifc 70 (.agg (Dat.enc fun _ => (popA fx l n).getD (n - 1) Dat.d0))) [.blk [.own 1 fun _ => n - 1, .b fun _ => fx], vecO 70 fun _ => popA fx l n] []) := by
  have eN : (n : Int) - 1 = ((n - 1 : Nat) : Int) := by omega
  refine fn_ok envOk zl cPop_ok noDraws_ok (keep := [0, 2, 3]) Try.func34 rfl ?_
  cbv
  repeat' first | (show Stp _; exfalso; first | omega | (exact h ‹_›) | (exact absurd ‹_› h) | (exact Bool.false_ne_true (h.symm.trans (show _ = true by assumption)))) | (refine Stp.mk ?_; cbv) | (refine Gen.mk fun r hr => ?_; (try simp only [Dat.ok, Dat.dec, Leaf.ok, Leaf.val, Span.eta, Set.eta, Task.eta, Done.eta, job.eta, Late.eta, val_sl, val_nil] at hr); cbv) | exact trivial | rfl | refine Both.mk ?_ ?_ | (refine Imp.mk fun h => ?_; (try dsimp only at h); (try simp only [nc, Int.toNat_natCast, ne_eq, zz] at h); (try simp only [nc] at h)) | refine Ob.mk ?_ ?_ | refine Chk.mk (by kernel_rfl) ?_ | refine Eq'.mk ?_ | (refine AllN.mk fun i hi => ?_; cbv) | (refine AllC.mk fun c hc hcm => ?_; (try dsimp only at hc); cbv) | (refine AllS.mk fun r hr => ?_; (try simp only [Dat.ok, Dat.dec, Leaf.ok, Leaf.val, Span.eta, Set.eta, Task.eta, Done.eta, job.eta, Late.eta, val_sl] at hr); cbv)
  all_goals ((try dsimp only at *); (try simp only [nc, Int.toNat_natCast, ne_eq, zz] at *); (try simp only [nc] at *))
  all_goals try (first
    | omega
    | (unfold InR; omega)
    | exact ⟨by omega, by omega⟩)
  refine LoopVC.frame [7, 8, 9, 10, 21, 33, 39] (HdY fx (swapH jz l 0 (n - 1)) (n - 1)) (fun x => [(7, .i .i64 fun _ => x.i)]) (fun x => [(1, vecO 70 fun _ => x.l)]) [] (fun x => n - x.i) ⟨n, 0, swapH jz l 0 (n - 1), by omega, rfl, Nat.zero_le _, by rw [show n - 1 + 1 = n by omega]⟩ rfl (fun _ => rfl) ?_ ?_ fun ⟨f3, i3, l3, hf3, hl3, hi3, he3⟩ => ?_
  · cbv
    repeat' first | (refine Stp.mk ?_; cbv) | (refine Gen.mk fun r hr => ?_; (try simp only [Dat.ok, Dat.dec, Leaf.ok, Leaf.val, Span.eta, Set.eta, Task.eta, Done.eta, job.eta, Late.eta, val_sl, val_nil] at hr); cbv) | exact trivial | rfl | refine Both.mk ?_ ?_ | (refine Imp.mk fun h => ?_; (try dsimp only at h); (try simp only [nc, Int.toNat_natCast, ne_eq, zz] at h); (try simp only [nc] at h)) | refine Ob.mk ?_ ?_ | refine Chk.mk (by kernel_rfl) ?_ | refine Eq'.mk ?_ | (refine AllN.mk fun i hi => ?_; cbv) | (refine AllC.mk fun c hc hcm => ?_; (try dsimp only at hc); cbv) | (refine AllS.mk fun r hr => ?_; (try simp only [Dat.ok, Dat.dec, Leaf.ok, Leaf.val, Span.eta, Set.eta, Task.eta, Done.eta, job.eta, Late.eta, val_sl] at hr); cbv)
  · cbv
    repeat' first | (refine Stp.mk ?_; cbv) | (refine Gen.mk fun r hr => ?_; (try simp only [Dat.ok, Dat.dec, Leaf.ok, Leaf.val, Span.eta, Set.eta, Task.eta, Done.eta, job.eta, Late.eta, val_sl, val_nil] at hr); cbv) | exact trivial | rfl | refine Both.mk ?_ ?_ | (refine Imp.mk fun h => ?_; (try dsimp only at h); (try simp only [nc, Int.toNat_natCast, ne_eq, zz] at h); (try simp only [nc] at h)) | refine Ob.mk ?_ ?_ | refine Chk.mk (by kernel_rfl) ?_ | refine Eq'.mk ?_ | (refine AllN.mk fun i hi => ?_; cbv) | (refine AllC.mk fun c hc hcm => ?_; (try dsimp only at hc); cbv) | (refine AllS.mk fun r hr => ?_; (try simp only [Dat.ok, Dat.dec, Leaf.ok, Leaf.val, Span.eta, Set.eta, Task.eta, Done.eta, job.eta, Late.eta, val_sl] at hr); cbv)
    all_goals ((try dsimp only at *); (try simp only [nc, Int.toNat_natCast, ne_eq, zz] at *); (try simp only [nc] at *))
    all_goals try simp only [eN, Int.toNat_natCast]
    all_goals first
      | exact (swapH_len jz l _ _).symm
      | exact swapH_c (a := 0) (fun x => x.done.task) (by omega) (by omega)
      | exact swapH_c (a := 0) (fun x => x.done.job) (by omega) (by omega)
      | exact swapH_c (a := 0) (fun x => x.done.came) (by omega) (by omega)
      | exact swapH_c (a := 0) (fun x => x.done.at_) (by omega) (by omega)
      | exact swapH_c (a := 0) (fun x => x.due) (by omega) (by omega)
      | exact swapH_c (a := 0) (fun x => x.left) (by omega) (by omega)
      | fail
  rw [swapH_len] at hl3
  cbv
  repeat' first | (show Stp _; exfalso; first | omega | (exact h ‹_›) | (exact absurd ‹_› h) | (exact Bool.false_ne_true (h.symm.trans (show _ = true by assumption)))) | (refine Stp.mk ?_; cbv) | (refine Gen.mk fun r hr => ?_; (try simp only [Dat.ok, Dat.dec, Leaf.ok, Leaf.val, Span.eta, Set.eta, Task.eta, Done.eta, job.eta, Late.eta, val_sl, val_nil] at hr); cbv) | exact trivial | rfl | refine Both.mk ?_ ?_ | (refine Imp.mk fun h => ?_; (try dsimp only at h); (try simp only [nc, Int.toNat_natCast, ne_eq, zz] at h); (try simp only [nc] at h)) | refine Ob.mk ?_ ?_ | refine Chk.mk (by kernel_rfl) ?_ | refine Eq'.mk ?_ | (refine AllN.mk fun i hi => ?_; cbv) | (refine AllC.mk fun c hc hcm => ?_; (try dsimp only at hc); cbv) | (refine AllS.mk fun r hr => ?_; (try simp only [Dat.ok, Dat.dec, Leaf.ok, Leaf.val, Span.eta, Set.eta, Task.eta, Done.eta, job.eta, Late.eta, val_sl] at hr); cbv)
  all_goals ((try dsimp only at *); (try simp only [nc, Int.toNat_natCast, ne_eq, zz] at *); (try simp only [nc] at *))
  all_goals try rw [nc] at *
  all_goals try simp only [Dat.dec, Leaf.val, Span.eta, Set.eta, Task.eta, Done.eta, job.eta, Late.eta, val_sl, rowN3, eN, Int.toNat_natCast, k1, k2] at *
  all_goals try (first
    | omega
    | (unfold InR; omega)
    | exact ⟨by omega, by omega⟩
    | exact ⟨by omega, by omega, by omega⟩
    | exact ⟨Nat.le_refl _, or3_ok _ _ _⟩)
  all_goals try (have hfx : fx = false := by assumption
                 simp only [ltN_f hfx] at *)
  all_goals try (have hfx : fx = true := by assumption
                 simp only [ltN_t hfx] at *)
  all_goals obtain ⟨f4, rfl⟩ : ∃ f4, f3 = f4 + 1 := ⟨f3 - 1, by omega⟩
  all_goals have hpo : popA fx l n = downH (keyLt fx) jz (f4 + 1) l3 i3 (n - 1) := by
                        unfold popA
                        have e : n - 1 + 1 = n := by omega
                        rw [e] at he3
                        exact he3
  all_goals try (
    have e9 : popA fx l n = l3 := hpo.trans (down_end (.inl (by omega)))
    rw [e9]
    done)
  all_goals try (exfalso; exact absurd ((show fx = false by assumption).symm.trans (show fx = true by assumption)) (by decide))
  all_goals first
    | (have ek : kidH (keyLt fx) jz l3 i3 (n - 1) = 2 * i3 + 2 := kid_2 (by omega) (ltN_iff.1 (by assumption))
       first
         | (have e9 : popA fx l n = l3 := hpo.trans (down_end (.inr (by
              rw [ek]
              intro q
              have q3 := ltN_iff.2 q
              omega)))
            rw [e9]
            done)
         | (have hks : keyLt fx (l3.getD (kidH (keyLt fx) jz l3 i3 (n - 1)) Dat.d0) (l3.getD i3 Dat.d0) := by
              rw [ek]; exact ltN_iff.1 (by assumption)
            have e8 := hpo.trans (down_step (by omega) hks)
            rw [ek] at e8
            refine ⟨⟨f4, 2 * i3 + 2, swapH jz l3 i3 (2 * i3 + 2), by omega, by rw [swapH_len, swapH_len]; exact hl3, by omega, he3.trans (by rw [down_step (by omega) hks, ek])⟩, ?_, ?_, rfl, by (try dsimp only); omega⟩
            · cbv
              repeat' first | (refine Stp.mk ?_; cbv) | (refine Gen.mk fun r hr => ?_; (try simp only [Dat.ok, Dat.dec, Leaf.ok, Leaf.val, Span.eta, Set.eta, Task.eta, Done.eta, job.eta, Late.eta, val_sl, val_nil] at hr); cbv) | exact trivial | rfl | refine Both.mk ?_ ?_ | (refine Imp.mk fun h => ?_; (try dsimp only at h); (try simp only [nc, Int.toNat_natCast, ne_eq, zz] at h); (try simp only [nc] at h)) | refine Ob.mk ?_ ?_ | refine Chk.mk (by kernel_rfl) ?_ | refine Eq'.mk ?_ | (refine AllN.mk fun i hi => ?_; cbv) | (refine AllC.mk fun c hc hcm => ?_; (try dsimp only at hc); cbv) | (refine AllS.mk fun r hr => ?_; (try simp only [Dat.ok, Dat.dec, Leaf.ok, Leaf.val, Span.eta, Set.eta, Task.eta, Done.eta, job.eta, Late.eta, val_sl] at hr); cbv)
              all_goals ((try dsimp only); omega)
            · cbv
              repeat' first | (refine Stp.mk ?_; cbv) | (refine Gen.mk fun r hr => ?_; (try simp only [Dat.ok, Dat.dec, Leaf.ok, Leaf.val, Span.eta, Set.eta, Task.eta, Done.eta, job.eta, Late.eta, val_sl, val_nil] at hr); cbv) | exact trivial | rfl | refine Both.mk ?_ ?_ | (refine Imp.mk fun h => ?_; (try dsimp only at h); (try simp only [nc, Int.toNat_natCast, ne_eq, zz] at h); (try simp only [nc] at h)) | refine Ob.mk ?_ ?_ | refine Chk.mk (by kernel_rfl) ?_ | refine Eq'.mk ?_ | (refine AllN.mk fun i hi => ?_; cbv) | (refine AllC.mk fun c hc hcm => ?_; (try dsimp only at hc); cbv) | (refine AllS.mk fun r hr => ?_; (try simp only [Dat.ok, Dat.dec, Leaf.ok, Leaf.val, Span.eta, Set.eta, Task.eta, Done.eta, job.eta, Late.eta, val_sl] at hr); cbv)
              all_goals ((try dsimp only at *); (try simp only [nc, Int.toNat_natCast, ne_eq, zz] at *); (try simp only [nc] at *))
              all_goals try simp only [k1, k2, Int.toNat_natCast]
              all_goals first
                | exact (swapH_len jz l3 _ _).symm
                | exact swapH_c (fun x => x.done.task) (by omega) (by omega)
                | exact swapH_c (fun x => x.done.job) (by omega) (by omega)
                | exact swapH_c (fun x => x.done.came) (by omega) (by omega)
                | exact swapH_c (fun x => x.done.at_) (by omega) (by omega)
                | exact swapH_c (fun x => x.due) (by omega) (by omega)
                | exact swapH_c (fun x => x.left) (by omega) (by omega)
                | fail))
    | (have ek : kidH (keyLt fx) jz l3 i3 (n - 1) = 2 * i3 + 1 := kid_1 fun q1 q2 => (by
         have q3 := ltN_iff.2 q2
         omega)
       first
         | (have e9 : popA fx l n = l3 := hpo.trans (down_end (.inr (by
              rw [ek]
              intro q
              have q3 := ltN_iff.2 q
              omega)))
            rw [e9]
            done)
         | (have hks : keyLt fx (l3.getD (kidH (keyLt fx) jz l3 i3 (n - 1)) Dat.d0) (l3.getD i3 Dat.d0) := by
              rw [ek]; exact ltN_iff.1 (by assumption)
            refine ⟨⟨f4, 2 * i3 + 1, swapH jz l3 i3 (2 * i3 + 1), by omega, by rw [swapH_len, swapH_len]; exact hl3, by omega, he3.trans (by rw [down_step (by omega) hks, ek])⟩, ?_, ?_, rfl, by (try dsimp only); omega⟩
            · cbv
              repeat' first | (refine Stp.mk ?_; cbv) | (refine Gen.mk fun r hr => ?_; (try simp only [Dat.ok, Dat.dec, Leaf.ok, Leaf.val, Span.eta, Set.eta, Task.eta, Done.eta, job.eta, Late.eta, val_sl, val_nil] at hr); cbv) | exact trivial | rfl | refine Both.mk ?_ ?_ | (refine Imp.mk fun h => ?_; (try dsimp only at h); (try simp only [nc, Int.toNat_natCast, ne_eq, zz] at h); (try simp only [nc] at h)) | refine Ob.mk ?_ ?_ | refine Chk.mk (by kernel_rfl) ?_ | refine Eq'.mk ?_ | (refine AllN.mk fun i hi => ?_; cbv) | (refine AllC.mk fun c hc hcm => ?_; (try dsimp only at hc); cbv) | (refine AllS.mk fun r hr => ?_; (try simp only [Dat.ok, Dat.dec, Leaf.ok, Leaf.val, Span.eta, Set.eta, Task.eta, Done.eta, job.eta, Late.eta, val_sl] at hr); cbv)
              all_goals ((try dsimp only); omega)
            · cbv
              repeat' first | (refine Stp.mk ?_; cbv) | (refine Gen.mk fun r hr => ?_; (try simp only [Dat.ok, Dat.dec, Leaf.ok, Leaf.val, Span.eta, Set.eta, Task.eta, Done.eta, job.eta, Late.eta, val_sl, val_nil] at hr); cbv) | exact trivial | rfl | refine Both.mk ?_ ?_ | (refine Imp.mk fun h => ?_; (try dsimp only at h); (try simp only [nc, Int.toNat_natCast, ne_eq, zz] at h); (try simp only [nc] at h)) | refine Ob.mk ?_ ?_ | refine Chk.mk (by kernel_rfl) ?_ | refine Eq'.mk ?_ | (refine AllN.mk fun i hi => ?_; cbv) | (refine AllC.mk fun c hc hcm => ?_; (try dsimp only at hc); cbv) | (refine AllS.mk fun r hr => ?_; (try simp only [Dat.ok, Dat.dec, Leaf.ok, Leaf.val, Span.eta, Set.eta, Task.eta, Done.eta, job.eta, Late.eta, val_sl] at hr); cbv)
              all_goals ((try dsimp only at *); (try simp only [nc, Int.toNat_natCast, ne_eq, zz] at *); (try simp only [nc] at *))
              all_goals try simp only [k1, k2, Int.toNat_natCast]
              all_goals first
                | exact (swapH_len jz l3 _ _).symm
                | exact swapH_c (fun x => x.done.task) (by omega) (by omega)
                | exact swapH_c (fun x => x.done.job) (by omega) (by omega)
                | exact swapH_c (fun x => x.done.came) (by omega) (by omega)
                | exact swapH_c (fun x => x.done.at_) (by omega) (by omega)
                | exact swapH_c (fun x => x.due) (by omega) (by omega)
                | exact swapH_c (fun x => x.left) (by omega) (by omega)
                | fail))
    | fail
noncomputable def push_K : Con := fun A H K => match A, H with
  | [.ifc t (.ptr b o), .ifc t' (.agg cs)], [.blk [.own c n, .b fx], .vec e sz m f] => match Nat.beq t 73, Nat.beq b 0, Nat.beq o 0, Nat.beq t' 70, Nat.beq c 1, Nat.beq e 70 with
    | true, true, true, true, true, true => Ob (fun _ => sz = Dat.sz job ∧ n () ≤ m () ∧ m () ≤ 1000000 ∧ (∀ i, i < m () → Dat.ok job (f fun _ => i)) ∧ Dat.ok job cs)
        (Gen (fun _ => ((slV (.sl sz m f) : List job), (Dat.dec cs : job))) fun d => K (.tup []) [.blk [.own 1 fun _ => n () + 1, .b fx], vecO 70 fun _ => pushA (fx ()) d.1 (n ()) d.2] [1])
    | _, _, _, _, _, _ => Bad 720
  | _, _ => Bad 721
theorem ifc_canon {α : Type} [Dat α] {t : TypeId} {cs : List AV} (hok : Dat.ok α cs) {w : World} {M : Nat → Prop} {β : Nat → Option Nat} {cp : Nat → Nat} {v : Value} (hr : Rep w M β cp (.ifc t (.agg cs)) v) : Rep w M β cp (.ifc t (.agg (Dat.enc fun _ => (Dat.dec cs : α)))) v := by
  obtain ⟨u, rfl, h⟩ := rep_ifc hr
  exact .ifc t _ u (agg_canon hok h)
theorem push_ok {A : List AV} {H : Hp} {K : Kont} (hv : push_K A H K) : FnOk Try.prog 31 A H K := by
  unfold push_K at hv
  split at hv
  case h_2 => cases hv
  rename_i t b o t' cs c n fx e sz m f
  split at hv
  case h_2 => cases hv
  rename_i q1 q2 q3 q4 q5 q6
  have q1 := beq_iff.1 q1
  have q2 := beq_iff.1 q2
  have q3 := beq_iff.1 q3
  have q4 := beq_iff.1 q4
  have q5 := beq_iff.1 q5
  have q6 := beq_iff.1 q6
  subst q1 q2 q3 q4 q5 q6
  cases hv with
  | mk hob hK =>
  obtain ⟨hsz, hnm, hm, hok, hcs⟩ := hob
  have hK := hK.out
  have hl : (slV (.sl sz m f) : List job).length = m () := lst_len _ _
  refine FnOk.preS (A' := [.ifc 73 (.ptr 0 0), .ifc 70 (.agg (Dat.enc fun _ => (Dat.dec cs : job)))]) (H' := [.blk [.own 1 fun _ => n (), .b fun _ => fx ()], vecO 70 fun _ => (slV (.sl sz m f) : List job)])
    (FnOk.le (push_vc (slV (.sl sz m f)) (n ()) (Dat.dec cs) (fx ()) (by rw [hl]; exact hnm) (by rw [hl]; exact hm)) rfl hK) rfl (fun w M β cp vs hr => ⟨hr.1, fun j x hj => ?_⟩) fun b o' ho => ?_
  · match j with
    | 0 => simp at hj; subst hj; exact hr.2 0 _ rfl
    | 1 => simp at hj; subst hj; exact ifc_canon hcs (hr.2 1 _ rfl)
    | j + 2 => simp at hj
  · match b with
    | 0 => simp at ho; subst ho; exact ⟨_, rfl, id, fun _ _ _ _ h => h⟩
    | 1 => simp at ho; subst ho; exact ⟨_, rfl, fun _ => rfl, fun _ _ _ _ h => vec_canon hsz hok h⟩
    | b + 2 => simp at ho
noncomputable def pop_K : Con := fun A H K => match A, H with
  | [.ifc t (.ptr b o)], [.blk [.own c n, .b fx], .vec e sz m f] => match Nat.beq t 73, Nat.beq b 0, Nat.beq o 0, Nat.beq c 1, Nat.beq e 70 with
    | true, true, true, true, true => Ob (fun _ => sz = Dat.sz job ∧ 0 < n () ∧ n () ≤ m () ∧ m () ≤ 1000000 ∧ (∀ i, i < m () → Dat.ok job (f fun _ => i)))
        (Gen (fun _ => popA (fx ()) (slV (.sl sz m f) : List job) (n ())) fun d => K (.ifc 70 (.agg (Dat.enc fun _ => d.getD (n () - 1) Dat.d0))) [.blk [.own 1 fun _ => n () - 1, .b fx], vecO 70 fun _ => d] [])
    | _, _, _, _, _ => Bad 722
  | _, _ => Bad 723
theorem pop_ok {A : List AV} {H : Hp} {K : Kont} (hv : pop_K A H K) : FnOk Try.prog 34 A H K := by
  unfold pop_K at hv
  split at hv
  case h_2 => cases hv
  rename_i t b o c n fx e sz m f
  split at hv
  case h_2 => cases hv
  rename_i q1 q2 q3 q5 q6
  have q1 := beq_iff.1 q1
  have q2 := beq_iff.1 q2
  have q3 := beq_iff.1 q3
  have q5 := beq_iff.1 q5
  have q6 := beq_iff.1 q6
  subst q1 q2 q3 q5 q6
  cases hv with
  | mk hob hK =>
  obtain ⟨hsz, h0, hnm, hm, hok⟩ := hob
  have hK := hK.out
  have hl : (slV (.sl sz m f) : List job).length = m () := lst_len _ _
  refine FnOk.preS (A' := [.ifc 73 (.ptr 0 0)]) (H' := [.blk [.own 1 fun _ => n (), .b fun _ => fx ()], vecO 70 fun _ => (slV (.sl sz m f) : List job)])
    (FnOk.le (pop_vc (slV (.sl sz m f)) (n ()) (fx ()) h0 (by rw [hl]; exact hnm) (by rw [hl]; exact hm)) rfl hK) rfl (fun w M β cp vs hr => hr) fun b o' ho => ?_
  match b with
  | 0 => simp at ho; subst ho; exact ⟨_, rfl, id, fun _ _ _ _ h => h⟩
  | 1 => simp at ho; subst ho; exact ⟨_, rfl, fun _ => rfl, fun _ _ _ _ h => vec_canon hsz hok h⟩
  | b + 2 => simp at ho
noncomputable def pushS_K : Con := subCon push_K
theorem pushS_ok {A : List AV} {H : Hp} {K : Kont} (hv : pushS_K A H K) : FnOk Try.prog 31 A H K := subCon_ok push_ok hv
noncomputable def popS_K : Con := subCon pop_K
theorem popS_ok {A : List AV} {H : Hp} {K : Kont} (hv : popS_K A H K) : FnOk Try.prog 34 A H K := subCon_ok pop_ok hv

end Go.Proofs.Ytcnfdohlgmipoaa
