/- The program's functions, walked: Wait. -/
import Derived.Test.YtcnfdohlgmipoaaSupply2
import Derived.Test.YtcnfdohlgmipoaaBs
set_option linter.all false
namespace Go.Proofs.Ytcnfdohlgmipoaa
open Go Go.Abs
def fewV (s : Set) (need : Int) (have_ : Int → Int) : Int × Int :=
  if need = 0 then (0, 0) else if s.spans.length = 0 then (0, 7) else (bsN (fun n => decide (need ≤ have_ n)) 0 (s.size * (need + 2)), 0)
def waitV (s : Set) (need : Int) : Int × Int :=
  if checkV s = 0 then (if need < 0 ∨ 1000000 < need then (0, 1) else fewV s need (leastV s)) else (0, checkV s)
noncomputable def cW0 : FuncId → Con := fun f => match f with
  | 50 => pureCon (detPC least_D)
  | _ => fun _ _ _ => Bad 1001
theorem cW0_ok : ConOk Try.prog cW0 := fun f A H K h => by
  unfold cW0 at h
  split at h
  · exact ⟨⟨Try.f50, Try.func50, by kernel_rfl, by kernel_rfl⟩, pureCon_ok least_ok h⟩
  · cases h
noncomputable def cW1 : FuncId → Con := fun f => match f with
  | 49 => inlCon E cW0 (draws E noDet) [0, 1, 3, 4] Try.f49
  | _ => fun _ _ _ => Bad 1001
theorem cW1_ok : ConOk Try.prog cW1 := fun f A H K h => by
  unfold cW1 at h
  split at h
  · exact ⟨⟨Try.f49, Try.func49, by kernel_rfl, by kernel_rfl⟩, inl_ok envOk zl cW0_ok (draws_ok envOk zl noDet_ok mixed) Try.func49 h⟩
  · cases h
noncomputable def cW2 : FuncId → Con := fun f => match f with
  | 58 => inlCon E cW1 noDraws [0, 1, 2, 4, 5] Try.f58
  | _ => fun _ _ _ => Bad 1001
theorem cW2_ok : ConOk Try.prog cW2 := fun f A H K h => by
  unfold cW2 at h
  split at h
  · exact ⟨⟨Try.f58, Try.func58, by kernel_rfl, by kernel_rfl⟩, inl_ok envOk zl cW1_ok noDraws_ok Try.func58 h⟩
  · cases h
noncomputable def cW3 : FuncId → Con := fun f => match f with
  | 57 => inlCon E cW2 noDraws [0, 1, 4, 5, 6, 7, 11, 21] Try.f57
  | _ => fun _ _ _ => Bad 1001
theorem cW3_ok : ConOk Try.prog cW3 := fun f A H K h => by
  unfold cW3 at h
  split at h
  · exact ⟨⟨Try.f57, Try.func57, by kernel_rfl, by kernel_rfl⟩, inl_ok envOk zl cW2_ok noDraws_ok Try.func57 h⟩
  · cases h
noncomputable def cW4 : FuncId → Con := fun f => match f with
  | 24 => pureCon (detPC check_D)
  | 48 => inlCon E cW3 noDraws [0, 1, 2, 3, 4, 5, 6, 7, 9, 13] Try.f48
  | _ => fun _ _ _ => Bad 1001
theorem cW4_ok : ConOk Try.prog cW4 := fun f A H K h => by
  unfold cW4 at h
  split at h
  · exact ⟨⟨Try.f24, Try.func24, by kernel_rfl, by kernel_rfl⟩, pureCon_ok check_ok h⟩
  · exact ⟨⟨Try.f48, Try.func48, by kernel_rfl, by kernel_rfl⟩, inl_ok envOk zl cW3_ok noDraws_ok Try.func48 h⟩
  · cases h
def wait_R (r : Th (Int × Int)) : AV := .tup [.i .i64 fun _ => (r ()).1, .i .i64 fun _ => (r ()).2]
def wait_P (s : Set) (need : Int) : Prop := s.spans.length ≤ 9223372036854775807
def wait_D : Det := fun A => match A with
  | [.agg s, .i .i64 need] => some (fun _ => Dat.ok Set s ∧ wait_P (Dat.dec s) (need ()), wait_R fun _ => waitV (Dat.dec s) (need ()))
  | _ => none
theorem nbd {s : Set} (h : Right s) {n : Int} (h0 : 0 ≤ n) (h1 : n ≤ 1000000) : 0 ≤ s.size * (n + 2) ∧ s.size * (n + 2) ≤ 1000002000000 := by
  have a := h.s1
  have b := h.s2
  refine ⟨Int.mul_nonneg (by omega) (by omega), ?_⟩
  have := Int.mul_le_mul b (show n + 2 ≤ 1000002 by omega) (by omega) (by omega)
  omega
set_option maxRecDepth 100000 in
set_option maxHeartbeats 4000000 in
theorem wait_vc (s : Set) (need : Int) (hp : wait_P s need) : FnOk Try.prog 37 [.agg (Dat.enc fun _ => s), .i .i64 fun _ => need] [] (outA (wait_R fun _ => waitV s need) []) := by
  refine fn_ok envOk zl cW4_ok noDraws_ok (keep := [0, 1, 2, 4, 5, 6, 10, 17]) Try.func37 rfl ?_
  have hp' : s.spans.length ≤ 9223372036854775807 := hp
  have fin : ∀ a' e H kl, (a', e) = waitV s need → outA (wait_R fun _ => waitV s need) [] (.tup [.i .i64 fun _ => a', .i .i64 fun _ => e]) H kl := by
    intro a' e H kl h
    cbv
    repeat' first | (refine Stp.mk ?_; cbv) | (refine Gen.mk fun r hr => ?_; (try simp only [Dat.ok, Dat.dec, Leaf.ok, Leaf.val, Span.eta, Set.eta, Task.eta, Done.eta, job.eta, Late.eta, val_sl, val_nil] at hr); cbv) | exact trivial | rfl | refine Both.mk ?_ ?_ | (refine Imp.mk fun h => ?_; (try dsimp only at h); (try simp only [nc, Int.toNat_natCast, ne_eq, zz] at h); (try simp only [nc] at h)) | refine Ob.mk ?_ ?_ | refine Chk.mk (by kernel_rfl) ?_ | refine Eq'.mk ?_ | (refine AllN.mk fun i hi => ?_; cbv) | (refine AllC.mk fun c hc hcm => ?_; (try dsimp only at hc); cbv) | (refine AllS.mk fun r hr => ?_; (try simp only [Dat.ok, Dat.dec, Leaf.ok, Leaf.val, Span.eta, Set.eta, Task.eta, Done.eta, job.eta, Late.eta, val_sl] at hr); cbv)
    all_goals rw [← h]
  generalize outA (wait_R fun _ => waitV s need) [] = K at fin
  cbv
  repeat' first | (refine Stp.mk ?_; cbv) | (refine Gen.mk fun r hr => ?_; (try simp only [Dat.ok, Dat.dec, Leaf.ok, Leaf.val, Span.eta, Set.eta, Task.eta, Done.eta, job.eta, Late.eta, val_sl, val_nil] at hr); cbv) | exact trivial | rfl | refine Both.mk ?_ ?_ | (refine Imp.mk fun h => ?_; (try dsimp only at h); (try simp only [nc, Int.toNat_natCast, ne_eq, zz] at h); (try simp only [nc] at h)) | refine Ob.mk ?_ ?_ | refine Chk.mk (by kernel_rfl) ?_ | refine Eq'.mk ?_ | (refine AllN.mk fun i hi => ?_; cbv) | (refine AllC.mk fun c hc hcm => ?_; (try dsimp only at hc); cbv) | (refine AllS.mk fun r hr => ?_; (try simp only [Dat.ok, Dat.dec, Leaf.ok, Leaf.val, Span.eta, Set.eta, Task.eta, Done.eta, job.eta, Late.eta, val_sl] at hr); cbv)
  all_goals ((try dsimp only at *); (try simp only [nc, Int.toNat_natCast, ne_eq, zz] at *); (try simp only [nc] at *))
  all_goals try simp only [Dat.ok, Dat.dec, Leaf.ok, Leaf.val, Span.eta, Set.eta, Task.eta, Done.eta, job.eta, Late.eta, val_sl] at *
  all_goals try have hR := check_iff.1 (show checkV s = 0 by assumption)
  all_goals try have hN := nbd hR (show 0 ≤ need by omega) (show need ≤ 1000000 by omega)
  all_goals first
    | exact ⟨⟨trivial, rfl, fun i _ => Dat.hok _⟩, hp'⟩
    | (unfold InR; omega)
    | (refine fin _ _ _ _ ?_
       unfold waitV fewV
       first
         | (rw [if_neg (by assumption)]; done)
         | (rw [if_pos (by assumption), if_pos (by omega)]; done)
         | (rw [if_pos (by assumption), if_neg (by omega), if_pos (by omega)]; done)
         | (rw [if_pos (by assumption), if_neg (by omega), if_neg (by omega), if_pos (by omega)]; done))
    | skip
  have eW : waitV s need = (bsN (fun n => decide (need ≤ leastV s n)) 0 (s.size * (need + 2)), 0) := by
    unfold waitV fewV
    rw [if_pos (by assumption), if_neg (by omega), if_neg (by omega), if_neg (by omega)]
  generalize hNN : s.size * (need + 2) = N at *
  refine LoopVC.frame [5, 6, 7, 11, 21] (BsX (fun n => decide (need ≤ leastV s n)) N) (fun x => [(5, .i .i64 fun _ => x.i), (6, .i .i64 fun _ => x.j)]) (fun _ => []) [] (fun x => (x.j - x.i).toNat) ⟨0, N, Int.le_refl _, by omega, Int.le_refl _, rfl⟩ rfl (fun _ => rfl) ?_ ?_ fun ⟨i, j, h0, h1, h2, hr⟩ => ?_
  iterate 2
    · cbv
      repeat' first | (refine Stp.mk ?_; cbv) | (refine Gen.mk fun r hr => ?_; (try simp only [Dat.ok, Dat.dec, Leaf.ok, Leaf.val, Span.eta, Set.eta, Task.eta, Done.eta, job.eta, Late.eta, val_sl, val_nil] at hr); cbv) | exact trivial | rfl | refine Both.mk ?_ ?_ | (refine Imp.mk fun h => ?_; (try dsimp only at h); (try simp only [nc, Int.toNat_natCast, ne_eq, zz] at h); (try simp only [nc] at h)) | refine Ob.mk ?_ ?_ | refine Chk.mk (by kernel_rfl) ?_ | refine Eq'.mk ?_ | (refine AllN.mk fun i hi => ?_; cbv) | (refine AllC.mk fun c hc hcm => ?_; (try dsimp only at hc); cbv) | (refine AllS.mk fun r hr => ?_; (try simp only [Dat.ok, Dat.dec, Leaf.ok, Leaf.val, Span.eta, Set.eta, Task.eta, Done.eta, job.eta, Late.eta, val_sl] at hr); cbv)
  have hme := mid_eq h0 h1 (by omega)
  cbv
  repeat' first | (refine Stp.mk ?_; cbv) | (refine Gen.mk fun r hr => ?_; (try simp only [Dat.ok, Dat.dec, Leaf.ok, Leaf.val, Span.eta, Set.eta, Task.eta, Done.eta, job.eta, Late.eta, val_sl, val_nil] at hr); cbv) | exact trivial | rfl | refine Both.mk ?_ ?_ | (refine Imp.mk fun h => ?_; (try dsimp only at h); (try simp only [nc, Int.toNat_natCast, ne_eq, zz] at h); (try simp only [nc] at h)) | refine Ob.mk ?_ ?_ | refine Chk.mk (by kernel_rfl) ?_ | refine Eq'.mk ?_ | (refine AllN.mk fun i hi => ?_; cbv) | (refine AllC.mk fun c hc hcm => ?_; (try dsimp only at hc); cbv) | (refine AllS.mk fun r hr => ?_; (try simp only [Dat.ok, Dat.dec, Leaf.ok, Leaf.val, Span.eta, Set.eta, Task.eta, Done.eta, job.eta, Late.eta, val_sl] at hr); cbv)
  all_goals ((try dsimp only at *); (try simp only [nc, Int.toNat_natCast, ne_eq, zz] at *); (try simp only [nc] at *))
  all_goals try simp only [Dat.ok, Dat.dec, Leaf.ok, Leaf.val, Span.eta, Set.eta, Task.eta, Done.eta, job.eta, Late.eta, val_sl] at *
  all_goals try rw [hme] at *
  all_goals try have hlt : i < j := by assumption
  all_goals try rw [bsN_lt hlt] at hr
  all_goals first
    | omega
    | (unfold InR; omega)
    | exact ⟨⟨trivial, rfl, fun i _ => Dat.hok _⟩, hR, by omega, by omega⟩
    | (refine fin _ _ _ _ ?_
       rw [eW, hr, bsN_ge (by omega)])
    | (refine ⟨⟨(i + j) / 2 + 1, j, by omega, by omega, h2, ?_⟩, ?_, ?_, rfl, by (try dsimp only); omega⟩
       · rw [hr, if_neg (by simp; omega)]
       · cbv
         repeat' first | (refine Stp.mk ?_; cbv) | (refine Gen.mk fun r hr => ?_; (try simp only [Dat.ok, Dat.dec, Leaf.ok, Leaf.val, Span.eta, Set.eta, Task.eta, Done.eta, job.eta, Late.eta, val_sl, val_nil] at hr); cbv) | exact trivial | rfl | refine Both.mk ?_ ?_ | (refine Imp.mk fun h => ?_; (try dsimp only at h); (try simp only [nc, Int.toNat_natCast, ne_eq, zz] at h); (try simp only [nc] at h)) | refine Ob.mk ?_ ?_ | refine Chk.mk (by kernel_rfl) ?_ | refine Eq'.mk ?_ | (refine AllN.mk fun i hi => ?_; cbv) | (refine AllC.mk fun c hc hcm => ?_; (try dsimp only at hc); cbv) | (refine AllS.mk fun r hr => ?_; (try simp only [Dat.ok, Dat.dec, Leaf.ok, Leaf.val, Span.eta, Set.eta, Task.eta, Done.eta, job.eta, Late.eta, val_sl] at hr); cbv)
         all_goals (first | rfl | (dsimp only; rw [hme]))
       · cbv
         repeat' first | (refine Stp.mk ?_; cbv) | (refine Gen.mk fun r hr => ?_; (try simp only [Dat.ok, Dat.dec, Leaf.ok, Leaf.val, Span.eta, Set.eta, Task.eta, Done.eta, job.eta, Late.eta, val_sl, val_nil] at hr); cbv) | exact trivial | rfl | refine Both.mk ?_ ?_ | (refine Imp.mk fun h => ?_; (try dsimp only at h); (try simp only [nc, Int.toNat_natCast, ne_eq, zz] at h); (try simp only [nc] at h)) | refine Ob.mk ?_ ?_ | refine Chk.mk (by kernel_rfl) ?_ | refine Eq'.mk ?_ | (refine AllN.mk fun i hi => ?_; cbv) | (refine AllC.mk fun c hc hcm => ?_; (try dsimp only at hc); cbv) | (refine AllS.mk fun r hr => ?_; (try simp only [Dat.ok, Dat.dec, Leaf.ok, Leaf.val, Span.eta, Set.eta, Task.eta, Done.eta, job.eta, Late.eta, val_sl] at hr); cbv))
    | (refine ⟨⟨i, (i + j) / 2, h0, by omega, by omega, ?_⟩, ?_, ?_, rfl, by (try dsimp only); omega⟩
       · rw [hr, if_pos (by simp; omega)]
       · cbv
         repeat' first | (refine Stp.mk ?_; cbv) | (refine Gen.mk fun r hr => ?_; (try simp only [Dat.ok, Dat.dec, Leaf.ok, Leaf.val, Span.eta, Set.eta, Task.eta, Done.eta, job.eta, Late.eta, val_sl, val_nil] at hr); cbv) | exact trivial | rfl | refine Both.mk ?_ ?_ | (refine Imp.mk fun h => ?_; (try dsimp only at h); (try simp only [nc, Int.toNat_natCast, ne_eq, zz] at h); (try simp only [nc] at h)) | refine Ob.mk ?_ ?_ | refine Chk.mk (by kernel_rfl) ?_ | refine Eq'.mk ?_ | (refine AllN.mk fun i hi => ?_; cbv) | (refine AllC.mk fun c hc hcm => ?_; (try dsimp only at hc); cbv) | (refine AllS.mk fun r hr => ?_; (try simp only [Dat.ok, Dat.dec, Leaf.ok, Leaf.val, Span.eta, Set.eta, Task.eta, Done.eta, job.eta, Late.eta, val_sl] at hr); cbv)
         all_goals (first | rfl | (dsimp only; rw [hme]))
       · cbv
         repeat' first | (refine Stp.mk ?_; cbv) | (refine Gen.mk fun r hr => ?_; (try simp only [Dat.ok, Dat.dec, Leaf.ok, Leaf.val, Span.eta, Set.eta, Task.eta, Done.eta, job.eta, Late.eta, val_sl, val_nil] at hr); cbv) | exact trivial | rfl | refine Both.mk ?_ ?_ | (refine Imp.mk fun h => ?_; (try dsimp only at h); (try simp only [nc, Int.toNat_natCast, ne_eq, zz] at h); (try simp only [nc] at h)) | refine Ob.mk ?_ ?_ | refine Chk.mk (by kernel_rfl) ?_ | refine Eq'.mk ?_ | (refine AllN.mk fun i hi => ?_; cbv) | (refine AllC.mk fun c hc hcm => ?_; (try dsimp only at hc); cbv) | (refine AllS.mk fun r hr => ?_; (try simp only [Dat.ok, Dat.dec, Leaf.ok, Leaf.val, Span.eta, Set.eta, Task.eta, Done.eta, job.eta, Late.eta, val_sl] at hr); cbv))
    | fail
theorem wait_ok : PcOk Try.prog 37 (detPC wait_D) := det_okA fun A p r h hp0 => by
  unfold wait_D at h
  split at h
  · rename_i s need
    cases h
    obtain ⟨g0, hp⟩ := hp0
    exact ⟨rfl, FnOk.pre (A' := [.agg (Dat.enc fun _ => (Dat.dec s : Set)), .i .i64 fun _ => need ()]) (wait_vc (Dat.dec s) (need ()) hp) (.mk (Dat.hle _ g0) (.mk (.mk (.mk rfl) (.mk rfl)) (trivial)))⟩
  · cases h

end Go.Proofs.Ytcnfdohlgmipoaa
