/- The program's functions, walked: Supply2. -/
import Derived.Test.YtcnfdohlgmipoaaSupP
set_option linter.all false
namespace Go.Proofs.Ytcnfdohlgmipoaa
open Go Go.Abs
def least_R (r : Th (Int)) : AV := .i .i64 fun _ => (r ())
def least_P (s : Set) (n : Int) : Prop := Right s ∧ 0 ≤ n ∧ n ≤ 1000002000000
def least_D : Det := fun A => match A with
  | [.agg s, .i .i64 n] => some (fun _ => Dat.ok Set s ∧ least_P (Dat.dec s) (n ()), least_R fun _ => leastV (Dat.dec s) (n ()))
  | _ => none
noncomputable def conE : FuncId → Con := fun f => match f with
  | 56 => pureCon (detPC count_D)
  | _ => fun _ _ _ => Bad 1001
theorem conE_ok : ConOk Try.prog conE := fun f A H K h => by
  unfold conE at h
  split at h
  · exact ⟨⟨Try.f56, Try.func56, by kernel_rfl, by kernel_rfl⟩, pureCon_ok count_ok h⟩
  · cases h
def detE : FuncId → Option Dt := fun f => match f with
  | 36 => some (.c leastP_D)
  | _ => none
theorem detE_ok : DetOk Try.prog detE := fun f d h => by
  unfold detE at h
  split at h
  · cases h; exact ⟨⟨Try.f36, Try.func36, by kernel_rfl, by kernel_rfl⟩, leastP_ok⟩
  · cases h
set_option maxRecDepth 100000 in
set_option maxHeartbeats 4000000 in
theorem least_vc (s : Set) (n : Int) (hp : least_P s n) : FnOk Try.prog 50 [.agg (Dat.enc fun _ => s), .i .i64 fun _ => n] [] (outA (least_R fun _ => leastV s n) []) := by
  refine fn_ok envOk zl conE_ok (draws_ok envOk zl detE_ok mixed) (keep := [0, 1, 2, 4, 5, 7]) Try.func50 rfl ?_
  obtain ⟨hR, hn0, hn1⟩ := hp
  have hp' : s.spans.length ≤ 9223372036854775807 := by have := hR.len; omega
  have hs1 := hR.s1
  have hs2 := hR.s2
  have hl := right_long hR
  have hd : 0 ≤ n.tdiv s.size ∧ n.tdiv s.size ≤ n := by
    rw [Int.tdiv_eq_ediv_of_nonneg hn0]
    exact ⟨Int.ediv_nonneg hn0 (by omega), Int.ediv_le_self _ hn0⟩
  have hdl := div_long hR hn0
  have hm : 0 ≤ n.tmod s.size ∧ n.tmod s.size < s.size := ⟨Int.tmod_nonneg _ hn0, Int.tmod_lt_of_pos _ (by omega)⟩
  obtain ⟨L, hL, hL2, t, ht0, ht1, ht2⟩ := least_spec hR hm.1 (by omega)
  have hwb := win_bd hR hm.1 ht0
  cbv
  repeat' first | (refine Stp.mk ?_; cbv) | (refine Gen.mk fun r hr => ?_; (try simp only [Dat.ok, Dat.dec, Leaf.ok, Leaf.val, Span.eta, Set.eta, Task.eta, Done.eta, job.eta, Late.eta, val_sl, val_nil] at hr); cbv) | exact trivial | rfl | refine Both.mk ?_ ?_ | (refine Imp.mk fun h => ?_; (try dsimp only at h); (try simp only [nc, Int.toNat_natCast, ne_eq, zz] at h); (try simp only [nc] at h)) | refine Ob.mk ?_ ?_ | refine Chk.mk (by kernel_rfl) ?_ | refine Eq'.mk ?_ | (refine AllN.mk fun i hi => ?_; cbv) | (refine AllC.mk fun c hc hcm => ?_; (try dsimp only at hc); cbv) | (refine AllS.mk fun r hr => ?_; (try simp only [Dat.ok, Dat.dec, Leaf.ok, Leaf.val, Span.eta, Set.eta, Task.eta, Done.eta, job.eta, Late.eta, val_sl] at hr); cbv)
  all_goals ((try dsimp only at *); (try simp only [nc, Int.toNat_natCast, ne_eq, zz] at *); (try simp only [nc] at *))
  all_goals try simp only [Dat.ok, Dat.dec, Leaf.ok, Leaf.val, Span.eta, Set.eta, Task.eta, Done.eta, job.eta, Late.eta, val_sl] at *
  all_goals try simp only [count0 hR, upto0 hR, uptoS hR, Int.sub_zero] at *
  all_goals first
    | exact ⟨⟨trivial, rfl, fun i _ => Dat.hok _⟩, hp'⟩
    | omega
    | (show InR (n.tdiv s.size * long s.spans + (boundV s (n.tmod s.size) false).1); rw [hL]; unfold InR; dsimp only; omega)
    | (show n.tdiv s.size * long s.spans + (boundV s (n.tmod s.size) false).1 = leastV s n; rw [leastV, count0 hR, upto0 hR, uptoS hR, Int.sub_zero])
    | (unfold InR; omega)
    | fail
theorem least_ok : PcOk Try.prog 50 (detPC least_D) := det_okA fun A p r h hp0 => by
  unfold least_D at h
  split at h
  · rename_i s n
    cases h
    obtain ⟨g0, hp⟩ := hp0
    exact ⟨rfl, FnOk.pre (A' := [.agg (Dat.enc fun _ => (Dat.dec s : Set)), .i .i64 fun _ => n ()]) (least_vc (Dat.dec s) (n ()) hp) (.mk (Dat.hle _ g0) (.mk (.mk (.mk rfl) (.mk rfl)) (trivial)))⟩
  · cases h

end Go.Proofs.Ytcnfdohlgmipoaa
