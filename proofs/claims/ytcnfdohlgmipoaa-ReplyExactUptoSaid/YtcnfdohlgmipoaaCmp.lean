/- cmp.Compare of numbers, walked. -/
import Derived.Test.YtcnfdohlgmipoaaTy
set_option linter.all false
namespace Go.Proofs.Ytcnfdohlgmipoaa
open Go Go.Abs

def cmpV (x y : Int) : Int := if x < y then -1 else if y < x then 1 else 0
def cmpI_R (r : Th (Int)) : AV := .i .i64 fun _ => (r ())
def cmpI_D : Det := fun A => match A with
  | [.i .i64 x, .i .i64 y] => some (fun _ => True, cmpI_R fun _ => cmpV (x ()) (y ()))
  | _ => none
noncomputable def cC0 : FuncId → Con := fun f => match f with
  | 42 => inlCon E noCon noDraws [0, 2] Try.f42
  | _ => fun _ _ _ => Bad 1001
theorem cC0_ok : ConOk Try.prog cC0 := fun f A H K h => by
  unfold cC0 at h
  split at h
  · exact ⟨⟨Try.f42, Try.func42, by kernel_rfl, by kernel_rfl⟩, inl_ok envOk zl noCon_ok noDraws_ok Try.func42 h⟩
  · cases h
set_option maxRecDepth 100000 in
set_option maxHeartbeats 4000000 in
theorem cmpI_vc (x : Int) (y : Int) : FnOk Try.prog 30 [.i .i64 fun _ => x, .i .i64 fun _ => y] [] (outA (cmpI_R fun _ => cmpV x y) []) := by
  refine fn_ok envOk zl cC0_ok noDraws_ok (keep := [0, 1, 4, 5, 6, 11, 12, 13, 16, 19]) Try.func30 rfl ?_
  cbv
  repeat' first | (refine Stp.mk ?_; cbv) | (refine Gen.mk fun r hr => ?_; (try simp only [Dat.ok, Dat.dec, Leaf.ok, Leaf.val, Span.eta, Set.eta, Task.eta, Done.eta, job.eta, Late.eta, val_sl, val_nil] at hr); cbv) | exact trivial | rfl | refine Both.mk ?_ ?_ | (refine Imp.mk fun h => ?_; (try dsimp only at h); (try simp only [nc, Int.toNat_natCast, ne_eq, zz] at h); (try simp only [nc] at h)) | refine Ob.mk ?_ ?_ | refine Chk.mk (by kernel_rfl) ?_ | refine Eq'.mk ?_ | (refine AllN.mk fun i hi => ?_; cbv) | (refine AllC.mk fun c hc hcm => ?_; (try dsimp only at hc); cbv) | (refine AllS.mk fun r hr => ?_; (try simp only [Dat.ok, Dat.dec, Leaf.ok, Leaf.val, Span.eta, Set.eta, Task.eta, Done.eta, job.eta, Late.eta, val_sl] at hr); cbv)
  all_goals ((try dsimp only at *); (try simp only [nc, Int.toNat_natCast, ne_eq, zz] at *); (try simp only [nc] at *))
  all_goals first
    | (show _ = cmpV x y; unfold cmpV; rw [if_pos (by assumption)]; done)
    | (show _ = cmpV x y; unfold cmpV; rw [if_neg (by omega), if_pos (by omega)]; done)
    | (show _ = cmpV x y; unfold cmpV; rw [if_neg (by omega), if_neg (by omega)]; done)
    | (exfalso; omega)
    | (exfalso; simp_all; done)
    | fail
theorem cmpI_ok : PcOk Try.prog 30 (detPC cmpI_D) := det_okA fun A p r h hp0 => by
  unfold cmpI_D at h
  split at h
  · rename_i x y
    cases h
    exact ⟨rfl, FnOk.pre (A' := [.i .i64 fun _ => x (), .i .i64 fun _ => y ()]) (cmpI_vc (x ()) (y ())) (.mk (.mk (.mk rfl) (.mk rfl)) (.mk (.mk (.mk rfl) (.mk rfl)) (trivial)))⟩
  · cases h

end Go.Proofs.Ytcnfdohlgmipoaa
