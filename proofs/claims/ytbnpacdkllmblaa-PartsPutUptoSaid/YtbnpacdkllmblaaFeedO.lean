/- parts.Feeds: its result as read-only data. -/
import Derived.Test.YtbnpacdkllmblaaFeedW
import Derived.Test.YtbnpacdkllmblaaAbsG4
set_option linter.all false
namespace Go.Proofs.Ytbnpacdkllmblaa
open Go Go.Abs

def feedC_R (r : Th ((List Bool) × Int)) : AV := .tup [Leaf.av fun _ => (r ()).1, .i .i64 fun _ => (r ()).2]
def feedC_P (m : Module) (i : Int) : Prop := mchkC_P m
def feedC_D : Det := fun A => match A with
  | [.agg m, .i .i64 i] => some (fun _ => Dat.ok Module m ∧ feedC_P (Dat.dec m) (i ()), feedC_R fun _ => feedsV (Dat.dec m) (i ()))
  | _ => none
theorem feedC_vc (m : Module) (i : Int) (hp : mchkC_P m) : FnOk Try.prog 20 [.agg (Dat.enc fun _ => m), .i .i64 fun _ => i] [] (outA (feedC_R fun _ => feedsV m i) []) := by
  refine FnOk.froz (feedo_vc m i hp _ rfl) rfl (q := _) (d := _) rfl (by intro p hp; repeat (first | (cases hp; done) | (rcases List.mem_cons.1 hp with rfl | hp; · exact Nat.le_refl _))) rfl ?_
  cbv
  repeat' first | (refine Stp.mk ?_; cbv) | (refine Gen.mk fun r hr => ?_; (try simp only [Dat.ok, Dat.dec, Leaf.ok, Leaf.val, Z0, Z1, Z2, Z3, Z4, Z5, Z6, Z7, val_sl, val_nil] at hr); cbv) | exact trivial | rfl | refine Both.mk ?_ ?_ | (refine Imp.mk fun h => ?_; (try dsimp only at h); (try simp only [nc, Int.toNat_natCast, ne_eq, zz] at h); (try simp only [nc] at h)) | refine Ob.mk ?_ ?_ | refine Chk.mk (by kernel_rfl) ?_ | refine Eq'.mk ?_ | (refine AllN.mk fun i hi => ?_; cbv) | (refine AllC.mk fun c hc hcm => ?_; (try dsimp only at hc); cbv) | (refine AllS.mk fun r hr => ?_; (try simp only [Dat.ok, Dat.dec, Leaf.ok, Leaf.val, Z0, Z1, Z2, Z3, Z4, Z5, Z6, Z7, val_sl] at hr); cbv)
  all_goals fail
theorem feedC_ok : PcOk Try.prog 20 (detPC feedC_D) := det_okA fun A p r h hp0 => by
  unfold feedC_D at h
  split at h
  · rename_i m i
    cases h
    obtain ⟨g0, hp⟩ := hp0
    exact ⟨rfl, FnOk.pre (A' := [.agg (Dat.enc fun _ => (Dat.dec m : Module)), .i .i64 fun _ => i ()]) (feedC_vc (Dat.dec m) (i ()) hp) (.mk (Dat.hle _ g0) (.mk (.mk (.mk rfl) (.mk rfl)) (trivial)))⟩
  · cases h

end Go.Proofs.Ytbnpacdkllmblaa
