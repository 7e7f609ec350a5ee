/- The program's functions, walked: Fence. -/
import Derived.Test.YtddkjgdfjkklcaaDoorTy
set_option linter.all false
namespace Go.Proofs.YtddkjgdfjkklcaaDoor
open Go Go.Abs

/- What the functions of package fence compute. -/
def whoB (n : Int) : Bool := decide (0 ≤ n) && decide (n ≤ 255)
def epB (n : Int) : Bool := decide (1 ≤ n) && decide (n ≤ 2147483647)
def chB (f : Fence) : Bool := (f.epoch == 0 && f.owner == 0) || (epB f.epoch && whoB f.owner)
def mayV (f : Fence) (w n : Int) : Int := if chB f = true then (if (whoB w && epB n) = true then 0 else 1) else 4
def claimS (f : Fence) (w n : Int) : Fence × Bool × Int :=
  if mayV f w n = 0 then (if f.epoch < n then (⟨n, w⟩, true, 0) else (f, f.epoch == n && f.owner == w, 0)) else (⟨0, 0⟩, false, mayV f w n)
def passS (f : Fence) (w n : Int) : Bool × Int :=
  if mayV f w n = 0 then (f.epoch == n && f.owner == w, 0) else (false, mayV f w n)
theorem may0 {f : Fence} {w n : Int} (h : chB f = true) (hw : whoB w = true) (hn : epB n = true) : mayV f w n = 0 := by simp [mayV, h, hw, hn]
def who_R (r : Th (Bool)) : AV := .b fun _ => (r ())
def who_D : Det := fun A => match A with
  | [.i .i64 n] => some (fun _ => True, who_R fun _ => whoB (n ()))
  | _ => none
def ep_R (r : Th (Bool)) : AV := .b fun _ => (r ())
def ep_D : Det := fun A => match A with
  | [.i .i64 n] => some (fun _ => True, ep_R fun _ => epB (n ()))
  | _ => none
def ch_R (r : Th (Int)) : AV := .i .i64 fun _ => (r ())
def ch_S (f : Fence) : Int := if chB f = true then 0 else 4
def ch_D : Det := fun A => match A with
  | [.agg f] => some (fun _ => Dat.ok Fence f, ch_R fun _ => ch_S (Dat.dec f))
  | _ => none
def may_R (r : Th (Int)) : AV := .i .i64 fun _ => (r ())
def may_D : Det := fun A => match A with
  | [.agg f, .i .i64 w, .i .i64 n] => some (fun _ => Dat.ok Fence f, may_R fun _ => mayV (Dat.dec f) (w ()) (n ()))
  | _ => none
def cl_R (r : Th (Fence × Bool × Int)) : AV := .tup [.agg [.i .i64 fun _ => (r ()).1.epoch, .i .i64 fun _ => (r ()).1.owner], .b fun _ => (r ()).2.1, .i .i64 fun _ => (r ()).2.2]
def cl_D : Det := fun A => match A with
  | [.agg f, .i .i64 w, .i .i64 n] => some (fun _ => Dat.ok Fence f, cl_R fun _ => claimS (Dat.dec f) (w ()) (n ()))
  | _ => none
def pa_R (r : Th (Bool × Int)) : AV := .tup [.b fun _ => (r ()).1, .i .i64 fun _ => (r ()).2]
def pa_D : Det := fun A => match A with
  | [.agg f, .i .i64 w, .i .i64 n] => some (fun _ => Dat.ok Fence f, pa_R fun _ => passS (Dat.dec f) (w ()) (n ()))
  | _ => none

set_option maxRecDepth 100000 in
set_option maxHeartbeats 4000000 in
theorem who_vc (n : Int) : FnOk Tryd.prog 56 [.i .i64 fun _ => n] [] (outA (who_R fun _ => whoB n) []) := by
  refine fn_ok envOk zl noCon_ok noDraws_ok (keep := [0, 2]) Tryd.func56 rfl ?_
  cbv
  repeat' first | (refine Stp.mk ?_; cbv) | (refine Gen.mk fun r hr => ?_; (try simp only [Dat.ok, Dat.dec, Leaf.ok, Leaf.val, Ins.eta, Vm.eta, Emit.eta, Fence.eta, Gate.eta, Give.eta, PairAct.eta, Node.eta, Pair.eta, val_sl, val_nil] at hr); cbv) | exact trivial | rfl | refine Both.mk ?_ ?_ | (refine Imp.mk fun h => ?_; (try dsimp only at h); (try simp only [nc, Int.toNat_natCast, ne_eq, zz] at h); (try simp only [nc] at h)) | refine Ob.mk ?_ ?_ | refine Chk.mk (by kernel_rfl) ?_ | refine Eq'.mk ?_ | (refine AllN.mk fun i hi => ?_; cbv) | (refine AllC.mk fun c hc hcm => ?_; (try dsimp only at hc); cbv) | (refine AllS.mk fun r hr => ?_; (try simp only [Dat.ok, Dat.dec, Leaf.ok, Leaf.val, Ins.eta, Vm.eta, Emit.eta, Fence.eta, Gate.eta, Give.eta, PairAct.eta, Node.eta, Pair.eta, val_sl] at hr); cbv)
  all_goals simp_all [whoB]
  all_goals try omega
theorem who_ok : PcOk Tryd.prog 56 (detPC who_D) := det_okA fun A p r h hp0 => by
  unfold who_D at h
  split at h
  · rename_i n
    cases h
    exact ⟨rfl, FnOk.pre (A' := [.i .i64 fun _ => n ()]) (who_vc (n ())) (.mk (.mk (.mk rfl) (.mk rfl)) (trivial))⟩
  · cases h
set_option maxRecDepth 100000 in
set_option maxHeartbeats 4000000 in
theorem ep_vc (n : Int) : FnOk Tryd.prog 57 [.i .i64 fun _ => n] [] (outA (ep_R fun _ => epB n) []) := by
  refine fn_ok envOk zl noCon_ok noDraws_ok (keep := [0, 2]) Tryd.func57 rfl ?_
  cbv
  repeat' first | (refine Stp.mk ?_; cbv) | (refine Gen.mk fun r hr => ?_; (try simp only [Dat.ok, Dat.dec, Leaf.ok, Leaf.val, Ins.eta, Vm.eta, Emit.eta, Fence.eta, Gate.eta, Give.eta, PairAct.eta, Node.eta, Pair.eta, val_sl, val_nil] at hr); cbv) | exact trivial | rfl | refine Both.mk ?_ ?_ | (refine Imp.mk fun h => ?_; (try dsimp only at h); (try simp only [nc, Int.toNat_natCast, ne_eq, zz] at h); (try simp only [nc] at h)) | refine Ob.mk ?_ ?_ | refine Chk.mk (by kernel_rfl) ?_ | refine Eq'.mk ?_ | (refine AllN.mk fun i hi => ?_; cbv) | (refine AllC.mk fun c hc hcm => ?_; (try dsimp only at hc); cbv) | (refine AllS.mk fun r hr => ?_; (try simp only [Dat.ok, Dat.dec, Leaf.ok, Leaf.val, Ins.eta, Vm.eta, Emit.eta, Fence.eta, Gate.eta, Give.eta, PairAct.eta, Node.eta, Pair.eta, val_sl] at hr); cbv)
  all_goals simp_all [epB]
  all_goals try omega
theorem ep_ok : PcOk Tryd.prog 57 (detPC ep_D) := det_okA fun A p r h hp0 => by
  unfold ep_D at h
  split at h
  · rename_i n
    cases h
    exact ⟨rfl, FnOk.pre (A' := [.i .i64 fun _ => n ()]) (ep_vc (n ())) (.mk (.mk (.mk rfl) (.mk rfl)) (trivial))⟩
  · cases h
noncomputable def con1 : FuncId → Con := fun f => match f with
  | 56 => pureCon (detPC who_D)
  | 57 => pureCon (detPC ep_D)
  | _ => fun _ _ _ => Bad 1001
theorem con1_ok : ConOk Tryd.prog con1 := fun f A H K h => by
  unfold con1 at h
  split at h
  · exact ⟨⟨Tryd.f56, Tryd.func56, by kernel_rfl, by kernel_rfl⟩, pureCon_ok who_ok h⟩
  · exact ⟨⟨Tryd.f57, Tryd.func57, by kernel_rfl, by kernel_rfl⟩, pureCon_ok ep_ok h⟩
  · cases h
set_option maxRecDepth 100000 in
set_option maxHeartbeats 4000000 in
theorem ch_vc (f : Fence) : FnOk Tryd.prog 55 [.agg (Dat.enc fun _ => f)] [] (outA (ch_R fun _ => ch_S f) []) := by
  refine fn_ok envOk zl con1_ok noDraws_ok (keep := [0, 1, 2, 15]) Tryd.func55 rfl ?_
  cbv
  repeat' first | (refine Stp.mk ?_; cbv) | (refine Gen.mk fun r hr => ?_; (try simp only [Dat.ok, Dat.dec, Leaf.ok, Leaf.val, Ins.eta, Vm.eta, Emit.eta, Fence.eta, Gate.eta, Give.eta, PairAct.eta, Node.eta, Pair.eta, val_sl, val_nil] at hr); cbv) | exact trivial | rfl | refine Both.mk ?_ ?_ | (refine Imp.mk fun h => ?_; (try dsimp only at h); (try simp only [nc, Int.toNat_natCast, ne_eq, zz] at h); (try simp only [nc] at h)) | refine Ob.mk ?_ ?_ | refine Chk.mk (by kernel_rfl) ?_ | refine Eq'.mk ?_ | (refine AllN.mk fun i hi => ?_; cbv) | (refine AllC.mk fun c hc hcm => ?_; (try dsimp only at hc); cbv) | (refine AllS.mk fun r hr => ?_; (try simp only [Dat.ok, Dat.dec, Leaf.ok, Leaf.val, Ins.eta, Vm.eta, Emit.eta, Fence.eta, Gate.eta, Give.eta, PairAct.eta, Node.eta, Pair.eta, val_sl] at hr); cbv)
  all_goals simp_all [ch_S, chB]
  all_goals try omega
theorem ch_ok : PcOk Tryd.prog 55 (detPC ch_D) := det_okA fun A p r h hp0 => by
  unfold ch_D at h
  split at h
  · rename_i f
    cases h
    have g0 := hp0
    exact ⟨rfl, FnOk.pre (A' := [.agg (Dat.enc fun _ => (Dat.dec f : Fence))]) (ch_vc (Dat.dec f)) (.mk (Dat.hle _ g0) (trivial))⟩
  · cases h
noncomputable def con2 : FuncId → Con := fun f => match f with
  | 56 => pureCon (detPC who_D)
  | 57 => pureCon (detPC ep_D)
  | 55 => pureCon (detPC ch_D)
  | _ => fun _ _ _ => Bad 1001
theorem con2_ok : ConOk Tryd.prog con2 := fun f A H K h => by
  unfold con2 at h
  split at h
  · exact ⟨⟨Tryd.f56, Tryd.func56, by kernel_rfl, by kernel_rfl⟩, pureCon_ok who_ok h⟩
  · exact ⟨⟨Tryd.f57, Tryd.func57, by kernel_rfl, by kernel_rfl⟩, pureCon_ok ep_ok h⟩
  · exact ⟨⟨Tryd.f55, Tryd.func55, by kernel_rfl, by kernel_rfl⟩, pureCon_ok ch_ok h⟩
  · cases h
set_option maxRecDepth 100000 in
set_option maxHeartbeats 4000000 in
theorem may_vc (f : Fence) (w : Int) (n : Int) : FnOk Tryd.prog 50 [.agg (Dat.enc fun _ => f), .i .i64 fun _ => w, .i .i64 fun _ => n] [] (outA (may_R fun _ => mayV f w n) []) := by
  refine fn_ok envOk zl con2_ok noDraws_ok (keep := [0, 1, 2, 3, 6, 7, 11, 20]) Tryd.func50 rfl ?_
  cbv
  repeat' first | (refine Stp.mk ?_; cbv) | (refine Gen.mk fun r hr => ?_; (try simp only [Dat.ok, Dat.dec, Leaf.ok, Leaf.val, Ins.eta, Vm.eta, Emit.eta, Fence.eta, Gate.eta, Give.eta, PairAct.eta, Node.eta, Pair.eta, val_sl, val_nil] at hr); cbv) | exact trivial | rfl | refine Both.mk ?_ ?_ | (refine Imp.mk fun h => ?_; (try dsimp only at h); (try simp only [nc, Int.toNat_natCast, ne_eq, zz] at h); (try simp only [nc] at h)) | refine Ob.mk ?_ ?_ | refine Chk.mk (by kernel_rfl) ?_ | refine Eq'.mk ?_ | (refine AllN.mk fun i hi => ?_; cbv) | (refine AllC.mk fun c hc hcm => ?_; (try dsimp only at hc); cbv) | (refine AllS.mk fun r hr => ?_; (try simp only [Dat.ok, Dat.dec, Leaf.ok, Leaf.val, Ins.eta, Vm.eta, Emit.eta, Fence.eta, Gate.eta, Give.eta, PairAct.eta, Node.eta, Pair.eta, val_sl] at hr); cbv)
  all_goals simp_all [mayV, ch_S, Dat.ok, Dat.dec, Leaf.ok, Leaf.val, Ins.eta, Vm.eta, Emit.eta, Fence.eta, Gate.eta, Give.eta, PairAct.eta, Node.eta, Pair.eta]
  all_goals try omega
theorem may_ok : PcOk Tryd.prog 50 (detPC may_D) := det_okA fun A p r h hp0 => by
  unfold may_D at h
  split at h
  · rename_i f w n
    cases h
    have g0 := hp0
    exact ⟨rfl, FnOk.pre (A' := [.agg (Dat.enc fun _ => (Dat.dec f : Fence)), .i .i64 fun _ => w (), .i .i64 fun _ => n ()]) (may_vc (Dat.dec f) (w ()) (n ())) (.mk (Dat.hle _ g0) (.mk (.mk (.mk rfl) (.mk rfl)) (.mk (.mk (.mk rfl) (.mk rfl)) (trivial))))⟩
  · cases h
noncomputable def con3 : FuncId → Con := fun f => match f with
  | 50 => pureCon (detPC may_D)
  | _ => fun _ _ _ => Bad 1001
theorem con3_ok : ConOk Tryd.prog con3 := fun f A H K h => by
  unfold con3 at h
  split at h
  · exact ⟨⟨Tryd.f50, Tryd.func50, by kernel_rfl, by kernel_rfl⟩, pureCon_ok may_ok h⟩
  · cases h
set_option maxRecDepth 100000 in
set_option maxHeartbeats 4000000 in
theorem cl_vc (f : Fence) (w : Int) (n : Int) : FnOk Tryd.prog 44 [.agg (Dat.enc fun _ => f), .i .i64 fun _ => w, .i .i64 fun _ => n] [] (outA (cl_R fun _ => claimS f w n) []) := by
  refine fn_ok envOk zl con3_ok (draws_ok envOk zl noDet_ok mixed) (keep := [0, 1, 2, 3, 6, 7, 8, 9, 10, 16, 25]) Tryd.func44 rfl ?_
  cbv
  repeat' first | (refine Stp.mk ?_; cbv) | (refine Gen.mk fun r hr => ?_; (try simp only [Dat.ok, Dat.dec, Leaf.ok, Leaf.val, Ins.eta, Vm.eta, Emit.eta, Fence.eta, Gate.eta, Give.eta, PairAct.eta, Node.eta, Pair.eta, val_sl, val_nil] at hr); cbv) | exact trivial | rfl | refine Both.mk ?_ ?_ | (refine Imp.mk fun h => ?_; (try dsimp only at h); (try simp only [nc, Int.toNat_natCast, ne_eq, zz] at h); (try simp only [nc] at h)) | refine Ob.mk ?_ ?_ | refine Chk.mk (by kernel_rfl) ?_ | refine Eq'.mk ?_ | (refine AllN.mk fun i hi => ?_; cbv) | (refine AllC.mk fun c hc hcm => ?_; (try dsimp only at hc); cbv) | (refine AllS.mk fun r hr => ?_; (try simp only [Dat.ok, Dat.dec, Leaf.ok, Leaf.val, Ins.eta, Vm.eta, Emit.eta, Fence.eta, Gate.eta, Give.eta, PairAct.eta, Node.eta, Pair.eta, val_sl] at hr); cbv)
  all_goals simp_all [claimS, Dat.ok, Dat.dec, Leaf.ok, Leaf.val, Ins.eta, Vm.eta, Emit.eta, Fence.eta, Gate.eta, Give.eta, PairAct.eta, Node.eta, Pair.eta]
  all_goals first | done | (split <;> first | rfl | omega | (simp; omega))
theorem cl_ok : PcOk Tryd.prog 44 (detPC cl_D) := det_okA fun A p r h hp0 => by
  unfold cl_D at h
  split at h
  · rename_i f w n
    cases h
    have g0 := hp0
    exact ⟨rfl, FnOk.pre (A' := [.agg (Dat.enc fun _ => (Dat.dec f : Fence)), .i .i64 fun _ => w (), .i .i64 fun _ => n ()]) (cl_vc (Dat.dec f) (w ()) (n ())) (.mk (Dat.hle _ g0) (.mk (.mk (.mk rfl) (.mk rfl)) (.mk (.mk (.mk rfl) (.mk rfl)) (trivial))))⟩
  · cases h
set_option maxRecDepth 100000 in
set_option maxHeartbeats 4000000 in
theorem pa_vc (f : Fence) (w : Int) (n : Int) : FnOk Tryd.prog 46 [.agg (Dat.enc fun _ => f), .i .i64 fun _ => w, .i .i64 fun _ => n] [] (outA (pa_R fun _ => passS f w n) []) := by
  refine fn_ok envOk zl con3_ok (draws_ok envOk zl noDet_ok mixed) (keep := [0, 1, 2, 3, 6, 7, 8, 14]) Tryd.func46 rfl ?_
  cbv
  repeat' first | (refine Stp.mk ?_; cbv) | (refine Gen.mk fun r hr => ?_; (try simp only [Dat.ok, Dat.dec, Leaf.ok, Leaf.val, Ins.eta, Vm.eta, Emit.eta, Fence.eta, Gate.eta, Give.eta, PairAct.eta, Node.eta, Pair.eta, val_sl, val_nil] at hr); cbv) | exact trivial | rfl | refine Both.mk ?_ ?_ | (refine Imp.mk fun h => ?_; (try dsimp only at h); (try simp only [nc, Int.toNat_natCast, ne_eq, zz] at h); (try simp only [nc] at h)) | refine Ob.mk ?_ ?_ | refine Chk.mk (by kernel_rfl) ?_ | refine Eq'.mk ?_ | (refine AllN.mk fun i hi => ?_; cbv) | (refine AllC.mk fun c hc hcm => ?_; (try dsimp only at hc); cbv) | (refine AllS.mk fun r hr => ?_; (try simp only [Dat.ok, Dat.dec, Leaf.ok, Leaf.val, Ins.eta, Vm.eta, Emit.eta, Fence.eta, Gate.eta, Give.eta, PairAct.eta, Node.eta, Pair.eta, val_sl] at hr); cbv)
  all_goals simp_all [passS, Dat.ok, Dat.dec, Leaf.ok, Leaf.val, Ins.eta, Vm.eta, Emit.eta, Fence.eta, Gate.eta, Give.eta, PairAct.eta, Node.eta, Pair.eta]
  all_goals try omega
theorem pa_ok : PcOk Tryd.prog 46 (detPC pa_D) := det_okA fun A p r h hp0 => by
  unfold pa_D at h
  split at h
  · rename_i f w n
    cases h
    have g0 := hp0
    exact ⟨rfl, FnOk.pre (A' := [.agg (Dat.enc fun _ => (Dat.dec f : Fence)), .i .i64 fun _ => w (), .i .i64 fun _ => n ()]) (pa_vc (Dat.dec f) (w ()) (n ())) (.mk (Dat.hle _ g0) (.mk (.mk (.mk rfl) (.mk rfl)) (.mk (.mk (.mk rfl) (.mk rfl)) (trivial))))⟩
  · cases h

end Go.Proofs.YtddkjgdfjkklcaaDoor
