/- The program's functions, walked: Fence. -/
import Derived.Test.YtpooooomhnehfaaTy
set_option linter.all false
namespace Go.Proofs.Ytpooooomhnehfaa
open Go Go.Abs

/- What the functions of package fence compute. -/
def whoB (n : Int) : Bool := decide (0 ≤ n) && decide (n ≤ 255)
def epB (n : Int) : Bool := decide (1 ≤ n) && decide (n ≤ 2147483647)
def chB (f : Fence) : Bool := (f.epoch == 0 && f.owner == 0) || (epB f.epoch && whoB f.owner)
def mayV (f : Fence) (w n : Int) : Int := if chB f = true then (if (whoB w && epB n) = true then 0 else 1) else 4
def claimS (f : Fence) (w n : Int) : Fence × Bool × Int :=
  if mayV f w n = 0 then (if f.epoch < n then (⟨n, w⟩, true, 0) else (f, f.epoch == n && f.owner == w, 0)) else (⟨0, 0⟩, false, mayV f w n)
def passS (f : Fence) (w n : Int) : Bool × Int :=
  if mayV f w n = 0 then (f.epoch == n && f.owner == w, 0) else (false, mayV f w n)
def valid (n : Int) (t : Try) : Bool := (t.kind == 1 || t.kind == 2) && decide (0 ≤ t.fence) && decide (t.fence < n) && whoB t.who && epB t.epoch
def stepF (fs : List Fence) (t : Try) : List Fence := if t.kind = 1 then fs.set t.fence.toNat (claimS (fs.getD t.fence.toNat Dat.d0) t.who t.epoch).1 else fs
def stepB (fs : List Fence) (t : Try) : Bool :=
  if t.kind = 1 then (claimS (fs.getD t.fence.toNat Dat.d0) t.who t.epoch).2.1 else (passS (fs.getD t.fence.toNat Dat.d0) t.who t.epoch).1
def playL (n : Int) : List Try → List Fence → List Bool → List Fence × List Bool × Int
  | [], fs, out => (fs, out, 0)
  | t :: r, fs, out => if valid n t = true then playL n r (stepF fs t) (out ++ [stepB fs t]) else ([], [], 1)
def playV (n : Int) (l : List Try) : List Fence × List Bool × Int :=
  if n < 0 ∨ 8 < n then ([], [], 1) else if 500 < l.length then ([], [], 2) else playL n l (List.replicate n.toNat ⟨0, 0⟩) []

def who_R (r : Th (Bool)) : AV := .b fun _ => (r ())
def who_D : Det := fun A => match A with
  | [.i .i64 n] => some (fun _ => True, who_R fun _ => whoB (n ()))
  | _ => none
def ep_R (r : Th (Bool)) : AV := .b fun _ => (r ())
def ep_D : Det := fun A => match A with
  | [.i .i64 n] => some (fun _ => True, ep_R fun _ => epB (n ()))
  | _ => none
def ch_R (r : Th (Int)) : AV := .i .i64 fun _ => (r ())
def ch_S (f : Fence) : Int := if chB f = true then 0 else 4
def ch_D : Det := fun A => match A with
  | [.agg f] => some (fun _ => Dat.ok Fence f, ch_R fun _ => ch_S (Dat.dec f))
  | _ => none
def may_R (r : Th (Int)) : AV := .i .i64 fun _ => (r ())
def may_D : Det := fun A => match A with
  | [.agg f, .i .i64 w, .i .i64 n] => some (fun _ => Dat.ok Fence f, may_R fun _ => mayV (Dat.dec f) (w ()) (n ()))
  | _ => none
def cl_R (r : Th (Fence × Bool × Int)) : AV := .tup [.agg [.i .i64 fun _ => (r ()).1.epoch, .i .i64 fun _ => (r ()).1.owner], .b fun _ => (r ()).2.1, .i .i64 fun _ => (r ()).2.2]
def cl_D : Det := fun A => match A with
  | [.agg f, .i .i64 w, .i .i64 n] => some (fun _ => Dat.ok Fence f, cl_R fun _ => claimS (Dat.dec f) (w ()) (n ()))
  | _ => none
def pa_R (r : Th (Bool × Int)) : AV := .tup [.b fun _ => (r ()).1, .i .i64 fun _ => (r ()).2]
def pa_D : Det := fun A => match A with
  | [.agg f, .i .i64 w, .i .i64 n] => some (fun _ => Dat.ok Fence f, pa_R fun _ => passS (Dat.dec f) (w ()) (n ()))
  | _ => none
def play_R (r : Th ((List Fence) × (List Bool) × Int)) : AV := .tup [.own 0 fun _ => (r ()).1.length, .own 1 fun _ => (r ()).2.1.length, .i .i64 fun _ => (r ()).2.2]
def play_H (r : Th ((List Fence) × (List Bool) × Int)) : Hp := [vecO 33 fun _ => (r ()).1, vecO 4 fun _ => (r ()).2.1]
def play_C : PC := fun A K => match A with
  | [.i .i64 n, l] => Ob (fun _ => Leaf.ok (List Try) l) (Gen (α := (List Fence) × (List Bool) × Int) (fun _ => playV (n ()) (Leaf.val l)) fun r => K (play_R fun _ => r) (play_H fun _ => r))
  | _ => Bad 1002

set_option maxRecDepth 100000 in
set_option maxHeartbeats 4000000 in
theorem who_vc (n : Int) : FnOk Try.prog 25 [.i .i64 fun _ => n] [] (outA (who_R fun _ => whoB n) []) := by
  refine fn_ok envOk zl noCon_ok noDraws_ok (keep := [0, 2]) Try.func25 rfl ?_
  cbv
  repeat' first | (refine Stp.mk ?_; cbv) | (refine Gen.mk fun r hr => ?_; (try simp only [Dat.ok, Dat.dec, Leaf.ok, Leaf.val, Fence.eta, Try.eta, Gate.eta, Give.eta, GateOp.eta, GateAns.eta, val_sl, val_nil] at hr); cbv) | exact trivial | rfl | refine Both.mk ?_ ?_ | (refine Imp.mk fun h => ?_; (try dsimp only at h); (try simp only [nc, Int.toNat_natCast, Bool.not_eq_true', Bool.not_eq_false', decide_eq_true_eq, decide_eq_false_iff_not, beq_iff_eq, beq_eq_false_iff_ne, ba_inj, bne_iff_ne, ne_eq, Bool.and_eq_true, Bool.or_eq_true, Bool.and_eq_false_iff, Bool.or_eq_false_iff, Int.not_le, Int.not_lt, Nat.not_le, Nat.not_lt] at h); (try simp only [nc] at h)) | refine Ob.mk ?_ ?_ | refine Chk.mk (by kernel_rfl) ?_ | refine Eq'.mk ?_ | (refine AllN.mk fun i hi => ?_; cbv) | (refine AllC.mk fun c hc hcm => ?_; (try dsimp only at hc); cbv) | (refine AllS.mk fun r hr => ?_; (try simp only [Dat.ok, Dat.dec, Leaf.ok, Leaf.val, Fence.eta, Try.eta, Gate.eta, Give.eta, GateOp.eta, GateAns.eta, val_sl] at hr); cbv)
  all_goals simp_all [whoB]
  all_goals try omega
theorem who_ok : PcOk Try.prog 25 (detPC who_D) := det_okA fun A p r h hp0 => by
  unfold who_D at h
  split at h
  · rename_i n
    cases h
    exact ⟨rfl, FnOk.pre (A' := [.i .i64 fun _ => n ()]) (who_vc (n ())) (.mk (.mk (.mk rfl) (.mk rfl)) (trivial))⟩
  · cases h
set_option maxRecDepth 100000 in
set_option maxHeartbeats 4000000 in
theorem ep_vc (n : Int) : FnOk Try.prog 26 [.i .i64 fun _ => n] [] (outA (ep_R fun _ => epB n) []) := by
  refine fn_ok envOk zl noCon_ok noDraws_ok (keep := [0, 2]) Try.func26 rfl ?_
  cbv
  repeat' first | (refine Stp.mk ?_; cbv) | (refine Gen.mk fun r hr => ?_; (try simp only [Dat.ok, Dat.dec, Leaf.ok, Leaf.val, Fence.eta, Try.eta, Gate.eta, Give.eta, GateOp.eta, GateAns.eta, val_sl, val_nil] at hr); cbv) | exact trivial | rfl | refine Both.mk ?_ ?_ | (refine Imp.mk fun h => ?_; (try dsimp only at h); (try simp only [nc, Int.toNat_natCast, Bool.not_eq_true', Bool.not_eq_false', decide_eq_true_eq, decide_eq_false_iff_not, beq_iff_eq, beq_eq_false_iff_ne, ba_inj, bne_iff_ne, ne_eq, Bool.and_eq_true, Bool.or_eq_true, Bool.and_eq_false_iff, Bool.or_eq_false_iff, Int.not_le, Int.not_lt, Nat.not_le, Nat.not_lt] at h); (try simp only [nc] at h)) | refine Ob.mk ?_ ?_ | refine Chk.mk (by kernel_rfl) ?_ | refine Eq'.mk ?_ | (refine AllN.mk fun i hi => ?_; cbv) | (refine AllC.mk fun c hc hcm => ?_; (try dsimp only at hc); cbv) | (refine AllS.mk fun r hr => ?_; (try simp only [Dat.ok, Dat.dec, Leaf.ok, Leaf.val, Fence.eta, Try.eta, Gate.eta, Give.eta, GateOp.eta, GateAns.eta, val_sl] at hr); cbv)
  all_goals simp_all [epB]
  all_goals try omega
theorem ep_ok : PcOk Try.prog 26 (detPC ep_D) := det_okA fun A p r h hp0 => by
  unfold ep_D at h
  split at h
  · rename_i n
    cases h
    exact ⟨rfl, FnOk.pre (A' := [.i .i64 fun _ => n ()]) (ep_vc (n ())) (.mk (.mk (.mk rfl) (.mk rfl)) (trivial))⟩
  · cases h
noncomputable def con1 : FuncId → Con := fun f => match f with
  | 25 => pureCon (detPC who_D)
  | 26 => pureCon (detPC ep_D)
  | _ => fun _ _ _ => Bad 1001
theorem con1_ok : ConOk Try.prog con1 := fun f A H K h => by
  unfold con1 at h
  split at h
  · exact ⟨⟨Try.f25, Try.func25, by kernel_rfl, by kernel_rfl⟩, pureCon_ok who_ok h⟩
  · exact ⟨⟨Try.f26, Try.func26, by kernel_rfl, by kernel_rfl⟩, pureCon_ok ep_ok h⟩
  · cases h
set_option maxRecDepth 100000 in
set_option maxHeartbeats 4000000 in
theorem ch_vc (f : Fence) : FnOk Try.prog 32 [.agg (Dat.enc fun _ => f)] [] (outA (ch_R fun _ => ch_S f) []) := by
  refine fn_ok envOk zl con1_ok noDraws_ok (keep := [0, 1, 2, 15]) Try.func32 rfl ?_
  cbv
  repeat' first | (refine Stp.mk ?_; cbv) | (refine Gen.mk fun r hr => ?_; (try simp only [Dat.ok, Dat.dec, Leaf.ok, Leaf.val, Fence.eta, Try.eta, Gate.eta, Give.eta, GateOp.eta, GateAns.eta, val_sl, val_nil] at hr); cbv) | exact trivial | rfl | refine Both.mk ?_ ?_ | (refine Imp.mk fun h => ?_; (try dsimp only at h); (try simp only [nc, Int.toNat_natCast, Bool.not_eq_true', Bool.not_eq_false', decide_eq_true_eq, decide_eq_false_iff_not, beq_iff_eq, beq_eq_false_iff_ne, ba_inj, bne_iff_ne, ne_eq, Bool.and_eq_true, Bool.or_eq_true, Bool.and_eq_false_iff, Bool.or_eq_false_iff, Int.not_le, Int.not_lt, Nat.not_le, Nat.not_lt] at h); (try simp only [nc] at h)) | refine Ob.mk ?_ ?_ | refine Chk.mk (by kernel_rfl) ?_ | refine Eq'.mk ?_ | (refine AllN.mk fun i hi => ?_; cbv) | (refine AllC.mk fun c hc hcm => ?_; (try dsimp only at hc); cbv) | (refine AllS.mk fun r hr => ?_; (try simp only [Dat.ok, Dat.dec, Leaf.ok, Leaf.val, Fence.eta, Try.eta, Gate.eta, Give.eta, GateOp.eta, GateAns.eta, val_sl] at hr); cbv)
  all_goals simp_all [ch_S, chB]
  all_goals try omega
theorem ch_ok : PcOk Try.prog 32 (detPC ch_D) := det_okA fun A p r h hp0 => by
  unfold ch_D at h
  split at h
  · rename_i f
    cases h
    have g0 := hp0
    exact ⟨rfl, FnOk.pre (A' := [.agg (Dat.enc fun _ => (Dat.dec f : Fence))]) (ch_vc (Dat.dec f)) (.mk (Dat.hle _ g0) (trivial))⟩
  · cases h
noncomputable def con2 : FuncId → Con := fun f => match f with
  | 25 => pureCon (detPC who_D)
  | 26 => pureCon (detPC ep_D)
  | 32 => pureCon (detPC ch_D)
  | _ => fun _ _ _ => Bad 1001
theorem con2_ok : ConOk Try.prog con2 := fun f A H K h => by
  unfold con2 at h
  split at h
  · exact ⟨⟨Try.f25, Try.func25, by kernel_rfl, by kernel_rfl⟩, pureCon_ok who_ok h⟩
  · exact ⟨⟨Try.f26, Try.func26, by kernel_rfl, by kernel_rfl⟩, pureCon_ok ep_ok h⟩
  · exact ⟨⟨Try.f32, Try.func32, by kernel_rfl, by kernel_rfl⟩, pureCon_ok ch_ok h⟩
  · cases h
set_option maxRecDepth 100000 in
set_option maxHeartbeats 4000000 in
theorem may_vc (f : Fence) (w : Int) (n : Int) : FnOk Try.prog 28 [.agg (Dat.enc fun _ => f), .i .i64 fun _ => w, .i .i64 fun _ => n] [] (outA (may_R fun _ => mayV f w n) []) := by
  refine fn_ok envOk zl con2_ok noDraws_ok (keep := [0, 1, 2, 3, 6, 7, 11, 20]) Try.func28 rfl ?_
  cbv
  repeat' first | (refine Stp.mk ?_; cbv) | (refine Gen.mk fun r hr => ?_; (try simp only [Dat.ok, Dat.dec, Leaf.ok, Leaf.val, Fence.eta, Try.eta, Gate.eta, Give.eta, GateOp.eta, GateAns.eta, val_sl, val_nil] at hr); cbv) | exact trivial | rfl | refine Both.mk ?_ ?_ | (refine Imp.mk fun h => ?_; (try dsimp only at h); (try simp only [nc, Int.toNat_natCast, Bool.not_eq_true', Bool.not_eq_false', decide_eq_true_eq, decide_eq_false_iff_not, beq_iff_eq, beq_eq_false_iff_ne, ba_inj, bne_iff_ne, ne_eq, Bool.and_eq_true, Bool.or_eq_true, Bool.and_eq_false_iff, Bool.or_eq_false_iff, Int.not_le, Int.not_lt, Nat.not_le, Nat.not_lt] at h); (try simp only [nc] at h)) | refine Ob.mk ?_ ?_ | refine Chk.mk (by kernel_rfl) ?_ | refine Eq'.mk ?_ | (refine AllN.mk fun i hi => ?_; cbv) | (refine AllC.mk fun c hc hcm => ?_; (try dsimp only at hc); cbv) | (refine AllS.mk fun r hr => ?_; (try simp only [Dat.ok, Dat.dec, Leaf.ok, Leaf.val, Fence.eta, Try.eta, Gate.eta, Give.eta, GateOp.eta, GateAns.eta, val_sl] at hr); cbv)
  all_goals simp_all [mayV, ch_S, Dat.ok, Dat.dec, Leaf.ok, Leaf.val, Fence.eta, Try.eta, Gate.eta, Give.eta, GateOp.eta, GateAns.eta]
  all_goals try omega
theorem may_ok : PcOk Try.prog 28 (detPC may_D) := det_okA fun A p r h hp0 => by
  unfold may_D at h
  split at h
  · rename_i f w n
    cases h
    have g0 := hp0
    exact ⟨rfl, FnOk.pre (A' := [.agg (Dat.enc fun _ => (Dat.dec f : Fence)), .i .i64 fun _ => w (), .i .i64 fun _ => n ()]) (may_vc (Dat.dec f) (w ()) (n ())) (.mk (Dat.hle _ g0) (.mk (.mk (.mk rfl) (.mk rfl)) (.mk (.mk (.mk rfl) (.mk rfl)) (trivial))))⟩
  · cases h
noncomputable def con3 : FuncId → Con := fun f => match f with
  | 28 => pureCon (detPC may_D)
  | _ => fun _ _ _ => Bad 1001
theorem con3_ok : ConOk Try.prog con3 := fun f A H K h => by
  unfold con3 at h
  split at h
  · exact ⟨⟨Try.f28, Try.func28, by kernel_rfl, by kernel_rfl⟩, pureCon_ok may_ok h⟩
  · cases h
set_option maxRecDepth 100000 in
set_option maxHeartbeats 4000000 in
theorem cl_vc (f : Fence) (w : Int) (n : Int) : FnOk Try.prog 14 [.agg (Dat.enc fun _ => f), .i .i64 fun _ => w, .i .i64 fun _ => n] [] (outA (cl_R fun _ => claimS f w n) []) := by
  refine fn_ok envOk zl con3_ok (draws_ok envOk zl noDet_ok mixed) (keep := [0, 1, 2, 3, 6, 7, 8, 9, 10, 16, 25]) Try.func14 rfl ?_
  cbv
  repeat' first | (refine Stp.mk ?_; cbv) | (refine Gen.mk fun r hr => ?_; (try simp only [Dat.ok, Dat.dec, Leaf.ok, Leaf.val, Fence.eta, Try.eta, Gate.eta, Give.eta, GateOp.eta, GateAns.eta, val_sl, val_nil] at hr); cbv) | exact trivial | rfl | refine Both.mk ?_ ?_ | (refine Imp.mk fun h => ?_; (try dsimp only at h); (try simp only [nc, Int.toNat_natCast, Bool.not_eq_true', Bool.not_eq_false', decide_eq_true_eq, decide_eq_false_iff_not, beq_iff_eq, beq_eq_false_iff_ne, ba_inj, bne_iff_ne, ne_eq, Bool.and_eq_true, Bool.or_eq_true, Bool.and_eq_false_iff, Bool.or_eq_false_iff, Int.not_le, Int.not_lt, Nat.not_le, Nat.not_lt] at h); (try simp only [nc] at h)) | refine Ob.mk ?_ ?_ | refine Chk.mk (by kernel_rfl) ?_ | refine Eq'.mk ?_ | (refine AllN.mk fun i hi => ?_; cbv) | (refine AllC.mk fun c hc hcm => ?_; (try dsimp only at hc); cbv) | (refine AllS.mk fun r hr => ?_; (try simp only [Dat.ok, Dat.dec, Leaf.ok, Leaf.val, Fence.eta, Try.eta, Gate.eta, Give.eta, GateOp.eta, GateAns.eta, val_sl] at hr); cbv)
  all_goals simp_all [claimS, Dat.ok, Dat.dec, Leaf.ok, Leaf.val, Fence.eta, Try.eta, Gate.eta, Give.eta, GateOp.eta, GateAns.eta]
  all_goals first | done | (split <;> first | rfl | omega | (simp; omega))
theorem cl_ok : PcOk Try.prog 14 (detPC cl_D) := det_okA fun A p r h hp0 => by
  unfold cl_D at h
  split at h
  · rename_i f w n
    cases h
    have g0 := hp0
    exact ⟨rfl, FnOk.pre (A' := [.agg (Dat.enc fun _ => (Dat.dec f : Fence)), .i .i64 fun _ => w (), .i .i64 fun _ => n ()]) (cl_vc (Dat.dec f) (w ()) (n ())) (.mk (Dat.hle _ g0) (.mk (.mk (.mk rfl) (.mk rfl)) (.mk (.mk (.mk rfl) (.mk rfl)) (trivial))))⟩
  · cases h
set_option maxRecDepth 100000 in
set_option maxHeartbeats 4000000 in
theorem pa_vc (f : Fence) (w : Int) (n : Int) : FnOk Try.prog 15 [.agg (Dat.enc fun _ => f), .i .i64 fun _ => w, .i .i64 fun _ => n] [] (outA (pa_R fun _ => passS f w n) []) := by
  refine fn_ok envOk zl con3_ok (draws_ok envOk zl noDet_ok mixed) (keep := [0, 1, 2, 3, 6, 7, 8, 14]) Try.func15 rfl ?_
  cbv
  repeat' first | (refine Stp.mk ?_; cbv) | (refine Gen.mk fun r hr => ?_; (try simp only [Dat.ok, Dat.dec, Leaf.ok, Leaf.val, Fence.eta, Try.eta, Gate.eta, Give.eta, GateOp.eta, GateAns.eta, val_sl, val_nil] at hr); cbv) | exact trivial | rfl | refine Both.mk ?_ ?_ | (refine Imp.mk fun h => ?_; (try dsimp only at h); (try simp only [nc, Int.toNat_natCast, Bool.not_eq_true', Bool.not_eq_false', decide_eq_true_eq, decide_eq_false_iff_not, beq_iff_eq, beq_eq_false_iff_ne, ba_inj, bne_iff_ne, ne_eq, Bool.and_eq_true, Bool.or_eq_true, Bool.and_eq_false_iff, Bool.or_eq_false_iff, Int.not_le, Int.not_lt, Nat.not_le, Nat.not_lt] at h); (try simp only [nc] at h)) | refine Ob.mk ?_ ?_ | refine Chk.mk (by kernel_rfl) ?_ | refine Eq'.mk ?_ | (refine AllN.mk fun i hi => ?_; cbv) | (refine AllC.mk fun c hc hcm => ?_; (try dsimp only at hc); cbv) | (refine AllS.mk fun r hr => ?_; (try simp only [Dat.ok, Dat.dec, Leaf.ok, Leaf.val, Fence.eta, Try.eta, Gate.eta, Give.eta, GateOp.eta, GateAns.eta, val_sl] at hr); cbv)
  all_goals simp_all [passS, Dat.ok, Dat.dec, Leaf.ok, Leaf.val, Fence.eta, Try.eta, Gate.eta, Give.eta, GateOp.eta, GateAns.eta]
  all_goals try omega
theorem pa_ok : PcOk Try.prog 15 (detPC pa_D) := det_okA fun A p r h hp0 => by
  unfold pa_D at h
  split at h
  · rename_i f w n
    cases h
    have g0 := hp0
    exact ⟨rfl, FnOk.pre (A' := [.agg (Dat.enc fun _ => (Dat.dec f : Fence)), .i .i64 fun _ => w (), .i .i64 fun _ => n ()]) (pa_vc (Dat.dec f) (w ()) (n ())) (.mk (Dat.hle _ g0) (.mk (.mk (.mk rfl) (.mk rfl)) (.mk (.mk (.mk rfl) (.mk rfl)) (trivial))))⟩
  · cases h

end Go.Proofs.Ytpooooomhnehfaa
