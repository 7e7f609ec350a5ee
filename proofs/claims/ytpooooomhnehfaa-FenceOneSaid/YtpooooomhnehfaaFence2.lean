import Derived.Test.YtpooooomhnehfaaFence1
set_option linter.all false
namespace Go.Proofs.Ytpooooomhnehfaa
open Go Go.Abs

/- What the functions compute. -/
def whoB (n : Int) : Bool := decide (0 ≤ n) && decide (n ≤ 255)
def epB (n : Int) : Bool := decide (1 ≤ n) && decide (n ≤ 2147483647)
def chB (e o : Int) : Bool := (e == 0 && o == 0) || (epB e && whoB o)
def mayV (e o w n : Int) : Int := if chB e o = true then (if (whoB w && epB n) = true then 0 else 1) else 4
def clE (e o w n : Int) : Int := if mayV e o w n = 0 then (if e < n then n else e) else 0
def clO (e o w n : Int) : Int := if mayV e o w n = 0 then (if e < n then w else o) else 0
def clB (e o w n : Int) : Bool := mayV e o w n == 0 && (decide (e < n) || (e == n && o == w))
def paB (e o w n : Int) : Bool := mayV e o w n == 0 && (e == n && o == w)

def whoD : Det := fun A => match A with
  | [.i .i64 n] => some (fun _ => True, .b fun _ => whoB (n ()))
  | _ => none
def epD : Det := fun A => match A with
  | [.i .i64 n] => some (fun _ => True, .b fun _ => epB (n ()))
  | _ => none
def chD : Det := fun A => match A with
  | [.agg [.i .i64 e, .i .i64 o]] => some (fun _ => True, .i .i64 fun _ => if chB (e ()) (o ()) = true then 0 else 4)
  | _ => none
def mayD : Det := fun A => match A with
  | [.agg [.i .i64 e, .i .i64 o], .i .i64 w, .i .i64 n] => some (fun _ => True, .i .i64 fun _ => mayV (e ()) (o ()) (w ()) (n ()))
  | _ => none
def clD : Det := fun A => match A with
  | [.agg [.i .i64 e, .i .i64 o], .i .i64 w, .i .i64 n] => some (fun _ => True, .tup [.agg [.i .i64 fun _ => clE (e ()) (o ()) (w ()) (n ()), .i .i64 fun _ => clO (e ()) (o ()) (w ()) (n ())],
      .b fun _ => clB (e ()) (o ()) (w ()) (n ()), .i .i64 fun _ => mayV (e ()) (o ()) (w ()) (n ())])
  | _ => none
def paD : Det := fun A => match A with
  | [.agg [.i .i64 e, .i .i64 o], .i .i64 w, .i .i64 n] => some (fun _ => True, .tup [.b fun _ => paB (e ()) (o ()) (w ()) (n ()), .i .i64 fun _ => mayV (e ()) (o ()) (w ()) (n ())])
  | _ => none

def con1 : FuncId → Con := fun f => match f with
  | 25 => pureCon (detPC whoD)
  | 26 => pureCon (detPC epD)
  | _ => fun _ _ _ => Bad 1001

theorem noCon : ConOk Try.prog fun _ _ _ _ => Bad 1000 := fun f A H K h => by cases h

set_option maxRecDepth 100000
theorem who_ok : PcOk Try.prog 25 (detPC whoD) := det_ok fun A p r h _ => by
  unfold whoD at h
  split at h
  · cases h
    refine fn_ok envOk zl noCon noDraws_ok (keep := [0, 2]) Try.func25 rfl ?_
    cbv
    repeat' first | exact trivial | rfl | refine Both.mk ?_ ?_ | refine Imp.mk fun _ => ?_ | refine Ob.mk ?_ ?_ | refine Eq'.mk ?_
    all_goals simp_all [whoB, epB, chB]
    all_goals try omega
  · cases h

theorem ep_ok : PcOk Try.prog 26 (detPC epD) := det_ok fun A p r h _ => by
  unfold epD at h
  split at h
  · cases h
    refine fn_ok envOk zl noCon noDraws_ok (keep := [0, 2]) Try.func26 rfl ?_
    cbv
    repeat' first | exact trivial | rfl | refine Both.mk ?_ ?_ | refine Imp.mk fun _ => ?_ | refine Ob.mk ?_ ?_ | refine Eq'.mk ?_
    all_goals simp_all [whoB, epB, chB]
    all_goals try omega
  · cases h

theorem con1_ok : ConOk Try.prog con1 := fun f A H K h => by
  unfold con1 at h
  split at h
  · exact ⟨⟨Try.f25, Try.func25, by kernel_rfl, by kernel_rfl⟩, pureCon_ok who_ok h⟩
  · exact ⟨⟨Try.f26, Try.func26, by kernel_rfl, by kernel_rfl⟩, pureCon_ok ep_ok h⟩
  · cases h

theorem ch_ok : PcOk Try.prog 32 (detPC chD) := det_ok fun A p r h _ => by
  unfold chD at h
  split at h
  · cases h
    refine fn_ok envOk zl con1_ok noDraws_ok (keep := [0,1,2,15]) Try.func32 rfl ?_
    cbv
    repeat' first | exact trivial | rfl | refine Both.mk ?_ ?_ | refine Imp.mk fun _ => ?_ | refine Ob.mk ?_ ?_ | refine Eq'.mk ?_
    all_goals simp_all [chB]
    all_goals try omega
  · cases h

def con2 : FuncId → Con := fun f => match f with
  | 25 => pureCon (detPC whoD)
  | 26 => pureCon (detPC epD)
  | 32 => pureCon (detPC chD)
  | _ => fun _ _ _ => Bad 1001
theorem con2_ok : ConOk Try.prog con2 := fun f A H K h => by
  unfold con2 at h
  split at h
  · exact ⟨⟨Try.f25, Try.func25, by kernel_rfl, by kernel_rfl⟩, pureCon_ok who_ok h⟩
  · exact ⟨⟨Try.f26, Try.func26, by kernel_rfl, by kernel_rfl⟩, pureCon_ok ep_ok h⟩
  · exact ⟨⟨Try.f32, Try.func32, by kernel_rfl, by kernel_rfl⟩, pureCon_ok ch_ok h⟩
  · cases h

theorem may_ok : PcOk Try.prog 28 (detPC mayD) := det_ok fun A p r h _ => by
  unfold mayD at h
  split at h
  · cases h
    refine fn_ok envOk zl con2_ok noDraws_ok (keep := [0,1,2,3,6,7,11,20]) Try.func28 rfl ?_
    cbv
    repeat' first | exact trivial | rfl | refine Both.mk ?_ ?_ | refine Imp.mk fun _ => ?_ | refine Ob.mk ?_ ?_ | refine Eq'.mk ?_
    all_goals simp_all [mayV]
    all_goals try omega
  · cases h

def det3 : FuncId → Option Det := fun f => match f with
  | 28 => some mayD
  | _ => none
def con3 : FuncId → Con := fun f => match f with
  | 28 => pureCon (detPC mayD)
  | _ => fun _ _ _ => Bad 1001
theorem con3_ok : ConOk Try.prog con3 := fun f A H K h => by
  unfold con3 at h
  split at h
  · exact ⟨⟨Try.f28, Try.func28, by kernel_rfl, by kernel_rfl⟩, pureCon_ok may_ok h⟩
  · cases h
def noDet : FuncId → Option Det := fun _ => none
theorem noDet_ok : DetOk Try.prog noDet := fun f d h => by cases h

theorem cl_ok : PcOk Try.prog 14 (detPC clD) := det_ok fun A p r h _ => by
  unfold clD at h
  split at h
  · cases h
    refine fn_ok envOk zl con3_ok (draws_ok envOk noDet_ok mixed) (keep := [0,1,2,3,6,7,8,9,10,16,25]) Try.func14 rfl ?_
    cbv
    repeat' first | exact trivial | rfl | refine Both.mk ?_ ?_ | refine Imp.mk fun _ => ?_ | refine Ob.mk ?_ ?_ | refine Eq'.mk ?_
    all_goals simp_all [clE, clO, clB]
    all_goals try omega
  · cases h
theorem pa_ok : PcOk Try.prog 15 (detPC paD) := det_ok fun A p r h _ => by
  unfold paD at h
  split at h
  · cases h
    refine fn_ok envOk zl con3_ok (draws_ok envOk noDet_ok mixed) (keep := [0,1,2,3,6,7,8,14]) Try.func15 rfl ?_
    cbv
    repeat' first | exact trivial | rfl | refine Both.mk ?_ ?_ | refine Imp.mk fun _ => ?_ | refine Ob.mk ?_ ?_ | refine Eq'.mk ?_
    all_goals simp_all [paB]
    all_goals try omega
  · cases h

end Go.Proofs.Ytpooooomhnehfaa
