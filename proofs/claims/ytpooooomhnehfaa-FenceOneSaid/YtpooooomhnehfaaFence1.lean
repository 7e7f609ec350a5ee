import Derived.Test.YtpooooomhnehfaaAbsUse
import Derived.Test.YtpooooomhnehfaaRows
import Derived.KernelRfl
set_option linter.all false
namespace Go.Proofs.Ytpooooomhnehfaa
open Go Go.Abs

noncomputable abbrev zi : AV := .i .i64 fun _ => 0
noncomputable def tys : TypeId → Ty := fun t => match t with
  | 3 => .int .i64
  | 25 => .int .i64
  | 4 => .bool
  | 9 => .str
  | 33 => .struct (some [.i, .i]) [(0, 3, 1), (1, 3, 1)] 2 [.i .i64 fun _ => 0, .i .i64 fun _ => 0]
  | 30 => .struct (some [.i, .i, .i, .i]) [(0, 3, 1), (1, 3, 1), (2, 3, 1), (3, 3, 1)] 4 [.i .i64 fun _ => 0, .i .i64 fun _ => 0, .i .i64 fun _ => 0, .i .i64 fun _ => 0]
  | 22 => .slice 30 4 32 [.i .i64 fun _ => 0, .i .i64 fun _ => 0, .i .i64 fun _ => 0, .i .i64 fun _ => 0]
  | 23 => .slice 33 2 16 [.i .i64 fun _ => 0, .i .i64 fun _ => 0]
  | 24 => .slice 4 1 1 [.bc false]
  | _ => .other
noncomputable def E : Env := { ty := tys }

theorem infoInt : InfoOk Try.prog 3 1 [.i .i64 fun _ => 0] := ⟨_, rfl, rfl, _, rfl, rfl, rfl⟩
theorem infoErr : InfoOk Try.prog 25 1 [.i .i64 fun _ => 0] := ⟨_, rfl, rfl, _, rfl, rfl, rfl⟩
theorem infoBool : InfoOk Try.prog 4 1 [.bc false] := ⟨_, rfl, rfl, _, rfl, rfl, rfl⟩
theorem infoStr : InfoOk Try.prog 9 1 [.s fun _ => .empty] := ⟨_, rfl, rfl, _, rfl, rfl, rfl⟩
theorem info33 : InfoOk Try.prog 33 2 [.i .i64 fun _ => 0, .i .i64 fun _ => 0] := ⟨_, rfl, rfl, _, rfl, rfl, rfl⟩
theorem info30 : InfoOk Try.prog 30 4 [.i .i64 fun _ => 0, .i .i64 fun _ => 0, .i .i64 fun _ => 0, .i .i64 fun _ => 0] := ⟨_, rfl, rfl, _, rfl, rfl, rfl⟩
theorem info22 : InfoOk Try.prog 22 1 [.nil] := ⟨_, rfl, rfl, _, rfl, rfl, rfl⟩
theorem info23 : InfoOk Try.prog 23 1 [.nil] := ⟨_, rfl, rfl, _, rfl, rfl, rfl⟩
theorem info24 : InfoOk Try.prog 24 1 [.nil] := ⟨_, rfl, rfl, _, rfl, rfl, rfl⟩

theorem envOk : EnvOk Try.prog E := ⟨fun t => by
  show TyOk Try.prog t (tys t)
  unfold tys
  split
  · exact ⟨rfl, infoInt⟩
  · exact ⟨rfl, infoErr⟩
  · exact ⟨rfl, infoBool⟩
  · exact ⟨rfl, infoStr⟩
  · exact ⟨⟨_, rfl, by kernel_rfl, fun ks h => by cases h; exact ⟨by kernel_rfl, by kernel_rfl, by kernel_rfl⟩⟩, info33⟩
  · exact ⟨⟨_, rfl, by kernel_rfl, fun ks h => by cases h; exact ⟨by kernel_rfl, by kernel_rfl, by kernel_rfl⟩⟩, info30⟩
  · exact ⟨rfl, by omega, by omega, info30, rfl, info22⟩
  · exact ⟨rfl, by omega, by omega, info33, rfl, info23⟩
  · exact ⟨rfl, by omega, by omega, infoBool, rfl, info24⟩
  · trivial⟩
theorem zl : Zl E := ⟨fun t e sz b z h => by
  have h : tys t = .slice e sz b z := h
  unfold tys at h
  split at h <;> cases h <;> rfl⟩

theorem mixed : Try.prog.follows .mixedOrders = true := by kernel_rfl

end Go.Proofs.Ytpooooomhnehfaa
