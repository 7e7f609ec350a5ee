/- The program's functions, walked: Ty. -/
import Derived.Test.YtbnpacdkllmblaaAbsG4
import Derived.Test.YtbnpacdkllmblaaAbsG5
import Derived.Test.YtbnpacdkllmblaaRows
import Derived.KernelRfl
import Derived.JoinedCond
import Derived.WalkKit
import Derived.ProofKit
import Derived.OpenShut
import Derived.ShutString
import Derived.ChangeOld
set_option linter.all false
namespace Go.Proofs.Ytbnpacdkllmblaa
open Go Go.Abs
def frs : TypeId → Bool := fun t => false
def bds : FuncId → Bool := fun f => false
noncomputable instance kdI : Kd := ⟨fun e => match Try.prog.info? e with | some i => (match i.zero with | some zv => zv.cells.toList | none => []) | none => [], fun e => !(frs e), bds, [], fun _ => True, fun _ _ _ h => h⟩
structure Window where
  frm : Int
  long : Int
  owner : Int
  deriving DecidableEq
instance datWindow : Dat Window where
  d0 := ⟨0, 0, 0⟩
  sz := 3
  enc x := [Leaf.av fun _ => (x ()).frm, Leaf.av fun _ => (x ()).long, Leaf.av fun _ => (x ()).owner]
  dec l := match l with | [a0, a1, a2] => ⟨Leaf.val a0, Leaf.val a1, Leaf.val a2⟩ | _ => ⟨0, 0, 0⟩
  ok l := match l with | [a0, a1, a2] => Leaf.ok Int a0 ∧ Leaf.ok Int a1 ∧ Leaf.ok Int a2 | _ => False
  hlen _ := rfl
  hclosed x := by simp only [closedL, Leaf.hclosed]
  hdec x := by simp only [Leaf.hval]
  hok x := ⟨Leaf.hok _, Leaf.hok _, Leaf.hok _⟩
  hle l h := by
    split at h
    · obtain ⟨k0, k1, k2⟩ := h
      exact .mk (Leaf.hle _ k0) (.mk (Leaf.hle _ k1) (.mk (Leaf.hle _ k2) (trivial)))
    · cases h
  hpick c l m h1 h2 := by
    split at h1
    · split at h2
      · obtain ⟨k0, k1, k2⟩ := h1
        obtain ⟨j0, j1, j2⟩ := h2
        refine ⟨⟨(Leaf.hpick c _ _ k0 j0).1, (Leaf.hpick c _ _ k1 j1).1, (Leaf.hpick c _ _ k2 j2).1⟩, ?_⟩
        have e := (fun (u : Bool) => rfl : ∀ u : Bool, u = u)
        simp only [rowL, nth, dropN, (Leaf.hpick c _ _ k0 j0).2, (Leaf.hpick c _ _ k1 j1).2, (Leaf.hpick c _ _ k2 j2).2]
        cases c () <;> rfl
      · cases h2
    · cases h1
instance sizWindow : Siz Window := ⟨fun x => Siz.fit x.frm ∧ Siz.fit x.long ∧ Siz.fit x.owner, fun x => Siz.bulk x.frm + Siz.bulk x.long + Siz.bulk x.owner + 1⟩
theorem Window.eta (x : Window) : (⟨x.frm, x.long, x.owner⟩ : Window) = x := rfl
theorem Z0 (x : Window) : (⟨x.frm, x.long, x.owner⟩ : Window) = x := rfl
theorem Window.one_le (x : Window) : 1 ≤ Siz.bulk x := Nat.le_add_left _ _
structure Table where
  frame : Int
  windows : (List Window)
  deriving DecidableEq
instance datTable : Dat Table where
  d0 := ⟨0, []⟩
  sz := 2
  enc x := [Leaf.av fun _ => (x ()).frame, Leaf.av fun _ => (x ()).windows]
  dec l := match l with | [a0, a1] => ⟨Leaf.val a0, Leaf.val a1⟩ | _ => ⟨0, []⟩
  ok l := match l with | [a0, a1] => Leaf.ok Int a0 ∧ Leaf.ok (List Window) a1 | _ => False
  hlen _ := rfl
  hclosed x := by simp only [closedL, Leaf.hclosed]
  hdec x := by simp only [Leaf.hval]
  hok x := ⟨Leaf.hok _, Leaf.hok _⟩
  hle l h := by
    split at h
    · obtain ⟨k0, k1⟩ := h
      exact .mk (Leaf.hle _ k0) (.mk (Leaf.hle _ k1) (trivial))
    · cases h
  hpick c l m h1 h2 := by
    split at h1
    · split at h2
      · obtain ⟨k0, k1⟩ := h1
        obtain ⟨j0, j1⟩ := h2
        refine ⟨⟨(Leaf.hpick c _ _ k0 j0).1, (Leaf.hpick c _ _ k1 j1).1⟩, ?_⟩
        have e := (fun (u : Bool) => rfl : ∀ u : Bool, u = u)
        simp only [rowL, nth, dropN, (Leaf.hpick c _ _ k0 j0).2, (Leaf.hpick c _ _ k1 j1).2]
        cases c () <;> rfl
      · cases h2
    · cases h1
instance sizTable : Siz Table := ⟨fun x => Siz.fit x.frame ∧ Siz.fit x.windows, fun x => Siz.bulk x.frame + Siz.bulk x.windows + 1⟩
theorem Table.eta (x : Table) : (⟨x.frame, x.windows⟩ : Table) = x := rfl
theorem Z1 (x : Table) : (⟨x.frame, x.windows⟩ : Table) = x := rfl
theorem Table.one_le (x : Table) : 1 ≤ Siz.bulk x := Nat.le_add_left _ _
structure Ins where
  code : Int
  a : Int
  b : Int
  deriving DecidableEq
instance datIns : Dat Ins where
  d0 := ⟨0, 0, 0⟩
  sz := 3
  enc x := [Leaf.av fun _ => (x ()).code, Leaf.av fun _ => (x ()).a, Leaf.av fun _ => (x ()).b]
  dec l := match l with | [a0, a1, a2] => ⟨Leaf.val a0, Leaf.val a1, Leaf.val a2⟩ | _ => ⟨0, 0, 0⟩
  ok l := match l with | [a0, a1, a2] => Leaf.ok Int a0 ∧ Leaf.ok Int a1 ∧ Leaf.ok Int a2 | _ => False
  hlen _ := rfl
  hclosed x := by simp only [closedL, Leaf.hclosed]
  hdec x := by simp only [Leaf.hval]
  hok x := ⟨Leaf.hok _, Leaf.hok _, Leaf.hok _⟩
  hle l h := by
    split at h
    · obtain ⟨k0, k1, k2⟩ := h
      exact .mk (Leaf.hle _ k0) (.mk (Leaf.hle _ k1) (.mk (Leaf.hle _ k2) (trivial)))
    · cases h
  hpick c l m h1 h2 := by
    split at h1
    · split at h2
      · obtain ⟨k0, k1, k2⟩ := h1
        obtain ⟨j0, j1, j2⟩ := h2
        refine ⟨⟨(Leaf.hpick c _ _ k0 j0).1, (Leaf.hpick c _ _ k1 j1).1, (Leaf.hpick c _ _ k2 j2).1⟩, ?_⟩
        have e := (fun (u : Bool) => rfl : ∀ u : Bool, u = u)
        simp only [rowL, nth, dropN, (Leaf.hpick c _ _ k0 j0).2, (Leaf.hpick c _ _ k1 j1).2, (Leaf.hpick c _ _ k2 j2).2]
        cases c () <;> rfl
      · cases h2
    · cases h1
instance sizIns : Siz Ins := ⟨fun x => Siz.fit x.code ∧ Siz.fit x.a ∧ Siz.fit x.b, fun x => Siz.bulk x.code + Siz.bulk x.a + Siz.bulk x.b + 1⟩
theorem Ins.eta (x : Ins) : (⟨x.code, x.a, x.b⟩ : Ins) = x := rfl
theorem Z2 (x : Ins) : (⟨x.code, x.a, x.b⟩ : Ins) = x := rfl
theorem Ins.one_le (x : Ins) : 1 ≤ Siz.bulk x := Nat.le_add_left _ _
structure Vm where
  at_ : Int
  regs : (List Int)
  halts : Bool
  fault : Bool
  deriving DecidableEq
instance datVm : Dat Vm where
  d0 := ⟨0, [], false, false⟩
  sz := 4
  enc x := [Leaf.av fun _ => (x ()).at_, Leaf.av fun _ => (x ()).regs, Leaf.av fun _ => (x ()).halts, Leaf.av fun _ => (x ()).fault]
  dec l := match l with | [a0, a1, a2, a3] => ⟨Leaf.val a0, Leaf.val a1, Leaf.val a2, Leaf.val a3⟩ | _ => ⟨0, [], false, false⟩
  ok l := match l with | [a0, a1, a2, a3] => Leaf.ok Int a0 ∧ Leaf.ok (List Int) a1 ∧ Leaf.ok Bool a2 ∧ Leaf.ok Bool a3 | _ => False
  hlen _ := rfl
  hclosed x := by simp only [closedL, Leaf.hclosed]
  hdec x := by simp only [Leaf.hval]
  hok x := ⟨Leaf.hok _, Leaf.hok _, Leaf.hok _, Leaf.hok _⟩
  hle l h := by
    split at h
    · obtain ⟨k0, k1, k2, k3⟩ := h
      exact .mk (Leaf.hle _ k0) (.mk (Leaf.hle _ k1) (.mk (Leaf.hle _ k2) (.mk (Leaf.hle _ k3) (trivial))))
    · cases h
  hpick c l m h1 h2 := by
    split at h1
    · split at h2
      · obtain ⟨k0, k1, k2, k3⟩ := h1
        obtain ⟨j0, j1, j2, j3⟩ := h2
        refine ⟨⟨(Leaf.hpick c _ _ k0 j0).1, (Leaf.hpick c _ _ k1 j1).1, (Leaf.hpick c _ _ k2 j2).1, (Leaf.hpick c _ _ k3 j3).1⟩, ?_⟩
        have e := (fun (u : Bool) => rfl : ∀ u : Bool, u = u)
        simp only [rowL, nth, dropN, (Leaf.hpick c _ _ k0 j0).2, (Leaf.hpick c _ _ k1 j1).2, (Leaf.hpick c _ _ k2 j2).2, (Leaf.hpick c _ _ k3 j3).2]
        cases c () <;> rfl
      · cases h2
    · cases h1
instance sizVm : Siz Vm := ⟨fun x => Siz.fit x.at_ ∧ Siz.fit x.regs ∧ Siz.fit x.halts ∧ Siz.fit x.fault, fun x => Siz.bulk x.at_ + Siz.bulk x.regs + Siz.bulk x.halts + Siz.bulk x.fault + 1⟩
theorem Vm.eta (x : Vm) : (⟨x.at_, x.regs, x.halts, x.fault⟩ : Vm) = x := rfl
theorem Z3 (x : Vm) : (⟨x.at_, x.regs, x.halts, x.fault⟩ : Vm) = x := rfl
theorem Vm.one_le (x : Vm) : 1 ≤ Siz.bulk x := Nat.le_add_left _ _
structure Emit where
  port : Int
  n : Int
  deriving DecidableEq
instance datEmit : Dat Emit where
  d0 := ⟨0, 0⟩
  sz := 2
  enc x := [Leaf.av fun _ => (x ()).port, Leaf.av fun _ => (x ()).n]
  dec l := match l with | [a0, a1] => ⟨Leaf.val a0, Leaf.val a1⟩ | _ => ⟨0, 0⟩
  ok l := match l with | [a0, a1] => Leaf.ok Int a0 ∧ Leaf.ok Int a1 | _ => False
  hlen _ := rfl
  hclosed x := by simp only [closedL, Leaf.hclosed]
  hdec x := by simp only [Leaf.hval]
  hok x := ⟨Leaf.hok _, Leaf.hok _⟩
  hle l h := by
    split at h
    · obtain ⟨k0, k1⟩ := h
      exact .mk (Leaf.hle _ k0) (.mk (Leaf.hle _ k1) (trivial))
    · cases h
  hpick c l m h1 h2 := by
    split at h1
    · split at h2
      · obtain ⟨k0, k1⟩ := h1
        obtain ⟨j0, j1⟩ := h2
        refine ⟨⟨(Leaf.hpick c _ _ k0 j0).1, (Leaf.hpick c _ _ k1 j1).1⟩, ?_⟩
        have e := (fun (u : Bool) => rfl : ∀ u : Bool, u = u)
        simp only [rowL, nth, dropN, (Leaf.hpick c _ _ k0 j0).2, (Leaf.hpick c _ _ k1 j1).2]
        cases c () <;> rfl
      · cases h2
    · cases h1
instance sizEmit : Siz Emit := ⟨fun x => Siz.fit x.port ∧ Siz.fit x.n, fun x => Siz.bulk x.port + Siz.bulk x.n + 1⟩
theorem Emit.eta (x : Emit) : (⟨x.port, x.n⟩ : Emit) = x := rfl
theorem Z4 (x : Emit) : (⟨x.port, x.n⟩ : Emit) = x := rfl
theorem Emit.one_le (x : Emit) : 1 ≤ Siz.bulk x := Nat.le_add_left _ _
structure Part where
  code : (List Ins)
  vm : Vm
  box : (List Int)
  deriving DecidableEq
instance datPart : Dat Part where
  d0 := ⟨[], ⟨0, [], false, false⟩, []⟩
  sz := 6
  enc x := [Leaf.av fun _ => (x ()).code, Leaf.av fun _ => (x ()).vm.at_, Leaf.av fun _ => (x ()).vm.regs, Leaf.av fun _ => (x ()).vm.halts, Leaf.av fun _ => (x ()).vm.fault, Leaf.av fun _ => (x ()).box]
  dec l := match l with | [a0, a1, a2, a3, a4, a5] => ⟨Leaf.val a0, ⟨Leaf.val a1, Leaf.val a2, Leaf.val a3, Leaf.val a4⟩, Leaf.val a5⟩ | _ => ⟨[], ⟨0, [], false, false⟩, []⟩
  ok l := match l with | [a0, a1, a2, a3, a4, a5] => Leaf.ok (List Ins) a0 ∧ Leaf.ok Int a1 ∧ Leaf.ok (List Int) a2 ∧ Leaf.ok Bool a3 ∧ Leaf.ok Bool a4 ∧ Leaf.ok (List Int) a5 | _ => False
  hlen _ := rfl
  hclosed x := by simp only [closedL, Leaf.hclosed]
  hdec x := by simp only [Leaf.hval]
  hok x := ⟨Leaf.hok _, Leaf.hok _, Leaf.hok _, Leaf.hok _, Leaf.hok _, Leaf.hok _⟩
  hle l h := by
    split at h
    · obtain ⟨k0, k1, k2, k3, k4, k5⟩ := h
      exact .mk (Leaf.hle _ k0) (.mk (Leaf.hle _ k1) (.mk (Leaf.hle _ k2) (.mk (Leaf.hle _ k3) (.mk (Leaf.hle _ k4) (.mk (Leaf.hle _ k5) (trivial))))))
    · cases h
  hpick c l m h1 h2 := by
    split at h1
    · split at h2
      · obtain ⟨k0, k1, k2, k3, k4, k5⟩ := h1
        obtain ⟨j0, j1, j2, j3, j4, j5⟩ := h2
        refine ⟨⟨(Leaf.hpick c _ _ k0 j0).1, (Leaf.hpick c _ _ k1 j1).1, (Leaf.hpick c _ _ k2 j2).1, (Leaf.hpick c _ _ k3 j3).1, (Leaf.hpick c _ _ k4 j4).1, (Leaf.hpick c _ _ k5 j5).1⟩, ?_⟩
        have e := (fun (u : Bool) => rfl : ∀ u : Bool, u = u)
        simp only [rowL, nth, dropN, (Leaf.hpick c _ _ k0 j0).2, (Leaf.hpick c _ _ k1 j1).2, (Leaf.hpick c _ _ k2 j2).2, (Leaf.hpick c _ _ k3 j3).2, (Leaf.hpick c _ _ k4 j4).2, (Leaf.hpick c _ _ k5 j5).2]
        cases c () <;> rfl
      · cases h2
    · cases h1
instance sizPart : Siz Part := ⟨fun x => Siz.fit x.code ∧ Siz.fit x.vm ∧ Siz.fit x.box, fun x => Siz.bulk x.code + Siz.bulk x.vm + Siz.bulk x.box + 1⟩
theorem Part.eta (x : Part) : (⟨x.code, x.vm, x.box⟩ : Part) = x := rfl
theorem Z5 (x : Part) : (⟨x.code, x.vm, x.box⟩ : Part) = x := rfl
theorem Part.one_le (x : Part) : 1 ≤ Siz.bulk x := Nat.le_add_left _ _
structure Wire where
  frm : Int
  port : Int
  to : Int
  deriving DecidableEq
instance datWire : Dat Wire where
  d0 := ⟨0, 0, 0⟩
  sz := 3
  enc x := [Leaf.av fun _ => (x ()).frm, Leaf.av fun _ => (x ()).port, Leaf.av fun _ => (x ()).to]
  dec l := match l with | [a0, a1, a2] => ⟨Leaf.val a0, Leaf.val a1, Leaf.val a2⟩ | _ => ⟨0, 0, 0⟩
  ok l := match l with | [a0, a1, a2] => Leaf.ok Int a0 ∧ Leaf.ok Int a1 ∧ Leaf.ok Int a2 | _ => False
  hlen _ := rfl
  hclosed x := by simp only [closedL, Leaf.hclosed]
  hdec x := by simp only [Leaf.hval]
  hok x := ⟨Leaf.hok _, Leaf.hok _, Leaf.hok _⟩
  hle l h := by
    split at h
    · obtain ⟨k0, k1, k2⟩ := h
      exact .mk (Leaf.hle _ k0) (.mk (Leaf.hle _ k1) (.mk (Leaf.hle _ k2) (trivial)))
    · cases h
  hpick c l m h1 h2 := by
    split at h1
    · split at h2
      · obtain ⟨k0, k1, k2⟩ := h1
        obtain ⟨j0, j1, j2⟩ := h2
        refine ⟨⟨(Leaf.hpick c _ _ k0 j0).1, (Leaf.hpick c _ _ k1 j1).1, (Leaf.hpick c _ _ k2 j2).1⟩, ?_⟩
        have e := (fun (u : Bool) => rfl : ∀ u : Bool, u = u)
        simp only [rowL, nth, dropN, (Leaf.hpick c _ _ k0 j0).2, (Leaf.hpick c _ _ k1 j1).2, (Leaf.hpick c _ _ k2 j2).2]
        cases c () <;> rfl
      · cases h2
    · cases h1
instance sizWire : Siz Wire := ⟨fun x => Siz.fit x.frm ∧ Siz.fit x.port ∧ Siz.fit x.to, fun x => Siz.bulk x.frm + Siz.bulk x.port + Siz.bulk x.to + 1⟩
theorem Wire.eta (x : Wire) : (⟨x.frm, x.port, x.to⟩ : Wire) = x := rfl
theorem Z6 (x : Wire) : (⟨x.frm, x.port, x.to⟩ : Wire) = x := rfl
theorem Wire.one_le (x : Wire) : 1 ≤ Siz.bulk x := Nat.le_add_left _ _
structure Module where
  table : Table
  parts : (List Part)
  wires : (List Wire)
  now : Int
  lost : Int
  deriving DecidableEq
instance datModule : Dat Module where
  d0 := ⟨⟨0, []⟩, [], [], 0, 0⟩
  sz := 6
  enc x := [Leaf.av fun _ => (x ()).table.frame, Leaf.av fun _ => (x ()).table.windows, Leaf.av fun _ => (x ()).parts, Leaf.av fun _ => (x ()).wires, Leaf.av fun _ => (x ()).now, Leaf.av fun _ => (x ()).lost]
  dec l := match l with | [a0, a1, a2, a3, a4, a5] => ⟨⟨Leaf.val a0, Leaf.val a1⟩, Leaf.val a2, Leaf.val a3, Leaf.val a4, Leaf.val a5⟩ | _ => ⟨⟨0, []⟩, [], [], 0, 0⟩
  ok l := match l with | [a0, a1, a2, a3, a4, a5] => Leaf.ok Int a0 ∧ Leaf.ok (List Window) a1 ∧ Leaf.ok (List Part) a2 ∧ Leaf.ok (List Wire) a3 ∧ Leaf.ok Int a4 ∧ Leaf.ok Int a5 | _ => False
  hlen _ := rfl
  hclosed x := by simp only [closedL, Leaf.hclosed]
  hdec x := by simp only [Leaf.hval]
  hok x := ⟨Leaf.hok _, Leaf.hok _, Leaf.hok _, Leaf.hok _, Leaf.hok _, Leaf.hok _⟩
  hle l h := by
    split at h
    · obtain ⟨k0, k1, k2, k3, k4, k5⟩ := h
      exact .mk (Leaf.hle _ k0) (.mk (Leaf.hle _ k1) (.mk (Leaf.hle _ k2) (.mk (Leaf.hle _ k3) (.mk (Leaf.hle _ k4) (.mk (Leaf.hle _ k5) (trivial))))))
    · cases h
  hpick c l m h1 h2 := by
    split at h1
    · split at h2
      · obtain ⟨k0, k1, k2, k3, k4, k5⟩ := h1
        obtain ⟨j0, j1, j2, j3, j4, j5⟩ := h2
        refine ⟨⟨(Leaf.hpick c _ _ k0 j0).1, (Leaf.hpick c _ _ k1 j1).1, (Leaf.hpick c _ _ k2 j2).1, (Leaf.hpick c _ _ k3 j3).1, (Leaf.hpick c _ _ k4 j4).1, (Leaf.hpick c _ _ k5 j5).1⟩, ?_⟩
        have e := (fun (u : Bool) => rfl : ∀ u : Bool, u = u)
        simp only [rowL, nth, dropN, (Leaf.hpick c _ _ k0 j0).2, (Leaf.hpick c _ _ k1 j1).2, (Leaf.hpick c _ _ k2 j2).2, (Leaf.hpick c _ _ k3 j3).2, (Leaf.hpick c _ _ k4 j4).2, (Leaf.hpick c _ _ k5 j5).2]
        cases c () <;> rfl
      · cases h2
    · cases h1
instance sizModule : Siz Module := ⟨fun x => Siz.fit x.table ∧ Siz.fit x.parts ∧ Siz.fit x.wires ∧ Siz.fit x.now ∧ Siz.fit x.lost, fun x => Siz.bulk x.table + Siz.bulk x.parts + Siz.bulk x.wires + Siz.bulk x.now + Siz.bulk x.lost + 1⟩
theorem Module.eta (x : Module) : (⟨x.table, x.parts, x.wires, x.now, x.lost⟩ : Module) = x := rfl
theorem Z7 (x : Module) : (⟨x.table, x.parts, x.wires, x.now, x.lost⟩ : Module) = x := rfl
theorem Module.one_le (x : Module) : 1 ≤ Siz.bulk x := Nat.le_add_left _ _
noncomputable def tys : TypeId → Ty := fun t => match t with
  | 1 => .one
  | 2 => .int .i64
  | 3 => .int .i64
  | 4 => .bool
  | 5 => .int .u8
  | 9 => .str
  | 12 => .int .u64
  | 13 => .struct none [(0, 9, 1), (1, 12, 1)] 2 [.s fun _ => .empty, .i .u64 fun _ => 0]
  | 21 => .int .i32
  | 22 => .slice 63 3 24 [.i .i64 fun _ => 0, .i .i64 fun _ => 0, .i .i64 fun _ => 0]
  | 23 => .struct none [(0, 3, 1), (1, 22, 1)] 2 [.i .i64 fun _ => 0, .nil]
  | 24 => .struct none [(0, 3, 1), (1, 22, 1)] 2 [.i .i64 fun _ => 0, .nil]
  | 25 => .slice 45 6 88 [.nil, .i .i64 fun _ => 0, .nil, .bc false, .bc false, .nil]
  | 26 => .slice 39 3 24 [.i .i64 fun _ => 0, .i .i64 fun _ => 0, .i .i64 fun _ => 0]
  | 27 => .struct none [(0, 24, 2), (2, 25, 1), (3, 26, 1), (4, 3, 1), (5, 3, 1)] 6 [.i .i64 fun _ => 0, .nil, .nil, .nil, .i .i64 fun _ => 0, .i .i64 fun _ => 0]
  | 28 => .struct none [(0, 24, 2), (2, 25, 1), (3, 26, 1), (4, 3, 1), (5, 3, 1)] 6 [.i .i64 fun _ => 0, .nil, .nil, .nil, .i .i64 fun _ => 0, .i .i64 fun _ => 0]
  | 29 => .int .i64
  | 31 => .one
  | 32 => .one
  | 34 => .one
  | 35 => .one
  | 36 => .one
  | 37 => .one
  | 38 => .struct (some [.i, .i, .i]) [(0, 3, 1), (1, 3, 1), (2, 3, 1)] 3 [.i .i64 fun _ => 0, .i .i64 fun _ => 0, .i .i64 fun _ => 0]
  | 39 => .struct (some [.i, .i, .i]) [(0, 3, 1), (1, 3, 1), (2, 3, 1)] 3 [.i .i64 fun _ => 0, .i .i64 fun _ => 0, .i .i64 fun _ => 0]
  | 40 => .slice 48 3 24 [.i .i64 fun _ => 0, .i .i64 fun _ => 0, .i .i64 fun _ => 0]
  | 41 => .slice 3 1 8 [.i .i64 fun _ => 0]
  | 42 => .struct none [(0, 3, 1), (1, 41, 1), (2, 4, 1), (3, 4, 1)] 4 [.i .i64 fun _ => 0, .nil, .bc false, .bc false]
  | 43 => .struct none [(0, 3, 1), (1, 41, 1), (2, 4, 1), (3, 4, 1)] 4 [.i .i64 fun _ => 0, .nil, .bc false, .bc false]
  | 44 => .struct none [(0, 40, 1), (1, 43, 4), (5, 41, 1)] 6 [.nil, .i .i64 fun _ => 0, .nil, .bc false, .bc false, .nil]
  | 45 => .struct none [(0, 40, 1), (1, 43, 4), (5, 41, 1)] 6 [.nil, .i .i64 fun _ => 0, .nil, .bc false, .bc false, .nil]
  | 46 => .one
  | 47 => .struct (some [.i, .i, .i]) [(0, 3, 1), (1, 3, 1), (2, 3, 1)] 3 [.i .i64 fun _ => 0, .i .i64 fun _ => 0, .i .i64 fun _ => 0]
  | 48 => .struct (some [.i, .i, .i]) [(0, 3, 1), (1, 3, 1), (2, 3, 1)] 3 [.i .i64 fun _ => 0, .i .i64 fun _ => 0, .i .i64 fun _ => 0]
  | 49 => .one
  | 50 => .one
  | 51 => .one
  | 52 => .one
  | 53 => .one
  | 54 => .one
  | 55 => .slice 4 1 1 [.bc false]
  | 57 => .one
  | 58 => .one
  | 59 => .one
  | 60 => .one
  | 61 => .one
  | 62 => .struct (some [.i, .i, .i]) [(0, 3, 1), (1, 3, 1), (2, 3, 1)] 3 [.i .i64 fun _ => 0, .i .i64 fun _ => 0, .i .i64 fun _ => 0]
  | 63 => .struct (some [.i, .i, .i]) [(0, 3, 1), (1, 3, 1), (2, 3, 1)] 3 [.i .i64 fun _ => 0, .i .i64 fun _ => 0, .i .i64 fun _ => 0]
  | 64 => .one
  | 65 => .one
  | 66 => .one
  | 67 => .one
  | 68 => .one
  | 69 => .one
  | 71 => .one
  | 73 => .one
  | 74 => .one
  | 75 => .one
  | 76 => .one
  | 77 => .one
  | 78 => .one
  | 80 => .one
  | 81 => .one
  | 82 => .one
  | 83 => .one
  | 84 => .one
  | 85 => .one
  | 86 => .one
  | 87 => .one
  | 88 => .one
  | 89 => .one
  | 90 => .one
  | 91 => .slice 96 2 16 [.i .i64 fun _ => 0, .i .i64 fun _ => 0]
  | 93 => .one
  | 94 => .one
  | 95 => .struct (some [.i, .i]) [(0, 3, 1), (1, 3, 1)] 2 [.i .i64 fun _ => 0, .i .i64 fun _ => 0]
  | 96 => .struct (some [.i, .i]) [(0, 3, 1), (1, 3, 1)] 2 [.i .i64 fun _ => 0, .i .i64 fun _ => 0]
  | 97 => .one
  | 98 => .one
  | 99 => .one
  | 100 => .one
  | 101 => .struct none [(0, 43, 4), (4, 40, 1), (5, 41, 1), (6, 91, 1)] 7 [.i .i64 fun _ => 0, .nil, .bc false, .bc false, .nil, .nil, .nil]
  | 102 => .struct none [(0, 43, 4), (4, 40, 1), (5, 41, 1), (6, 91, 1)] 7 [.i .i64 fun _ => 0, .nil, .bc false, .bc false, .nil, .nil, .nil]
  | 103 => .one
  | 104 => .one
  | 105 => .one
  | 106 => .one
  | 112 => .one
  | 113 => .int .u32
  | 116 => .one
  | _ => .other
noncomputable def ars : TypeId → Option Arr := fun t => match t with
  | 70 => some ⟨2, 6, [.i .i64 fun _ => 0, .nil, .nil, .nil, .i .i64 fun _ => 0, .i .i64 fun _ => 0], true⟩
  | 72 => some ⟨2, 1, [.nil], false⟩
  | _ => none
noncomputable def E : Env := { ty := tys, ar := ars, fr := frs, bd := bds }
noncomputable def Ew (w : List Nat) : Env := { ty := tys, wr := w, ar := ars, fr := frs, bd := bds }
set_option maxRecDepth 100000
theorem envOkW (w : List Nat) : EnvOk Try.prog (Ew w) := ⟨fun t => by
  show TyOk Try.prog t (tys t)
  unfold tys
  split
  · exact ⟨⟨_, rfl, rfl⟩, ⟨_, rfl, rfl, _, rfl, rfl, rfl⟩⟩
  · exact ⟨rfl, _, rfl, rfl, _, rfl, rfl, rfl⟩
  · exact ⟨rfl, _, rfl, rfl, _, rfl, rfl, rfl⟩
  · exact ⟨rfl, _, rfl, rfl, _, rfl, rfl, rfl⟩
  · exact ⟨rfl, _, rfl, rfl, _, rfl, rfl, rfl⟩
  · exact ⟨rfl, _, rfl, rfl, _, rfl, rfl, rfl⟩
  · exact ⟨rfl, _, rfl, rfl, _, rfl, rfl, rfl⟩
  · exact ⟨⟨_, rfl, by kernel_rfl, fun ks h => by cases h⟩, ⟨_, rfl, rfl, _, rfl, rfl, rfl⟩⟩
  · exact ⟨rfl, _, rfl, rfl, _, rfl, rfl, rfl⟩
  · exact ⟨rfl, by omega, by omega, ⟨_, rfl, rfl, _, rfl, rfl, rfl⟩, rfl, ⟨_, rfl, rfl, _, rfl, rfl, rfl⟩, kdOf_at _ _ _ _ _ _ _⟩
  · exact ⟨⟨_, rfl, by kernel_rfl, fun ks h => by cases h⟩, ⟨_, rfl, rfl, _, rfl, rfl, rfl⟩⟩
  · exact ⟨⟨_, rfl, by kernel_rfl, fun ks h => by cases h⟩, ⟨_, rfl, rfl, _, rfl, rfl, rfl⟩⟩
  · exact ⟨rfl, by omega, by omega, ⟨_, rfl, rfl, _, rfl, rfl, rfl⟩, rfl, ⟨_, rfl, rfl, _, rfl, rfl, rfl⟩, kdOf_at _ _ _ _ _ _ _⟩
  · exact ⟨rfl, by omega, by omega, ⟨_, rfl, rfl, _, rfl, rfl, rfl⟩, rfl, ⟨_, rfl, rfl, _, rfl, rfl, rfl⟩, kdOf_at _ _ _ _ _ _ _⟩
  · exact ⟨⟨_, rfl, by kernel_rfl, fun ks h => by cases h⟩, ⟨_, rfl, rfl, _, rfl, rfl, rfl⟩⟩
  · exact ⟨⟨_, rfl, by kernel_rfl, fun ks h => by cases h⟩, ⟨_, rfl, rfl, _, rfl, rfl, rfl⟩⟩
  · exact ⟨rfl, _, rfl, rfl, _, rfl, rfl, rfl⟩
  · exact ⟨⟨_, rfl, rfl⟩, ⟨_, rfl, rfl, _, rfl, rfl, rfl⟩⟩
  · exact ⟨⟨_, rfl, rfl⟩, ⟨_, rfl, rfl, _, rfl, rfl, rfl⟩⟩
  · exact ⟨⟨_, rfl, rfl⟩, ⟨_, rfl, rfl, _, rfl, rfl, rfl⟩⟩
  · exact ⟨⟨_, rfl, rfl⟩, ⟨_, rfl, rfl, _, rfl, rfl, rfl⟩⟩
  · exact ⟨⟨_, rfl, rfl⟩, ⟨_, rfl, rfl, _, rfl, rfl, rfl⟩⟩
  · exact ⟨⟨_, rfl, rfl⟩, ⟨_, rfl, rfl, _, rfl, rfl, rfl⟩⟩
  · exact ⟨⟨_, rfl, by kernel_rfl, fun ks h => by cases h; exact ⟨by kernel_rfl, by kernel_rfl, by kernel_rfl⟩⟩, ⟨_, rfl, rfl, _, rfl, rfl, rfl⟩⟩
  · exact ⟨⟨_, rfl, by kernel_rfl, fun ks h => by cases h; exact ⟨by kernel_rfl, by kernel_rfl, by kernel_rfl⟩⟩, ⟨_, rfl, rfl, _, rfl, rfl, rfl⟩⟩
  · exact ⟨rfl, by omega, by omega, ⟨_, rfl, rfl, _, rfl, rfl, rfl⟩, rfl, ⟨_, rfl, rfl, _, rfl, rfl, rfl⟩, kdOf_at _ _ _ _ _ _ _⟩
  · exact ⟨rfl, by omega, by omega, ⟨_, rfl, rfl, _, rfl, rfl, rfl⟩, rfl, ⟨_, rfl, rfl, _, rfl, rfl, rfl⟩, kdOf_at _ _ _ _ _ _ _⟩
  · exact ⟨⟨_, rfl, by kernel_rfl, fun ks h => by cases h⟩, ⟨_, rfl, rfl, _, rfl, rfl, rfl⟩⟩
  · exact ⟨⟨_, rfl, by kernel_rfl, fun ks h => by cases h⟩, ⟨_, rfl, rfl, _, rfl, rfl, rfl⟩⟩
  · exact ⟨⟨_, rfl, by kernel_rfl, fun ks h => by cases h⟩, ⟨_, rfl, rfl, _, rfl, rfl, rfl⟩⟩
  · exact ⟨⟨_, rfl, by kernel_rfl, fun ks h => by cases h⟩, ⟨_, rfl, rfl, _, rfl, rfl, rfl⟩⟩
  · exact ⟨⟨_, rfl, rfl⟩, ⟨_, rfl, rfl, _, rfl, rfl, rfl⟩⟩
  · exact ⟨⟨_, rfl, by kernel_rfl, fun ks h => by cases h; exact ⟨by kernel_rfl, by kernel_rfl, by kernel_rfl⟩⟩, ⟨_, rfl, rfl, _, rfl, rfl, rfl⟩⟩
  · exact ⟨⟨_, rfl, by kernel_rfl, fun ks h => by cases h; exact ⟨by kernel_rfl, by kernel_rfl, by kernel_rfl⟩⟩, ⟨_, rfl, rfl, _, rfl, rfl, rfl⟩⟩
  · exact ⟨⟨_, rfl, rfl⟩, ⟨_, rfl, rfl, _, rfl, rfl, rfl⟩⟩
  · exact ⟨⟨_, rfl, rfl⟩, ⟨_, rfl, rfl, _, rfl, rfl, rfl⟩⟩
  · exact ⟨⟨_, rfl, rfl⟩, ⟨_, rfl, rfl, _, rfl, rfl, rfl⟩⟩
  · exact ⟨⟨_, rfl, rfl⟩, ⟨_, rfl, rfl, _, rfl, rfl, rfl⟩⟩
  · exact ⟨⟨_, rfl, rfl⟩, ⟨_, rfl, rfl, _, rfl, rfl, rfl⟩⟩
  · exact ⟨⟨_, rfl, rfl⟩, ⟨_, rfl, rfl, _, rfl, rfl, rfl⟩⟩
  · exact ⟨rfl, by omega, by omega, ⟨_, rfl, rfl, _, rfl, rfl, rfl⟩, rfl, ⟨_, rfl, rfl, _, rfl, rfl, rfl⟩, kdOf_at _ _ _ _ _ _ _⟩
  · exact ⟨⟨_, rfl, rfl⟩, ⟨_, rfl, rfl, _, rfl, rfl, rfl⟩⟩
  · exact ⟨⟨_, rfl, rfl⟩, ⟨_, rfl, rfl, _, rfl, rfl, rfl⟩⟩
  · exact ⟨⟨_, rfl, rfl⟩, ⟨_, rfl, rfl, _, rfl, rfl, rfl⟩⟩
  · exact ⟨⟨_, rfl, rfl⟩, ⟨_, rfl, rfl, _, rfl, rfl, rfl⟩⟩
  · exact ⟨⟨_, rfl, rfl⟩, ⟨_, rfl, rfl, _, rfl, rfl, rfl⟩⟩
  · exact ⟨⟨_, rfl, by kernel_rfl, fun ks h => by cases h; exact ⟨by kernel_rfl, by kernel_rfl, by kernel_rfl⟩⟩, ⟨_, rfl, rfl, _, rfl, rfl, rfl⟩⟩
  · exact ⟨⟨_, rfl, by kernel_rfl, fun ks h => by cases h; exact ⟨by kernel_rfl, by kernel_rfl, by kernel_rfl⟩⟩, ⟨_, rfl, rfl, _, rfl, rfl, rfl⟩⟩
  · exact ⟨⟨_, rfl, rfl⟩, ⟨_, rfl, rfl, _, rfl, rfl, rfl⟩⟩
  · exact ⟨⟨_, rfl, rfl⟩, ⟨_, rfl, rfl, _, rfl, rfl, rfl⟩⟩
  · exact ⟨⟨_, rfl, rfl⟩, ⟨_, rfl, rfl, _, rfl, rfl, rfl⟩⟩
  · exact ⟨⟨_, rfl, rfl⟩, ⟨_, rfl, rfl, _, rfl, rfl, rfl⟩⟩
  · exact ⟨⟨_, rfl, rfl⟩, ⟨_, rfl, rfl, _, rfl, rfl, rfl⟩⟩
  · exact ⟨⟨_, rfl, rfl⟩, ⟨_, rfl, rfl, _, rfl, rfl, rfl⟩⟩
  · exact ⟨⟨_, rfl, rfl⟩, ⟨_, rfl, rfl, _, rfl, rfl, rfl⟩⟩
  · exact ⟨⟨_, rfl, rfl⟩, ⟨_, rfl, rfl, _, rfl, rfl, rfl⟩⟩
  · exact ⟨⟨_, rfl, rfl⟩, ⟨_, rfl, rfl, _, rfl, rfl, rfl⟩⟩
  · exact ⟨⟨_, rfl, rfl⟩, ⟨_, rfl, rfl, _, rfl, rfl, rfl⟩⟩
  · exact ⟨⟨_, rfl, rfl⟩, ⟨_, rfl, rfl, _, rfl, rfl, rfl⟩⟩
  · exact ⟨⟨_, rfl, rfl⟩, ⟨_, rfl, rfl, _, rfl, rfl, rfl⟩⟩
  · exact ⟨⟨_, rfl, rfl⟩, ⟨_, rfl, rfl, _, rfl, rfl, rfl⟩⟩
  · exact ⟨⟨_, rfl, rfl⟩, ⟨_, rfl, rfl, _, rfl, rfl, rfl⟩⟩
  · exact ⟨⟨_, rfl, rfl⟩, ⟨_, rfl, rfl, _, rfl, rfl, rfl⟩⟩
  · exact ⟨⟨_, rfl, rfl⟩, ⟨_, rfl, rfl, _, rfl, rfl, rfl⟩⟩
  · exact ⟨⟨_, rfl, rfl⟩, ⟨_, rfl, rfl, _, rfl, rfl, rfl⟩⟩
  · exact ⟨⟨_, rfl, rfl⟩, ⟨_, rfl, rfl, _, rfl, rfl, rfl⟩⟩
  · exact ⟨⟨_, rfl, rfl⟩, ⟨_, rfl, rfl, _, rfl, rfl, rfl⟩⟩
  · exact ⟨⟨_, rfl, rfl⟩, ⟨_, rfl, rfl, _, rfl, rfl, rfl⟩⟩
  · exact ⟨⟨_, rfl, rfl⟩, ⟨_, rfl, rfl, _, rfl, rfl, rfl⟩⟩
  · exact ⟨⟨_, rfl, rfl⟩, ⟨_, rfl, rfl, _, rfl, rfl, rfl⟩⟩
  · exact ⟨⟨_, rfl, rfl⟩, ⟨_, rfl, rfl, _, rfl, rfl, rfl⟩⟩
  · exact ⟨⟨_, rfl, rfl⟩, ⟨_, rfl, rfl, _, rfl, rfl, rfl⟩⟩
  · exact ⟨rfl, by omega, by omega, ⟨_, rfl, rfl, _, rfl, rfl, rfl⟩, rfl, ⟨_, rfl, rfl, _, rfl, rfl, rfl⟩, kdOf_at _ _ _ _ _ _ _⟩
  · exact ⟨⟨_, rfl, rfl⟩, ⟨_, rfl, rfl, _, rfl, rfl, rfl⟩⟩
  · exact ⟨⟨_, rfl, rfl⟩, ⟨_, rfl, rfl, _, rfl, rfl, rfl⟩⟩
  · exact ⟨⟨_, rfl, by kernel_rfl, fun ks h => by cases h; exact ⟨by kernel_rfl, by kernel_rfl, by kernel_rfl⟩⟩, ⟨_, rfl, rfl, _, rfl, rfl, rfl⟩⟩
  · exact ⟨⟨_, rfl, by kernel_rfl, fun ks h => by cases h; exact ⟨by kernel_rfl, by kernel_rfl, by kernel_rfl⟩⟩, ⟨_, rfl, rfl, _, rfl, rfl, rfl⟩⟩
  · exact ⟨⟨_, rfl, rfl⟩, ⟨_, rfl, rfl, _, rfl, rfl, rfl⟩⟩
  · exact ⟨⟨_, rfl, rfl⟩, ⟨_, rfl, rfl, _, rfl, rfl, rfl⟩⟩
  · exact ⟨⟨_, rfl, rfl⟩, ⟨_, rfl, rfl, _, rfl, rfl, rfl⟩⟩
  · exact ⟨⟨_, rfl, rfl⟩, ⟨_, rfl, rfl, _, rfl, rfl, rfl⟩⟩
  · exact ⟨⟨_, rfl, by kernel_rfl, fun ks h => by cases h⟩, ⟨_, rfl, rfl, _, rfl, rfl, rfl⟩⟩
  · exact ⟨⟨_, rfl, by kernel_rfl, fun ks h => by cases h⟩, ⟨_, rfl, rfl, _, rfl, rfl, rfl⟩⟩
  · exact ⟨⟨_, rfl, rfl⟩, ⟨_, rfl, rfl, _, rfl, rfl, rfl⟩⟩
  · exact ⟨⟨_, rfl, rfl⟩, ⟨_, rfl, rfl, _, rfl, rfl, rfl⟩⟩
  · exact ⟨⟨_, rfl, rfl⟩, ⟨_, rfl, rfl, _, rfl, rfl, rfl⟩⟩
  · exact ⟨⟨_, rfl, rfl⟩, ⟨_, rfl, rfl, _, rfl, rfl, rfl⟩⟩
  · exact ⟨⟨_, rfl, rfl⟩, ⟨_, rfl, rfl, _, rfl, rfl, rfl⟩⟩
  · exact ⟨rfl, _, rfl, rfl, _, rfl, rfl, rfl⟩
  · exact ⟨⟨_, rfl, rfl⟩, ⟨_, rfl, rfl, _, rfl, rfl, rfl⟩⟩
  · trivial, (fun t r h => by
  have h : ars t = some r := h
  unfold ars at h
  split at h
  · cases h; exact ⟨28, rfl, ⟨_, _, rfl, rfl, rfl, rfl⟩, ⟨_, rfl, rfl, _, rfl, rfl, rfl⟩, _, rfl, ⟨_, rfl⟩⟩
  · cases h; exact ⟨41, rfl, ⟨_, _, rfl, rfl, rfl, rfl⟩, ⟨_, rfl, rfl, _, rfl, rfl, rfl⟩, _, rfl, rfl⟩
  · cases h), (fun f h => by cases h),
  (fun t n f h => by cases h), (fun t h => by cases h), (fun e => rfl), (fun t ks h => by cases h), (fun f => rfl), (fun t h => by cases h)⟩
theorem envOk : EnvOk Try.prog E := envOkW []
theorem zlW (w : List Nat) : Zl (Ew w) := ⟨fun t e sz b z h => by
  have h : tys t = .slice e sz b z := h
  unfold tys at h
  split at h <;> cases h <;> rfl⟩
theorem zl : Zl E := zlW []
theorem mixed : Try.prog.follows .mixedOrders = true := by kernel_rfl
def noCon : FuncId → Con := fun _ _ _ _ => Bad 1000
theorem noCon_ok : ConOk Try.prog noCon := fun f A H K h => by cases h
def noDet : FuncId → Option Dt := fun _ => none
theorem noDet_ok : DetOk Try.prog noDet := fun f d h => by cases h
set_option maxRecDepth 100000
theorem opn_Window : Opn Try.prog 63 Window := by
  intro H enc w fuel cs x h
  obtain ⟨xs, n, _, rfl, hl, hxl, hf⟩ := DataW.trod_struct Try.underlying63 h
  rw [show Try.prog.cellsOf 63 = 3 by kernel_rfl] at hl
  obtain ⟨c0, c1, c2, rfl⟩ : ∃ c0 c1 c2, cs = [c0, c1, c2] := by
    match cs, hl with | [c0, c1, c2], _ => exact ⟨c0, c1, c2, rfl⟩
  obtain ⟨x0, x1, x2, rfl⟩ : ∃ x0 x1 x2, xs = [x0, x1, x2] := by
    match xs, hxl with | [x0, x1, x2], _ => exact ⟨x0, x1, x2, rfl⟩
  have h0 : DataW.trod enc Try.prog w 0 (fun _ => true) true n 3 (([c0, c1, c2].drop 0).take (Try.prog.cellsOf 3)) = some x0 := hf 0 _ rfl
  rw [show Try.prog.cellsOf 3 = 1 by kernel_rfl] at h0
  have h0 : DataW.trod enc Try.prog w 0 (fun _ => true) true n 3 [c0] = some x0 := h0
  obtain ⟨y0, u0, b0, e0⟩ := (opn_int Try.underlying3) h0
  have h1 : DataW.trod enc Try.prog w 0 (fun _ => true) true n 3 (([c0, c1, c2].drop 1).take (Try.prog.cellsOf 3)) = some x1 := hf 1 _ rfl
  rw [show Try.prog.cellsOf 3 = 1 by kernel_rfl] at h1
  have h1 : DataW.trod enc Try.prog w 0 (fun _ => true) true n 3 [c1] = some x1 := h1
  obtain ⟨y1, u1, b1, e1⟩ := (opn_int Try.underlying3) h1
  have h2 : DataW.trod enc Try.prog w 0 (fun _ => true) true n 3 (([c0, c1, c2].drop 2).take (Try.prog.cellsOf 3)) = some x2 := hf 2 _ rfl
  rw [show Try.prog.cellsOf 3 = 1 by kernel_rfl] at h2
  have h2 : DataW.trod enc Try.prog w 0 (fun _ => true) true n 3 [c2] = some x2 := h2
  obtain ⟨y2, u2, b2, e2⟩ := (opn_int Try.underlying3) h2
  exact ⟨⟨y0, y1, y2⟩, ⟨u0, u1, u2⟩, by simp only [Siz.bulk, bulkD, bulkL, List.map] at *; omega, openCs_app e0 (openCs_app e1 (openCs_app e2 (openCs_nil)))⟩
theorem opn_Table : Opn Try.prog 24 Table := by
  intro H enc w fuel cs x h
  obtain ⟨xs, n, _, rfl, hl, hxl, hf⟩ := DataW.trod_struct Try.underlying24 h
  rw [show Try.prog.cellsOf 24 = 2 by kernel_rfl] at hl
  obtain ⟨c0, c1, rfl⟩ : ∃ c0 c1, cs = [c0, c1] := by
    match cs, hl with | [c0, c1], _ => exact ⟨c0, c1, rfl⟩
  obtain ⟨x0, x1, rfl⟩ : ∃ x0 x1, xs = [x0, x1] := by
    match xs, hxl with | [x0, x1], _ => exact ⟨x0, x1, rfl⟩
  have h0 : DataW.trod enc Try.prog w 0 (fun _ => true) true n 3 (([c0, c1].drop 0).take (Try.prog.cellsOf 3)) = some x0 := hf 0 _ rfl
  rw [show Try.prog.cellsOf 3 = 1 by kernel_rfl] at h0
  have h0 : DataW.trod enc Try.prog w 0 (fun _ => true) true n 3 [c0] = some x0 := h0
  obtain ⟨y0, u0, b0, e0⟩ := (opn_int Try.underlying3) h0
  have h1 : DataW.trod enc Try.prog w 0 (fun _ => true) true n 22 (([c0, c1].drop 1).take (Try.prog.cellsOf 22)) = some x1 := hf 1 _ rfl
  rw [show Try.prog.cellsOf 22 = 1 by kernel_rfl] at h1
  have h1 : DataW.trod enc Try.prog w 0 (fun _ => true) true n 22 [c1] = some x1 := h1
  obtain ⟨y1, u1, b1, e1⟩ := (opn_slice Try.underlying22 (by kernel_rfl) (by decide) opn_Window) h1
  exact ⟨⟨y0, y1⟩, ⟨u0, u1⟩, by simp only [Siz.bulk, bulkD, bulkL, List.map] at *; omega, openCs_app e0 (openCs_app e1 (openCs_nil))⟩
theorem opn_Ins : Opn Try.prog 48 Ins := by
  intro H enc w fuel cs x h
  obtain ⟨xs, n, _, rfl, hl, hxl, hf⟩ := DataW.trod_struct Try.underlying48 h
  rw [show Try.prog.cellsOf 48 = 3 by kernel_rfl] at hl
  obtain ⟨c0, c1, c2, rfl⟩ : ∃ c0 c1 c2, cs = [c0, c1, c2] := by
    match cs, hl with | [c0, c1, c2], _ => exact ⟨c0, c1, c2, rfl⟩
  obtain ⟨x0, x1, x2, rfl⟩ : ∃ x0 x1 x2, xs = [x0, x1, x2] := by
    match xs, hxl with | [x0, x1, x2], _ => exact ⟨x0, x1, x2, rfl⟩
  have h0 : DataW.trod enc Try.prog w 0 (fun _ => true) true n 3 (([c0, c1, c2].drop 0).take (Try.prog.cellsOf 3)) = some x0 := hf 0 _ rfl
  rw [show Try.prog.cellsOf 3 = 1 by kernel_rfl] at h0
  have h0 : DataW.trod enc Try.prog w 0 (fun _ => true) true n 3 [c0] = some x0 := h0
  obtain ⟨y0, u0, b0, e0⟩ := (opn_int Try.underlying3) h0
  have h1 : DataW.trod enc Try.prog w 0 (fun _ => true) true n 3 (([c0, c1, c2].drop 1).take (Try.prog.cellsOf 3)) = some x1 := hf 1 _ rfl
  rw [show Try.prog.cellsOf 3 = 1 by kernel_rfl] at h1
  have h1 : DataW.trod enc Try.prog w 0 (fun _ => true) true n 3 [c1] = some x1 := h1
  obtain ⟨y1, u1, b1, e1⟩ := (opn_int Try.underlying3) h1
  have h2 : DataW.trod enc Try.prog w 0 (fun _ => true) true n 3 (([c0, c1, c2].drop 2).take (Try.prog.cellsOf 3)) = some x2 := hf 2 _ rfl
  rw [show Try.prog.cellsOf 3 = 1 by kernel_rfl] at h2
  have h2 : DataW.trod enc Try.prog w 0 (fun _ => true) true n 3 [c2] = some x2 := h2
  obtain ⟨y2, u2, b2, e2⟩ := (opn_int Try.underlying3) h2
  exact ⟨⟨y0, y1, y2⟩, ⟨u0, u1, u2⟩, by simp only [Siz.bulk, bulkD, bulkL, List.map] at *; omega, openCs_app e0 (openCs_app e1 (openCs_app e2 (openCs_nil)))⟩
theorem opn_Vm : Opn Try.prog 43 Vm := by
  intro H enc w fuel cs x h
  obtain ⟨xs, n, _, rfl, hl, hxl, hf⟩ := DataW.trod_struct Try.underlying43 h
  rw [show Try.prog.cellsOf 43 = 4 by kernel_rfl] at hl
  obtain ⟨c0, c1, c2, c3, rfl⟩ : ∃ c0 c1 c2 c3, cs = [c0, c1, c2, c3] := by
    match cs, hl with | [c0, c1, c2, c3], _ => exact ⟨c0, c1, c2, c3, rfl⟩
  obtain ⟨x0, x1, x2, x3, rfl⟩ : ∃ x0 x1 x2 x3, xs = [x0, x1, x2, x3] := by
    match xs, hxl with | [x0, x1, x2, x3], _ => exact ⟨x0, x1, x2, x3, rfl⟩
  have h0 : DataW.trod enc Try.prog w 0 (fun _ => true) true n 3 (([c0, c1, c2, c3].drop 0).take (Try.prog.cellsOf 3)) = some x0 := hf 0 _ rfl
  rw [show Try.prog.cellsOf 3 = 1 by kernel_rfl] at h0
  have h0 : DataW.trod enc Try.prog w 0 (fun _ => true) true n 3 [c0] = some x0 := h0
  obtain ⟨y0, u0, b0, e0⟩ := (opn_int Try.underlying3) h0
  have h1 : DataW.trod enc Try.prog w 0 (fun _ => true) true n 41 (([c0, c1, c2, c3].drop 1).take (Try.prog.cellsOf 41)) = some x1 := hf 1 _ rfl
  rw [show Try.prog.cellsOf 41 = 1 by kernel_rfl] at h1
  have h1 : DataW.trod enc Try.prog w 0 (fun _ => true) true n 41 [c1] = some x1 := h1
  obtain ⟨y1, u1, b1, e1⟩ := (opn_slice Try.underlying41 (by kernel_rfl) (by decide) (opn_int Try.underlying3)) h1
  have h2 : DataW.trod enc Try.prog w 0 (fun _ => true) true n 4 (([c0, c1, c2, c3].drop 2).take (Try.prog.cellsOf 4)) = some x2 := hf 2 _ rfl
  rw [show Try.prog.cellsOf 4 = 1 by kernel_rfl] at h2
  have h2 : DataW.trod enc Try.prog w 0 (fun _ => true) true n 4 [c2] = some x2 := h2
  obtain ⟨y2, u2, b2, e2⟩ := (opn_bool Try.underlying4) h2
  have h3 : DataW.trod enc Try.prog w 0 (fun _ => true) true n 4 (([c0, c1, c2, c3].drop 3).take (Try.prog.cellsOf 4)) = some x3 := hf 3 _ rfl
  rw [show Try.prog.cellsOf 4 = 1 by kernel_rfl] at h3
  have h3 : DataW.trod enc Try.prog w 0 (fun _ => true) true n 4 [c3] = some x3 := h3
  obtain ⟨y3, u3, b3, e3⟩ := (opn_bool Try.underlying4) h3
  exact ⟨⟨y0, y1, y2, y3⟩, ⟨u0, u1, u2, u3⟩, by simp only [Siz.bulk, bulkD, bulkL, List.map] at *; omega, openCs_app e0 (openCs_app e1 (openCs_app e2 (openCs_app e3 (openCs_nil))))⟩
theorem opn_Emit : Opn Try.prog 96 Emit := by
  intro H enc w fuel cs x h
  obtain ⟨xs, n, _, rfl, hl, hxl, hf⟩ := DataW.trod_struct Try.underlying96 h
  rw [show Try.prog.cellsOf 96 = 2 by kernel_rfl] at hl
  obtain ⟨c0, c1, rfl⟩ : ∃ c0 c1, cs = [c0, c1] := by
    match cs, hl with | [c0, c1], _ => exact ⟨c0, c1, rfl⟩
  obtain ⟨x0, x1, rfl⟩ : ∃ x0 x1, xs = [x0, x1] := by
    match xs, hxl with | [x0, x1], _ => exact ⟨x0, x1, rfl⟩
  have h0 : DataW.trod enc Try.prog w 0 (fun _ => true) true n 3 (([c0, c1].drop 0).take (Try.prog.cellsOf 3)) = some x0 := hf 0 _ rfl
  rw [show Try.prog.cellsOf 3 = 1 by kernel_rfl] at h0
  have h0 : DataW.trod enc Try.prog w 0 (fun _ => true) true n 3 [c0] = some x0 := h0
  obtain ⟨y0, u0, b0, e0⟩ := (opn_int Try.underlying3) h0
  have h1 : DataW.trod enc Try.prog w 0 (fun _ => true) true n 3 (([c0, c1].drop 1).take (Try.prog.cellsOf 3)) = some x1 := hf 1 _ rfl
  rw [show Try.prog.cellsOf 3 = 1 by kernel_rfl] at h1
  have h1 : DataW.trod enc Try.prog w 0 (fun _ => true) true n 3 [c1] = some x1 := h1
  obtain ⟨y1, u1, b1, e1⟩ := (opn_int Try.underlying3) h1
  exact ⟨⟨y0, y1⟩, ⟨u0, u1⟩, by simp only [Siz.bulk, bulkD, bulkL, List.map] at *; omega, openCs_app e0 (openCs_app e1 (openCs_nil))⟩
theorem opn_Part : Opn Try.prog 45 Part := by
  intro H enc w fuel cs x h
  obtain ⟨xs, n, _, rfl, hl, hxl, hf⟩ := DataW.trod_struct Try.underlying45 h
  rw [show Try.prog.cellsOf 45 = 6 by kernel_rfl] at hl
  obtain ⟨c0, c1, c2, c3, c4, c5, rfl⟩ : ∃ c0 c1 c2 c3 c4 c5, cs = [c0, c1, c2, c3, c4, c5] := by
    match cs, hl with | [c0, c1, c2, c3, c4, c5], _ => exact ⟨c0, c1, c2, c3, c4, c5, rfl⟩
  obtain ⟨x0, x1, x2, rfl⟩ : ∃ x0 x1 x2, xs = [x0, x1, x2] := by
    match xs, hxl with | [x0, x1, x2], _ => exact ⟨x0, x1, x2, rfl⟩
  have h0 : DataW.trod enc Try.prog w 0 (fun _ => true) true n 40 (([c0, c1, c2, c3, c4, c5].drop 0).take (Try.prog.cellsOf 40)) = some x0 := hf 0 _ rfl
  rw [show Try.prog.cellsOf 40 = 1 by kernel_rfl] at h0
  have h0 : DataW.trod enc Try.prog w 0 (fun _ => true) true n 40 [c0] = some x0 := h0
  obtain ⟨y0, u0, b0, e0⟩ := (opn_slice Try.underlying40 (by kernel_rfl) (by decide) opn_Ins) h0
  have h1 : DataW.trod enc Try.prog w 0 (fun _ => true) true n 43 (([c0, c1, c2, c3, c4, c5].drop 1).take (Try.prog.cellsOf 43)) = some x1 := hf 1 _ rfl
  rw [show Try.prog.cellsOf 43 = 4 by kernel_rfl] at h1
  have h1 : DataW.trod enc Try.prog w 0 (fun _ => true) true n 43 [c1, c2, c3, c4] = some x1 := h1
  obtain ⟨y1, u1, b1, e1⟩ := opn_Vm h1
  have h2 : DataW.trod enc Try.prog w 0 (fun _ => true) true n 41 (([c0, c1, c2, c3, c4, c5].drop 5).take (Try.prog.cellsOf 41)) = some x2 := hf 2 _ rfl
  rw [show Try.prog.cellsOf 41 = 1 by kernel_rfl] at h2
  have h2 : DataW.trod enc Try.prog w 0 (fun _ => true) true n 41 [c5] = some x2 := h2
  obtain ⟨y2, u2, b2, e2⟩ := (opn_slice Try.underlying41 (by kernel_rfl) (by decide) (opn_int Try.underlying3)) h2
  exact ⟨⟨y0, y1, y2⟩, ⟨u0, u1, u2⟩, by simp only [Siz.bulk, bulkD, bulkL, List.map] at *; omega, openCs_app e0 (openCs_app e1 (openCs_app e2 (openCs_nil)))⟩
theorem opn_Wire : Opn Try.prog 39 Wire := by
  intro H enc w fuel cs x h
  obtain ⟨xs, n, _, rfl, hl, hxl, hf⟩ := DataW.trod_struct Try.underlying39 h
  rw [show Try.prog.cellsOf 39 = 3 by kernel_rfl] at hl
  obtain ⟨c0, c1, c2, rfl⟩ : ∃ c0 c1 c2, cs = [c0, c1, c2] := by
    match cs, hl with | [c0, c1, c2], _ => exact ⟨c0, c1, c2, rfl⟩
  obtain ⟨x0, x1, x2, rfl⟩ : ∃ x0 x1 x2, xs = [x0, x1, x2] := by
    match xs, hxl with | [x0, x1, x2], _ => exact ⟨x0, x1, x2, rfl⟩
  have h0 : DataW.trod enc Try.prog w 0 (fun _ => true) true n 3 (([c0, c1, c2].drop 0).take (Try.prog.cellsOf 3)) = some x0 := hf 0 _ rfl
  rw [show Try.prog.cellsOf 3 = 1 by kernel_rfl] at h0
  have h0 : DataW.trod enc Try.prog w 0 (fun _ => true) true n 3 [c0] = some x0 := h0
  obtain ⟨y0, u0, b0, e0⟩ := (opn_int Try.underlying3) h0
  have h1 : DataW.trod enc Try.prog w 0 (fun _ => true) true n 3 (([c0, c1, c2].drop 1).take (Try.prog.cellsOf 3)) = some x1 := hf 1 _ rfl
  rw [show Try.prog.cellsOf 3 = 1 by kernel_rfl] at h1
  have h1 : DataW.trod enc Try.prog w 0 (fun _ => true) true n 3 [c1] = some x1 := h1
  obtain ⟨y1, u1, b1, e1⟩ := (opn_int Try.underlying3) h1
  have h2 : DataW.trod enc Try.prog w 0 (fun _ => true) true n 3 (([c0, c1, c2].drop 2).take (Try.prog.cellsOf 3)) = some x2 := hf 2 _ rfl
  rw [show Try.prog.cellsOf 3 = 1 by kernel_rfl] at h2
  have h2 : DataW.trod enc Try.prog w 0 (fun _ => true) true n 3 [c2] = some x2 := h2
  obtain ⟨y2, u2, b2, e2⟩ := (opn_int Try.underlying3) h2
  exact ⟨⟨y0, y1, y2⟩, ⟨u0, u1, u2⟩, by simp only [Siz.bulk, bulkD, bulkL, List.map] at *; omega, openCs_app e0 (openCs_app e1 (openCs_app e2 (openCs_nil)))⟩
theorem opn_Module : Opn Try.prog 28 Module := by
  intro H enc w fuel cs x h
  obtain ⟨xs, n, _, rfl, hl, hxl, hf⟩ := DataW.trod_struct Try.underlying28 h
  rw [show Try.prog.cellsOf 28 = 6 by kernel_rfl] at hl
  obtain ⟨c0, c1, c2, c3, c4, c5, rfl⟩ : ∃ c0 c1 c2 c3 c4 c5, cs = [c0, c1, c2, c3, c4, c5] := by
    match cs, hl with | [c0, c1, c2, c3, c4, c5], _ => exact ⟨c0, c1, c2, c3, c4, c5, rfl⟩
  obtain ⟨x0, x1, x2, x3, x4, rfl⟩ : ∃ x0 x1 x2 x3 x4, xs = [x0, x1, x2, x3, x4] := by
    match xs, hxl with | [x0, x1, x2, x3, x4], _ => exact ⟨x0, x1, x2, x3, x4, rfl⟩
  have h0 : DataW.trod enc Try.prog w 0 (fun _ => true) true n 24 (([c0, c1, c2, c3, c4, c5].drop 0).take (Try.prog.cellsOf 24)) = some x0 := hf 0 _ rfl
  rw [show Try.prog.cellsOf 24 = 2 by kernel_rfl] at h0
  have h0 : DataW.trod enc Try.prog w 0 (fun _ => true) true n 24 [c0, c1] = some x0 := h0
  obtain ⟨y0, u0, b0, e0⟩ := opn_Table h0
  have h1 : DataW.trod enc Try.prog w 0 (fun _ => true) true n 25 (([c0, c1, c2, c3, c4, c5].drop 2).take (Try.prog.cellsOf 25)) = some x1 := hf 1 _ rfl
  rw [show Try.prog.cellsOf 25 = 1 by kernel_rfl] at h1
  have h1 : DataW.trod enc Try.prog w 0 (fun _ => true) true n 25 [c2] = some x1 := h1
  obtain ⟨y1, u1, b1, e1⟩ := (opn_slice Try.underlying25 (by kernel_rfl) (by decide) opn_Part) h1
  have h2 : DataW.trod enc Try.prog w 0 (fun _ => true) true n 26 (([c0, c1, c2, c3, c4, c5].drop 3).take (Try.prog.cellsOf 26)) = some x2 := hf 2 _ rfl
  rw [show Try.prog.cellsOf 26 = 1 by kernel_rfl] at h2
  have h2 : DataW.trod enc Try.prog w 0 (fun _ => true) true n 26 [c3] = some x2 := h2
  obtain ⟨y2, u2, b2, e2⟩ := (opn_slice Try.underlying26 (by kernel_rfl) (by decide) opn_Wire) h2
  have h3 : DataW.trod enc Try.prog w 0 (fun _ => true) true n 3 (([c0, c1, c2, c3, c4, c5].drop 4).take (Try.prog.cellsOf 3)) = some x3 := hf 3 _ rfl
  rw [show Try.prog.cellsOf 3 = 1 by kernel_rfl] at h3
  have h3 : DataW.trod enc Try.prog w 0 (fun _ => true) true n 3 [c4] = some x3 := h3
  obtain ⟨y3, u3, b3, e3⟩ := (opn_int Try.underlying3) h3
  have h4 : DataW.trod enc Try.prog w 0 (fun _ => true) true n 3 (([c0, c1, c2, c3, c4, c5].drop 5).take (Try.prog.cellsOf 3)) = some x4 := hf 4 _ rfl
  rw [show Try.prog.cellsOf 3 = 1 by kernel_rfl] at h4
  have h4 : DataW.trod enc Try.prog w 0 (fun _ => true) true n 3 [c5] = some x4 := h4
  obtain ⟨y4, u4, b4, e4⟩ := (opn_int Try.underlying3) h4
  exact ⟨⟨y0, y1, y2, y3, y4⟩, ⟨u0, u1, u2, u3, u4⟩, by simp only [Siz.bulk, bulkD, bulkL, List.map] at *; omega, openCs_app e0 (openCs_app e1 (openCs_app e2 (openCs_app e3 (openCs_app e4 (openCs_nil)))))⟩
theorem fin_b {b : Th Bool} {H : Hp} {kl : List Nat} (h : b () = true) : outA (.bc true) [] (.b b) H kl := by
  cbv
  repeat' first | (refine Stp.mk ?_; cbv) | (refine Gen.mk fun r hr => ?_; (try simp only [Dat.ok, Dat.dec, Leaf.ok, Leaf.val, Z0, Z1, Z2, Z3, Z4, Z5, Z6, Z7, val_sl, val_nil] at hr); cbv) | exact trivial | rfl | refine Both.mk ?_ ?_ | (refine Imp.mk fun h => ?_; (try dsimp only at h); (try simp only [nc, Int.toNat_natCast, ne_eq, zz] at h); (try simp only [nc] at h)) | refine Ob.mk ?_ ?_ | refine Chk.mk (by kernel_rfl) ?_ | refine Eq'.mk ?_ | (refine AllN.mk fun i hi => ?_; cbv) | (refine AllC.mk fun c hc hcm => ?_; (try dsimp only at hc); cbv) | (refine AllS.mk fun r hr => ?_; (try simp only [Dat.ok, Dat.dec, Leaf.ok, Leaf.val, Z0, Z1, Z2, Z3, Z4, Z5, Z6, Z7, val_sl] at hr); cbv)
  exact h
theorem fin_t {H : Hp} {kl : List Nat} : outA (.bc true) [] (.bc true) H kl := by
  cbv
  repeat' first | (refine Stp.mk ?_; cbv) | (refine Gen.mk fun r hr => ?_; (try simp only [Dat.ok, Dat.dec, Leaf.ok, Leaf.val, Z0, Z1, Z2, Z3, Z4, Z5, Z6, Z7, val_sl, val_nil] at hr); cbv) | exact trivial | rfl | refine Both.mk ?_ ?_ | (refine Imp.mk fun h => ?_; (try dsimp only at h); (try simp only [nc, Int.toNat_natCast, ne_eq, zz] at h); (try simp only [nc] at h)) | refine Ob.mk ?_ ?_ | refine Chk.mk (by kernel_rfl) ?_ | refine Eq'.mk ?_ | (refine AllN.mk fun i hi => ?_; cbv) | (refine AllC.mk fun c hc hcm => ?_; (try dsimp only at hc); cbv) | (refine AllS.mk fun r hr => ?_; (try simp only [Dat.ok, Dat.dec, Leaf.ok, Leaf.val, Z0, Z1, Z2, Z3, Z4, Z5, Z6, Z7, val_sl] at hr); cbv)

end Go.Proofs.Ytbnpacdkllmblaa
