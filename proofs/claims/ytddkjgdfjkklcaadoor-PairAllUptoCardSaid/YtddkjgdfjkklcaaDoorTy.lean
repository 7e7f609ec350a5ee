/- The program's functions, walked: Ty. -/
import Derived.Test.YtddkjgdfjkklcaaDoorAbsG4
import Derived.Test.YtddkjgdfjkklcaaDoorAbsG5
import Derived.Test.YtddkjgdfjkklcaaDoorRows
import Derived.KernelRfl
import Derived.JoinedCond
import Derived.WalkKit
import Derived.ProofKit
import Derived.OpenShut
import Derived.ShutString
import Derived.ChangeOld
set_option linter.all false
namespace Go.Proofs.YtddkjgdfjkklcaaDoor
open Go Go.Abs
def frs : TypeId → Bool := fun t => false
def bds : FuncId → Bool := fun f => match f with | 34 => true | 35 => true | 36 => true | 37 => true | _ => false
noncomputable instance kdI : Kd := ⟨fun e => match Tryd.prog.info? e with | some i => (match i.zero with | some zv => zv.cells.toList | none => []) | none => [], fun e => !(frs e), bds, [0], fun w => Lib.TabIs Tryd.prog w "internal/strconv.uint64pow10" .u64 Lib.pow10Tab, fun w w' h => by
  intro h0
  exact tab_keep (g := 0) (by kernel_rfl) (h 0 (by simp)) h0⟩
structure Ins where
  code : Int
  a : Int
  b : Int
  deriving DecidableEq
instance datIns : Dat Ins where
  d0 := ⟨0, 0, 0⟩
  sz := 3
  enc x := [Leaf.av fun _ => (x ()).code, Leaf.av fun _ => (x ()).a, Leaf.av fun _ => (x ()).b]
  dec l := match l with | [a0, a1, a2] => ⟨Leaf.val a0, Leaf.val a1, Leaf.val a2⟩ | _ => ⟨0, 0, 0⟩
  ok l := match l with | [a0, a1, a2] => Leaf.ok Int a0 ∧ Leaf.ok Int a1 ∧ Leaf.ok Int a2 | _ => False
  hlen _ := rfl
  hclosed x := by simp only [closedL, Leaf.hclosed]
  hdec x := by simp only [Leaf.hval]
  hok x := ⟨Leaf.hok _, Leaf.hok _, Leaf.hok _⟩
  hle l h := by
    split at h
    · obtain ⟨k0, k1, k2⟩ := h
      exact .mk (Leaf.hle _ k0) (.mk (Leaf.hle _ k1) (.mk (Leaf.hle _ k2) (trivial)))
    · cases h
  hpick c l m h1 h2 := by
    split at h1
    · split at h2
      · obtain ⟨k0, k1, k2⟩ := h1
        obtain ⟨j0, j1, j2⟩ := h2
        refine ⟨⟨(Leaf.hpick c _ _ k0 j0).1, (Leaf.hpick c _ _ k1 j1).1, (Leaf.hpick c _ _ k2 j2).1⟩, ?_⟩
        have e := (fun (u : Bool) => rfl : ∀ u : Bool, u = u)
        simp only [rowL, nth, dropN, (Leaf.hpick c _ _ k0 j0).2, (Leaf.hpick c _ _ k1 j1).2, (Leaf.hpick c _ _ k2 j2).2]
        cases c () <;> rfl
      · cases h2
    · cases h1
instance sizIns : Siz Ins := ⟨fun x => Siz.fit x.code ∧ Siz.fit x.a ∧ Siz.fit x.b, fun x => Siz.bulk x.code + Siz.bulk x.a + Siz.bulk x.b + 1⟩
theorem Ins.eta (x : Ins) : (⟨x.code, x.a, x.b⟩ : Ins) = x := rfl
theorem Ins.one_le (x : Ins) : 1 ≤ Siz.bulk x := Nat.le_add_left _ _
structure Vm where
  at_ : Int
  regs : (List Int)
  halts : Bool
  fault : Bool
  deriving DecidableEq
instance datVm : Dat Vm where
  d0 := ⟨0, [], false, false⟩
  sz := 4
  enc x := [Leaf.av fun _ => (x ()).at_, Leaf.av fun _ => (x ()).regs, Leaf.av fun _ => (x ()).halts, Leaf.av fun _ => (x ()).fault]
  dec l := match l with | [a0, a1, a2, a3] => ⟨Leaf.val a0, Leaf.val a1, Leaf.val a2, Leaf.val a3⟩ | _ => ⟨0, [], false, false⟩
  ok l := match l with | [a0, a1, a2, a3] => Leaf.ok Int a0 ∧ Leaf.ok (List Int) a1 ∧ Leaf.ok Bool a2 ∧ Leaf.ok Bool a3 | _ => False
  hlen _ := rfl
  hclosed x := by simp only [closedL, Leaf.hclosed]
  hdec x := by simp only [Leaf.hval]
  hok x := ⟨Leaf.hok _, Leaf.hok _, Leaf.hok _, Leaf.hok _⟩
  hle l h := by
    split at h
    · obtain ⟨k0, k1, k2, k3⟩ := h
      exact .mk (Leaf.hle _ k0) (.mk (Leaf.hle _ k1) (.mk (Leaf.hle _ k2) (.mk (Leaf.hle _ k3) (trivial))))
    · cases h
  hpick c l m h1 h2 := by
    split at h1
    · split at h2
      · obtain ⟨k0, k1, k2, k3⟩ := h1
        obtain ⟨j0, j1, j2, j3⟩ := h2
        refine ⟨⟨(Leaf.hpick c _ _ k0 j0).1, (Leaf.hpick c _ _ k1 j1).1, (Leaf.hpick c _ _ k2 j2).1, (Leaf.hpick c _ _ k3 j3).1⟩, ?_⟩
        have e := (fun (u : Bool) => rfl : ∀ u : Bool, u = u)
        simp only [rowL, nth, dropN, (Leaf.hpick c _ _ k0 j0).2, (Leaf.hpick c _ _ k1 j1).2, (Leaf.hpick c _ _ k2 j2).2, (Leaf.hpick c _ _ k3 j3).2]
        cases c () <;> rfl
      · cases h2
    · cases h1
instance sizVm : Siz Vm := ⟨fun x => Siz.fit x.at_ ∧ Siz.fit x.regs ∧ Siz.fit x.halts ∧ Siz.fit x.fault, fun x => Siz.bulk x.at_ + Siz.bulk x.regs + Siz.bulk x.halts + Siz.bulk x.fault + 1⟩
theorem Vm.eta (x : Vm) : (⟨x.at_, x.regs, x.halts, x.fault⟩ : Vm) = x := rfl
theorem Vm.one_le (x : Vm) : 1 ≤ Siz.bulk x := Nat.le_add_left _ _
structure Emit where
  port : Int
  n : Int
  deriving DecidableEq
instance datEmit : Dat Emit where
  d0 := ⟨0, 0⟩
  sz := 2
  enc x := [Leaf.av fun _ => (x ()).port, Leaf.av fun _ => (x ()).n]
  dec l := match l with | [a0, a1] => ⟨Leaf.val a0, Leaf.val a1⟩ | _ => ⟨0, 0⟩
  ok l := match l with | [a0, a1] => Leaf.ok Int a0 ∧ Leaf.ok Int a1 | _ => False
  hlen _ := rfl
  hclosed x := by simp only [closedL, Leaf.hclosed]
  hdec x := by simp only [Leaf.hval]
  hok x := ⟨Leaf.hok _, Leaf.hok _⟩
  hle l h := by
    split at h
    · obtain ⟨k0, k1⟩ := h
      exact .mk (Leaf.hle _ k0) (.mk (Leaf.hle _ k1) (trivial))
    · cases h
  hpick c l m h1 h2 := by
    split at h1
    · split at h2
      · obtain ⟨k0, k1⟩ := h1
        obtain ⟨j0, j1⟩ := h2
        refine ⟨⟨(Leaf.hpick c _ _ k0 j0).1, (Leaf.hpick c _ _ k1 j1).1⟩, ?_⟩
        have e := (fun (u : Bool) => rfl : ∀ u : Bool, u = u)
        simp only [rowL, nth, dropN, (Leaf.hpick c _ _ k0 j0).2, (Leaf.hpick c _ _ k1 j1).2]
        cases c () <;> rfl
      · cases h2
    · cases h1
instance sizEmit : Siz Emit := ⟨fun x => Siz.fit x.port ∧ Siz.fit x.n, fun x => Siz.bulk x.port + Siz.bulk x.n + 1⟩
theorem Emit.eta (x : Emit) : (⟨x.port, x.n⟩ : Emit) = x := rfl
theorem Emit.one_le (x : Emit) : 1 ≤ Siz.bulk x := Nat.le_add_left _ _
structure Fence where
  epoch : Int
  owner : Int
  deriving DecidableEq
instance datFence : Dat Fence where
  d0 := ⟨0, 0⟩
  sz := 2
  enc x := [Leaf.av fun _ => (x ()).epoch, Leaf.av fun _ => (x ()).owner]
  dec l := match l with | [a0, a1] => ⟨Leaf.val a0, Leaf.val a1⟩ | _ => ⟨0, 0⟩
  ok l := match l with | [a0, a1] => Leaf.ok Int a0 ∧ Leaf.ok Int a1 | _ => False
  hlen _ := rfl
  hclosed x := by simp only [closedL, Leaf.hclosed]
  hdec x := by simp only [Leaf.hval]
  hok x := ⟨Leaf.hok _, Leaf.hok _⟩
  hle l h := by
    split at h
    · obtain ⟨k0, k1⟩ := h
      exact .mk (Leaf.hle _ k0) (.mk (Leaf.hle _ k1) (trivial))
    · cases h
  hpick c l m h1 h2 := by
    split at h1
    · split at h2
      · obtain ⟨k0, k1⟩ := h1
        obtain ⟨j0, j1⟩ := h2
        refine ⟨⟨(Leaf.hpick c _ _ k0 j0).1, (Leaf.hpick c _ _ k1 j1).1⟩, ?_⟩
        have e := (fun (u : Bool) => rfl : ∀ u : Bool, u = u)
        simp only [rowL, nth, dropN, (Leaf.hpick c _ _ k0 j0).2, (Leaf.hpick c _ _ k1 j1).2]
        cases c () <;> rfl
      · cases h2
    · cases h1
instance sizFence : Siz Fence := ⟨fun x => Siz.fit x.epoch ∧ Siz.fit x.owner, fun x => Siz.bulk x.epoch + Siz.bulk x.owner + 1⟩
theorem Fence.eta (x : Fence) : (⟨x.epoch, x.owner⟩ : Fence) = x := rfl
theorem Fence.one_le (x : Fence) : 1 ≤ Siz.bulk x := Nat.le_add_left _ _
structure Gate where
  fence : Fence
  out : (List ByteArray)
  deriving DecidableEq
instance datGate : Dat Gate where
  d0 := ⟨⟨0, 0⟩, []⟩
  sz := 3
  enc x := [Leaf.av fun _ => (x ()).fence.epoch, Leaf.av fun _ => (x ()).fence.owner, Leaf.av fun _ => (x ()).out]
  dec l := match l with | [a0, a1, a2] => ⟨⟨Leaf.val a0, Leaf.val a1⟩, Leaf.val a2⟩ | _ => ⟨⟨0, 0⟩, []⟩
  ok l := match l with | [a0, a1, a2] => Leaf.ok Int a0 ∧ Leaf.ok Int a1 ∧ Leaf.ok (List ByteArray) a2 | _ => False
  hlen _ := rfl
  hclosed x := by simp only [closedL, Leaf.hclosed]
  hdec x := by simp only [Leaf.hval]
  hok x := ⟨Leaf.hok _, Leaf.hok _, Leaf.hok _⟩
  hle l h := by
    split at h
    · obtain ⟨k0, k1, k2⟩ := h
      exact .mk (Leaf.hle _ k0) (.mk (Leaf.hle _ k1) (.mk (Leaf.hle _ k2) (trivial)))
    · cases h
  hpick c l m h1 h2 := by
    split at h1
    · split at h2
      · obtain ⟨k0, k1, k2⟩ := h1
        obtain ⟨j0, j1, j2⟩ := h2
        refine ⟨⟨(Leaf.hpick c _ _ k0 j0).1, (Leaf.hpick c _ _ k1 j1).1, (Leaf.hpick c _ _ k2 j2).1⟩, ?_⟩
        have e := (fun (u : Bool) => rfl : ∀ u : Bool, u = u)
        simp only [rowL, nth, dropN, (Leaf.hpick c _ _ k0 j0).2, (Leaf.hpick c _ _ k1 j1).2, (Leaf.hpick c _ _ k2 j2).2]
        cases c () <;> rfl
      · cases h2
    · cases h1
instance sizGate : Siz Gate := ⟨fun x => Siz.fit x.fence ∧ Siz.fit x.out, fun x => Siz.bulk x.fence + Siz.bulk x.out + 1⟩
theorem Gate.eta (x : Gate) : (⟨x.fence, x.out⟩ : Gate) = x := rfl
theorem Gate.one_le (x : Gate) : 1 ≤ Siz.bulk x := Nat.le_add_left _ _
structure Give where
  who : Int
  epoch : Int
  num : Int
  text : ByteArray
  deriving DecidableEq
instance datGive : Dat Give where
  d0 := ⟨0, 0, 0, .empty⟩
  sz := 4
  enc x := [Leaf.av fun _ => (x ()).who, Leaf.av fun _ => (x ()).epoch, Leaf.av fun _ => (x ()).num, Leaf.av fun _ => (x ()).text]
  dec l := match l with | [a0, a1, a2, a3] => ⟨Leaf.val a0, Leaf.val a1, Leaf.val a2, Leaf.val a3⟩ | _ => ⟨0, 0, 0, .empty⟩
  ok l := match l with | [a0, a1, a2, a3] => Leaf.ok Int a0 ∧ Leaf.ok Int a1 ∧ Leaf.ok Int a2 ∧ Leaf.ok ByteArray a3 | _ => False
  hlen _ := rfl
  hclosed x := by simp only [closedL, Leaf.hclosed]
  hdec x := by simp only [Leaf.hval]
  hok x := ⟨Leaf.hok _, Leaf.hok _, Leaf.hok _, Leaf.hok _⟩
  hle l h := by
    split at h
    · obtain ⟨k0, k1, k2, k3⟩ := h
      exact .mk (Leaf.hle _ k0) (.mk (Leaf.hle _ k1) (.mk (Leaf.hle _ k2) (.mk (Leaf.hle _ k3) (trivial))))
    · cases h
  hpick c l m h1 h2 := by
    split at h1
    · split at h2
      · obtain ⟨k0, k1, k2, k3⟩ := h1
        obtain ⟨j0, j1, j2, j3⟩ := h2
        refine ⟨⟨(Leaf.hpick c _ _ k0 j0).1, (Leaf.hpick c _ _ k1 j1).1, (Leaf.hpick c _ _ k2 j2).1, (Leaf.hpick c _ _ k3 j3).1⟩, ?_⟩
        have e := (fun (u : Bool) => rfl : ∀ u : Bool, u = u)
        simp only [rowL, nth, dropN, (Leaf.hpick c _ _ k0 j0).2, (Leaf.hpick c _ _ k1 j1).2, (Leaf.hpick c _ _ k2 j2).2, (Leaf.hpick c _ _ k3 j3).2]
        cases c () <;> rfl
      · cases h2
    · cases h1
instance sizGive : Siz Give := ⟨fun x => Siz.fit x.who ∧ Siz.fit x.epoch ∧ Siz.fit x.num ∧ Siz.fit x.text, fun x => Siz.bulk x.who + Siz.bulk x.epoch + Siz.bulk x.num + Siz.bulk x.text + 1⟩
theorem Give.eta (x : Give) : (⟨x.who, x.epoch, x.num, x.text⟩ : Give) = x := rfl
theorem Give.one_le (x : Give) : 1 ≤ Siz.bulk x := Nat.le_add_left _ _
structure PairAct where
  kind : Int
  who : Int
  n : Int
  deriving DecidableEq
instance datPairAct : Dat PairAct where
  d0 := ⟨0, 0, 0⟩
  sz := 3
  enc x := [Leaf.av fun _ => (x ()).kind, Leaf.av fun _ => (x ()).who, Leaf.av fun _ => (x ()).n]
  dec l := match l with | [a0, a1, a2] => ⟨Leaf.val a0, Leaf.val a1, Leaf.val a2⟩ | _ => ⟨0, 0, 0⟩
  ok l := match l with | [a0, a1, a2] => Leaf.ok Int a0 ∧ Leaf.ok Int a1 ∧ Leaf.ok Int a2 | _ => False
  hlen _ := rfl
  hclosed x := by simp only [closedL, Leaf.hclosed]
  hdec x := by simp only [Leaf.hval]
  hok x := ⟨Leaf.hok _, Leaf.hok _, Leaf.hok _⟩
  hle l h := by
    split at h
    · obtain ⟨k0, k1, k2⟩ := h
      exact .mk (Leaf.hle _ k0) (.mk (Leaf.hle _ k1) (.mk (Leaf.hle _ k2) (trivial)))
    · cases h
  hpick c l m h1 h2 := by
    split at h1
    · split at h2
      · obtain ⟨k0, k1, k2⟩ := h1
        obtain ⟨j0, j1, j2⟩ := h2
        refine ⟨⟨(Leaf.hpick c _ _ k0 j0).1, (Leaf.hpick c _ _ k1 j1).1, (Leaf.hpick c _ _ k2 j2).1⟩, ?_⟩
        have e := (fun (u : Bool) => rfl : ∀ u : Bool, u = u)
        simp only [rowL, nth, dropN, (Leaf.hpick c _ _ k0 j0).2, (Leaf.hpick c _ _ k1 j1).2, (Leaf.hpick c _ _ k2 j2).2]
        cases c () <;> rfl
      · cases h2
    · cases h1
instance sizPairAct : Siz PairAct := ⟨fun x => Siz.fit x.kind ∧ Siz.fit x.who ∧ Siz.fit x.n, fun x => Siz.bulk x.kind + Siz.bulk x.who + Siz.bulk x.n + 1⟩
theorem PairAct.eta (x : PairAct) : (⟨x.kind, x.who, x.n⟩ : PairAct) = x := rfl
theorem PairAct.one_le (x : PairAct) : 1 ≤ Siz.bulk x := Nat.le_add_left _ _
structure Node where
  epoch : Int
  vm : Vm
  read : Int
  outs : (List Emit)
  sent : Int
  deriving DecidableEq
instance datNode : Dat Node where
  d0 := ⟨0, ⟨0, [], false, false⟩, 0, [], 0⟩
  sz := 8
  enc x := [Leaf.av fun _ => (x ()).epoch, Leaf.av fun _ => (x ()).vm.at_, Leaf.av fun _ => (x ()).vm.regs, Leaf.av fun _ => (x ()).vm.halts, Leaf.av fun _ => (x ()).vm.fault, Leaf.av fun _ => (x ()).read, Leaf.av fun _ => (x ()).outs, Leaf.av fun _ => (x ()).sent]
  dec l := match l with | [a0, a1, a2, a3, a4, a5, a6, a7] => ⟨Leaf.val a0, ⟨Leaf.val a1, Leaf.val a2, Leaf.val a3, Leaf.val a4⟩, Leaf.val a5, Leaf.val a6, Leaf.val a7⟩ | _ => ⟨0, ⟨0, [], false, false⟩, 0, [], 0⟩
  ok l := match l with | [a0, a1, a2, a3, a4, a5, a6, a7] => Leaf.ok Int a0 ∧ Leaf.ok Int a1 ∧ Leaf.ok (List Int) a2 ∧ Leaf.ok Bool a3 ∧ Leaf.ok Bool a4 ∧ Leaf.ok Int a5 ∧ Leaf.ok (List Emit) a6 ∧ Leaf.ok Int a7 | _ => False
  hlen _ := rfl
  hclosed x := by simp only [closedL, Leaf.hclosed]
  hdec x := by simp only [Leaf.hval]
  hok x := ⟨Leaf.hok _, Leaf.hok _, Leaf.hok _, Leaf.hok _, Leaf.hok _, Leaf.hok _, Leaf.hok _, Leaf.hok _⟩
  hle l h := by
    split at h
    · obtain ⟨k0, k1, k2, k3, k4, k5, k6, k7⟩ := h
      exact .mk (Leaf.hle _ k0) (.mk (Leaf.hle _ k1) (.mk (Leaf.hle _ k2) (.mk (Leaf.hle _ k3) (.mk (Leaf.hle _ k4) (.mk (Leaf.hle _ k5) (.mk (Leaf.hle _ k6) (.mk (Leaf.hle _ k7) (trivial))))))))
    · cases h
  hpick c l m h1 h2 := by
    split at h1
    · split at h2
      · obtain ⟨k0, k1, k2, k3, k4, k5, k6, k7⟩ := h1
        obtain ⟨j0, j1, j2, j3, j4, j5, j6, j7⟩ := h2
        refine ⟨⟨(Leaf.hpick c _ _ k0 j0).1, (Leaf.hpick c _ _ k1 j1).1, (Leaf.hpick c _ _ k2 j2).1, (Leaf.hpick c _ _ k3 j3).1, (Leaf.hpick c _ _ k4 j4).1, (Leaf.hpick c _ _ k5 j5).1, (Leaf.hpick c _ _ k6 j6).1, (Leaf.hpick c _ _ k7 j7).1⟩, ?_⟩
        have e := (fun (u : Bool) => rfl : ∀ u : Bool, u = u)
        simp only [rowL, nth, dropN, (Leaf.hpick c _ _ k0 j0).2, (Leaf.hpick c _ _ k1 j1).2, (Leaf.hpick c _ _ k2 j2).2, (Leaf.hpick c _ _ k3 j3).2, (Leaf.hpick c _ _ k4 j4).2, (Leaf.hpick c _ _ k5 j5).2, (Leaf.hpick c _ _ k6 j6).2, (Leaf.hpick c _ _ k7 j7).2]
        cases c () <;> rfl
      · cases h2
    · cases h1
instance sizNode : Siz Node := ⟨fun x => Siz.fit x.epoch ∧ Siz.fit x.vm ∧ Siz.fit x.read ∧ Siz.fit x.outs ∧ Siz.fit x.sent, fun x => Siz.bulk x.epoch + Siz.bulk x.vm + Siz.bulk x.read + Siz.bulk x.outs + Siz.bulk x.sent + 1⟩
theorem Node.eta (x : Node) : (⟨x.epoch, x.vm, x.read, x.outs, x.sent⟩ : Node) = x := rfl
theorem Node.one_le (x : Node) : 1 ≤ Siz.bulk x := Nat.le_add_left _ _
structure Pair where
  log : (List Int)
  fence : Fence
  nodes : (List Node)
  saved : (List Node)
  gate : Gate
  deriving DecidableEq
instance datPair : Dat Pair where
  d0 := ⟨[], ⟨0, 0⟩, [], [], ⟨⟨0, 0⟩, []⟩⟩
  sz := 8
  enc x := [Leaf.av fun _ => (x ()).log, Leaf.av fun _ => (x ()).fence.epoch, Leaf.av fun _ => (x ()).fence.owner, Leaf.av fun _ => (x ()).nodes, Leaf.av fun _ => (x ()).saved, Leaf.av fun _ => (x ()).gate.fence.epoch, Leaf.av fun _ => (x ()).gate.fence.owner, Leaf.av fun _ => (x ()).gate.out]
  dec l := match l with | [a0, a1, a2, a3, a4, a5, a6, a7] => ⟨Leaf.val a0, ⟨Leaf.val a1, Leaf.val a2⟩, Leaf.val a3, Leaf.val a4, ⟨⟨Leaf.val a5, Leaf.val a6⟩, Leaf.val a7⟩⟩ | _ => ⟨[], ⟨0, 0⟩, [], [], ⟨⟨0, 0⟩, []⟩⟩
  ok l := match l with | [a0, a1, a2, a3, a4, a5, a6, a7] => Leaf.ok (List Int) a0 ∧ Leaf.ok Int a1 ∧ Leaf.ok Int a2 ∧ Leaf.ok (List Node) a3 ∧ Leaf.ok (List Node) a4 ∧ Leaf.ok Int a5 ∧ Leaf.ok Int a6 ∧ Leaf.ok (List ByteArray) a7 | _ => False
  hlen _ := rfl
  hclosed x := by simp only [closedL, Leaf.hclosed]
  hdec x := by simp only [Leaf.hval]
  hok x := ⟨Leaf.hok _, Leaf.hok _, Leaf.hok _, Leaf.hok _, Leaf.hok _, Leaf.hok _, Leaf.hok _, Leaf.hok _⟩
  hle l h := by
    split at h
    · obtain ⟨k0, k1, k2, k3, k4, k5, k6, k7⟩ := h
      exact .mk (Leaf.hle _ k0) (.mk (Leaf.hle _ k1) (.mk (Leaf.hle _ k2) (.mk (Leaf.hle _ k3) (.mk (Leaf.hle _ k4) (.mk (Leaf.hle _ k5) (.mk (Leaf.hle _ k6) (.mk (Leaf.hle _ k7) (trivial))))))))
    · cases h
  hpick c l m h1 h2 := by
    split at h1
    · split at h2
      · obtain ⟨k0, k1, k2, k3, k4, k5, k6, k7⟩ := h1
        obtain ⟨j0, j1, j2, j3, j4, j5, j6, j7⟩ := h2
        refine ⟨⟨(Leaf.hpick c _ _ k0 j0).1, (Leaf.hpick c _ _ k1 j1).1, (Leaf.hpick c _ _ k2 j2).1, (Leaf.hpick c _ _ k3 j3).1, (Leaf.hpick c _ _ k4 j4).1, (Leaf.hpick c _ _ k5 j5).1, (Leaf.hpick c _ _ k6 j6).1, (Leaf.hpick c _ _ k7 j7).1⟩, ?_⟩
        have e := (fun (u : Bool) => rfl : ∀ u : Bool, u = u)
        simp only [rowL, nth, dropN, (Leaf.hpick c _ _ k0 j0).2, (Leaf.hpick c _ _ k1 j1).2, (Leaf.hpick c _ _ k2 j2).2, (Leaf.hpick c _ _ k3 j3).2, (Leaf.hpick c _ _ k4 j4).2, (Leaf.hpick c _ _ k5 j5).2, (Leaf.hpick c _ _ k6 j6).2, (Leaf.hpick c _ _ k7 j7).2]
        cases c () <;> rfl
      · cases h2
    · cases h1
instance sizPair : Siz Pair := ⟨fun x => Siz.fit x.log ∧ Siz.fit x.fence ∧ Siz.fit x.nodes ∧ Siz.fit x.saved ∧ Siz.fit x.gate, fun x => Siz.bulk x.log + Siz.bulk x.fence + Siz.bulk x.nodes + Siz.bulk x.saved + Siz.bulk x.gate + 1⟩
theorem Pair.eta (x : Pair) : (⟨x.log, x.fence, x.nodes, x.saved, x.gate⟩ : Pair) = x := rfl
theorem Pair.one_le (x : Pair) : 1 ≤ Siz.bulk x := Nat.le_add_left _ _
noncomputable def tys : TypeId → Ty := fun t => match t with
  | 1 => .one
  | 2 => .int .i64
  | 3 => .int .i64
  | 4 => .bool
  | 5 => .int .u8
  | 9 => .str
  | 12 => .int .u64
  | 13 => .struct none [(0, 9, 1), (1, 12, 1)] 2 [.s fun _ => .empty, .i .u64 fun _ => 0]
  | 21 => .int .i32
  | 22 => .slice 76 3 24 [.i .i64 fun _ => 0, .i .i64 fun _ => 0, .i .i64 fun _ => 0]
  | 23 => .slice 41 3 24 [.i .i64 fun _ => 0, .i .i64 fun _ => 0, .i .i64 fun _ => 0]
  | 24 => .slice 3 1 8 [.i .i64 fun _ => 0]
  | 25 => .struct (some [.i, .i]) [(0, 3, 1), (1, 3, 1)] 2 [.i .i64 fun _ => 0, .i .i64 fun _ => 0]
  | 26 => .struct (some [.i, .i]) [(0, 3, 1), (1, 3, 1)] 2 [.i .i64 fun _ => 0, .i .i64 fun _ => 0]
  | 27 => .slice 49 8 88 [.i .i64 fun _ => 0, .i .i64 fun _ => 0, .nil, .bc false, .bc false, .i .i64 fun _ => 0, .nil, .i .i64 fun _ => 0]
  | 28 => .slice 9 1 16 [.s fun _ => .empty]
  | 29 => .struct none [(0, 26, 2), (2, 28, 1)] 3 [.i .i64 fun _ => 0, .i .i64 fun _ => 0, .nil]
  | 30 => .struct none [(0, 26, 2), (2, 28, 1)] 3 [.i .i64 fun _ => 0, .i .i64 fun _ => 0, .nil]
  | 31 => .struct none [(0, 24, 1), (1, 26, 2), (3, 27, 1), (4, 27, 1), (5, 30, 3)] 8 [.nil, .i .i64 fun _ => 0, .i .i64 fun _ => 0, .nil, .nil, .i .i64 fun _ => 0, .i .i64 fun _ => 0, .nil]
  | 32 => .struct none [(0, 24, 1), (1, 26, 2), (3, 27, 1), (4, 27, 1), (5, 30, 3)] 8 [.nil, .i .i64 fun _ => 0, .i .i64 fun _ => 0, .nil, .nil, .i .i64 fun _ => 0, .i .i64 fun _ => 0, .nil]
  | 33 => .slice 34 1 8 [.i .i64 fun _ => 0]
  | 34 => .int .i64
  | 36 => .one
  | 37 => .one
  | 39 => .one
  | 40 => .struct (some [.i, .i, .i]) [(0, 3, 1), (1, 3, 1), (2, 3, 1)] 3 [.i .i64 fun _ => 0, .i .i64 fun _ => 0, .i .i64 fun _ => 0]
  | 41 => .struct (some [.i, .i, .i]) [(0, 3, 1), (1, 3, 1), (2, 3, 1)] 3 [.i .i64 fun _ => 0, .i .i64 fun _ => 0, .i .i64 fun _ => 0]
  | 42 => .one
  | 43 => .one
  | 44 => .one
  | 45 => .struct none [(0, 3, 1), (1, 24, 1), (2, 4, 1), (3, 4, 1)] 4 [.i .i64 fun _ => 0, .nil, .bc false, .bc false]
  | 46 => .struct none [(0, 3, 1), (1, 24, 1), (2, 4, 1), (3, 4, 1)] 4 [.i .i64 fun _ => 0, .nil, .bc false, .bc false]
  | 47 => .slice 52 2 16 [.i .i64 fun _ => 0, .i .i64 fun _ => 0]
  | 48 => .struct none [(0, 3, 1), (1, 46, 4), (5, 3, 1), (6, 47, 1), (7, 3, 1)] 8 [.i .i64 fun _ => 0, .i .i64 fun _ => 0, .nil, .bc false, .bc false, .i .i64 fun _ => 0, .nil, .i .i64 fun _ => 0]
  | 49 => .struct none [(0, 3, 1), (1, 46, 4), (5, 3, 1), (6, 47, 1), (7, 3, 1)] 8 [.i .i64 fun _ => 0, .i .i64 fun _ => 0, .nil, .bc false, .bc false, .i .i64 fun _ => 0, .nil, .i .i64 fun _ => 0]
  | 50 => .one
  | 51 => .struct (some [.i, .i]) [(0, 3, 1), (1, 3, 1)] 2 [.i .i64 fun _ => 0, .i .i64 fun _ => 0]
  | 52 => .struct (some [.i, .i]) [(0, 3, 1), (1, 3, 1)] 2 [.i .i64 fun _ => 0, .i .i64 fun _ => 0]
  | 53 => .one
  | 54 => .one
  | 55 => .one
  | 57 => .one
  | 58 => .one
  | 59 => .one
  | 60 => .one
  | 61 => .struct none [(0, 32, 8), (8, 22, 1)] 9 [.nil, .i .i64 fun _ => 0, .i .i64 fun _ => 0, .nil, .nil, .i .i64 fun _ => 0, .i .i64 fun _ => 0, .nil, .nil]
  | 62 => .struct none [(0, 32, 8), (8, 22, 1)] 9 [.nil, .i .i64 fun _ => 0, .i .i64 fun _ => 0, .nil, .nil, .i .i64 fun _ => 0, .i .i64 fun _ => 0, .nil, .nil]
  | 63 => .one
  | 64 => .one
  | 65 => .one
  | 66 => .one
  | 67 => .one
  | 68 => .one
  | 69 => .one
  | 70 => .one
  | 71 => .one
  | 72 => .struct none [(0, 46, 4), (4, 22, 1), (5, 24, 1), (6, 47, 1)] 7 [.i .i64 fun _ => 0, .nil, .bc false, .bc false, .nil, .nil, .nil]
  | 73 => .struct none [(0, 46, 4), (4, 22, 1), (5, 24, 1), (6, 47, 1)] 7 [.i .i64 fun _ => 0, .nil, .bc false, .bc false, .nil, .nil, .nil]
  | 74 => .one
  | 75 => .struct (some [.i, .i, .i]) [(0, 3, 1), (1, 3, 1), (2, 3, 1)] 3 [.i .i64 fun _ => 0, .i .i64 fun _ => 0, .i .i64 fun _ => 0]
  | 76 => .struct (some [.i, .i, .i]) [(0, 3, 1), (1, 3, 1), (2, 3, 1)] 3 [.i .i64 fun _ => 0, .i .i64 fun _ => 0, .i .i64 fun _ => 0]
  | 77 => .one
  | 78 => .one
  | 79 => .one
  | 80 => .one
  | 83 => .one
  | 84 => .one
  | 85 => .one
  | 86 => .one
  | 87 => .one
  | 89 => .one
  | 91 => .one
  | 93 => .one
  | 94 => .one
  | 95 => .struct (some [.i, .i, .i, .s]) [(0, 3, 1), (1, 3, 1), (2, 3, 1), (3, 9, 1)] 4 [.i .i64 fun _ => 0, .i .i64 fun _ => 0, .i .i64 fun _ => 0, .s fun _ => .empty]
  | 96 => .struct (some [.i, .i, .i, .s]) [(0, 3, 1), (1, 3, 1), (2, 3, 1), (3, 9, 1)] 4 [.i .i64 fun _ => 0, .i .i64 fun _ => 0, .i .i64 fun _ => 0, .s fun _ => .empty]
  | 97 => .one
  | 98 => .one
  | 99 => .one
  | 100 => .one
  | 101 => .one
  | 102 => .one
  | 103 => .one
  | 104 => .one
  | 105 => .one
  | 107 => .int .u64
  | 108 => .one
  | 109 => .one
  | 110 => .slice 5 1 1 [.i .u8 fun _ => 0]
  | 112 => .one
  | 113 => .one
  | 114 => .one
  | 115 => .one
  | 117 => .int .u32
  | 119 => .int .u64
  | 120 => .one
  | 121 => .one
  | 124 => .one
  | 130 => .one
  | 133 => .one
  | _ => .other
noncomputable def ars : TypeId → Option Arr := fun t => match t with
  | _ => none
def fms : TypeId → Bool := fun t => match t with | 81 => true | _ => false
set_option maxRecDepth 100000
theorem fmsOk : ∀ t, fms t = true → FmOk Tryd.prog t := fun t h => by
  unfold fms at h
  split at h
  · exact ⟨_, _, rfl, rfl, fun w => by kernel_rfl⟩
  · cases h
def mts : TypeId → String → Option FuncId := fun t n => match t with
  | 9 => none
  | _ => none
def nifs : TypeId → Bool := fun t => match t with
  | 9 => true
  | _ => false
noncomputable def E : Env := { ty := tys, ar := ars, fr := frs, bd := bds, fm := fms, mt := mts, nif := nifs }
noncomputable def Ew (w : List Nat) : Env := { ty := tys, wr := w, ar := ars, fr := frs, bd := bds, fm := fms, mt := mts, nif := nifs }
set_option maxRecDepth 100000
theorem envOkW (w : List Nat) : EnvOk Tryd.prog (Ew w) := ⟨fun t => by
  show TyOk Tryd.prog t (tys t)
  unfold tys
  split
  · exact ⟨⟨_, rfl, rfl⟩, ⟨_, rfl, rfl, _, rfl, rfl, rfl⟩⟩
  · exact ⟨rfl, _, rfl, rfl, _, rfl, rfl, rfl⟩
  · exact ⟨rfl, _, rfl, rfl, _, rfl, rfl, rfl⟩
  · exact ⟨rfl, _, rfl, rfl, _, rfl, rfl, rfl⟩
  · exact ⟨rfl, _, rfl, rfl, _, rfl, rfl, rfl⟩
  · exact ⟨rfl, _, rfl, rfl, _, rfl, rfl, rfl⟩
  · exact ⟨rfl, _, rfl, rfl, _, rfl, rfl, rfl⟩
  · exact ⟨⟨_, rfl, by kernel_rfl, fun ks h => by cases h⟩, ⟨_, rfl, rfl, _, rfl, rfl, rfl⟩⟩
  · exact ⟨rfl, _, rfl, rfl, _, rfl, rfl, rfl⟩
  · exact ⟨rfl, by omega, by omega, ⟨_, rfl, rfl, _, rfl, rfl, rfl⟩, rfl, ⟨_, rfl, rfl, _, rfl, rfl, rfl⟩, kdOf_at _ _ _ _ _ _ _⟩
  · exact ⟨rfl, by omega, by omega, ⟨_, rfl, rfl, _, rfl, rfl, rfl⟩, rfl, ⟨_, rfl, rfl, _, rfl, rfl, rfl⟩, kdOf_at _ _ _ _ _ _ _⟩
  · exact ⟨rfl, by omega, by omega, ⟨_, rfl, rfl, _, rfl, rfl, rfl⟩, rfl, ⟨_, rfl, rfl, _, rfl, rfl, rfl⟩, kdOf_at _ _ _ _ _ _ _⟩
  · exact ⟨⟨_, rfl, by kernel_rfl, fun ks h => by cases h; exact ⟨by kernel_rfl, by kernel_rfl, by kernel_rfl⟩⟩, ⟨_, rfl, rfl, _, rfl, rfl, rfl⟩⟩
  · exact ⟨⟨_, rfl, by kernel_rfl, fun ks h => by cases h; exact ⟨by kernel_rfl, by kernel_rfl, by kernel_rfl⟩⟩, ⟨_, rfl, rfl, _, rfl, rfl, rfl⟩⟩
  · exact ⟨rfl, by omega, by omega, ⟨_, rfl, rfl, _, rfl, rfl, rfl⟩, rfl, ⟨_, rfl, rfl, _, rfl, rfl, rfl⟩, kdOf_at _ _ _ _ _ _ _⟩
  · exact ⟨rfl, by omega, by omega, ⟨_, rfl, rfl, _, rfl, rfl, rfl⟩, rfl, ⟨_, rfl, rfl, _, rfl, rfl, rfl⟩, kdOf_at _ _ _ _ _ _ _⟩
  · exact ⟨⟨_, rfl, by kernel_rfl, fun ks h => by cases h⟩, ⟨_, rfl, rfl, _, rfl, rfl, rfl⟩⟩
  · exact ⟨⟨_, rfl, by kernel_rfl, fun ks h => by cases h⟩, ⟨_, rfl, rfl, _, rfl, rfl, rfl⟩⟩
  · exact ⟨⟨_, rfl, by kernel_rfl, fun ks h => by cases h⟩, ⟨_, rfl, rfl, _, rfl, rfl, rfl⟩⟩
  · exact ⟨⟨_, rfl, by kernel_rfl, fun ks h => by cases h⟩, ⟨_, rfl, rfl, _, rfl, rfl, rfl⟩⟩
  · exact ⟨rfl, by omega, by omega, ⟨_, rfl, rfl, _, rfl, rfl, rfl⟩, rfl, ⟨_, rfl, rfl, _, rfl, rfl, rfl⟩, kdOf_at _ _ _ _ _ _ _⟩
  · exact ⟨rfl, _, rfl, rfl, _, rfl, rfl, rfl⟩
  · exact ⟨⟨_, rfl, rfl⟩, ⟨_, rfl, rfl, _, rfl, rfl, rfl⟩⟩
  · exact ⟨⟨_, rfl, rfl⟩, ⟨_, rfl, rfl, _, rfl, rfl, rfl⟩⟩
  · exact ⟨⟨_, rfl, rfl⟩, ⟨_, rfl, rfl, _, rfl, rfl, rfl⟩⟩
  · exact ⟨⟨_, rfl, by kernel_rfl, fun ks h => by cases h; exact ⟨by kernel_rfl, by kernel_rfl, by kernel_rfl⟩⟩, ⟨_, rfl, rfl, _, rfl, rfl, rfl⟩⟩
  · exact ⟨⟨_, rfl, by kernel_rfl, fun ks h => by cases h; exact ⟨by kernel_rfl, by kernel_rfl, by kernel_rfl⟩⟩, ⟨_, rfl, rfl, _, rfl, rfl, rfl⟩⟩
  · exact ⟨⟨_, rfl, rfl⟩, ⟨_, rfl, rfl, _, rfl, rfl, rfl⟩⟩
  · exact ⟨⟨_, rfl, rfl⟩, ⟨_, rfl, rfl, _, rfl, rfl, rfl⟩⟩
  · exact ⟨⟨_, rfl, rfl⟩, ⟨_, rfl, rfl, _, rfl, rfl, rfl⟩⟩
  · exact ⟨⟨_, rfl, by kernel_rfl, fun ks h => by cases h⟩, ⟨_, rfl, rfl, _, rfl, rfl, rfl⟩⟩
  · exact ⟨⟨_, rfl, by kernel_rfl, fun ks h => by cases h⟩, ⟨_, rfl, rfl, _, rfl, rfl, rfl⟩⟩
  · exact ⟨rfl, by omega, by omega, ⟨_, rfl, rfl, _, rfl, rfl, rfl⟩, rfl, ⟨_, rfl, rfl, _, rfl, rfl, rfl⟩, kdOf_at _ _ _ _ _ _ _⟩
  · exact ⟨⟨_, rfl, by kernel_rfl, fun ks h => by cases h⟩, ⟨_, rfl, rfl, _, rfl, rfl, rfl⟩⟩
  · exact ⟨⟨_, rfl, by kernel_rfl, fun ks h => by cases h⟩, ⟨_, rfl, rfl, _, rfl, rfl, rfl⟩⟩
  · exact ⟨⟨_, rfl, rfl⟩, ⟨_, rfl, rfl, _, rfl, rfl, rfl⟩⟩
  · exact ⟨⟨_, rfl, by kernel_rfl, fun ks h => by cases h; exact ⟨by kernel_rfl, by kernel_rfl, by kernel_rfl⟩⟩, ⟨_, rfl, rfl, _, rfl, rfl, rfl⟩⟩
  · exact ⟨⟨_, rfl, by kernel_rfl, fun ks h => by cases h; exact ⟨by kernel_rfl, by kernel_rfl, by kernel_rfl⟩⟩, ⟨_, rfl, rfl, _, rfl, rfl, rfl⟩⟩
  · exact ⟨⟨_, rfl, rfl⟩, ⟨_, rfl, rfl, _, rfl, rfl, rfl⟩⟩
  · exact ⟨⟨_, rfl, rfl⟩, ⟨_, rfl, rfl, _, rfl, rfl, rfl⟩⟩
  · exact ⟨⟨_, rfl, rfl⟩, ⟨_, rfl, rfl, _, rfl, rfl, rfl⟩⟩
  · exact ⟨⟨_, rfl, rfl⟩, ⟨_, rfl, rfl, _, rfl, rfl, rfl⟩⟩
  · exact ⟨⟨_, rfl, rfl⟩, ⟨_, rfl, rfl, _, rfl, rfl, rfl⟩⟩
  · exact ⟨⟨_, rfl, rfl⟩, ⟨_, rfl, rfl, _, rfl, rfl, rfl⟩⟩
  · exact ⟨⟨_, rfl, rfl⟩, ⟨_, rfl, rfl, _, rfl, rfl, rfl⟩⟩
  · exact ⟨⟨_, rfl, by kernel_rfl, fun ks h => by cases h⟩, ⟨_, rfl, rfl, _, rfl, rfl, rfl⟩⟩
  · exact ⟨⟨_, rfl, by kernel_rfl, fun ks h => by cases h⟩, ⟨_, rfl, rfl, _, rfl, rfl, rfl⟩⟩
  · exact ⟨⟨_, rfl, rfl⟩, ⟨_, rfl, rfl, _, rfl, rfl, rfl⟩⟩
  · exact ⟨⟨_, rfl, rfl⟩, ⟨_, rfl, rfl, _, rfl, rfl, rfl⟩⟩
  · exact ⟨⟨_, rfl, rfl⟩, ⟨_, rfl, rfl, _, rfl, rfl, rfl⟩⟩
  · exact ⟨⟨_, rfl, rfl⟩, ⟨_, rfl, rfl, _, rfl, rfl, rfl⟩⟩
  · exact ⟨⟨_, rfl, rfl⟩, ⟨_, rfl, rfl, _, rfl, rfl, rfl⟩⟩
  · exact ⟨⟨_, rfl, rfl⟩, ⟨_, rfl, rfl, _, rfl, rfl, rfl⟩⟩
  · exact ⟨⟨_, rfl, rfl⟩, ⟨_, rfl, rfl, _, rfl, rfl, rfl⟩⟩
  · exact ⟨⟨_, rfl, rfl⟩, ⟨_, rfl, rfl, _, rfl, rfl, rfl⟩⟩
  · exact ⟨⟨_, rfl, rfl⟩, ⟨_, rfl, rfl, _, rfl, rfl, rfl⟩⟩
  · exact ⟨⟨_, rfl, by kernel_rfl, fun ks h => by cases h⟩, ⟨_, rfl, rfl, _, rfl, rfl, rfl⟩⟩
  · exact ⟨⟨_, rfl, by kernel_rfl, fun ks h => by cases h⟩, ⟨_, rfl, rfl, _, rfl, rfl, rfl⟩⟩
  · exact ⟨⟨_, rfl, rfl⟩, ⟨_, rfl, rfl, _, rfl, rfl, rfl⟩⟩
  · exact ⟨⟨_, rfl, by kernel_rfl, fun ks h => by cases h; exact ⟨by kernel_rfl, by kernel_rfl, by kernel_rfl⟩⟩, ⟨_, rfl, rfl, _, rfl, rfl, rfl⟩⟩
  · exact ⟨⟨_, rfl, by kernel_rfl, fun ks h => by cases h; exact ⟨by kernel_rfl, by kernel_rfl, by kernel_rfl⟩⟩, ⟨_, rfl, rfl, _, rfl, rfl, rfl⟩⟩
  · exact ⟨⟨_, rfl, rfl⟩, ⟨_, rfl, rfl, _, rfl, rfl, rfl⟩⟩
  · exact ⟨⟨_, rfl, rfl⟩, ⟨_, rfl, rfl, _, rfl, rfl, rfl⟩⟩
  · exact ⟨⟨_, rfl, rfl⟩, ⟨_, rfl, rfl, _, rfl, rfl, rfl⟩⟩
  · exact ⟨⟨_, rfl, rfl⟩, ⟨_, rfl, rfl, _, rfl, rfl, rfl⟩⟩
  · exact ⟨⟨_, rfl, rfl⟩, ⟨_, rfl, rfl, _, rfl, rfl, rfl⟩⟩
  · exact ⟨⟨_, rfl, rfl⟩, ⟨_, rfl, rfl, _, rfl, rfl, rfl⟩⟩
  · exact ⟨⟨_, rfl, rfl⟩, ⟨_, rfl, rfl, _, rfl, rfl, rfl⟩⟩
  · exact ⟨⟨_, rfl, rfl⟩, ⟨_, rfl, rfl, _, rfl, rfl, rfl⟩⟩
  · exact ⟨⟨_, rfl, rfl⟩, ⟨_, rfl, rfl, _, rfl, rfl, rfl⟩⟩
  · exact ⟨⟨_, rfl, rfl⟩, ⟨_, rfl, rfl, _, rfl, rfl, rfl⟩⟩
  · exact ⟨⟨_, rfl, rfl⟩, ⟨_, rfl, rfl, _, rfl, rfl, rfl⟩⟩
  · exact ⟨⟨_, rfl, rfl⟩, ⟨_, rfl, rfl, _, rfl, rfl, rfl⟩⟩
  · exact ⟨⟨_, rfl, rfl⟩, ⟨_, rfl, rfl, _, rfl, rfl, rfl⟩⟩
  · exact ⟨⟨_, rfl, by kernel_rfl, fun ks h => by cases h; exact ⟨by kernel_rfl, by kernel_rfl, by kernel_rfl⟩⟩, ⟨_, rfl, rfl, _, rfl, rfl, rfl⟩⟩
  · exact ⟨⟨_, rfl, by kernel_rfl, fun ks h => by cases h; exact ⟨by kernel_rfl, by kernel_rfl, by kernel_rfl⟩⟩, ⟨_, rfl, rfl, _, rfl, rfl, rfl⟩⟩
  · exact ⟨⟨_, rfl, rfl⟩, ⟨_, rfl, rfl, _, rfl, rfl, rfl⟩⟩
  · exact ⟨⟨_, rfl, rfl⟩, ⟨_, rfl, rfl, _, rfl, rfl, rfl⟩⟩
  · exact ⟨⟨_, rfl, rfl⟩, ⟨_, rfl, rfl, _, rfl, rfl, rfl⟩⟩
  · exact ⟨⟨_, rfl, rfl⟩, ⟨_, rfl, rfl, _, rfl, rfl, rfl⟩⟩
  · exact ⟨⟨_, rfl, rfl⟩, ⟨_, rfl, rfl, _, rfl, rfl, rfl⟩⟩
  · exact ⟨⟨_, rfl, rfl⟩, ⟨_, rfl, rfl, _, rfl, rfl, rfl⟩⟩
  · exact ⟨⟨_, rfl, rfl⟩, ⟨_, rfl, rfl, _, rfl, rfl, rfl⟩⟩
  · exact ⟨⟨_, rfl, rfl⟩, ⟨_, rfl, rfl, _, rfl, rfl, rfl⟩⟩
  · exact ⟨⟨_, rfl, rfl⟩, ⟨_, rfl, rfl, _, rfl, rfl, rfl⟩⟩
  · exact ⟨rfl, _, rfl, rfl, _, rfl, rfl, rfl⟩
  · exact ⟨⟨_, rfl, rfl⟩, ⟨_, rfl, rfl, _, rfl, rfl, rfl⟩⟩
  · exact ⟨⟨_, rfl, rfl⟩, ⟨_, rfl, rfl, _, rfl, rfl, rfl⟩⟩
  · exact ⟨rfl, by omega, by omega, ⟨_, rfl, rfl, _, rfl, rfl, rfl⟩, rfl, ⟨_, rfl, rfl, _, rfl, rfl, rfl⟩, kdOf_at _ _ _ _ _ _ _⟩
  · exact ⟨⟨_, rfl, rfl⟩, ⟨_, rfl, rfl, _, rfl, rfl, rfl⟩⟩
  · exact ⟨⟨_, rfl, rfl⟩, ⟨_, rfl, rfl, _, rfl, rfl, rfl⟩⟩
  · exact ⟨⟨_, rfl, rfl⟩, ⟨_, rfl, rfl, _, rfl, rfl, rfl⟩⟩
  · exact ⟨⟨_, rfl, rfl⟩, ⟨_, rfl, rfl, _, rfl, rfl, rfl⟩⟩
  · exact ⟨rfl, _, rfl, rfl, _, rfl, rfl, rfl⟩
  · exact ⟨rfl, _, rfl, rfl, _, rfl, rfl, rfl⟩
  · exact ⟨⟨_, rfl, rfl⟩, ⟨_, rfl, rfl, _, rfl, rfl, rfl⟩⟩
  · exact ⟨⟨_, rfl, rfl⟩, ⟨_, rfl, rfl, _, rfl, rfl, rfl⟩⟩
  · exact ⟨⟨_, rfl, rfl⟩, ⟨_, rfl, rfl, _, rfl, rfl, rfl⟩⟩
  · exact ⟨⟨_, rfl, rfl⟩, ⟨_, rfl, rfl, _, rfl, rfl, rfl⟩⟩
  · exact ⟨⟨_, rfl, rfl⟩, ⟨_, rfl, rfl, _, rfl, rfl, rfl⟩⟩
  · trivial, (fun t r h => by
  have h : ars t = some r := h
  unfold ars at h
  split at h
  · cases h), (fun f h => by cases h),
  (fun t n f h => by
  have h : mts t n = some f := h
  unfold mts at h
  split at h
  · cases h
  · cases h), (fun t h => by
  have h : nifs t = true := h
  unfold nifs at h
  split at h
  · exact ⟨_, rfl, rfl⟩
  · cases h), (fun e => rfl), (fun t ks h => by cases h), (fun f => rfl), (fun t h => fmsOk t h)⟩
theorem envOk : EnvOk Tryd.prog E := envOkW []
theorem zlW (w : List Nat) : Zl (Ew w) := ⟨fun t e sz b z h => by
  have h : tys t = .slice e sz b z := h
  unfold tys at h
  split at h <;> cases h <;> rfl⟩
theorem zl : Zl E := zlW []
theorem mixed : Tryd.prog.follows .mixedOrders = true := by kernel_rfl
def noCon : FuncId → Con := fun _ _ _ _ => Bad 1000
theorem noCon_ok : ConOk Tryd.prog noCon := fun f A H K h => by cases h
def noDet : FuncId → Option Dt := fun _ => none
theorem noDet_ok : DetOk Tryd.prog noDet := fun f d h => by cases h
set_option maxRecDepth 100000
theorem opn_Ins : Opn Tryd.prog 76 Ins := by
  intro H enc w fuel cs x h
  obtain ⟨xs, n, _, rfl, hl, hxl, hf⟩ := DataW.trod_struct Tryd.underlying76 h
  rw [show Tryd.prog.cellsOf 76 = 3 by kernel_rfl] at hl
  obtain ⟨c0, c1, c2, rfl⟩ : ∃ c0 c1 c2, cs = [c0, c1, c2] := by
    match cs, hl with | [c0, c1, c2], _ => exact ⟨c0, c1, c2, rfl⟩
  obtain ⟨x0, x1, x2, rfl⟩ : ∃ x0 x1 x2, xs = [x0, x1, x2] := by
    match xs, hxl with | [x0, x1, x2], _ => exact ⟨x0, x1, x2, rfl⟩
  have h0 : DataW.trod enc Tryd.prog w 0 (fun _ => true) true n 3 (([c0, c1, c2].drop 0).take (Tryd.prog.cellsOf 3)) = some x0 := hf 0 _ rfl
  rw [show Tryd.prog.cellsOf 3 = 1 by kernel_rfl] at h0
  have h0 : DataW.trod enc Tryd.prog w 0 (fun _ => true) true n 3 [c0] = some x0 := h0
  obtain ⟨y0, u0, b0, e0⟩ := (opn_int Tryd.underlying3) h0
  have h1 : DataW.trod enc Tryd.prog w 0 (fun _ => true) true n 3 (([c0, c1, c2].drop 1).take (Tryd.prog.cellsOf 3)) = some x1 := hf 1 _ rfl
  rw [show Tryd.prog.cellsOf 3 = 1 by kernel_rfl] at h1
  have h1 : DataW.trod enc Tryd.prog w 0 (fun _ => true) true n 3 [c1] = some x1 := h1
  obtain ⟨y1, u1, b1, e1⟩ := (opn_int Tryd.underlying3) h1
  have h2 : DataW.trod enc Tryd.prog w 0 (fun _ => true) true n 3 (([c0, c1, c2].drop 2).take (Tryd.prog.cellsOf 3)) = some x2 := hf 2 _ rfl
  rw [show Tryd.prog.cellsOf 3 = 1 by kernel_rfl] at h2
  have h2 : DataW.trod enc Tryd.prog w 0 (fun _ => true) true n 3 [c2] = some x2 := h2
  obtain ⟨y2, u2, b2, e2⟩ := (opn_int Tryd.underlying3) h2
  exact ⟨⟨y0, y1, y2⟩, ⟨u0, u1, u2⟩, by simp only [Siz.bulk, bulkD, bulkL, List.map] at *; omega, openCs_app e0 (openCs_app e1 (openCs_app e2 (openCs_nil)))⟩
theorem opn_Vm : Opn Tryd.prog 46 Vm := by
  intro H enc w fuel cs x h
  obtain ⟨xs, n, _, rfl, hl, hxl, hf⟩ := DataW.trod_struct Tryd.underlying46 h
  rw [show Tryd.prog.cellsOf 46 = 4 by kernel_rfl] at hl
  obtain ⟨c0, c1, c2, c3, rfl⟩ : ∃ c0 c1 c2 c3, cs = [c0, c1, c2, c3] := by
    match cs, hl with | [c0, c1, c2, c3], _ => exact ⟨c0, c1, c2, c3, rfl⟩
  obtain ⟨x0, x1, x2, x3, rfl⟩ : ∃ x0 x1 x2 x3, xs = [x0, x1, x2, x3] := by
    match xs, hxl with | [x0, x1, x2, x3], _ => exact ⟨x0, x1, x2, x3, rfl⟩
  have h0 : DataW.trod enc Tryd.prog w 0 (fun _ => true) true n 3 (([c0, c1, c2, c3].drop 0).take (Tryd.prog.cellsOf 3)) = some x0 := hf 0 _ rfl
  rw [show Tryd.prog.cellsOf 3 = 1 by kernel_rfl] at h0
  have h0 : DataW.trod enc Tryd.prog w 0 (fun _ => true) true n 3 [c0] = some x0 := h0
  obtain ⟨y0, u0, b0, e0⟩ := (opn_int Tryd.underlying3) h0
  have h1 : DataW.trod enc Tryd.prog w 0 (fun _ => true) true n 24 (([c0, c1, c2, c3].drop 1).take (Tryd.prog.cellsOf 24)) = some x1 := hf 1 _ rfl
  rw [show Tryd.prog.cellsOf 24 = 1 by kernel_rfl] at h1
  have h1 : DataW.trod enc Tryd.prog w 0 (fun _ => true) true n 24 [c1] = some x1 := h1
  obtain ⟨y1, u1, b1, e1⟩ := (opn_slice Tryd.underlying24 (by kernel_rfl) (by decide) (opn_int Tryd.underlying3)) h1
  have h2 : DataW.trod enc Tryd.prog w 0 (fun _ => true) true n 4 (([c0, c1, c2, c3].drop 2).take (Tryd.prog.cellsOf 4)) = some x2 := hf 2 _ rfl
  rw [show Tryd.prog.cellsOf 4 = 1 by kernel_rfl] at h2
  have h2 : DataW.trod enc Tryd.prog w 0 (fun _ => true) true n 4 [c2] = some x2 := h2
  obtain ⟨y2, u2, b2, e2⟩ := (opn_bool Tryd.underlying4) h2
  have h3 : DataW.trod enc Tryd.prog w 0 (fun _ => true) true n 4 (([c0, c1, c2, c3].drop 3).take (Tryd.prog.cellsOf 4)) = some x3 := hf 3 _ rfl
  rw [show Tryd.prog.cellsOf 4 = 1 by kernel_rfl] at h3
  have h3 : DataW.trod enc Tryd.prog w 0 (fun _ => true) true n 4 [c3] = some x3 := h3
  obtain ⟨y3, u3, b3, e3⟩ := (opn_bool Tryd.underlying4) h3
  exact ⟨⟨y0, y1, y2, y3⟩, ⟨u0, u1, u2, u3⟩, by simp only [Siz.bulk, bulkD, bulkL, List.map] at *; omega, openCs_app e0 (openCs_app e1 (openCs_app e2 (openCs_app e3 (openCs_nil))))⟩
theorem opn_Emit : Opn Tryd.prog 52 Emit := by
  intro H enc w fuel cs x h
  obtain ⟨xs, n, _, rfl, hl, hxl, hf⟩ := DataW.trod_struct Tryd.underlying52 h
  rw [show Tryd.prog.cellsOf 52 = 2 by kernel_rfl] at hl
  obtain ⟨c0, c1, rfl⟩ : ∃ c0 c1, cs = [c0, c1] := by
    match cs, hl with | [c0, c1], _ => exact ⟨c0, c1, rfl⟩
  obtain ⟨x0, x1, rfl⟩ : ∃ x0 x1, xs = [x0, x1] := by
    match xs, hxl with | [x0, x1], _ => exact ⟨x0, x1, rfl⟩
  have h0 : DataW.trod enc Tryd.prog w 0 (fun _ => true) true n 3 (([c0, c1].drop 0).take (Tryd.prog.cellsOf 3)) = some x0 := hf 0 _ rfl
  rw [show Tryd.prog.cellsOf 3 = 1 by kernel_rfl] at h0
  have h0 : DataW.trod enc Tryd.prog w 0 (fun _ => true) true n 3 [c0] = some x0 := h0
  obtain ⟨y0, u0, b0, e0⟩ := (opn_int Tryd.underlying3) h0
  have h1 : DataW.trod enc Tryd.prog w 0 (fun _ => true) true n 3 (([c0, c1].drop 1).take (Tryd.prog.cellsOf 3)) = some x1 := hf 1 _ rfl
  rw [show Tryd.prog.cellsOf 3 = 1 by kernel_rfl] at h1
  have h1 : DataW.trod enc Tryd.prog w 0 (fun _ => true) true n 3 [c1] = some x1 := h1
  obtain ⟨y1, u1, b1, e1⟩ := (opn_int Tryd.underlying3) h1
  exact ⟨⟨y0, y1⟩, ⟨u0, u1⟩, by simp only [Siz.bulk, bulkD, bulkL, List.map] at *; omega, openCs_app e0 (openCs_app e1 (openCs_nil))⟩
theorem opn_Fence : Opn Tryd.prog 26 Fence := by
  intro H enc w fuel cs x h
  obtain ⟨xs, n, _, rfl, hl, hxl, hf⟩ := DataW.trod_struct Tryd.underlying26 h
  rw [show Tryd.prog.cellsOf 26 = 2 by kernel_rfl] at hl
  obtain ⟨c0, c1, rfl⟩ : ∃ c0 c1, cs = [c0, c1] := by
    match cs, hl with | [c0, c1], _ => exact ⟨c0, c1, rfl⟩
  obtain ⟨x0, x1, rfl⟩ : ∃ x0 x1, xs = [x0, x1] := by
    match xs, hxl with | [x0, x1], _ => exact ⟨x0, x1, rfl⟩
  have h0 : DataW.trod enc Tryd.prog w 0 (fun _ => true) true n 3 (([c0, c1].drop 0).take (Tryd.prog.cellsOf 3)) = some x0 := hf 0 _ rfl
  rw [show Tryd.prog.cellsOf 3 = 1 by kernel_rfl] at h0
  have h0 : DataW.trod enc Tryd.prog w 0 (fun _ => true) true n 3 [c0] = some x0 := h0
  obtain ⟨y0, u0, b0, e0⟩ := (opn_int Tryd.underlying3) h0
  have h1 : DataW.trod enc Tryd.prog w 0 (fun _ => true) true n 3 (([c0, c1].drop 1).take (Tryd.prog.cellsOf 3)) = some x1 := hf 1 _ rfl
  rw [show Tryd.prog.cellsOf 3 = 1 by kernel_rfl] at h1
  have h1 : DataW.trod enc Tryd.prog w 0 (fun _ => true) true n 3 [c1] = some x1 := h1
  obtain ⟨y1, u1, b1, e1⟩ := (opn_int Tryd.underlying3) h1
  exact ⟨⟨y0, y1⟩, ⟨u0, u1⟩, by simp only [Siz.bulk, bulkD, bulkL, List.map] at *; omega, openCs_app e0 (openCs_app e1 (openCs_nil))⟩
theorem opn_Gate : Opn Tryd.prog 30 Gate := by
  intro H enc w fuel cs x h
  obtain ⟨xs, n, _, rfl, hl, hxl, hf⟩ := DataW.trod_struct Tryd.underlying30 h
  rw [show Tryd.prog.cellsOf 30 = 3 by kernel_rfl] at hl
  obtain ⟨c0, c1, c2, rfl⟩ : ∃ c0 c1 c2, cs = [c0, c1, c2] := by
    match cs, hl with | [c0, c1, c2], _ => exact ⟨c0, c1, c2, rfl⟩
  obtain ⟨x0, x1, rfl⟩ : ∃ x0 x1, xs = [x0, x1] := by
    match xs, hxl with | [x0, x1], _ => exact ⟨x0, x1, rfl⟩
  have h0 : DataW.trod enc Tryd.prog w 0 (fun _ => true) true n 26 (([c0, c1, c2].drop 0).take (Tryd.prog.cellsOf 26)) = some x0 := hf 0 _ rfl
  rw [show Tryd.prog.cellsOf 26 = 2 by kernel_rfl] at h0
  have h0 : DataW.trod enc Tryd.prog w 0 (fun _ => true) true n 26 [c0, c1] = some x0 := h0
  obtain ⟨y0, u0, b0, e0⟩ := opn_Fence h0
  have h1 : DataW.trod enc Tryd.prog w 0 (fun _ => true) true n 28 (([c0, c1, c2].drop 2).take (Tryd.prog.cellsOf 28)) = some x1 := hf 1 _ rfl
  rw [show Tryd.prog.cellsOf 28 = 1 by kernel_rfl] at h1
  have h1 : DataW.trod enc Tryd.prog w 0 (fun _ => true) true n 28 [c2] = some x1 := h1
  obtain ⟨y1, u1, b1, e1⟩ := (opn_slice Tryd.underlying28 (by kernel_rfl) (by decide) (opn_str Tryd.underlying9)) h1
  exact ⟨⟨y0, y1⟩, ⟨u0, u1⟩, by simp only [Siz.bulk, bulkD, bulkL, List.map] at *; omega, openCs_app e0 (openCs_app e1 (openCs_nil))⟩
theorem opn_Give : Opn Tryd.prog 96 Give := by
  intro H enc w fuel cs x h
  obtain ⟨xs, n, _, rfl, hl, hxl, hf⟩ := DataW.trod_struct Tryd.underlying96 h
  rw [show Tryd.prog.cellsOf 96 = 4 by kernel_rfl] at hl
  obtain ⟨c0, c1, c2, c3, rfl⟩ : ∃ c0 c1 c2 c3, cs = [c0, c1, c2, c3] := by
    match cs, hl with | [c0, c1, c2, c3], _ => exact ⟨c0, c1, c2, c3, rfl⟩
  obtain ⟨x0, x1, x2, x3, rfl⟩ : ∃ x0 x1 x2 x3, xs = [x0, x1, x2, x3] := by
    match xs, hxl with | [x0, x1, x2, x3], _ => exact ⟨x0, x1, x2, x3, rfl⟩
  have h0 : DataW.trod enc Tryd.prog w 0 (fun _ => true) true n 3 (([c0, c1, c2, c3].drop 0).take (Tryd.prog.cellsOf 3)) = some x0 := hf 0 _ rfl
  rw [show Tryd.prog.cellsOf 3 = 1 by kernel_rfl] at h0
  have h0 : DataW.trod enc Tryd.prog w 0 (fun _ => true) true n 3 [c0] = some x0 := h0
  obtain ⟨y0, u0, b0, e0⟩ := (opn_int Tryd.underlying3) h0
  have h1 : DataW.trod enc Tryd.prog w 0 (fun _ => true) true n 3 (([c0, c1, c2, c3].drop 1).take (Tryd.prog.cellsOf 3)) = some x1 := hf 1 _ rfl
  rw [show Tryd.prog.cellsOf 3 = 1 by kernel_rfl] at h1
  have h1 : DataW.trod enc Tryd.prog w 0 (fun _ => true) true n 3 [c1] = some x1 := h1
  obtain ⟨y1, u1, b1, e1⟩ := (opn_int Tryd.underlying3) h1
  have h2 : DataW.trod enc Tryd.prog w 0 (fun _ => true) true n 3 (([c0, c1, c2, c3].drop 2).take (Tryd.prog.cellsOf 3)) = some x2 := hf 2 _ rfl
  rw [show Tryd.prog.cellsOf 3 = 1 by kernel_rfl] at h2
  have h2 : DataW.trod enc Tryd.prog w 0 (fun _ => true) true n 3 [c2] = some x2 := h2
  obtain ⟨y2, u2, b2, e2⟩ := (opn_int Tryd.underlying3) h2
  have h3 : DataW.trod enc Tryd.prog w 0 (fun _ => true) true n 9 (([c0, c1, c2, c3].drop 3).take (Tryd.prog.cellsOf 9)) = some x3 := hf 3 _ rfl
  rw [show Tryd.prog.cellsOf 9 = 1 by kernel_rfl] at h3
  have h3 : DataW.trod enc Tryd.prog w 0 (fun _ => true) true n 9 [c3] = some x3 := h3
  obtain ⟨y3, u3, b3, e3⟩ := (opn_str Tryd.underlying9) h3
  exact ⟨⟨y0, y1, y2, y3⟩, ⟨u0, u1, u2, u3⟩, by simp only [Siz.bulk, bulkD, bulkL, List.map] at *; omega, openCs_app e0 (openCs_app e1 (openCs_app e2 (openCs_app e3 (openCs_nil))))⟩
theorem opn_PairAct : Opn Tryd.prog 41 PairAct := by
  intro H enc w fuel cs x h
  obtain ⟨xs, n, _, rfl, hl, hxl, hf⟩ := DataW.trod_struct Tryd.underlying41 h
  rw [show Tryd.prog.cellsOf 41 = 3 by kernel_rfl] at hl
  obtain ⟨c0, c1, c2, rfl⟩ : ∃ c0 c1 c2, cs = [c0, c1, c2] := by
    match cs, hl with | [c0, c1, c2], _ => exact ⟨c0, c1, c2, rfl⟩
  obtain ⟨x0, x1, x2, rfl⟩ : ∃ x0 x1 x2, xs = [x0, x1, x2] := by
    match xs, hxl with | [x0, x1, x2], _ => exact ⟨x0, x1, x2, rfl⟩
  have h0 : DataW.trod enc Tryd.prog w 0 (fun _ => true) true n 3 (([c0, c1, c2].drop 0).take (Tryd.prog.cellsOf 3)) = some x0 := hf 0 _ rfl
  rw [show Tryd.prog.cellsOf 3 = 1 by kernel_rfl] at h0
  have h0 : DataW.trod enc Tryd.prog w 0 (fun _ => true) true n 3 [c0] = some x0 := h0
  obtain ⟨y0, u0, b0, e0⟩ := (opn_int Tryd.underlying3) h0
  have h1 : DataW.trod enc Tryd.prog w 0 (fun _ => true) true n 3 (([c0, c1, c2].drop 1).take (Tryd.prog.cellsOf 3)) = some x1 := hf 1 _ rfl
  rw [show Tryd.prog.cellsOf 3 = 1 by kernel_rfl] at h1
  have h1 : DataW.trod enc Tryd.prog w 0 (fun _ => true) true n 3 [c1] = some x1 := h1
  obtain ⟨y1, u1, b1, e1⟩ := (opn_int Tryd.underlying3) h1
  have h2 : DataW.trod enc Tryd.prog w 0 (fun _ => true) true n 3 (([c0, c1, c2].drop 2).take (Tryd.prog.cellsOf 3)) = some x2 := hf 2 _ rfl
  rw [show Tryd.prog.cellsOf 3 = 1 by kernel_rfl] at h2
  have h2 : DataW.trod enc Tryd.prog w 0 (fun _ => true) true n 3 [c2] = some x2 := h2
  obtain ⟨y2, u2, b2, e2⟩ := (opn_int Tryd.underlying3) h2
  exact ⟨⟨y0, y1, y2⟩, ⟨u0, u1, u2⟩, by simp only [Siz.bulk, bulkD, bulkL, List.map] at *; omega, openCs_app e0 (openCs_app e1 (openCs_app e2 (openCs_nil)))⟩
theorem opn_Node : Opn Tryd.prog 49 Node := by
  intro H enc w fuel cs x h
  obtain ⟨xs, n, _, rfl, hl, hxl, hf⟩ := DataW.trod_struct Tryd.underlying49 h
  rw [show Tryd.prog.cellsOf 49 = 8 by kernel_rfl] at hl
  obtain ⟨c0, c1, c2, c3, c4, c5, c6, c7, rfl⟩ : ∃ c0 c1 c2 c3 c4 c5 c6 c7, cs = [c0, c1, c2, c3, c4, c5, c6, c7] := by
    match cs, hl with | [c0, c1, c2, c3, c4, c5, c6, c7], _ => exact ⟨c0, c1, c2, c3, c4, c5, c6, c7, rfl⟩
  obtain ⟨x0, x1, x2, x3, x4, rfl⟩ : ∃ x0 x1 x2 x3 x4, xs = [x0, x1, x2, x3, x4] := by
    match xs, hxl with | [x0, x1, x2, x3, x4], _ => exact ⟨x0, x1, x2, x3, x4, rfl⟩
  have h0 : DataW.trod enc Tryd.prog w 0 (fun _ => true) true n 3 (([c0, c1, c2, c3, c4, c5, c6, c7].drop 0).take (Tryd.prog.cellsOf 3)) = some x0 := hf 0 _ rfl
  rw [show Tryd.prog.cellsOf 3 = 1 by kernel_rfl] at h0
  have h0 : DataW.trod enc Tryd.prog w 0 (fun _ => true) true n 3 [c0] = some x0 := h0
  obtain ⟨y0, u0, b0, e0⟩ := (opn_int Tryd.underlying3) h0
  have h1 : DataW.trod enc Tryd.prog w 0 (fun _ => true) true n 46 (([c0, c1, c2, c3, c4, c5, c6, c7].drop 1).take (Tryd.prog.cellsOf 46)) = some x1 := hf 1 _ rfl
  rw [show Tryd.prog.cellsOf 46 = 4 by kernel_rfl] at h1
  have h1 : DataW.trod enc Tryd.prog w 0 (fun _ => true) true n 46 [c1, c2, c3, c4] = some x1 := h1
  obtain ⟨y1, u1, b1, e1⟩ := opn_Vm h1
  have h2 : DataW.trod enc Tryd.prog w 0 (fun _ => true) true n 3 (([c0, c1, c2, c3, c4, c5, c6, c7].drop 5).take (Tryd.prog.cellsOf 3)) = some x2 := hf 2 _ rfl
  rw [show Tryd.prog.cellsOf 3 = 1 by kernel_rfl] at h2
  have h2 : DataW.trod enc Tryd.prog w 0 (fun _ => true) true n 3 [c5] = some x2 := h2
  obtain ⟨y2, u2, b2, e2⟩ := (opn_int Tryd.underlying3) h2
  have h3 : DataW.trod enc Tryd.prog w 0 (fun _ => true) true n 47 (([c0, c1, c2, c3, c4, c5, c6, c7].drop 6).take (Tryd.prog.cellsOf 47)) = some x3 := hf 3 _ rfl
  rw [show Tryd.prog.cellsOf 47 = 1 by kernel_rfl] at h3
  have h3 : DataW.trod enc Tryd.prog w 0 (fun _ => true) true n 47 [c6] = some x3 := h3
  obtain ⟨y3, u3, b3, e3⟩ := (opn_slice Tryd.underlying47 (by kernel_rfl) (by decide) opn_Emit) h3
  have h4 : DataW.trod enc Tryd.prog w 0 (fun _ => true) true n 3 (([c0, c1, c2, c3, c4, c5, c6, c7].drop 7).take (Tryd.prog.cellsOf 3)) = some x4 := hf 4 _ rfl
  rw [show Tryd.prog.cellsOf 3 = 1 by kernel_rfl] at h4
  have h4 : DataW.trod enc Tryd.prog w 0 (fun _ => true) true n 3 [c7] = some x4 := h4
  obtain ⟨y4, u4, b4, e4⟩ := (opn_int Tryd.underlying3) h4
  exact ⟨⟨y0, y1, y2, y3, y4⟩, ⟨u0, u1, u2, u3, u4⟩, by simp only [Siz.bulk, bulkD, bulkL, List.map] at *; omega, openCs_app e0 (openCs_app e1 (openCs_app e2 (openCs_app e3 (openCs_app e4 (openCs_nil)))))⟩
theorem opn_Pair : Opn Tryd.prog 32 Pair := by
  intro H enc w fuel cs x h
  obtain ⟨xs, n, _, rfl, hl, hxl, hf⟩ := DataW.trod_struct Tryd.underlying32 h
  rw [show Tryd.prog.cellsOf 32 = 8 by kernel_rfl] at hl
  obtain ⟨c0, c1, c2, c3, c4, c5, c6, c7, rfl⟩ : ∃ c0 c1 c2 c3 c4 c5 c6 c7, cs = [c0, c1, c2, c3, c4, c5, c6, c7] := by
    match cs, hl with | [c0, c1, c2, c3, c4, c5, c6, c7], _ => exact ⟨c0, c1, c2, c3, c4, c5, c6, c7, rfl⟩
  obtain ⟨x0, x1, x2, x3, x4, rfl⟩ : ∃ x0 x1 x2 x3 x4, xs = [x0, x1, x2, x3, x4] := by
    match xs, hxl with | [x0, x1, x2, x3, x4], _ => exact ⟨x0, x1, x2, x3, x4, rfl⟩
  have h0 : DataW.trod enc Tryd.prog w 0 (fun _ => true) true n 24 (([c0, c1, c2, c3, c4, c5, c6, c7].drop 0).take (Tryd.prog.cellsOf 24)) = some x0 := hf 0 _ rfl
  rw [show Tryd.prog.cellsOf 24 = 1 by kernel_rfl] at h0
  have h0 : DataW.trod enc Tryd.prog w 0 (fun _ => true) true n 24 [c0] = some x0 := h0
  obtain ⟨y0, u0, b0, e0⟩ := (opn_slice Tryd.underlying24 (by kernel_rfl) (by decide) (opn_int Tryd.underlying3)) h0
  have h1 : DataW.trod enc Tryd.prog w 0 (fun _ => true) true n 26 (([c0, c1, c2, c3, c4, c5, c6, c7].drop 1).take (Tryd.prog.cellsOf 26)) = some x1 := hf 1 _ rfl
  rw [show Tryd.prog.cellsOf 26 = 2 by kernel_rfl] at h1
  have h1 : DataW.trod enc Tryd.prog w 0 (fun _ => true) true n 26 [c1, c2] = some x1 := h1
  obtain ⟨y1, u1, b1, e1⟩ := opn_Fence h1
  have h2 : DataW.trod enc Tryd.prog w 0 (fun _ => true) true n 27 (([c0, c1, c2, c3, c4, c5, c6, c7].drop 3).take (Tryd.prog.cellsOf 27)) = some x2 := hf 2 _ rfl
  rw [show Tryd.prog.cellsOf 27 = 1 by kernel_rfl] at h2
  have h2 : DataW.trod enc Tryd.prog w 0 (fun _ => true) true n 27 [c3] = some x2 := h2
  obtain ⟨y2, u2, b2, e2⟩ := (opn_slice Tryd.underlying27 (by kernel_rfl) (by decide) opn_Node) h2
  have h3 : DataW.trod enc Tryd.prog w 0 (fun _ => true) true n 27 (([c0, c1, c2, c3, c4, c5, c6, c7].drop 4).take (Tryd.prog.cellsOf 27)) = some x3 := hf 3 _ rfl
  rw [show Tryd.prog.cellsOf 27 = 1 by kernel_rfl] at h3
  have h3 : DataW.trod enc Tryd.prog w 0 (fun _ => true) true n 27 [c4] = some x3 := h3
  obtain ⟨y3, u3, b3, e3⟩ := (opn_slice Tryd.underlying27 (by kernel_rfl) (by decide) opn_Node) h3
  have h4 : DataW.trod enc Tryd.prog w 0 (fun _ => true) true n 30 (([c0, c1, c2, c3, c4, c5, c6, c7].drop 5).take (Tryd.prog.cellsOf 30)) = some x4 := hf 4 _ rfl
  rw [show Tryd.prog.cellsOf 30 = 3 by kernel_rfl] at h4
  have h4 : DataW.trod enc Tryd.prog w 0 (fun _ => true) true n 30 [c5, c6, c7] = some x4 := h4
  obtain ⟨y4, u4, b4, e4⟩ := opn_Gate h4
  exact ⟨⟨y0, y1, y2, y3, y4⟩, ⟨u0, u1, u2, u3, u4⟩, by simp only [Siz.bulk, bulkD, bulkL, List.map] at *; omega, openCs_app e0 (openCs_app e1 (openCs_app e2 (openCs_app e3 (openCs_app e4 (openCs_nil)))))⟩
theorem fin_b {b : Th Bool} {H : Hp} {kl : List Nat} (h : b () = true) : outA (.bc true) [] (.b b) H kl := by
  cbv
  repeat' first | (refine Stp.mk ?_; cbv) | (refine Gen.mk fun r hr => ?_; (try simp only [Dat.ok, Dat.dec, Leaf.ok, Leaf.val, Ins.eta, Vm.eta, Emit.eta, Fence.eta, Gate.eta, Give.eta, PairAct.eta, Node.eta, Pair.eta, val_sl, val_nil] at hr); cbv) | exact trivial | rfl | refine Both.mk ?_ ?_ | (refine Imp.mk fun h => ?_; (try dsimp only at h); (try simp only [nc, Int.toNat_natCast, ne_eq, zz] at h); (try simp only [nc] at h)) | refine Ob.mk ?_ ?_ | refine Chk.mk (by kernel_rfl) ?_ | refine Eq'.mk ?_ | (refine AllN.mk fun i hi => ?_; cbv) | (refine AllC.mk fun c hc hcm => ?_; (try dsimp only at hc); cbv) | (refine AllS.mk fun r hr => ?_; (try simp only [Dat.ok, Dat.dec, Leaf.ok, Leaf.val, Ins.eta, Vm.eta, Emit.eta, Fence.eta, Gate.eta, Give.eta, PairAct.eta, Node.eta, Pair.eta, val_sl] at hr); cbv)
  exact h
theorem fin_t {H : Hp} {kl : List Nat} : outA (.bc true) [] (.bc true) H kl := by
  cbv
  repeat' first | (refine Stp.mk ?_; cbv) | (refine Gen.mk fun r hr => ?_; (try simp only [Dat.ok, Dat.dec, Leaf.ok, Leaf.val, Ins.eta, Vm.eta, Emit.eta, Fence.eta, Gate.eta, Give.eta, PairAct.eta, Node.eta, Pair.eta, val_sl, val_nil] at hr); cbv) | exact trivial | rfl | refine Both.mk ?_ ?_ | (refine Imp.mk fun h => ?_; (try dsimp only at h); (try simp only [nc, Int.toNat_natCast, ne_eq, zz] at h); (try simp only [nc] at h)) | refine Ob.mk ?_ ?_ | refine Chk.mk (by kernel_rfl) ?_ | refine Eq'.mk ?_ | (refine AllN.mk fun i hi => ?_; cbv) | (refine AllC.mk fun c hc hcm => ?_; (try dsimp only at hc); cbv) | (refine AllS.mk fun r hr => ?_; (try simp only [Dat.ok, Dat.dec, Leaf.ok, Leaf.val, Ins.eta, Vm.eta, Emit.eta, Fence.eta, Gate.eta, Give.eta, PairAct.eta, Node.eta, Pair.eta, val_sl] at hr); cbv)

end Go.Proofs.YtddkjgdfjkklcaaDoor
