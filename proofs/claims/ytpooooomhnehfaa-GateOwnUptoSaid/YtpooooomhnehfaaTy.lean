/- The program's functions, walked: Ty. -/
import Derived.Test.YtpooooomhnehfaaAbsG4
import Derived.Test.YtpooooomhnehfaaRows
import Derived.KernelRfl
import Derived.JoinedCond
import Derived.WalkKit
import Derived.ProofKit
import Derived.OpenShut
import Derived.ShutString
import Derived.ChangeOld
set_option linter.all false
namespace Go.Proofs.Ytpooooomhnehfaa
open Go Go.Abs
noncomputable instance kdI : Kd := ⟨fun e => match Try.prog.info? e with | some i => (match i.zero with | some zv => zv.cells.toList | none => []) | none => []⟩
structure Fence where
  epoch : Int
  owner : Int
  deriving DecidableEq
instance datFence : Dat Fence where
  d0 := ⟨0, 0⟩
  sz := 2
  enc x := [Leaf.av fun _ => (x ()).epoch, Leaf.av fun _ => (x ()).owner]
  dec l := match l with | [a0, a1] => ⟨Leaf.val a0, Leaf.val a1⟩ | _ => ⟨0, 0⟩
  ok l := match l with | [a0, a1] => Leaf.ok Int a0 ∧ Leaf.ok Int a1 | _ => False
  hlen _ := rfl
  hclosed x := by simp only [closedL, Leaf.hclosed]
  hdec x := by simp only [Leaf.hval]
  hok x := ⟨Leaf.hok _, Leaf.hok _⟩
  hle l h := by
    split at h
    · obtain ⟨k0, k1⟩ := h
      exact .mk (Leaf.hle _ k0) (.mk (Leaf.hle _ k1) (trivial))
    · cases h
  hpick c l m h1 h2 := by
    split at h1
    · split at h2
      · obtain ⟨k0, k1⟩ := h1
        obtain ⟨j0, j1⟩ := h2
        refine ⟨⟨(Leaf.hpick c _ _ k0 j0).1, (Leaf.hpick c _ _ k1 j1).1⟩, ?_⟩
        have e := (fun (u : Bool) => rfl : ∀ u : Bool, u = u)
        simp only [rowL, nth, dropN, (Leaf.hpick c _ _ k0 j0).2, (Leaf.hpick c _ _ k1 j1).2]
        cases c () <;> rfl
      · cases h2
    · cases h1
instance sizFence : Siz Fence := ⟨fun x => Siz.fit x.epoch ∧ Siz.fit x.owner, fun x => Siz.bulk x.epoch + Siz.bulk x.owner + 1⟩
theorem Fence.eta (x : Fence) : (⟨x.epoch, x.owner⟩ : Fence) = x := rfl
theorem Fence.one_le (x : Fence) : 1 ≤ Siz.bulk x := Nat.le_add_left _ _
structure Try where
  kind : Int
  fence : Int
  who : Int
  epoch : Int
  deriving DecidableEq
instance datTry : Dat Try where
  d0 := ⟨0, 0, 0, 0⟩
  sz := 4
  enc x := [Leaf.av fun _ => (x ()).kind, Leaf.av fun _ => (x ()).fence, Leaf.av fun _ => (x ()).who, Leaf.av fun _ => (x ()).epoch]
  dec l := match l with | [a0, a1, a2, a3] => ⟨Leaf.val a0, Leaf.val a1, Leaf.val a2, Leaf.val a3⟩ | _ => ⟨0, 0, 0, 0⟩
  ok l := match l with | [a0, a1, a2, a3] => Leaf.ok Int a0 ∧ Leaf.ok Int a1 ∧ Leaf.ok Int a2 ∧ Leaf.ok Int a3 | _ => False
  hlen _ := rfl
  hclosed x := by simp only [closedL, Leaf.hclosed]
  hdec x := by simp only [Leaf.hval]
  hok x := ⟨Leaf.hok _, Leaf.hok _, Leaf.hok _, Leaf.hok _⟩
  hle l h := by
    split at h
    · obtain ⟨k0, k1, k2, k3⟩ := h
      exact .mk (Leaf.hle _ k0) (.mk (Leaf.hle _ k1) (.mk (Leaf.hle _ k2) (.mk (Leaf.hle _ k3) (trivial))))
    · cases h
  hpick c l m h1 h2 := by
    split at h1
    · split at h2
      · obtain ⟨k0, k1, k2, k3⟩ := h1
        obtain ⟨j0, j1, j2, j3⟩ := h2
        refine ⟨⟨(Leaf.hpick c _ _ k0 j0).1, (Leaf.hpick c _ _ k1 j1).1, (Leaf.hpick c _ _ k2 j2).1, (Leaf.hpick c _ _ k3 j3).1⟩, ?_⟩
        have e := (fun (u : Bool) => rfl : ∀ u : Bool, u = u)
        simp only [rowL, nth, dropN, (Leaf.hpick c _ _ k0 j0).2, (Leaf.hpick c _ _ k1 j1).2, (Leaf.hpick c _ _ k2 j2).2, (Leaf.hpick c _ _ k3 j3).2]
        cases c () <;> rfl
      · cases h2
    · cases h1
instance sizTry : Siz Try := ⟨fun x => Siz.fit x.kind ∧ Siz.fit x.fence ∧ Siz.fit x.who ∧ Siz.fit x.epoch, fun x => Siz.bulk x.kind + Siz.bulk x.fence + Siz.bulk x.who + Siz.bulk x.epoch + 1⟩
theorem Try.eta (x : Try) : (⟨x.kind, x.fence, x.who, x.epoch⟩ : Try) = x := rfl
theorem Try.one_le (x : Try) : 1 ≤ Siz.bulk x := Nat.le_add_left _ _
structure Gate where
  fence : Fence
  out : (List ByteArray)
  deriving DecidableEq
instance datGate : Dat Gate where
  d0 := ⟨⟨0, 0⟩, []⟩
  sz := 3
  enc x := [Leaf.av fun _ => (x ()).fence.epoch, Leaf.av fun _ => (x ()).fence.owner, Leaf.av fun _ => (x ()).out]
  dec l := match l with | [a0, a1, a2] => ⟨⟨Leaf.val a0, Leaf.val a1⟩, Leaf.val a2⟩ | _ => ⟨⟨0, 0⟩, []⟩
  ok l := match l with | [a0, a1, a2] => Leaf.ok Int a0 ∧ Leaf.ok Int a1 ∧ Leaf.ok (List ByteArray) a2 | _ => False
  hlen _ := rfl
  hclosed x := by simp only [closedL, Leaf.hclosed]
  hdec x := by simp only [Leaf.hval]
  hok x := ⟨Leaf.hok _, Leaf.hok _, Leaf.hok _⟩
  hle l h := by
    split at h
    · obtain ⟨k0, k1, k2⟩ := h
      exact .mk (Leaf.hle _ k0) (.mk (Leaf.hle _ k1) (.mk (Leaf.hle _ k2) (trivial)))
    · cases h
  hpick c l m h1 h2 := by
    split at h1
    · split at h2
      · obtain ⟨k0, k1, k2⟩ := h1
        obtain ⟨j0, j1, j2⟩ := h2
        refine ⟨⟨(Leaf.hpick c _ _ k0 j0).1, (Leaf.hpick c _ _ k1 j1).1, (Leaf.hpick c _ _ k2 j2).1⟩, ?_⟩
        have e := (fun (u : Bool) => rfl : ∀ u : Bool, u = u)
        simp only [rowL, nth, dropN, (Leaf.hpick c _ _ k0 j0).2, (Leaf.hpick c _ _ k1 j1).2, (Leaf.hpick c _ _ k2 j2).2]
        cases c () <;> rfl
      · cases h2
    · cases h1
instance sizGate : Siz Gate := ⟨fun x => Siz.fit x.fence ∧ Siz.fit x.out, fun x => Siz.bulk x.fence + Siz.bulk x.out + 1⟩
theorem Gate.eta (x : Gate) : (⟨x.fence, x.out⟩ : Gate) = x := rfl
theorem Gate.one_le (x : Gate) : 1 ≤ Siz.bulk x := Nat.le_add_left _ _
structure Give where
  who : Int
  epoch : Int
  num : Int
  text : ByteArray
  deriving DecidableEq
instance datGive : Dat Give where
  d0 := ⟨0, 0, 0, .empty⟩
  sz := 4
  enc x := [Leaf.av fun _ => (x ()).who, Leaf.av fun _ => (x ()).epoch, Leaf.av fun _ => (x ()).num, Leaf.av fun _ => (x ()).text]
  dec l := match l with | [a0, a1, a2, a3] => ⟨Leaf.val a0, Leaf.val a1, Leaf.val a2, Leaf.val a3⟩ | _ => ⟨0, 0, 0, .empty⟩
  ok l := match l with | [a0, a1, a2, a3] => Leaf.ok Int a0 ∧ Leaf.ok Int a1 ∧ Leaf.ok Int a2 ∧ Leaf.ok ByteArray a3 | _ => False
  hlen _ := rfl
  hclosed x := by simp only [closedL, Leaf.hclosed]
  hdec x := by simp only [Leaf.hval]
  hok x := ⟨Leaf.hok _, Leaf.hok _, Leaf.hok _, Leaf.hok _⟩
  hle l h := by
    split at h
    · obtain ⟨k0, k1, k2, k3⟩ := h
      exact .mk (Leaf.hle _ k0) (.mk (Leaf.hle _ k1) (.mk (Leaf.hle _ k2) (.mk (Leaf.hle _ k3) (trivial))))
    · cases h
  hpick c l m h1 h2 := by
    split at h1
    · split at h2
      · obtain ⟨k0, k1, k2, k3⟩ := h1
        obtain ⟨j0, j1, j2, j3⟩ := h2
        refine ⟨⟨(Leaf.hpick c _ _ k0 j0).1, (Leaf.hpick c _ _ k1 j1).1, (Leaf.hpick c _ _ k2 j2).1, (Leaf.hpick c _ _ k3 j3).1⟩, ?_⟩
        have e := (fun (u : Bool) => rfl : ∀ u : Bool, u = u)
        simp only [rowL, nth, dropN, (Leaf.hpick c _ _ k0 j0).2, (Leaf.hpick c _ _ k1 j1).2, (Leaf.hpick c _ _ k2 j2).2, (Leaf.hpick c _ _ k3 j3).2]
        cases c () <;> rfl
      · cases h2
    · cases h1
instance sizGive : Siz Give := ⟨fun x => Siz.fit x.who ∧ Siz.fit x.epoch ∧ Siz.fit x.num ∧ Siz.fit x.text, fun x => Siz.bulk x.who + Siz.bulk x.epoch + Siz.bulk x.num + Siz.bulk x.text + 1⟩
theorem Give.eta (x : Give) : (⟨x.who, x.epoch, x.num, x.text⟩ : Give) = x := rfl
theorem Give.one_le (x : Give) : 1 ≤ Siz.bulk x := Nat.le_add_left _ _
structure GateOp where
  claims : Bool
  give : Give
  deriving DecidableEq
instance datGateOp : Dat GateOp where
  d0 := ⟨false, ⟨0, 0, 0, .empty⟩⟩
  sz := 5
  enc x := [Leaf.av fun _ => (x ()).claims, Leaf.av fun _ => (x ()).give.who, Leaf.av fun _ => (x ()).give.epoch, Leaf.av fun _ => (x ()).give.num, Leaf.av fun _ => (x ()).give.text]
  dec l := match l with | [a0, a1, a2, a3, a4] => ⟨Leaf.val a0, ⟨Leaf.val a1, Leaf.val a2, Leaf.val a3, Leaf.val a4⟩⟩ | _ => ⟨false, ⟨0, 0, 0, .empty⟩⟩
  ok l := match l with | [a0, a1, a2, a3, a4] => Leaf.ok Bool a0 ∧ Leaf.ok Int a1 ∧ Leaf.ok Int a2 ∧ Leaf.ok Int a3 ∧ Leaf.ok ByteArray a4 | _ => False
  hlen _ := rfl
  hclosed x := by simp only [closedL, Leaf.hclosed]
  hdec x := by simp only [Leaf.hval]
  hok x := ⟨Leaf.hok _, Leaf.hok _, Leaf.hok _, Leaf.hok _, Leaf.hok _⟩
  hle l h := by
    split at h
    · obtain ⟨k0, k1, k2, k3, k4⟩ := h
      exact .mk (Leaf.hle _ k0) (.mk (Leaf.hle _ k1) (.mk (Leaf.hle _ k2) (.mk (Leaf.hle _ k3) (.mk (Leaf.hle _ k4) (trivial)))))
    · cases h
  hpick c l m h1 h2 := by
    split at h1
    · split at h2
      · obtain ⟨k0, k1, k2, k3, k4⟩ := h1
        obtain ⟨j0, j1, j2, j3, j4⟩ := h2
        refine ⟨⟨(Leaf.hpick c _ _ k0 j0).1, (Leaf.hpick c _ _ k1 j1).1, (Leaf.hpick c _ _ k2 j2).1, (Leaf.hpick c _ _ k3 j3).1, (Leaf.hpick c _ _ k4 j4).1⟩, ?_⟩
        have e := (fun (u : Bool) => rfl : ∀ u : Bool, u = u)
        simp only [rowL, nth, dropN, (Leaf.hpick c _ _ k0 j0).2, (Leaf.hpick c _ _ k1 j1).2, (Leaf.hpick c _ _ k2 j2).2, (Leaf.hpick c _ _ k3 j3).2, (Leaf.hpick c _ _ k4 j4).2]
        cases c () <;> rfl
      · cases h2
    · cases h1
instance sizGateOp : Siz GateOp := ⟨fun x => Siz.fit x.claims ∧ Siz.fit x.give, fun x => Siz.bulk x.claims + Siz.bulk x.give + 1⟩
theorem GateOp.eta (x : GateOp) : (⟨x.claims, x.give⟩ : GateOp) = x := rfl
theorem GateOp.one_le (x : GateOp) : 1 ≤ Siz.bulk x := Nat.le_add_left _ _
structure GateAns where
  ok : Bool
  err : Int
  deriving DecidableEq
instance datGateAns : Dat GateAns where
  d0 := ⟨false, 0⟩
  sz := 2
  enc x := [Leaf.av fun _ => (x ()).ok, Leaf.av fun _ => (x ()).err]
  dec l := match l with | [a0, a1] => ⟨Leaf.val a0, Leaf.val a1⟩ | _ => ⟨false, 0⟩
  ok l := match l with | [a0, a1] => Leaf.ok Bool a0 ∧ Leaf.ok Int a1 | _ => False
  hlen _ := rfl
  hclosed x := by simp only [closedL, Leaf.hclosed]
  hdec x := by simp only [Leaf.hval]
  hok x := ⟨Leaf.hok _, Leaf.hok _⟩
  hle l h := by
    split at h
    · obtain ⟨k0, k1⟩ := h
      exact .mk (Leaf.hle _ k0) (.mk (Leaf.hle _ k1) (trivial))
    · cases h
  hpick c l m h1 h2 := by
    split at h1
    · split at h2
      · obtain ⟨k0, k1⟩ := h1
        obtain ⟨j0, j1⟩ := h2
        refine ⟨⟨(Leaf.hpick c _ _ k0 j0).1, (Leaf.hpick c _ _ k1 j1).1⟩, ?_⟩
        have e := (fun (u : Bool) => rfl : ∀ u : Bool, u = u)
        simp only [rowL, nth, dropN, (Leaf.hpick c _ _ k0 j0).2, (Leaf.hpick c _ _ k1 j1).2]
        cases c () <;> rfl
      · cases h2
    · cases h1
instance sizGateAns : Siz GateAns := ⟨fun x => Siz.fit x.ok ∧ Siz.fit x.err, fun x => Siz.bulk x.ok + Siz.bulk x.err + 1⟩
theorem GateAns.eta (x : GateAns) : (⟨x.ok, x.err⟩ : GateAns) = x := rfl
theorem GateAns.one_le (x : GateAns) : 1 ≤ Siz.bulk x := Nat.le_add_left _ _
noncomputable def tys : TypeId → Ty := fun t => match t with
  | 1 => .one
  | 2 => .int .i64
  | 3 => .int .i64
  | 4 => .bool
  | 5 => .int .u8
  | 9 => .str
  | 12 => .int .u64
  | 13 => .struct none [(0, 9, 1), (1, 12, 1)] 2 [.s fun _ => .empty, .i .u64 fun _ => 0]
  | 21 => .int .i32
  | 22 => .slice 30 4 32 [.i .i64 fun _ => 0, .i .i64 fun _ => 0, .i .i64 fun _ => 0, .i .i64 fun _ => 0]
  | 23 => .slice 33 2 16 [.i .i64 fun _ => 0, .i .i64 fun _ => 0]
  | 24 => .slice 4 1 1 [.bc false]
  | 25 => .int .i64
  | 27 => .one
  | 28 => .one
  | 29 => .struct (some [.i, .i, .i, .i]) [(0, 3, 1), (1, 3, 1), (2, 3, 1), (3, 3, 1)] 4 [.i .i64 fun _ => 0, .i .i64 fun _ => 0, .i .i64 fun _ => 0, .i .i64 fun _ => 0]
  | 30 => .struct (some [.i, .i, .i, .i]) [(0, 3, 1), (1, 3, 1), (2, 3, 1), (3, 3, 1)] 4 [.i .i64 fun _ => 0, .i .i64 fun _ => 0, .i .i64 fun _ => 0, .i .i64 fun _ => 0]
  | 31 => .one
  | 32 => .struct (some [.i, .i]) [(0, 3, 1), (1, 3, 1)] 2 [.i .i64 fun _ => 0, .i .i64 fun _ => 0]
  | 33 => .struct (some [.i, .i]) [(0, 3, 1), (1, 3, 1)] 2 [.i .i64 fun _ => 0, .i .i64 fun _ => 0]
  | 35 => .one
  | 37 => .one
  | 38 => .one
  | 39 => .one
  | 40 => .one
  | 41 => .one
  | 42 => .one
  | 43 => .slice 53 5 48 [.bc false, .i .i64 fun _ => 0, .i .i64 fun _ => 0, .i .i64 fun _ => 0, .s fun _ => .empty]
  | 44 => .slice 9 1 16 [.s fun _ => .empty]
  | 45 => .struct none [(0, 33, 2), (2, 44, 1)] 3 [.i .i64 fun _ => 0, .i .i64 fun _ => 0, .nil]
  | 46 => .struct none [(0, 33, 2), (2, 44, 1)] 3 [.i .i64 fun _ => 0, .i .i64 fun _ => 0, .nil]
  | 47 => .slice 55 2 16 [.bc false, .i .i64 fun _ => 0]
  | 49 => .one
  | 50 => .struct (some [.i, .i, .i, .s]) [(0, 3, 1), (1, 3, 1), (2, 3, 1), (3, 9, 1)] 4 [.i .i64 fun _ => 0, .i .i64 fun _ => 0, .i .i64 fun _ => 0, .s fun _ => .empty]
  | 51 => .struct (some [.i, .i, .i, .s]) [(0, 3, 1), (1, 3, 1), (2, 3, 1), (3, 9, 1)] 4 [.i .i64 fun _ => 0, .i .i64 fun _ => 0, .i .i64 fun _ => 0, .s fun _ => .empty]
  | 52 => .struct none [(0, 4, 1), (1, 51, 4)] 5 [.bc false, .i .i64 fun _ => 0, .i .i64 fun _ => 0, .i .i64 fun _ => 0, .s fun _ => .empty]
  | 53 => .struct none [(0, 4, 1), (1, 51, 4)] 5 [.bc false, .i .i64 fun _ => 0, .i .i64 fun _ => 0, .i .i64 fun _ => 0, .s fun _ => .empty]
  | 54 => .struct (some [.b, .i]) [(0, 4, 1), (1, 25, 1)] 2 [.bc false, .i .i64 fun _ => 0]
  | 55 => .struct (some [.b, .i]) [(0, 4, 1), (1, 25, 1)] 2 [.bc false, .i .i64 fun _ => 0]
  | 56 => .one
  | 57 => .one
  | 58 => .one
  | 59 => .one
  | 61 => .one
  | 62 => .one
  | 63 => .one
  | 64 => .one
  | 65 => .one
  | 67 => .one
  | 68 => .one
  | 69 => .one
  | 70 => .one
  | 71 => .one
  | 72 => .one
  | 73 => .one
  | 74 => .one
  | 75 => .one
  | 76 => .one
  | 77 => .one
  | 78 => .one
  | 79 => .one
  | 85 => .one
  | 86 => .int .u32
  | 89 => .one
  | _ => .other
noncomputable def ars : TypeId → Option Arr := fun t => match t with
  | 66 => some ⟨2, 1, [.nil], false⟩
  | _ => none
noncomputable def E : Env := { ty := tys, ar := ars }
noncomputable def Ew (w : List Nat) : Env := { ty := tys, wr := w, ar := ars }
set_option maxRecDepth 100000
theorem envOkW (w : List Nat) : EnvOk Try.prog (Ew w) := ⟨fun t => by
  show TyOk Try.prog t (tys t)
  unfold tys
  split
  · exact ⟨⟨_, rfl, rfl⟩, ⟨_, rfl, rfl, _, rfl, rfl, rfl⟩⟩
  · exact ⟨rfl, _, rfl, rfl, _, rfl, rfl, rfl⟩
  · exact ⟨rfl, _, rfl, rfl, _, rfl, rfl, rfl⟩
  · exact ⟨rfl, _, rfl, rfl, _, rfl, rfl, rfl⟩
  · exact ⟨rfl, _, rfl, rfl, _, rfl, rfl, rfl⟩
  · exact ⟨rfl, _, rfl, rfl, _, rfl, rfl, rfl⟩
  · exact ⟨rfl, _, rfl, rfl, _, rfl, rfl, rfl⟩
  · exact ⟨⟨_, rfl, by kernel_rfl, fun ks h => by cases h⟩, ⟨_, rfl, rfl, _, rfl, rfl, rfl⟩⟩
  · exact ⟨rfl, _, rfl, rfl, _, rfl, rfl, rfl⟩
  · exact ⟨rfl, by omega, by omega, ⟨_, rfl, rfl, _, rfl, rfl, rfl⟩, rfl, ⟨_, rfl, rfl, _, rfl, rfl, rfl⟩, kdOf_at _ _⟩
  · exact ⟨rfl, by omega, by omega, ⟨_, rfl, rfl, _, rfl, rfl, rfl⟩, rfl, ⟨_, rfl, rfl, _, rfl, rfl, rfl⟩, kdOf_at _ _⟩
  · exact ⟨rfl, by omega, by omega, ⟨_, rfl, rfl, _, rfl, rfl, rfl⟩, rfl, ⟨_, rfl, rfl, _, rfl, rfl, rfl⟩, kdOf_at _ _⟩
  · exact ⟨rfl, _, rfl, rfl, _, rfl, rfl, rfl⟩
  · exact ⟨⟨_, rfl, rfl⟩, ⟨_, rfl, rfl, _, rfl, rfl, rfl⟩⟩
  · exact ⟨⟨_, rfl, rfl⟩, ⟨_, rfl, rfl, _, rfl, rfl, rfl⟩⟩
  · exact ⟨⟨_, rfl, by kernel_rfl, fun ks h => by cases h; exact ⟨by kernel_rfl, by kernel_rfl, by kernel_rfl⟩⟩, ⟨_, rfl, rfl, _, rfl, rfl, rfl⟩⟩
  · exact ⟨⟨_, rfl, by kernel_rfl, fun ks h => by cases h; exact ⟨by kernel_rfl, by kernel_rfl, by kernel_rfl⟩⟩, ⟨_, rfl, rfl, _, rfl, rfl, rfl⟩⟩
  · exact ⟨⟨_, rfl, rfl⟩, ⟨_, rfl, rfl, _, rfl, rfl, rfl⟩⟩
  · exact ⟨⟨_, rfl, by kernel_rfl, fun ks h => by cases h; exact ⟨by kernel_rfl, by kernel_rfl, by kernel_rfl⟩⟩, ⟨_, rfl, rfl, _, rfl, rfl, rfl⟩⟩
  · exact ⟨⟨_, rfl, by kernel_rfl, fun ks h => by cases h; exact ⟨by kernel_rfl, by kernel_rfl, by kernel_rfl⟩⟩, ⟨_, rfl, rfl, _, rfl, rfl, rfl⟩⟩
  · exact ⟨⟨_, rfl, rfl⟩, ⟨_, rfl, rfl, _, rfl, rfl, rfl⟩⟩
  · exact ⟨⟨_, rfl, rfl⟩, ⟨_, rfl, rfl, _, rfl, rfl, rfl⟩⟩
  · exact ⟨⟨_, rfl, rfl⟩, ⟨_, rfl, rfl, _, rfl, rfl, rfl⟩⟩
  · exact ⟨⟨_, rfl, rfl⟩, ⟨_, rfl, rfl, _, rfl, rfl, rfl⟩⟩
  · exact ⟨⟨_, rfl, rfl⟩, ⟨_, rfl, rfl, _, rfl, rfl, rfl⟩⟩
  · exact ⟨⟨_, rfl, rfl⟩, ⟨_, rfl, rfl, _, rfl, rfl, rfl⟩⟩
  · exact ⟨⟨_, rfl, rfl⟩, ⟨_, rfl, rfl, _, rfl, rfl, rfl⟩⟩
  · exact ⟨rfl, by omega, by omega, ⟨_, rfl, rfl, _, rfl, rfl, rfl⟩, rfl, ⟨_, rfl, rfl, _, rfl, rfl, rfl⟩, kdOf_at _ _⟩
  · exact ⟨rfl, by omega, by omega, ⟨_, rfl, rfl, _, rfl, rfl, rfl⟩, rfl, ⟨_, rfl, rfl, _, rfl, rfl, rfl⟩, kdOf_at _ _⟩
  · exact ⟨⟨_, rfl, by kernel_rfl, fun ks h => by cases h⟩, ⟨_, rfl, rfl, _, rfl, rfl, rfl⟩⟩
  · exact ⟨⟨_, rfl, by kernel_rfl, fun ks h => by cases h⟩, ⟨_, rfl, rfl, _, rfl, rfl, rfl⟩⟩
  · exact ⟨rfl, by omega, by omega, ⟨_, rfl, rfl, _, rfl, rfl, rfl⟩, rfl, ⟨_, rfl, rfl, _, rfl, rfl, rfl⟩, kdOf_at _ _⟩
  · exact ⟨⟨_, rfl, rfl⟩, ⟨_, rfl, rfl, _, rfl, rfl, rfl⟩⟩
  · exact ⟨⟨_, rfl, by kernel_rfl, fun ks h => by cases h; exact ⟨by kernel_rfl, by kernel_rfl, by kernel_rfl⟩⟩, ⟨_, rfl, rfl, _, rfl, rfl, rfl⟩⟩
  · exact ⟨⟨_, rfl, by kernel_rfl, fun ks h => by cases h; exact ⟨by kernel_rfl, by kernel_rfl, by kernel_rfl⟩⟩, ⟨_, rfl, rfl, _, rfl, rfl, rfl⟩⟩
  · exact ⟨⟨_, rfl, by kernel_rfl, fun ks h => by cases h⟩, ⟨_, rfl, rfl, _, rfl, rfl, rfl⟩⟩
  · exact ⟨⟨_, rfl, by kernel_rfl, fun ks h => by cases h⟩, ⟨_, rfl, rfl, _, rfl, rfl, rfl⟩⟩
  · exact ⟨⟨_, rfl, by kernel_rfl, fun ks h => by cases h; exact ⟨by kernel_rfl, by kernel_rfl, by kernel_rfl⟩⟩, ⟨_, rfl, rfl, _, rfl, rfl, rfl⟩⟩
  · exact ⟨⟨_, rfl, by kernel_rfl, fun ks h => by cases h; exact ⟨by kernel_rfl, by kernel_rfl, by kernel_rfl⟩⟩, ⟨_, rfl, rfl, _, rfl, rfl, rfl⟩⟩
  · exact ⟨⟨_, rfl, rfl⟩, ⟨_, rfl, rfl, _, rfl, rfl, rfl⟩⟩
  · exact ⟨⟨_, rfl, rfl⟩, ⟨_, rfl, rfl, _, rfl, rfl, rfl⟩⟩
  · exact ⟨⟨_, rfl, rfl⟩, ⟨_, rfl, rfl, _, rfl, rfl, rfl⟩⟩
  · exact ⟨⟨_, rfl, rfl⟩, ⟨_, rfl, rfl, _, rfl, rfl, rfl⟩⟩
  · exact ⟨⟨_, rfl, rfl⟩, ⟨_, rfl, rfl, _, rfl, rfl, rfl⟩⟩
  · exact ⟨⟨_, rfl, rfl⟩, ⟨_, rfl, rfl, _, rfl, rfl, rfl⟩⟩
  · exact ⟨⟨_, rfl, rfl⟩, ⟨_, rfl, rfl, _, rfl, rfl, rfl⟩⟩
  · exact ⟨⟨_, rfl, rfl⟩, ⟨_, rfl, rfl, _, rfl, rfl, rfl⟩⟩
  · exact ⟨⟨_, rfl, rfl⟩, ⟨_, rfl, rfl, _, rfl, rfl, rfl⟩⟩
  · exact ⟨⟨_, rfl, rfl⟩, ⟨_, rfl, rfl, _, rfl, rfl, rfl⟩⟩
  · exact ⟨⟨_, rfl, rfl⟩, ⟨_, rfl, rfl, _, rfl, rfl, rfl⟩⟩
  · exact ⟨⟨_, rfl, rfl⟩, ⟨_, rfl, rfl, _, rfl, rfl, rfl⟩⟩
  · exact ⟨⟨_, rfl, rfl⟩, ⟨_, rfl, rfl, _, rfl, rfl, rfl⟩⟩
  · exact ⟨⟨_, rfl, rfl⟩, ⟨_, rfl, rfl, _, rfl, rfl, rfl⟩⟩
  · exact ⟨⟨_, rfl, rfl⟩, ⟨_, rfl, rfl, _, rfl, rfl, rfl⟩⟩
  · exact ⟨⟨_, rfl, rfl⟩, ⟨_, rfl, rfl, _, rfl, rfl, rfl⟩⟩
  · exact ⟨⟨_, rfl, rfl⟩, ⟨_, rfl, rfl, _, rfl, rfl, rfl⟩⟩
  · exact ⟨⟨_, rfl, rfl⟩, ⟨_, rfl, rfl, _, rfl, rfl, rfl⟩⟩
  · exact ⟨⟨_, rfl, rfl⟩, ⟨_, rfl, rfl, _, rfl, rfl, rfl⟩⟩
  · exact ⟨⟨_, rfl, rfl⟩, ⟨_, rfl, rfl, _, rfl, rfl, rfl⟩⟩
  · exact ⟨⟨_, rfl, rfl⟩, ⟨_, rfl, rfl, _, rfl, rfl, rfl⟩⟩
  · exact ⟨⟨_, rfl, rfl⟩, ⟨_, rfl, rfl, _, rfl, rfl, rfl⟩⟩
  · exact ⟨⟨_, rfl, rfl⟩, ⟨_, rfl, rfl, _, rfl, rfl, rfl⟩⟩
  · exact ⟨rfl, _, rfl, rfl, _, rfl, rfl, rfl⟩
  · exact ⟨⟨_, rfl, rfl⟩, ⟨_, rfl, rfl, _, rfl, rfl, rfl⟩⟩
  · trivial, (fun t r h => by
  have h : ars t = some r := h
  unfold ars at h
  split at h
  · cases h; exact ⟨44, rfl, ⟨_, _, rfl, rfl, rfl, rfl⟩, ⟨_, rfl, rfl, _, rfl, rfl, rfl⟩, _, rfl, rfl⟩
  · cases h), (fun f h => by cases h),
  (fun t n f h => by cases h), fun t h => by cases h⟩
theorem envOk : EnvOk Try.prog E := envOkW []
theorem zlW (w : List Nat) : Zl (Ew w) := ⟨fun t e sz b z h => by
  have h : tys t = .slice e sz b z := h
  unfold tys at h
  split at h <;> cases h <;> rfl⟩
theorem zl : Zl E := zlW []
theorem mixed : Try.prog.follows .mixedOrders = true := by kernel_rfl
def noCon : FuncId → Con := fun _ _ _ _ => Bad 1000
theorem noCon_ok : ConOk Try.prog noCon := fun f A H K h => by cases h
def noDet : FuncId → Option Dt := fun _ => none
theorem noDet_ok : DetOk Try.prog noDet := fun f d h => by cases h
set_option maxRecDepth 100000
theorem opn_Fence : Opn Try.prog 33 Fence := by
  intro H enc w fuel cs x h
  obtain ⟨xs, n, _, rfl, hl, hxl, hf⟩ := DataW.trod_struct Try.underlying33 h
  rw [show Try.prog.cellsOf 33 = 2 by kernel_rfl] at hl
  obtain ⟨c0, c1, rfl⟩ : ∃ c0 c1, cs = [c0, c1] := by
    match cs, hl with | [c0, c1], _ => exact ⟨c0, c1, rfl⟩
  obtain ⟨x0, x1, rfl⟩ : ∃ x0 x1, xs = [x0, x1] := by
    match xs, hxl with | [x0, x1], _ => exact ⟨x0, x1, rfl⟩
  have h0 : DataW.trod enc Try.prog w 0 (fun _ => true) true n 3 (([c0, c1].drop 0).take (Try.prog.cellsOf 3)) = some x0 := hf 0 _ rfl
  rw [show Try.prog.cellsOf 3 = 1 by kernel_rfl] at h0
  have h0 : DataW.trod enc Try.prog w 0 (fun _ => true) true n 3 [c0] = some x0 := h0
  obtain ⟨y0, u0, b0, e0⟩ := (opn_int Try.underlying3) h0
  have h1 : DataW.trod enc Try.prog w 0 (fun _ => true) true n 3 (([c0, c1].drop 1).take (Try.prog.cellsOf 3)) = some x1 := hf 1 _ rfl
  rw [show Try.prog.cellsOf 3 = 1 by kernel_rfl] at h1
  have h1 : DataW.trod enc Try.prog w 0 (fun _ => true) true n 3 [c1] = some x1 := h1
  obtain ⟨y1, u1, b1, e1⟩ := (opn_int Try.underlying3) h1
  exact ⟨⟨y0, y1⟩, ⟨u0, u1⟩, by simp only [Siz.bulk, bulkD, bulkL, List.map] at *; omega, openCs_app e0 (openCs_app e1 (openCs_nil))⟩
theorem opn_Try : Opn Try.prog 30 Try := by
  intro H enc w fuel cs x h
  obtain ⟨xs, n, _, rfl, hl, hxl, hf⟩ := DataW.trod_struct Try.underlying30 h
  rw [show Try.prog.cellsOf 30 = 4 by kernel_rfl] at hl
  obtain ⟨c0, c1, c2, c3, rfl⟩ : ∃ c0 c1 c2 c3, cs = [c0, c1, c2, c3] := by
    match cs, hl with | [c0, c1, c2, c3], _ => exact ⟨c0, c1, c2, c3, rfl⟩
  obtain ⟨x0, x1, x2, x3, rfl⟩ : ∃ x0 x1 x2 x3, xs = [x0, x1, x2, x3] := by
    match xs, hxl with | [x0, x1, x2, x3], _ => exact ⟨x0, x1, x2, x3, rfl⟩
  have h0 : DataW.trod enc Try.prog w 0 (fun _ => true) true n 3 (([c0, c1, c2, c3].drop 0).take (Try.prog.cellsOf 3)) = some x0 := hf 0 _ rfl
  rw [show Try.prog.cellsOf 3 = 1 by kernel_rfl] at h0
  have h0 : DataW.trod enc Try.prog w 0 (fun _ => true) true n 3 [c0] = some x0 := h0
  obtain ⟨y0, u0, b0, e0⟩ := (opn_int Try.underlying3) h0
  have h1 : DataW.trod enc Try.prog w 0 (fun _ => true) true n 3 (([c0, c1, c2, c3].drop 1).take (Try.prog.cellsOf 3)) = some x1 := hf 1 _ rfl
  rw [show Try.prog.cellsOf 3 = 1 by kernel_rfl] at h1
  have h1 : DataW.trod enc Try.prog w 0 (fun _ => true) true n 3 [c1] = some x1 := h1
  obtain ⟨y1, u1, b1, e1⟩ := (opn_int Try.underlying3) h1
  have h2 : DataW.trod enc Try.prog w 0 (fun _ => true) true n 3 (([c0, c1, c2, c3].drop 2).take (Try.prog.cellsOf 3)) = some x2 := hf 2 _ rfl
  rw [show Try.prog.cellsOf 3 = 1 by kernel_rfl] at h2
  have h2 : DataW.trod enc Try.prog w 0 (fun _ => true) true n 3 [c2] = some x2 := h2
  obtain ⟨y2, u2, b2, e2⟩ := (opn_int Try.underlying3) h2
  have h3 : DataW.trod enc Try.prog w 0 (fun _ => true) true n 3 (([c0, c1, c2, c3].drop 3).take (Try.prog.cellsOf 3)) = some x3 := hf 3 _ rfl
  rw [show Try.prog.cellsOf 3 = 1 by kernel_rfl] at h3
  have h3 : DataW.trod enc Try.prog w 0 (fun _ => true) true n 3 [c3] = some x3 := h3
  obtain ⟨y3, u3, b3, e3⟩ := (opn_int Try.underlying3) h3
  exact ⟨⟨y0, y1, y2, y3⟩, ⟨u0, u1, u2, u3⟩, by simp only [Siz.bulk, bulkD, bulkL, List.map] at *; omega, openCs_app e0 (openCs_app e1 (openCs_app e2 (openCs_app e3 (openCs_nil))))⟩
theorem opn_Gate : Opn Try.prog 46 Gate := by
  intro H enc w fuel cs x h
  obtain ⟨xs, n, _, rfl, hl, hxl, hf⟩ := DataW.trod_struct Try.underlying46 h
  rw [show Try.prog.cellsOf 46 = 3 by kernel_rfl] at hl
  obtain ⟨c0, c1, c2, rfl⟩ : ∃ c0 c1 c2, cs = [c0, c1, c2] := by
    match cs, hl with | [c0, c1, c2], _ => exact ⟨c0, c1, c2, rfl⟩
  obtain ⟨x0, x1, rfl⟩ : ∃ x0 x1, xs = [x0, x1] := by
    match xs, hxl with | [x0, x1], _ => exact ⟨x0, x1, rfl⟩
  have h0 : DataW.trod enc Try.prog w 0 (fun _ => true) true n 33 (([c0, c1, c2].drop 0).take (Try.prog.cellsOf 33)) = some x0 := hf 0 _ rfl
  rw [show Try.prog.cellsOf 33 = 2 by kernel_rfl] at h0
  have h0 : DataW.trod enc Try.prog w 0 (fun _ => true) true n 33 [c0, c1] = some x0 := h0
  obtain ⟨y0, u0, b0, e0⟩ := opn_Fence h0
  have h1 : DataW.trod enc Try.prog w 0 (fun _ => true) true n 44 (([c0, c1, c2].drop 2).take (Try.prog.cellsOf 44)) = some x1 := hf 1 _ rfl
  rw [show Try.prog.cellsOf 44 = 1 by kernel_rfl] at h1
  have h1 : DataW.trod enc Try.prog w 0 (fun _ => true) true n 44 [c2] = some x1 := h1
  obtain ⟨y1, u1, b1, e1⟩ := (opn_slice Try.underlying44 (by kernel_rfl) (by decide) (opn_str Try.underlying9)) h1
  exact ⟨⟨y0, y1⟩, ⟨u0, u1⟩, by simp only [Siz.bulk, bulkD, bulkL, List.map] at *; omega, openCs_app e0 (openCs_app e1 (openCs_nil))⟩
theorem opn_Give : Opn Try.prog 51 Give := by
  intro H enc w fuel cs x h
  obtain ⟨xs, n, _, rfl, hl, hxl, hf⟩ := DataW.trod_struct Try.underlying51 h
  rw [show Try.prog.cellsOf 51 = 4 by kernel_rfl] at hl
  obtain ⟨c0, c1, c2, c3, rfl⟩ : ∃ c0 c1 c2 c3, cs = [c0, c1, c2, c3] := by
    match cs, hl with | [c0, c1, c2, c3], _ => exact ⟨c0, c1, c2, c3, rfl⟩
  obtain ⟨x0, x1, x2, x3, rfl⟩ : ∃ x0 x1 x2 x3, xs = [x0, x1, x2, x3] := by
    match xs, hxl with | [x0, x1, x2, x3], _ => exact ⟨x0, x1, x2, x3, rfl⟩
  have h0 : DataW.trod enc Try.prog w 0 (fun _ => true) true n 3 (([c0, c1, c2, c3].drop 0).take (Try.prog.cellsOf 3)) = some x0 := hf 0 _ rfl
  rw [show Try.prog.cellsOf 3 = 1 by kernel_rfl] at h0
  have h0 : DataW.trod enc Try.prog w 0 (fun _ => true) true n 3 [c0] = some x0 := h0
  obtain ⟨y0, u0, b0, e0⟩ := (opn_int Try.underlying3) h0
  have h1 : DataW.trod enc Try.prog w 0 (fun _ => true) true n 3 (([c0, c1, c2, c3].drop 1).take (Try.prog.cellsOf 3)) = some x1 := hf 1 _ rfl
  rw [show Try.prog.cellsOf 3 = 1 by kernel_rfl] at h1
  have h1 : DataW.trod enc Try.prog w 0 (fun _ => true) true n 3 [c1] = some x1 := h1
  obtain ⟨y1, u1, b1, e1⟩ := (opn_int Try.underlying3) h1
  have h2 : DataW.trod enc Try.prog w 0 (fun _ => true) true n 3 (([c0, c1, c2, c3].drop 2).take (Try.prog.cellsOf 3)) = some x2 := hf 2 _ rfl
  rw [show Try.prog.cellsOf 3 = 1 by kernel_rfl] at h2
  have h2 : DataW.trod enc Try.prog w 0 (fun _ => true) true n 3 [c2] = some x2 := h2
  obtain ⟨y2, u2, b2, e2⟩ := (opn_int Try.underlying3) h2
  have h3 : DataW.trod enc Try.prog w 0 (fun _ => true) true n 9 (([c0, c1, c2, c3].drop 3).take (Try.prog.cellsOf 9)) = some x3 := hf 3 _ rfl
  rw [show Try.prog.cellsOf 9 = 1 by kernel_rfl] at h3
  have h3 : DataW.trod enc Try.prog w 0 (fun _ => true) true n 9 [c3] = some x3 := h3
  obtain ⟨y3, u3, b3, e3⟩ := (opn_str Try.underlying9) h3
  exact ⟨⟨y0, y1, y2, y3⟩, ⟨u0, u1, u2, u3⟩, by simp only [Siz.bulk, bulkD, bulkL, List.map] at *; omega, openCs_app e0 (openCs_app e1 (openCs_app e2 (openCs_app e3 (openCs_nil))))⟩
theorem opn_GateOp : Opn Try.prog 53 GateOp := by
  intro H enc w fuel cs x h
  obtain ⟨xs, n, _, rfl, hl, hxl, hf⟩ := DataW.trod_struct Try.underlying53 h
  rw [show Try.prog.cellsOf 53 = 5 by kernel_rfl] at hl
  obtain ⟨c0, c1, c2, c3, c4, rfl⟩ : ∃ c0 c1 c2 c3 c4, cs = [c0, c1, c2, c3, c4] := by
    match cs, hl with | [c0, c1, c2, c3, c4], _ => exact ⟨c0, c1, c2, c3, c4, rfl⟩
  obtain ⟨x0, x1, rfl⟩ : ∃ x0 x1, xs = [x0, x1] := by
    match xs, hxl with | [x0, x1], _ => exact ⟨x0, x1, rfl⟩
  have h0 : DataW.trod enc Try.prog w 0 (fun _ => true) true n 4 (([c0, c1, c2, c3, c4].drop 0).take (Try.prog.cellsOf 4)) = some x0 := hf 0 _ rfl
  rw [show Try.prog.cellsOf 4 = 1 by kernel_rfl] at h0
  have h0 : DataW.trod enc Try.prog w 0 (fun _ => true) true n 4 [c0] = some x0 := h0
  obtain ⟨y0, u0, b0, e0⟩ := (opn_bool Try.underlying4) h0
  have h1 : DataW.trod enc Try.prog w 0 (fun _ => true) true n 51 (([c0, c1, c2, c3, c4].drop 1).take (Try.prog.cellsOf 51)) = some x1 := hf 1 _ rfl
  rw [show Try.prog.cellsOf 51 = 4 by kernel_rfl] at h1
  have h1 : DataW.trod enc Try.prog w 0 (fun _ => true) true n 51 [c1, c2, c3, c4] = some x1 := h1
  obtain ⟨y1, u1, b1, e1⟩ := opn_Give h1
  exact ⟨⟨y0, y1⟩, ⟨u0, u1⟩, by simp only [Siz.bulk, bulkD, bulkL, List.map] at *; omega, openCs_app e0 (openCs_app e1 (openCs_nil))⟩
theorem opn_GateAns : Opn Try.prog 55 GateAns := by
  intro H enc w fuel cs x h
  obtain ⟨xs, n, _, rfl, hl, hxl, hf⟩ := DataW.trod_struct Try.underlying55 h
  rw [show Try.prog.cellsOf 55 = 2 by kernel_rfl] at hl
  obtain ⟨c0, c1, rfl⟩ : ∃ c0 c1, cs = [c0, c1] := by
    match cs, hl with | [c0, c1], _ => exact ⟨c0, c1, rfl⟩
  obtain ⟨x0, x1, rfl⟩ : ∃ x0 x1, xs = [x0, x1] := by
    match xs, hxl with | [x0, x1], _ => exact ⟨x0, x1, rfl⟩
  have h0 : DataW.trod enc Try.prog w 0 (fun _ => true) true n 4 (([c0, c1].drop 0).take (Try.prog.cellsOf 4)) = some x0 := hf 0 _ rfl
  rw [show Try.prog.cellsOf 4 = 1 by kernel_rfl] at h0
  have h0 : DataW.trod enc Try.prog w 0 (fun _ => true) true n 4 [c0] = some x0 := h0
  obtain ⟨y0, u0, b0, e0⟩ := (opn_bool Try.underlying4) h0
  have h1 : DataW.trod enc Try.prog w 0 (fun _ => true) true n 25 (([c0, c1].drop 1).take (Try.prog.cellsOf 25)) = some x1 := hf 1 _ rfl
  rw [show Try.prog.cellsOf 25 = 1 by kernel_rfl] at h1
  have h1 : DataW.trod enc Try.prog w 0 (fun _ => true) true n 25 [c1] = some x1 := h1
  obtain ⟨y1, u1, b1, e1⟩ := (opn_int Try.underlying25) h1
  exact ⟨⟨y0, y1⟩, ⟨u0, u1⟩, by simp only [Siz.bulk, bulkD, bulkL, List.map] at *; omega, openCs_app e0 (openCs_app e1 (openCs_nil))⟩
theorem fin_b {b : Th Bool} {H : Hp} {kl : List Nat} (h : b () = true) : outA (.bc true) [] (.b b) H kl := by
  cbv
  repeat' first | (refine Stp.mk ?_; cbv) | (refine Gen.mk fun r hr => ?_; (try simp only [Dat.ok, Dat.dec, Leaf.ok, Leaf.val, Fence.eta, Try.eta, Gate.eta, Give.eta, GateOp.eta, GateAns.eta, val_sl, val_nil] at hr); cbv) | exact trivial | rfl | refine Both.mk ?_ ?_ | (refine Imp.mk fun h => ?_; (try dsimp only at h); (try simp only [nc, Int.toNat_natCast, Bool.not_eq_true', Bool.not_eq_false', decide_eq_true_eq, decide_eq_false_iff_not, beq_iff_eq, beq_eq_false_iff_ne, ba_inj, bne_iff_ne, ne_eq, Bool.and_eq_true, Bool.or_eq_true, Bool.and_eq_false_iff, Bool.or_eq_false_iff, Int.not_le, Int.not_lt, Nat.not_le, Nat.not_lt] at h); (try simp only [nc] at h)) | refine Ob.mk ?_ ?_ | refine Chk.mk (by kernel_rfl) ?_ | refine Eq'.mk ?_ | (refine AllN.mk fun i hi => ?_; cbv) | (refine AllC.mk fun c hc hcm => ?_; (try dsimp only at hc); cbv) | (refine AllS.mk fun r hr => ?_; (try simp only [Dat.ok, Dat.dec, Leaf.ok, Leaf.val, Fence.eta, Try.eta, Gate.eta, Give.eta, GateOp.eta, GateAns.eta, val_sl] at hr); cbv)
  exact h
theorem fin_t {H : Hp} {kl : List Nat} : outA (.bc true) [] (.bc true) H kl := by
  cbv
  repeat' first | (refine Stp.mk ?_; cbv) | (refine Gen.mk fun r hr => ?_; (try simp only [Dat.ok, Dat.dec, Leaf.ok, Leaf.val, Fence.eta, Try.eta, Gate.eta, Give.eta, GateOp.eta, GateAns.eta, val_sl, val_nil] at hr); cbv) | exact trivial | rfl | refine Both.mk ?_ ?_ | (refine Imp.mk fun h => ?_; (try dsimp only at h); (try simp only [nc, Int.toNat_natCast, Bool.not_eq_true', Bool.not_eq_false', decide_eq_true_eq, decide_eq_false_iff_not, beq_iff_eq, beq_eq_false_iff_ne, ba_inj, bne_iff_ne, ne_eq, Bool.and_eq_true, Bool.or_eq_true, Bool.and_eq_false_iff, Bool.or_eq_false_iff, Int.not_le, Int.not_lt, Nat.not_le, Nat.not_lt] at h); (try simp only [nc] at h)) | refine Ob.mk ?_ ?_ | refine Chk.mk (by kernel_rfl) ?_ | refine Eq'.mk ?_ | (refine AllN.mk fun i hi => ?_; cbv) | (refine AllC.mk fun c hc hcm => ?_; (try dsimp only at hc); cbv) | (refine AllS.mk fun r hr => ?_; (try simp only [Dat.ok, Dat.dec, Leaf.ok, Leaf.val, Fence.eta, Try.eta, Gate.eta, Give.eta, GateOp.eta, GateAns.eta, val_sl] at hr); cbv)

end Go.Proofs.Ytpooooomhnehfaa
