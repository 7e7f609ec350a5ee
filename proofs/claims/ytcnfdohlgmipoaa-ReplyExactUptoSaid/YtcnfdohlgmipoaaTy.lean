/- The program's functions, walked: Ty. -/
import Derived.Test.YtcnfdohlgmipoaaAbsG4
import Derived.Test.YtcnfdohlgmipoaaAbsG2
import Derived.Test.YtcnfdohlgmipoaaRows
import Derived.KernelRfl
import Derived.JoinedCond
import Derived.WalkKit
import Derived.ProofKit
import Derived.OpenShut
import Derived.ShutString
import Derived.ChangeOld
set_option linter.all false
namespace Go.Proofs.Ytcnfdohlgmipoaa
open Go Go.Abs
def frs : TypeId → Bool := fun t => match t with | 70 => true | _ => false
noncomputable instance kdI : Kd := ⟨fun e => match Try.prog.info? e with | some i => (match i.zero with | some zv => zv.cells.toList | none => []) | none => [], fun e => !(frs e)⟩
structure Span where
  frm : Int
  to : Int
  deriving DecidableEq
instance datSpan : Dat Span where
  d0 := ⟨0, 0⟩
  sz := 2
  enc x := [Leaf.av fun _ => (x ()).frm, Leaf.av fun _ => (x ()).to]
  dec l := match l with | [a0, a1] => ⟨Leaf.val a0, Leaf.val a1⟩ | _ => ⟨0, 0⟩
  ok l := match l with | [a0, a1] => Leaf.ok Int a0 ∧ Leaf.ok Int a1 | _ => False
  hlen _ := rfl
  hclosed x := by simp only [closedL, Leaf.hclosed]
  hdec x := by simp only [Leaf.hval]
  hok x := ⟨Leaf.hok _, Leaf.hok _⟩
  hle l h := by
    split at h
    · obtain ⟨k0, k1⟩ := h
      exact .mk (Leaf.hle _ k0) (.mk (Leaf.hle _ k1) (trivial))
    · cases h
  hpick c l m h1 h2 := by
    split at h1
    · split at h2
      · obtain ⟨k0, k1⟩ := h1
        obtain ⟨j0, j1⟩ := h2
        refine ⟨⟨(Leaf.hpick c _ _ k0 j0).1, (Leaf.hpick c _ _ k1 j1).1⟩, ?_⟩
        have e := (fun (u : Bool) => rfl : ∀ u : Bool, u = u)
        simp only [rowL, nth, dropN, (Leaf.hpick c _ _ k0 j0).2, (Leaf.hpick c _ _ k1 j1).2]
        cases c () <;> rfl
      · cases h2
    · cases h1
instance sizSpan : Siz Span := ⟨fun x => Siz.fit x.frm ∧ Siz.fit x.to, fun x => Siz.bulk x.frm + Siz.bulk x.to + 1⟩
theorem Span.eta (x : Span) : (⟨x.frm, x.to⟩ : Span) = x := rfl
theorem Span.one_le (x : Span) : 1 ≤ Siz.bulk x := Nat.le_add_left _ _
structure Set where
  size : Int
  spans : (List Span)
  deriving DecidableEq
instance datSet : Dat Set where
  d0 := ⟨0, []⟩
  sz := 2
  enc x := [Leaf.av fun _ => (x ()).size, Leaf.av fun _ => (x ()).spans]
  dec l := match l with | [a0, a1] => ⟨Leaf.val a0, Leaf.val a1⟩ | _ => ⟨0, []⟩
  ok l := match l with | [a0, a1] => Leaf.ok Int a0 ∧ Leaf.ok (List Span) a1 | _ => False
  hlen _ := rfl
  hclosed x := by simp only [closedL, Leaf.hclosed]
  hdec x := by simp only [Leaf.hval]
  hok x := ⟨Leaf.hok _, Leaf.hok _⟩
  hle l h := by
    split at h
    · obtain ⟨k0, k1⟩ := h
      exact .mk (Leaf.hle _ k0) (.mk (Leaf.hle _ k1) (trivial))
    · cases h
  hpick c l m h1 h2 := by
    split at h1
    · split at h2
      · obtain ⟨k0, k1⟩ := h1
        obtain ⟨j0, j1⟩ := h2
        refine ⟨⟨(Leaf.hpick c _ _ k0 j0).1, (Leaf.hpick c _ _ k1 j1).1⟩, ?_⟩
        have e := (fun (u : Bool) => rfl : ∀ u : Bool, u = u)
        simp only [rowL, nth, dropN, (Leaf.hpick c _ _ k0 j0).2, (Leaf.hpick c _ _ k1 j1).2]
        cases c () <;> rfl
      · cases h2
    · cases h1
instance sizSet : Siz Set := ⟨fun x => Siz.fit x.size ∧ Siz.fit x.spans, fun x => Siz.bulk x.size + Siz.bulk x.spans + 1⟩
theorem Set.eta (x : Set) : (⟨x.size, x.spans⟩ : Set) = x := rfl
theorem Set.one_le (x : Set) : 1 ≤ Siz.bulk x := Nat.le_add_left _ _
structure Task where
  long : Int
  every : Int
  due : Int
  deriving DecidableEq
instance datTask : Dat Task where
  d0 := ⟨0, 0, 0⟩
  sz := 3
  enc x := [Leaf.av fun _ => (x ()).long, Leaf.av fun _ => (x ()).every, Leaf.av fun _ => (x ()).due]
  dec l := match l with | [a0, a1, a2] => ⟨Leaf.val a0, Leaf.val a1, Leaf.val a2⟩ | _ => ⟨0, 0, 0⟩
  ok l := match l with | [a0, a1, a2] => Leaf.ok Int a0 ∧ Leaf.ok Int a1 ∧ Leaf.ok Int a2 | _ => False
  hlen _ := rfl
  hclosed x := by simp only [closedL, Leaf.hclosed]
  hdec x := by simp only [Leaf.hval]
  hok x := ⟨Leaf.hok _, Leaf.hok _, Leaf.hok _⟩
  hle l h := by
    split at h
    · obtain ⟨k0, k1, k2⟩ := h
      exact .mk (Leaf.hle _ k0) (.mk (Leaf.hle _ k1) (.mk (Leaf.hle _ k2) (trivial)))
    · cases h
  hpick c l m h1 h2 := by
    split at h1
    · split at h2
      · obtain ⟨k0, k1, k2⟩ := h1
        obtain ⟨j0, j1, j2⟩ := h2
        refine ⟨⟨(Leaf.hpick c _ _ k0 j0).1, (Leaf.hpick c _ _ k1 j1).1, (Leaf.hpick c _ _ k2 j2).1⟩, ?_⟩
        have e := (fun (u : Bool) => rfl : ∀ u : Bool, u = u)
        simp only [rowL, nth, dropN, (Leaf.hpick c _ _ k0 j0).2, (Leaf.hpick c _ _ k1 j1).2, (Leaf.hpick c _ _ k2 j2).2]
        cases c () <;> rfl
      · cases h2
    · cases h1
instance sizTask : Siz Task := ⟨fun x => Siz.fit x.long ∧ Siz.fit x.every ∧ Siz.fit x.due, fun x => Siz.bulk x.long + Siz.bulk x.every + Siz.bulk x.due + 1⟩
theorem Task.eta (x : Task) : (⟨x.long, x.every, x.due⟩ : Task) = x := rfl
theorem Task.one_le (x : Task) : 1 ≤ Siz.bulk x := Nat.le_add_left _ _
structure Done where
  task : Int
  job : Int
  came : Int
  at_ : Int
  deriving DecidableEq
instance datDone : Dat Done where
  d0 := ⟨0, 0, 0, 0⟩
  sz := 4
  enc x := [Leaf.av fun _ => (x ()).task, Leaf.av fun _ => (x ()).job, Leaf.av fun _ => (x ()).came, Leaf.av fun _ => (x ()).at_]
  dec l := match l with | [a0, a1, a2, a3] => ⟨Leaf.val a0, Leaf.val a1, Leaf.val a2, Leaf.val a3⟩ | _ => ⟨0, 0, 0, 0⟩
  ok l := match l with | [a0, a1, a2, a3] => Leaf.ok Int a0 ∧ Leaf.ok Int a1 ∧ Leaf.ok Int a2 ∧ Leaf.ok Int a3 | _ => False
  hlen _ := rfl
  hclosed x := by simp only [closedL, Leaf.hclosed]
  hdec x := by simp only [Leaf.hval]
  hok x := ⟨Leaf.hok _, Leaf.hok _, Leaf.hok _, Leaf.hok _⟩
  hle l h := by
    split at h
    · obtain ⟨k0, k1, k2, k3⟩ := h
      exact .mk (Leaf.hle _ k0) (.mk (Leaf.hle _ k1) (.mk (Leaf.hle _ k2) (.mk (Leaf.hle _ k3) (trivial))))
    · cases h
  hpick c l m h1 h2 := by
    split at h1
    · split at h2
      · obtain ⟨k0, k1, k2, k3⟩ := h1
        obtain ⟨j0, j1, j2, j3⟩ := h2
        refine ⟨⟨(Leaf.hpick c _ _ k0 j0).1, (Leaf.hpick c _ _ k1 j1).1, (Leaf.hpick c _ _ k2 j2).1, (Leaf.hpick c _ _ k3 j3).1⟩, ?_⟩
        have e := (fun (u : Bool) => rfl : ∀ u : Bool, u = u)
        simp only [rowL, nth, dropN, (Leaf.hpick c _ _ k0 j0).2, (Leaf.hpick c _ _ k1 j1).2, (Leaf.hpick c _ _ k2 j2).2, (Leaf.hpick c _ _ k3 j3).2]
        cases c () <;> rfl
      · cases h2
    · cases h1
instance sizDone : Siz Done := ⟨fun x => Siz.fit x.task ∧ Siz.fit x.job ∧ Siz.fit x.came ∧ Siz.fit x.at_, fun x => Siz.bulk x.task + Siz.bulk x.job + Siz.bulk x.came + Siz.bulk x.at_ + 1⟩
theorem Done.eta (x : Done) : (⟨x.task, x.job, x.came, x.at_⟩ : Done) = x := rfl
theorem Done.one_le (x : Done) : 1 ≤ Siz.bulk x := Nat.le_add_left _ _
structure job where
  done : Done
  due : Int
  left : Int
  deriving DecidableEq
instance datjob : Dat job where
  d0 := ⟨⟨0, 0, 0, 0⟩, 0, 0⟩
  sz := 6
  enc x := [Leaf.av fun _ => (x ()).done.task, Leaf.av fun _ => (x ()).done.job, Leaf.av fun _ => (x ()).done.came, Leaf.av fun _ => (x ()).done.at_, Leaf.av fun _ => (x ()).due, Leaf.av fun _ => (x ()).left]
  dec l := match l with | [a0, a1, a2, a3, a4, a5] => ⟨⟨Leaf.val a0, Leaf.val a1, Leaf.val a2, Leaf.val a3⟩, Leaf.val a4, Leaf.val a5⟩ | _ => ⟨⟨0, 0, 0, 0⟩, 0, 0⟩
  ok l := match l with | [a0, a1, a2, a3, a4, a5] => Leaf.ok Int a0 ∧ Leaf.ok Int a1 ∧ Leaf.ok Int a2 ∧ Leaf.ok Int a3 ∧ Leaf.ok Int a4 ∧ Leaf.ok Int a5 | _ => False
  hlen _ := rfl
  hclosed x := by simp only [closedL, Leaf.hclosed]
  hdec x := by simp only [Leaf.hval]
  hok x := ⟨Leaf.hok _, Leaf.hok _, Leaf.hok _, Leaf.hok _, Leaf.hok _, Leaf.hok _⟩
  hle l h := by
    split at h
    · obtain ⟨k0, k1, k2, k3, k4, k5⟩ := h
      exact .mk (Leaf.hle _ k0) (.mk (Leaf.hle _ k1) (.mk (Leaf.hle _ k2) (.mk (Leaf.hle _ k3) (.mk (Leaf.hle _ k4) (.mk (Leaf.hle _ k5) (trivial))))))
    · cases h
  hpick c l m h1 h2 := by
    split at h1
    · split at h2
      · obtain ⟨k0, k1, k2, k3, k4, k5⟩ := h1
        obtain ⟨j0, j1, j2, j3, j4, j5⟩ := h2
        refine ⟨⟨(Leaf.hpick c _ _ k0 j0).1, (Leaf.hpick c _ _ k1 j1).1, (Leaf.hpick c _ _ k2 j2).1, (Leaf.hpick c _ _ k3 j3).1, (Leaf.hpick c _ _ k4 j4).1, (Leaf.hpick c _ _ k5 j5).1⟩, ?_⟩
        have e := (fun (u : Bool) => rfl : ∀ u : Bool, u = u)
        simp only [rowL, nth, dropN, (Leaf.hpick c _ _ k0 j0).2, (Leaf.hpick c _ _ k1 j1).2, (Leaf.hpick c _ _ k2 j2).2, (Leaf.hpick c _ _ k3 j3).2, (Leaf.hpick c _ _ k4 j4).2, (Leaf.hpick c _ _ k5 j5).2]
        cases c () <;> rfl
      · cases h2
    · cases h1
instance sizjob : Siz job := ⟨fun x => Siz.fit x.done ∧ Siz.fit x.due ∧ Siz.fit x.left, fun x => Siz.bulk x.done + Siz.bulk x.due + Siz.bulk x.left + 1⟩
theorem job.eta (x : job) : (⟨x.done, x.due, x.left⟩ : job) = x := rfl
theorem job.one_le (x : job) : 1 ≤ Siz.bulk x := Nat.le_add_left _ _
structure Late where
  task : Int
  job : Int
  deriving DecidableEq
instance datLate : Dat Late where
  d0 := ⟨0, 0⟩
  sz := 2
  enc x := [Leaf.av fun _ => (x ()).task, Leaf.av fun _ => (x ()).job]
  dec l := match l with | [a0, a1] => ⟨Leaf.val a0, Leaf.val a1⟩ | _ => ⟨0, 0⟩
  ok l := match l with | [a0, a1] => Leaf.ok Int a0 ∧ Leaf.ok Int a1 | _ => False
  hlen _ := rfl
  hclosed x := by simp only [closedL, Leaf.hclosed]
  hdec x := by simp only [Leaf.hval]
  hok x := ⟨Leaf.hok _, Leaf.hok _⟩
  hle l h := by
    split at h
    · obtain ⟨k0, k1⟩ := h
      exact .mk (Leaf.hle _ k0) (.mk (Leaf.hle _ k1) (trivial))
    · cases h
  hpick c l m h1 h2 := by
    split at h1
    · split at h2
      · obtain ⟨k0, k1⟩ := h1
        obtain ⟨j0, j1⟩ := h2
        refine ⟨⟨(Leaf.hpick c _ _ k0 j0).1, (Leaf.hpick c _ _ k1 j1).1⟩, ?_⟩
        have e := (fun (u : Bool) => rfl : ∀ u : Bool, u = u)
        simp only [rowL, nth, dropN, (Leaf.hpick c _ _ k0 j0).2, (Leaf.hpick c _ _ k1 j1).2]
        cases c () <;> rfl
      · cases h2
    · cases h1
instance sizLate : Siz Late := ⟨fun x => Siz.fit x.task ∧ Siz.fit x.job, fun x => Siz.bulk x.task + Siz.bulk x.job + 1⟩
theorem Late.eta (x : Late) : (⟨x.task, x.job⟩ : Late) = x := rfl
theorem Late.one_le (x : Late) : 1 ≤ Siz.bulk x := Nat.le_add_left _ _
noncomputable def tys : TypeId → Ty := fun t => match t with
  | 1 => .one
  | 2 => .int .i64
  | 3 => .int .i64
  | 4 => .bool
  | 5 => .int .u8
  | 9 => .str
  | 12 => .int .u64
  | 13 => .struct none [(0, 9, 1), (1, 12, 1)] 2 [.s fun _ => .empty, .i .u64 fun _ => 0]
  | 21 => .int .i32
  | 22 => .slice 32 3 24 [.i .i64 fun _ => 0, .i .i64 fun _ => 0, .i .i64 fun _ => 0]
  | 23 => .slice 36 2 16 [.i .i64 fun _ => 0, .i .i64 fun _ => 0]
  | 24 => .struct none [(0, 3, 1), (1, 23, 1)] 2 [.i .i64 fun _ => 0, .nil]
  | 25 => .struct none [(0, 3, 1), (1, 23, 1)] 2 [.i .i64 fun _ => 0, .nil]
  | 26 => .int .i64
  | 28 => .one
  | 29 => .one
  | 30 => .one
  | 31 => .struct (some [.i, .i, .i]) [(0, 3, 1), (1, 3, 1), (2, 3, 1)] 3 [.i .i64 fun _ => 0, .i .i64 fun _ => 0, .i .i64 fun _ => 0]
  | 32 => .struct (some [.i, .i, .i]) [(0, 3, 1), (1, 3, 1), (2, 3, 1)] 3 [.i .i64 fun _ => 0, .i .i64 fun _ => 0, .i .i64 fun _ => 0]
  | 33 => .one
  | 34 => .one
  | 35 => .struct (some [.i, .i]) [(0, 3, 1), (1, 3, 1)] 2 [.i .i64 fun _ => 0, .i .i64 fun _ => 0]
  | 36 => .struct (some [.i, .i]) [(0, 3, 1), (1, 3, 1)] 2 [.i .i64 fun _ => 0, .i .i64 fun _ => 0]
  | 37 => .slice 43 4 32 [.i .i64 fun _ => 0, .i .i64 fun _ => 0, .i .i64 fun _ => 0, .i .i64 fun _ => 0]
  | 39 => .one
  | 40 => .slice 3 1 8 [.i .i64 fun _ => 0]
  | 41 => .one
  | 42 => .struct (some [.i, .i, .i, .i]) [(0, 3, 1), (1, 3, 1), (2, 3, 1), (3, 3, 1)] 4 [.i .i64 fun _ => 0, .i .i64 fun _ => 0, .i .i64 fun _ => 0, .i .i64 fun _ => 0]
  | 43 => .struct (some [.i, .i, .i, .i]) [(0, 3, 1), (1, 3, 1), (2, 3, 1), (3, 3, 1)] 4 [.i .i64 fun _ => 0, .i .i64 fun _ => 0, .i .i64 fun _ => 0, .i .i64 fun _ => 0]
  | 44 => .one
  | 45 => .one
  | 47 => .one
  | 48 => .slice 52 2 16 [.i .i64 fun _ => 0, .i .i64 fun _ => 0]
  | 50 => .one
  | 51 => .struct (some [.i, .i]) [(0, 3, 1), (1, 3, 1)] 2 [.i .i64 fun _ => 0, .i .i64 fun _ => 0]
  | 52 => .struct (some [.i, .i]) [(0, 3, 1), (1, 3, 1)] 2 [.i .i64 fun _ => 0, .i .i64 fun _ => 0]
  | 53 => .one
  | 54 => .one
  | 57 => .one
  | 58 => .one
  | 59 => .one
  | 60 => .one
  | 61 => .one
  | 62 => .one
  | 63 => .one
  | 65 => .slice 70 6 48 [.i .i64 fun _ => 0, .i .i64 fun _ => 0, .i .i64 fun _ => 0, .i .i64 fun _ => 0, .i .i64 fun _ => 0, .i .i64 fun _ => 0]
  | 67 => .one
  | 68 => .one
  | 69 => .struct none [(0, 43, 4), (4, 3, 1), (5, 3, 1)] 6 [.i .i64 fun _ => 0, .i .i64 fun _ => 0, .i .i64 fun _ => 0, .i .i64 fun _ => 0, .i .i64 fun _ => 0, .i .i64 fun _ => 0]
  | 70 => .struct none [(0, 43, 4), (4, 3, 1), (5, 3, 1)] 6 [.i .i64 fun _ => 0, .i .i64 fun _ => 0, .i .i64 fun _ => 0, .i .i64 fun _ => 0, .i .i64 fun _ => 0, .i .i64 fun _ => 0]
  | 71 => .one
  | 72 => .one
  | 73 => .one
  | 74 => .struct none [(0, 65, 1), (1, 4, 1)] 2 [.nil, .bc false]
  | 75 => .struct none [(0, 65, 1), (1, 4, 1)] 2 [.nil, .bc false]
  | 76 => .one
  | 78 => .one
  | 79 => .one
  | 80 => .one
  | 82 => .one
  | 83 => .one
  | 84 => .one
  | 85 => .one
  | 86 => .one
  | 89 => .one
  | 90 => .one
  | 91 => .one
  | 92 => .one
  | 93 => .one
  | 94 => .one
  | 95 => .one
  | 96 => .one
  | 97 => .one
  | 98 => .one
  | 99 => .one
  | 100 => .one
  | 101 => .one
  | 102 => .one
  | 103 => .one
  | 104 => .one
  | 105 => .one
  | 106 => .int .u64
  | 107 => .one
  | 113 => .int .u32
  | 116 => .one
  | 122 => .one
  | _ => .other
noncomputable def ars : TypeId → Option Arr := fun t => match t with
  | 55 => some ⟨2, 1, [.i .i64 fun _ => 0], false⟩
  | 64 => some ⟨3, 1, [.any], false⟩
  | _ => none
def mas : TypeId → Option Nat := fun t => match t with
  | 81 => some 2
  | _ => none
set_option maxRecDepth 100000
theorem masOk : ∀ t ks, mas t = some ks → MapOk Try.prog t ks := fun t ks h => by
  unfold mas at h
  split at h
  · cases h
    refine mapOk_flat (kt := 52) (et := 3) rfl rfl (by kernel_rfl) (by kernel_rfl) (fun e k w hk => ?_) (fun w => by kernel_rfl)
    obtain ⟨x0, x1, rfl⟩ : ∃ x0 x1, k = [x0, x1] := (match k, hk with | [x0, x1], _ => ⟨x0, x1, rfl⟩)
    kernel_rfl
  · cases h
def mts : TypeId → String → Option FuncId := fun t n => match t with
  | 70 => none
  | 73 => if n = "Len" then some 33 else if n = "Less" then some 78 else if n = "Pop" then some 79 else if n = "Push" then some 80 else if n = "Swap" then some 81 else none
  | _ => none
def nifs : TypeId → Bool := fun t => match t with
  | 70 => true
  | 73 => true
  | _ => false
noncomputable def E : Env := { ty := tys, ar := ars, fr := frs, ma := mas, mt := mts, nif := nifs }
noncomputable def Ew (w : List Nat) : Env := { ty := tys, wr := w, ar := ars, fr := frs, ma := mas, mt := mts, nif := nifs }
set_option maxRecDepth 100000
theorem envOkW (w : List Nat) : EnvOk Try.prog (Ew w) := ⟨fun t => by
  show TyOk Try.prog t (tys t)
  unfold tys
  split
  · exact ⟨⟨_, rfl, rfl⟩, ⟨_, rfl, rfl, _, rfl, rfl, rfl⟩⟩
  · exact ⟨rfl, _, rfl, rfl, _, rfl, rfl, rfl⟩
  · exact ⟨rfl, _, rfl, rfl, _, rfl, rfl, rfl⟩
  · exact ⟨rfl, _, rfl, rfl, _, rfl, rfl, rfl⟩
  · exact ⟨rfl, _, rfl, rfl, _, rfl, rfl, rfl⟩
  · exact ⟨rfl, _, rfl, rfl, _, rfl, rfl, rfl⟩
  · exact ⟨rfl, _, rfl, rfl, _, rfl, rfl, rfl⟩
  · exact ⟨⟨_, rfl, by kernel_rfl, fun ks h => by cases h⟩, ⟨_, rfl, rfl, _, rfl, rfl, rfl⟩⟩
  · exact ⟨rfl, _, rfl, rfl, _, rfl, rfl, rfl⟩
  · exact ⟨rfl, by omega, by omega, ⟨_, rfl, rfl, _, rfl, rfl, rfl⟩, rfl, ⟨_, rfl, rfl, _, rfl, rfl, rfl⟩, kdOf_at _ _ _⟩
  · exact ⟨rfl, by omega, by omega, ⟨_, rfl, rfl, _, rfl, rfl, rfl⟩, rfl, ⟨_, rfl, rfl, _, rfl, rfl, rfl⟩, kdOf_at _ _ _⟩
  · exact ⟨⟨_, rfl, by kernel_rfl, fun ks h => by cases h⟩, ⟨_, rfl, rfl, _, rfl, rfl, rfl⟩⟩
  · exact ⟨⟨_, rfl, by kernel_rfl, fun ks h => by cases h⟩, ⟨_, rfl, rfl, _, rfl, rfl, rfl⟩⟩
  · exact ⟨rfl, _, rfl, rfl, _, rfl, rfl, rfl⟩
  · exact ⟨⟨_, rfl, rfl⟩, ⟨_, rfl, rfl, _, rfl, rfl, rfl⟩⟩
  · exact ⟨⟨_, rfl, rfl⟩, ⟨_, rfl, rfl, _, rfl, rfl, rfl⟩⟩
  · exact ⟨⟨_, rfl, rfl⟩, ⟨_, rfl, rfl, _, rfl, rfl, rfl⟩⟩
  · exact ⟨⟨_, rfl, by kernel_rfl, fun ks h => by cases h; exact ⟨by kernel_rfl, by kernel_rfl, by kernel_rfl⟩⟩, ⟨_, rfl, rfl, _, rfl, rfl, rfl⟩⟩
  · exact ⟨⟨_, rfl, by kernel_rfl, fun ks h => by cases h; exact ⟨by kernel_rfl, by kernel_rfl, by kernel_rfl⟩⟩, ⟨_, rfl, rfl, _, rfl, rfl, rfl⟩⟩
  · exact ⟨⟨_, rfl, rfl⟩, ⟨_, rfl, rfl, _, rfl, rfl, rfl⟩⟩
  · exact ⟨⟨_, rfl, rfl⟩, ⟨_, rfl, rfl, _, rfl, rfl, rfl⟩⟩
  · exact ⟨⟨_, rfl, by kernel_rfl, fun ks h => by cases h; exact ⟨by kernel_rfl, by kernel_rfl, by kernel_rfl⟩⟩, ⟨_, rfl, rfl, _, rfl, rfl, rfl⟩⟩
  · exact ⟨⟨_, rfl, by kernel_rfl, fun ks h => by cases h; exact ⟨by kernel_rfl, by kernel_rfl, by kernel_rfl⟩⟩, ⟨_, rfl, rfl, _, rfl, rfl, rfl⟩⟩
  · exact ⟨rfl, by omega, by omega, ⟨_, rfl, rfl, _, rfl, rfl, rfl⟩, rfl, ⟨_, rfl, rfl, _, rfl, rfl, rfl⟩, kdOf_at _ _ _⟩
  · exact ⟨⟨_, rfl, rfl⟩, ⟨_, rfl, rfl, _, rfl, rfl, rfl⟩⟩
  · exact ⟨rfl, by omega, by omega, ⟨_, rfl, rfl, _, rfl, rfl, rfl⟩, rfl, ⟨_, rfl, rfl, _, rfl, rfl, rfl⟩, kdOf_at _ _ _⟩
  · exact ⟨⟨_, rfl, rfl⟩, ⟨_, rfl, rfl, _, rfl, rfl, rfl⟩⟩
  · exact ⟨⟨_, rfl, by kernel_rfl, fun ks h => by cases h; exact ⟨by kernel_rfl, by kernel_rfl, by kernel_rfl⟩⟩, ⟨_, rfl, rfl, _, rfl, rfl, rfl⟩⟩
  · exact ⟨⟨_, rfl, by kernel_rfl, fun ks h => by cases h; exact ⟨by kernel_rfl, by kernel_rfl, by kernel_rfl⟩⟩, ⟨_, rfl, rfl, _, rfl, rfl, rfl⟩⟩
  · exact ⟨⟨_, rfl, rfl⟩, ⟨_, rfl, rfl, _, rfl, rfl, rfl⟩⟩
  · exact ⟨⟨_, rfl, rfl⟩, ⟨_, rfl, rfl, _, rfl, rfl, rfl⟩⟩
  · exact ⟨⟨_, rfl, rfl⟩, ⟨_, rfl, rfl, _, rfl, rfl, rfl⟩⟩
  · exact ⟨rfl, by omega, by omega, ⟨_, rfl, rfl, _, rfl, rfl, rfl⟩, rfl, ⟨_, rfl, rfl, _, rfl, rfl, rfl⟩, kdOf_at _ _ _⟩
  · exact ⟨⟨_, rfl, rfl⟩, ⟨_, rfl, rfl, _, rfl, rfl, rfl⟩⟩
  · exact ⟨⟨_, rfl, by kernel_rfl, fun ks h => by cases h; exact ⟨by kernel_rfl, by kernel_rfl, by kernel_rfl⟩⟩, ⟨_, rfl, rfl, _, rfl, rfl, rfl⟩⟩
  · exact ⟨⟨_, rfl, by kernel_rfl, fun ks h => by cases h; exact ⟨by kernel_rfl, by kernel_rfl, by kernel_rfl⟩⟩, ⟨_, rfl, rfl, _, rfl, rfl, rfl⟩⟩
  · exact ⟨⟨_, rfl, rfl⟩, ⟨_, rfl, rfl, _, rfl, rfl, rfl⟩⟩
  · exact ⟨⟨_, rfl, rfl⟩, ⟨_, rfl, rfl, _, rfl, rfl, rfl⟩⟩
  · exact ⟨⟨_, rfl, rfl⟩, ⟨_, rfl, rfl, _, rfl, rfl, rfl⟩⟩
  · exact ⟨⟨_, rfl, rfl⟩, ⟨_, rfl, rfl, _, rfl, rfl, rfl⟩⟩
  · exact ⟨⟨_, rfl, rfl⟩, ⟨_, rfl, rfl, _, rfl, rfl, rfl⟩⟩
  · exact ⟨⟨_, rfl, rfl⟩, ⟨_, rfl, rfl, _, rfl, rfl, rfl⟩⟩
  · exact ⟨⟨_, rfl, rfl⟩, ⟨_, rfl, rfl, _, rfl, rfl, rfl⟩⟩
  · exact ⟨⟨_, rfl, rfl⟩, ⟨_, rfl, rfl, _, rfl, rfl, rfl⟩⟩
  · exact ⟨⟨_, rfl, rfl⟩, ⟨_, rfl, rfl, _, rfl, rfl, rfl⟩⟩
  · exact ⟨rfl, by omega, by omega, ⟨_, rfl, rfl, _, rfl, rfl, rfl⟩, rfl, ⟨_, rfl, rfl, _, rfl, rfl, rfl⟩, kdOf_at _ _ _⟩
  · exact ⟨⟨_, rfl, rfl⟩, ⟨_, rfl, rfl, _, rfl, rfl, rfl⟩⟩
  · exact ⟨⟨_, rfl, rfl⟩, ⟨_, rfl, rfl, _, rfl, rfl, rfl⟩⟩
  · exact ⟨⟨_, rfl, by kernel_rfl, fun ks h => by cases h⟩, ⟨_, rfl, rfl, _, rfl, rfl, rfl⟩⟩
  · exact ⟨⟨_, rfl, by kernel_rfl, fun ks h => by cases h⟩, ⟨_, rfl, rfl, _, rfl, rfl, rfl⟩⟩
  · exact ⟨⟨_, rfl, rfl⟩, ⟨_, rfl, rfl, _, rfl, rfl, rfl⟩⟩
  · exact ⟨⟨_, rfl, rfl⟩, ⟨_, rfl, rfl, _, rfl, rfl, rfl⟩⟩
  · exact ⟨⟨_, rfl, rfl⟩, ⟨_, rfl, rfl, _, rfl, rfl, rfl⟩⟩
  · exact ⟨⟨_, rfl, by kernel_rfl, fun ks h => by cases h⟩, ⟨_, rfl, rfl, _, rfl, rfl, rfl⟩⟩
  · exact ⟨⟨_, rfl, by kernel_rfl, fun ks h => by cases h⟩, ⟨_, rfl, rfl, _, rfl, rfl, rfl⟩⟩
  · exact ⟨⟨_, rfl, rfl⟩, ⟨_, rfl, rfl, _, rfl, rfl, rfl⟩⟩
  · exact ⟨⟨_, rfl, rfl⟩, ⟨_, rfl, rfl, _, rfl, rfl, rfl⟩⟩
  · exact ⟨⟨_, rfl, rfl⟩, ⟨_, rfl, rfl, _, rfl, rfl, rfl⟩⟩
  · exact ⟨⟨_, rfl, rfl⟩, ⟨_, rfl, rfl, _, rfl, rfl, rfl⟩⟩
  · exact ⟨⟨_, rfl, rfl⟩, ⟨_, rfl, rfl, _, rfl, rfl, rfl⟩⟩
  · exact ⟨⟨_, rfl, rfl⟩, ⟨_, rfl, rfl, _, rfl, rfl, rfl⟩⟩
  · exact ⟨⟨_, rfl, rfl⟩, ⟨_, rfl, rfl, _, rfl, rfl, rfl⟩⟩
  · exact ⟨⟨_, rfl, rfl⟩, ⟨_, rfl, rfl, _, rfl, rfl, rfl⟩⟩
  · exact ⟨⟨_, rfl, rfl⟩, ⟨_, rfl, rfl, _, rfl, rfl, rfl⟩⟩
  · exact ⟨⟨_, rfl, rfl⟩, ⟨_, rfl, rfl, _, rfl, rfl, rfl⟩⟩
  · exact ⟨⟨_, rfl, rfl⟩, ⟨_, rfl, rfl, _, rfl, rfl, rfl⟩⟩
  · exact ⟨⟨_, rfl, rfl⟩, ⟨_, rfl, rfl, _, rfl, rfl, rfl⟩⟩
  · exact ⟨⟨_, rfl, rfl⟩, ⟨_, rfl, rfl, _, rfl, rfl, rfl⟩⟩
  · exact ⟨⟨_, rfl, rfl⟩, ⟨_, rfl, rfl, _, rfl, rfl, rfl⟩⟩
  · exact ⟨⟨_, rfl, rfl⟩, ⟨_, rfl, rfl, _, rfl, rfl, rfl⟩⟩
  · exact ⟨⟨_, rfl, rfl⟩, ⟨_, rfl, rfl, _, rfl, rfl, rfl⟩⟩
  · exact ⟨⟨_, rfl, rfl⟩, ⟨_, rfl, rfl, _, rfl, rfl, rfl⟩⟩
  · exact ⟨⟨_, rfl, rfl⟩, ⟨_, rfl, rfl, _, rfl, rfl, rfl⟩⟩
  · exact ⟨⟨_, rfl, rfl⟩, ⟨_, rfl, rfl, _, rfl, rfl, rfl⟩⟩
  · exact ⟨⟨_, rfl, rfl⟩, ⟨_, rfl, rfl, _, rfl, rfl, rfl⟩⟩
  · exact ⟨⟨_, rfl, rfl⟩, ⟨_, rfl, rfl, _, rfl, rfl, rfl⟩⟩
  · exact ⟨⟨_, rfl, rfl⟩, ⟨_, rfl, rfl, _, rfl, rfl, rfl⟩⟩
  · exact ⟨⟨_, rfl, rfl⟩, ⟨_, rfl, rfl, _, rfl, rfl, rfl⟩⟩
  · exact ⟨⟨_, rfl, rfl⟩, ⟨_, rfl, rfl, _, rfl, rfl, rfl⟩⟩
  · exact ⟨⟨_, rfl, rfl⟩, ⟨_, rfl, rfl, _, rfl, rfl, rfl⟩⟩
  · exact ⟨⟨_, rfl, rfl⟩, ⟨_, rfl, rfl, _, rfl, rfl, rfl⟩⟩
  · exact ⟨rfl, _, rfl, rfl, _, rfl, rfl, rfl⟩
  · exact ⟨⟨_, rfl, rfl⟩, ⟨_, rfl, rfl, _, rfl, rfl, rfl⟩⟩
  · exact ⟨rfl, _, rfl, rfl, _, rfl, rfl, rfl⟩
  · exact ⟨⟨_, rfl, rfl⟩, ⟨_, rfl, rfl, _, rfl, rfl, rfl⟩⟩
  · exact ⟨⟨_, rfl, rfl⟩, ⟨_, rfl, rfl, _, rfl, rfl, rfl⟩⟩
  · trivial, (fun t r h => by
  have h : ars t = some r := h
  unfold ars at h
  split at h
  · cases h; exact ⟨3, rfl, ⟨_, _, rfl, rfl, rfl, rfl⟩, ⟨_, rfl, rfl, _, rfl, rfl, rfl⟩, _, rfl, rfl⟩
  · cases h; exact ⟨61, rfl, ⟨_, _, rfl, rfl, rfl, rfl⟩, ⟨_, rfl, rfl, _, rfl, rfl, rfl⟩, _, rfl, rfl⟩
  · cases h), (fun f h => by cases h),
  (fun t n f h => by
  have h : mts t n = some f := h
  unfold mts at h
  split at h
  · cases h
  · repeat (split at h; (rename_i e; subst e; cases h; intro v w; kernel_rfl))
    cases h
  · cases h), (fun t h => by
  have h : nifs t = true := h
  unfold nifs at h
  split at h
  · exact ⟨_, rfl, rfl⟩
  · exact ⟨_, rfl, rfl⟩
  · cases h), (fun e => rfl), fun t ks h => masOk t ks h⟩
theorem envOk : EnvOk Try.prog E := envOkW []
theorem zlW (w : List Nat) : Zl (Ew w) := ⟨fun t e sz b z h => by
  have h : tys t = .slice e sz b z := h
  unfold tys at h
  split at h <;> cases h <;> rfl⟩
theorem zl : Zl E := zlW []
theorem mixed : Try.prog.follows .mixedOrders = true := by kernel_rfl
def noCon : FuncId → Con := fun _ _ _ _ => Bad 1000
theorem noCon_ok : ConOk Try.prog noCon := fun f A H K h => by cases h
def noDet : FuncId → Option Dt := fun _ => none
theorem noDet_ok : DetOk Try.prog noDet := fun f d h => by cases h
set_option maxRecDepth 100000
theorem opn_Span : Opn Try.prog 36 Span := by
  intro H enc w fuel cs x h
  obtain ⟨xs, n, _, rfl, hl, hxl, hf⟩ := DataW.trod_struct Try.underlying36 h
  rw [show Try.prog.cellsOf 36 = 2 by kernel_rfl] at hl
  obtain ⟨c0, c1, rfl⟩ : ∃ c0 c1, cs = [c0, c1] := by
    match cs, hl with | [c0, c1], _ => exact ⟨c0, c1, rfl⟩
  obtain ⟨x0, x1, rfl⟩ : ∃ x0 x1, xs = [x0, x1] := by
    match xs, hxl with | [x0, x1], _ => exact ⟨x0, x1, rfl⟩
  have h0 : DataW.trod enc Try.prog w 0 (fun _ => true) true n 3 (([c0, c1].drop 0).take (Try.prog.cellsOf 3)) = some x0 := hf 0 _ rfl
  rw [show Try.prog.cellsOf 3 = 1 by kernel_rfl] at h0
  have h0 : DataW.trod enc Try.prog w 0 (fun _ => true) true n 3 [c0] = some x0 := h0
  obtain ⟨y0, u0, b0, e0⟩ := (opn_int Try.underlying3) h0
  have h1 : DataW.trod enc Try.prog w 0 (fun _ => true) true n 3 (([c0, c1].drop 1).take (Try.prog.cellsOf 3)) = some x1 := hf 1 _ rfl
  rw [show Try.prog.cellsOf 3 = 1 by kernel_rfl] at h1
  have h1 : DataW.trod enc Try.prog w 0 (fun _ => true) true n 3 [c1] = some x1 := h1
  obtain ⟨y1, u1, b1, e1⟩ := (opn_int Try.underlying3) h1
  exact ⟨⟨y0, y1⟩, ⟨u0, u1⟩, by simp only [Siz.bulk, bulkD, bulkL, List.map] at *; omega, openCs_app e0 (openCs_app e1 (openCs_nil))⟩
theorem opn_Set : Opn Try.prog 25 Set := by
  intro H enc w fuel cs x h
  obtain ⟨xs, n, _, rfl, hl, hxl, hf⟩ := DataW.trod_struct Try.underlying25 h
  rw [show Try.prog.cellsOf 25 = 2 by kernel_rfl] at hl
  obtain ⟨c0, c1, rfl⟩ : ∃ c0 c1, cs = [c0, c1] := by
    match cs, hl with | [c0, c1], _ => exact ⟨c0, c1, rfl⟩
  obtain ⟨x0, x1, rfl⟩ : ∃ x0 x1, xs = [x0, x1] := by
    match xs, hxl with | [x0, x1], _ => exact ⟨x0, x1, rfl⟩
  have h0 : DataW.trod enc Try.prog w 0 (fun _ => true) true n 3 (([c0, c1].drop 0).take (Try.prog.cellsOf 3)) = some x0 := hf 0 _ rfl
  rw [show Try.prog.cellsOf 3 = 1 by kernel_rfl] at h0
  have h0 : DataW.trod enc Try.prog w 0 (fun _ => true) true n 3 [c0] = some x0 := h0
  obtain ⟨y0, u0, b0, e0⟩ := (opn_int Try.underlying3) h0
  have h1 : DataW.trod enc Try.prog w 0 (fun _ => true) true n 23 (([c0, c1].drop 1).take (Try.prog.cellsOf 23)) = some x1 := hf 1 _ rfl
  rw [show Try.prog.cellsOf 23 = 1 by kernel_rfl] at h1
  have h1 : DataW.trod enc Try.prog w 0 (fun _ => true) true n 23 [c1] = some x1 := h1
  obtain ⟨y1, u1, b1, e1⟩ := (opn_slice Try.underlying23 (by kernel_rfl) (by decide) opn_Span) h1
  exact ⟨⟨y0, y1⟩, ⟨u0, u1⟩, by simp only [Siz.bulk, bulkD, bulkL, List.map] at *; omega, openCs_app e0 (openCs_app e1 (openCs_nil))⟩
theorem opn_Task : Opn Try.prog 32 Task := by
  intro H enc w fuel cs x h
  obtain ⟨xs, n, _, rfl, hl, hxl, hf⟩ := DataW.trod_struct Try.underlying32 h
  rw [show Try.prog.cellsOf 32 = 3 by kernel_rfl] at hl
  obtain ⟨c0, c1, c2, rfl⟩ : ∃ c0 c1 c2, cs = [c0, c1, c2] := by
    match cs, hl with | [c0, c1, c2], _ => exact ⟨c0, c1, c2, rfl⟩
  obtain ⟨x0, x1, x2, rfl⟩ : ∃ x0 x1 x2, xs = [x0, x1, x2] := by
    match xs, hxl with | [x0, x1, x2], _ => exact ⟨x0, x1, x2, rfl⟩
  have h0 : DataW.trod enc Try.prog w 0 (fun _ => true) true n 3 (([c0, c1, c2].drop 0).take (Try.prog.cellsOf 3)) = some x0 := hf 0 _ rfl
  rw [show Try.prog.cellsOf 3 = 1 by kernel_rfl] at h0
  have h0 : DataW.trod enc Try.prog w 0 (fun _ => true) true n 3 [c0] = some x0 := h0
  obtain ⟨y0, u0, b0, e0⟩ := (opn_int Try.underlying3) h0
  have h1 : DataW.trod enc Try.prog w 0 (fun _ => true) true n 3 (([c0, c1, c2].drop 1).take (Try.prog.cellsOf 3)) = some x1 := hf 1 _ rfl
  rw [show Try.prog.cellsOf 3 = 1 by kernel_rfl] at h1
  have h1 : DataW.trod enc Try.prog w 0 (fun _ => true) true n 3 [c1] = some x1 := h1
  obtain ⟨y1, u1, b1, e1⟩ := (opn_int Try.underlying3) h1
  have h2 : DataW.trod enc Try.prog w 0 (fun _ => true) true n 3 (([c0, c1, c2].drop 2).take (Try.prog.cellsOf 3)) = some x2 := hf 2 _ rfl
  rw [show Try.prog.cellsOf 3 = 1 by kernel_rfl] at h2
  have h2 : DataW.trod enc Try.prog w 0 (fun _ => true) true n 3 [c2] = some x2 := h2
  obtain ⟨y2, u2, b2, e2⟩ := (opn_int Try.underlying3) h2
  exact ⟨⟨y0, y1, y2⟩, ⟨u0, u1, u2⟩, by simp only [Siz.bulk, bulkD, bulkL, List.map] at *; omega, openCs_app e0 (openCs_app e1 (openCs_app e2 (openCs_nil)))⟩
theorem opn_Done : Opn Try.prog 43 Done := by
  intro H enc w fuel cs x h
  obtain ⟨xs, n, _, rfl, hl, hxl, hf⟩ := DataW.trod_struct Try.underlying43 h
  rw [show Try.prog.cellsOf 43 = 4 by kernel_rfl] at hl
  obtain ⟨c0, c1, c2, c3, rfl⟩ : ∃ c0 c1 c2 c3, cs = [c0, c1, c2, c3] := by
    match cs, hl with | [c0, c1, c2, c3], _ => exact ⟨c0, c1, c2, c3, rfl⟩
  obtain ⟨x0, x1, x2, x3, rfl⟩ : ∃ x0 x1 x2 x3, xs = [x0, x1, x2, x3] := by
    match xs, hxl with | [x0, x1, x2, x3], _ => exact ⟨x0, x1, x2, x3, rfl⟩
  have h0 : DataW.trod enc Try.prog w 0 (fun _ => true) true n 3 (([c0, c1, c2, c3].drop 0).take (Try.prog.cellsOf 3)) = some x0 := hf 0 _ rfl
  rw [show Try.prog.cellsOf 3 = 1 by kernel_rfl] at h0
  have h0 : DataW.trod enc Try.prog w 0 (fun _ => true) true n 3 [c0] = some x0 := h0
  obtain ⟨y0, u0, b0, e0⟩ := (opn_int Try.underlying3) h0
  have h1 : DataW.trod enc Try.prog w 0 (fun _ => true) true n 3 (([c0, c1, c2, c3].drop 1).take (Try.prog.cellsOf 3)) = some x1 := hf 1 _ rfl
  rw [show Try.prog.cellsOf 3 = 1 by kernel_rfl] at h1
  have h1 : DataW.trod enc Try.prog w 0 (fun _ => true) true n 3 [c1] = some x1 := h1
  obtain ⟨y1, u1, b1, e1⟩ := (opn_int Try.underlying3) h1
  have h2 : DataW.trod enc Try.prog w 0 (fun _ => true) true n 3 (([c0, c1, c2, c3].drop 2).take (Try.prog.cellsOf 3)) = some x2 := hf 2 _ rfl
  rw [show Try.prog.cellsOf 3 = 1 by kernel_rfl] at h2
  have h2 : DataW.trod enc Try.prog w 0 (fun _ => true) true n 3 [c2] = some x2 := h2
  obtain ⟨y2, u2, b2, e2⟩ := (opn_int Try.underlying3) h2
  have h3 : DataW.trod enc Try.prog w 0 (fun _ => true) true n 3 (([c0, c1, c2, c3].drop 3).take (Try.prog.cellsOf 3)) = some x3 := hf 3 _ rfl
  rw [show Try.prog.cellsOf 3 = 1 by kernel_rfl] at h3
  have h3 : DataW.trod enc Try.prog w 0 (fun _ => true) true n 3 [c3] = some x3 := h3
  obtain ⟨y3, u3, b3, e3⟩ := (opn_int Try.underlying3) h3
  exact ⟨⟨y0, y1, y2, y3⟩, ⟨u0, u1, u2, u3⟩, by simp only [Siz.bulk, bulkD, bulkL, List.map] at *; omega, openCs_app e0 (openCs_app e1 (openCs_app e2 (openCs_app e3 (openCs_nil))))⟩
theorem opn_job : Opn Try.prog 70 job := by
  intro H enc w fuel cs x h
  obtain ⟨xs, n, _, rfl, hl, hxl, hf⟩ := DataW.trod_struct Try.underlying70 h
  rw [show Try.prog.cellsOf 70 = 6 by kernel_rfl] at hl
  obtain ⟨c0, c1, c2, c3, c4, c5, rfl⟩ : ∃ c0 c1 c2 c3 c4 c5, cs = [c0, c1, c2, c3, c4, c5] := by
    match cs, hl with | [c0, c1, c2, c3, c4, c5], _ => exact ⟨c0, c1, c2, c3, c4, c5, rfl⟩
  obtain ⟨x0, x1, x2, rfl⟩ : ∃ x0 x1 x2, xs = [x0, x1, x2] := by
    match xs, hxl with | [x0, x1, x2], _ => exact ⟨x0, x1, x2, rfl⟩
  have h0 : DataW.trod enc Try.prog w 0 (fun _ => true) true n 43 (([c0, c1, c2, c3, c4, c5].drop 0).take (Try.prog.cellsOf 43)) = some x0 := hf 0 _ rfl
  rw [show Try.prog.cellsOf 43 = 4 by kernel_rfl] at h0
  have h0 : DataW.trod enc Try.prog w 0 (fun _ => true) true n 43 [c0, c1, c2, c3] = some x0 := h0
  obtain ⟨y0, u0, b0, e0⟩ := opn_Done h0
  have h1 : DataW.trod enc Try.prog w 0 (fun _ => true) true n 3 (([c0, c1, c2, c3, c4, c5].drop 4).take (Try.prog.cellsOf 3)) = some x1 := hf 1 _ rfl
  rw [show Try.prog.cellsOf 3 = 1 by kernel_rfl] at h1
  have h1 : DataW.trod enc Try.prog w 0 (fun _ => true) true n 3 [c4] = some x1 := h1
  obtain ⟨y1, u1, b1, e1⟩ := (opn_int Try.underlying3) h1
  have h2 : DataW.trod enc Try.prog w 0 (fun _ => true) true n 3 (([c0, c1, c2, c3, c4, c5].drop 5).take (Try.prog.cellsOf 3)) = some x2 := hf 2 _ rfl
  rw [show Try.prog.cellsOf 3 = 1 by kernel_rfl] at h2
  have h2 : DataW.trod enc Try.prog w 0 (fun _ => true) true n 3 [c5] = some x2 := h2
  obtain ⟨y2, u2, b2, e2⟩ := (opn_int Try.underlying3) h2
  exact ⟨⟨y0, y1, y2⟩, ⟨u0, u1, u2⟩, by simp only [Siz.bulk, bulkD, bulkL, List.map] at *; omega, openCs_app e0 (openCs_app e1 (openCs_app e2 (openCs_nil)))⟩
theorem opn_Late : Opn Try.prog 52 Late := by
  intro H enc w fuel cs x h
  obtain ⟨xs, n, _, rfl, hl, hxl, hf⟩ := DataW.trod_struct Try.underlying52 h
  rw [show Try.prog.cellsOf 52 = 2 by kernel_rfl] at hl
  obtain ⟨c0, c1, rfl⟩ : ∃ c0 c1, cs = [c0, c1] := by
    match cs, hl with | [c0, c1], _ => exact ⟨c0, c1, rfl⟩
  obtain ⟨x0, x1, rfl⟩ : ∃ x0 x1, xs = [x0, x1] := by
    match xs, hxl with | [x0, x1], _ => exact ⟨x0, x1, rfl⟩
  have h0 : DataW.trod enc Try.prog w 0 (fun _ => true) true n 3 (([c0, c1].drop 0).take (Try.prog.cellsOf 3)) = some x0 := hf 0 _ rfl
  rw [show Try.prog.cellsOf 3 = 1 by kernel_rfl] at h0
  have h0 : DataW.trod enc Try.prog w 0 (fun _ => true) true n 3 [c0] = some x0 := h0
  obtain ⟨y0, u0, b0, e0⟩ := (opn_int Try.underlying3) h0
  have h1 : DataW.trod enc Try.prog w 0 (fun _ => true) true n 3 (([c0, c1].drop 1).take (Try.prog.cellsOf 3)) = some x1 := hf 1 _ rfl
  rw [show Try.prog.cellsOf 3 = 1 by kernel_rfl] at h1
  have h1 : DataW.trod enc Try.prog w 0 (fun _ => true) true n 3 [c1] = some x1 := h1
  obtain ⟨y1, u1, b1, e1⟩ := (opn_int Try.underlying3) h1
  exact ⟨⟨y0, y1⟩, ⟨u0, u1⟩, by simp only [Siz.bulk, bulkD, bulkL, List.map] at *; omega, openCs_app e0 (openCs_app e1 (openCs_nil))⟩
theorem fin_b {b : Th Bool} {H : Hp} {kl : List Nat} (h : b () = true) : outA (.bc true) [] (.b b) H kl := by
  cbv
  repeat' first | (refine Stp.mk ?_; cbv) | (refine Gen.mk fun r hr => ?_; (try simp only [Dat.ok, Dat.dec, Leaf.ok, Leaf.val, Span.eta, Set.eta, Task.eta, Done.eta, job.eta, Late.eta, val_sl, val_nil] at hr); cbv) | exact trivial | rfl | refine Both.mk ?_ ?_ | (refine Imp.mk fun h => ?_; (try dsimp only at h); (try simp only [nc, Int.toNat_natCast, ne_eq, zz] at h); (try simp only [nc] at h)) | refine Ob.mk ?_ ?_ | refine Chk.mk (by kernel_rfl) ?_ | refine Eq'.mk ?_ | (refine AllN.mk fun i hi => ?_; cbv) | (refine AllC.mk fun c hc hcm => ?_; (try dsimp only at hc); cbv) | (refine AllS.mk fun r hr => ?_; (try simp only [Dat.ok, Dat.dec, Leaf.ok, Leaf.val, Span.eta, Set.eta, Task.eta, Done.eta, job.eta, Late.eta, val_sl] at hr); cbv)
  exact h
theorem fin_t {H : Hp} {kl : List Nat} : outA (.bc true) [] (.bc true) H kl := by
  cbv
  repeat' first | (refine Stp.mk ?_; cbv) | (refine Gen.mk fun r hr => ?_; (try simp only [Dat.ok, Dat.dec, Leaf.ok, Leaf.val, Span.eta, Set.eta, Task.eta, Done.eta, job.eta, Late.eta, val_sl, val_nil] at hr); cbv) | exact trivial | rfl | refine Both.mk ?_ ?_ | (refine Imp.mk fun h => ?_; (try dsimp only at h); (try simp only [nc, Int.toNat_natCast, ne_eq, zz] at h); (try simp only [nc] at h)) | refine Ob.mk ?_ ?_ | refine Chk.mk (by kernel_rfl) ?_ | refine Eq'.mk ?_ | (refine AllN.mk fun i hi => ?_; cbv) | (refine AllC.mk fun c hc hcm => ?_; (try dsimp only at hc); cbv) | (refine AllS.mk fun r hr => ?_; (try simp only [Dat.ok, Dat.dec, Leaf.ok, Leaf.val, Span.eta, Set.eta, Task.eta, Done.eta, job.eta, Late.eta, val_sl] at hr); cbv)

end Go.Proofs.Ytcnfdohlgmipoaa
