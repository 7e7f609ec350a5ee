/- The program's functions, walked: Ty. -/
import Derived.Test.YtebiaihhpflpgaaDoorAbsG4
import Derived.Test.YtebiaihhpflpgaaDoorAbsG5
import Derived.Test.YtebiaihhpflpgaaDoorRows
import Derived.KernelRfl
import Derived.JoinedCond
import Derived.WalkKit
import Derived.ProofKit
import Derived.OpenShut
import Derived.ShutString
import Derived.ChangeOld
set_option linter.all false
namespace Go.Proofs.YtebiaihhpflpgaaDoor
open Go Go.Abs
def frs : TypeId → Bool := fun t => match t with | 5 => true | 9 => true | _ => false
def bds : FuncId → Bool := fun f => false
theorem cell_keep {w w' : World} {g : Nat} (h : w'.heap[g]? = w.heap[g]?) (k : ∃ m : Int, w.cell? ⟨g, 0, none⟩ = some (.int .i64 m)) : ∃ m : Int, w'.cell? ⟨g, 0, none⟩ = some (.int .i64 m) := by
  obtain ⟨m, hm⟩ := k
  exact ⟨m, (World.cell?_of_block h).trans hm⟩
theorem var_keep {P : Program} {w w' : World} {g : Nat} {n : String} (hg : P.globalNamed n = some g) (h : w'.heap[g]? = w.heap[g]?) (k : ∃ t p, w.var? P n = some #[.iface t p]) : ∃ t p, w'.var? P n = some #[.iface t p] := by
  obtain ⟨t, p, hm⟩ := k
  refine ⟨t, p, ?_⟩
  unfold World.var? at hm ⊢
  rw [hg] at hm ⊢
  simp only [Option.bind_some] at hm ⊢
  rw [h]; exact hm
noncomputable instance kdI : Kd := ⟨fun e => match Tryd.prog.info? e with | some i => (match i.zero with | some zv => zv.cells.toList | none => []) | none => [], fun e => !(frs e), bds, [3, 0, 4, 5], fun w => Lib.TabIs Tryd.prog w "internal/strconv.uint64pow10" .u64 Lib.pow10Tab ∧ (∃ m : Int, w.cell? ⟨0, 0, none⟩ = some (.int .i64 m)) ∧ (∃ t p, w.var? Tryd.prog "strconv.ErrSyntax" = some #[.iface t p]) ∧ (∃ t p, w.var? Tryd.prog "strconv.ErrRange" = some #[.iface t p]), fun w w' h => by
  intro ⟨h0, h1, h2, h3⟩
  exact ⟨tab_keep (g := 3) (by kernel_rfl) (h 3 (by simp)) h0, cell_keep (h 0 (by simp)) h1, var_keep (g := 4) (by kernel_rfl) (h 4 (by simp)) h2, var_keep (g := 5) (by kernel_rfl) (h 5 (by simp)) h3⟩⟩
structure U8 where
  n : Int
  deriving DecidableEq
instance leafU : Leaf U8 where
  av x := .i .u8 fun _ => (x ()).n
  val a := match a with | .i _ n => ⟨n ()⟩ | _ => ⟨0⟩
  ok a := match a with | .i .u8 _ => True | _ => False
  hclosed _ := rfl
  hval _ := rfl
  hok _ := trivial
  hle a h := by
    split at h
    · exact .mk (.mk rfl) (.mk rfl)
    · cases h
  hpick c a b h1 h2 := by
    split at h1
    · split at h2
      · refine ⟨trivial, ?_⟩
        show U8.mk (bif c () then _ else _) = _
        cases c () <;> rfl
      · cases h2
    · cases h1
instance datU : Dat U8 := Dat.ofLeaf U8 ⟨0⟩
instance sizU : Siz U8 := ⟨fun _ => True, fun _ => 1⟩
structure Ins where
  code : Int
  a : Int
  b : Int
  deriving DecidableEq
instance datIns : Dat Ins where
  d0 := ⟨0, 0, 0⟩
  sz := 3
  enc x := [Leaf.av fun _ => (x ()).code, Leaf.av fun _ => (x ()).a, Leaf.av fun _ => (x ()).b]
  dec l := match l with | [a0, a1, a2] => ⟨Leaf.val a0, Leaf.val a1, Leaf.val a2⟩ | _ => ⟨0, 0, 0⟩
  ok l := match l with | [a0, a1, a2] => Leaf.ok Int a0 ∧ Leaf.ok Int a1 ∧ Leaf.ok Int a2 | _ => False
  hlen _ := rfl
  hclosed x := by simp only [closedL, Leaf.hclosed]
  hdec x := by simp only [Leaf.hval]
  hok x := ⟨Leaf.hok _, Leaf.hok _, Leaf.hok _⟩
  hle l h := by
    split at h
    · obtain ⟨k0, k1, k2⟩ := h
      exact .mk (Leaf.hle _ k0) (.mk (Leaf.hle _ k1) (.mk (Leaf.hle _ k2) (trivial)))
    · cases h
  hpick c l m h1 h2 := by
    split at h1
    · split at h2
      · obtain ⟨k0, k1, k2⟩ := h1
        obtain ⟨j0, j1, j2⟩ := h2
        refine ⟨⟨(Leaf.hpick c _ _ k0 j0).1, (Leaf.hpick c _ _ k1 j1).1, (Leaf.hpick c _ _ k2 j2).1⟩, ?_⟩
        have e := (fun (u : Bool) => rfl : ∀ u : Bool, u = u)
        simp only [rowL, nth, dropN, (Leaf.hpick c _ _ k0 j0).2, (Leaf.hpick c _ _ k1 j1).2, (Leaf.hpick c _ _ k2 j2).2]
        cases c () <;> rfl
      · cases h2
    · cases h1
instance sizIns : Siz Ins := ⟨fun x => Siz.fit x.code ∧ Siz.fit x.a ∧ Siz.fit x.b, fun x => Siz.bulk x.code + Siz.bulk x.a + Siz.bulk x.b + 1⟩
theorem Ins.eta (x : Ins) : (⟨x.code, x.a, x.b⟩ : Ins) = x := rfl
theorem Z0 (x : Ins) : (⟨x.code, x.a, x.b⟩ : Ins) = x := rfl
theorem Ins.one_le (x : Ins) : 1 ≤ Siz.bulk x := Nat.le_add_left _ _
structure shape where
  word : ByteArray
  a : Bool
  b : U8
  deriving DecidableEq
instance datshape : Dat shape where
  d0 := ⟨.empty, false, ⟨0⟩⟩
  sz := 3
  enc x := [Leaf.av fun _ => (x ()).word, Leaf.av fun _ => (x ()).a, Leaf.av fun _ => (x ()).b]
  dec l := match l with | [a0, a1, a2] => ⟨Leaf.val a0, Leaf.val a1, Leaf.val a2⟩ | _ => ⟨.empty, false, ⟨0⟩⟩
  ok l := match l with | [a0, a1, a2] => Leaf.ok ByteArray a0 ∧ Leaf.ok Bool a1 ∧ Leaf.ok U8 a2 | _ => False
  hlen _ := rfl
  hclosed x := by simp only [closedL, Leaf.hclosed]
  hdec x := by simp only [Leaf.hval]
  hok x := ⟨Leaf.hok _, Leaf.hok _, Leaf.hok _⟩
  hle l h := by
    split at h
    · obtain ⟨k0, k1, k2⟩ := h
      exact .mk (Leaf.hle _ k0) (.mk (Leaf.hle _ k1) (.mk (Leaf.hle _ k2) (trivial)))
    · cases h
  hpick c l m h1 h2 := by
    split at h1
    · split at h2
      · obtain ⟨k0, k1, k2⟩ := h1
        obtain ⟨j0, j1, j2⟩ := h2
        refine ⟨⟨(Leaf.hpick c _ _ k0 j0).1, (Leaf.hpick c _ _ k1 j1).1, (Leaf.hpick c _ _ k2 j2).1⟩, ?_⟩
        have e := (fun (u : Bool) => rfl : ∀ u : Bool, u = u)
        simp only [rowL, nth, dropN, (Leaf.hpick c _ _ k0 j0).2, (Leaf.hpick c _ _ k1 j1).2, (Leaf.hpick c _ _ k2 j2).2]
        cases c () <;> rfl
      · cases h2
    · cases h1
instance sizshape : Siz shape := ⟨fun x => Siz.fit x.word ∧ Siz.fit x.a ∧ Siz.fit x.b, fun x => Siz.bulk x.word + Siz.bulk x.a + Siz.bulk x.b + 1⟩
theorem shape.eta (x : shape) : (⟨x.word, x.a, x.b⟩ : shape) = x := rfl
theorem Z1 (x : shape) : (⟨x.word, x.a, x.b⟩ : shape) = x := rfl
theorem shape.one_le (x : shape) : 1 ≤ Siz.bulk x := Nat.le_add_left _ _
noncomputable def tys : TypeId → Ty := fun t => match t with
  | 1 => .one
  | 2 => .int .i64
  | 3 => .int .i64
  | 4 => .bool
  | 5 => .int .u8
  | 9 => .str
  | 12 => .int .u64
  | 13 => .struct none [(0, 9, 1), (1, 12, 1)] 2 [.s fun _ => .empty, .i .u64 fun _ => 0]
  | 21 => .int .i32
  | 22 => .slice 30 3 24 [.i .i64 fun _ => 0, .i .i64 fun _ => 0, .i .i64 fun _ => 0]
  | 23 => .int .i64
  | 25 => .one
  | 27 => .one
  | 28 => .one
  | 29 => .struct (some [.i, .i, .i]) [(0, 3, 1), (1, 3, 1), (2, 3, 1)] 3 [.i .i64 fun _ => 0, .i .i64 fun _ => 0, .i .i64 fun _ => 0]
  | 30 => .struct (some [.i, .i, .i]) [(0, 3, 1), (1, 3, 1), (2, 3, 1)] 3 [.i .i64 fun _ => 0, .i .i64 fun _ => 0, .i .i64 fun _ => 0]
  | 31 => .one
  | 32 => .one
  | 33 => .slice 9 1 16 [.s fun _ => .empty]
  | 34 => .one
  | 35 => .one
  | 36 => .one
  | 37 => .one
  | 38 => .one
  | 39 => .one
  | 40 => .one
  | 41 => .slice 52 3 24 [.s fun _ => .empty, .bc false, .i .u8 fun _ => 0]
  | 42 => .one
  | 43 => .one
  | 44 => .slice 5 1 1 [.i .u8 fun _ => 0]
  | 45 => .struct none [(0, 43, 1), (1, 44, 1)] 2 [.con fun _ => .pointer none, .nil]
  | 46 => .struct none [(0, 43, 1), (1, 44, 1)] 2 [.con fun _ => .pointer none, .nil]
  | 50 => .one
  | 51 => .struct none [(0, 9, 1), (1, 4, 1), (2, 5, 1)] 3 [.s fun _ => .empty, .bc false, .i .u8 fun _ => 0]
  | 52 => .struct none [(0, 9, 1), (1, 4, 1), (2, 5, 1)] 3 [.s fun _ => .empty, .bc false, .i .u8 fun _ => 0]
  | 53 => .one
  | 54 => .one
  | 56 => .one
  | 57 => .one
  | 58 => .one
  | 59 => .one
  | 60 => .one
  | 62 => .one
  | 63 => .one
  | 64 => .one
  | 65 => .one
  | 66 => .one
  | 67 => .one
  | 68 => .one
  | 69 => .one
  | 70 => .one
  | 71 => .one
  | 73 => .one
  | 74 => .one
  | 75 => .one
  | 76 => .int .u64
  | 78 => .one
  | 79 => .one
  | 81 => .one
  | 82 => .one
  | 83 => .one
  | 85 => .one
  | 87 => .one
  | 88 => .int .u32
  | 90 => .one
  | 91 => .int .u64
  | 93 => .one
  | 94 => .one
  | 95 => .one
  | 96 => .one
  | 97 => .one
  | 98 => .one
  | 99 => .one
  | 100 => .one
  | 102 => .struct none [(0, 5, 1), (1, 5, 1)] 2 [.i .u8 fun _ => 0, .i .u8 fun _ => 0]
  | 103 => .struct none [(0, 5, 1), (1, 5, 1)] 2 [.i .u8 fun _ => 0, .i .u8 fun _ => 0]
  | 106 => .one
  | 107 => .one
  | 109 => .one
  | 112 => .one
  | 113 => .one
  | 114 => .one
  | 115 => .one
  | 116 => .one
  | 119 => .one
  | 120 => .one
  | 121 => .one
  | 124 => .one
  | 125 => .one
  | 126 => .one
  | 127 => .struct (some [.s]) [(0, 9, 1)] 1 [.s fun _ => .empty]
  | 128 => .struct (some [.s]) [(0, 9, 1)] 1 [.s fun _ => .empty]
  | 136 => .one
  | 139 => .one
  | _ => .other
noncomputable def ars : TypeId → Option Arr := fun t => match t with
  | _ => none
def mts : TypeId → String → Option FuncId := fun t n => match t with
  | 9 => none
  | 110 => none
  | 113 => none
  | 126 => none
  | _ => none
def nifs : TypeId → Bool := fun t => match t with
  | 9 => true
  | 110 => true
  | 113 => true
  | 126 => true
  | _ => false
noncomputable def E : Env := { ty := tys, ar := ars, fr := frs, bd := bds, mt := mts, nif := nifs }
noncomputable def Ew (w : List Nat) : Env := { ty := tys, wr := w, ar := ars, fr := frs, bd := bds, mt := mts, nif := nifs }
set_option maxRecDepth 100000
theorem envOkW (w : List Nat) : EnvOk Tryd.prog (Ew w) := ⟨fun t => by
  show TyOk Tryd.prog t (tys t)
  unfold tys
  split
  · exact ⟨⟨_, rfl, rfl⟩, _, ⟨_, rfl, rfl, _, rfl, rfl, rfl⟩⟩
  · exact ⟨rfl, _, rfl, rfl, _, rfl, rfl, rfl⟩
  · exact ⟨rfl, _, rfl, rfl, _, rfl, rfl, rfl⟩
  · exact ⟨rfl, _, rfl, rfl, _, rfl, rfl, rfl⟩
  · exact ⟨rfl, _, rfl, rfl, _, rfl, rfl, rfl⟩
  · exact ⟨rfl, _, rfl, rfl, _, rfl, rfl, rfl⟩
  · exact ⟨rfl, _, rfl, rfl, _, rfl, rfl, rfl⟩
  · exact ⟨⟨_, rfl, by kernel_rfl, fun ks h => by cases h⟩, ⟨_, rfl, rfl, _, rfl, rfl, rfl⟩⟩
  · exact ⟨rfl, _, rfl, rfl, _, rfl, rfl, rfl⟩
  · exact ⟨rfl, by omega, by omega, ⟨_, rfl, rfl, _, rfl, rfl, rfl⟩, rfl, ⟨_, rfl, rfl, _, rfl, rfl, rfl⟩, kdOf_at _ _ _ _ _ _ _⟩
  · exact ⟨rfl, _, rfl, rfl, _, rfl, rfl, rfl⟩
  · exact ⟨⟨_, rfl, rfl⟩, _, ⟨_, rfl, rfl, _, rfl, rfl, rfl⟩⟩
  · exact ⟨⟨_, rfl, rfl⟩, _, ⟨_, rfl, rfl, _, rfl, rfl, rfl⟩⟩
  · exact ⟨⟨_, rfl, rfl⟩, _, ⟨_, rfl, rfl, _, rfl, rfl, rfl⟩⟩
  · exact ⟨⟨_, rfl, by kernel_rfl, fun ks h => by cases h; exact ⟨by kernel_rfl, by kernel_rfl, by kernel_rfl⟩⟩, ⟨_, rfl, rfl, _, rfl, rfl, rfl⟩⟩
  · exact ⟨⟨_, rfl, by kernel_rfl, fun ks h => by cases h; exact ⟨by kernel_rfl, by kernel_rfl, by kernel_rfl⟩⟩, ⟨_, rfl, rfl, _, rfl, rfl, rfl⟩⟩
  · exact ⟨⟨_, rfl, rfl⟩, _, ⟨_, rfl, rfl, _, rfl, rfl, rfl⟩⟩
  · exact ⟨⟨_, rfl, rfl⟩, _, ⟨_, rfl, rfl, _, rfl, rfl, rfl⟩⟩
  · exact ⟨rfl, by omega, by omega, ⟨_, rfl, rfl, _, rfl, rfl, rfl⟩, rfl, ⟨_, rfl, rfl, _, rfl, rfl, rfl⟩, kdOf_at _ _ _ _ _ _ _⟩
  · exact ⟨⟨_, rfl, rfl⟩, _, ⟨_, rfl, rfl, _, rfl, rfl, rfl⟩⟩
  · exact ⟨⟨_, rfl, rfl⟩, _, ⟨_, rfl, rfl, _, rfl, rfl, rfl⟩⟩
  · exact ⟨⟨_, rfl, rfl⟩, _, ⟨_, rfl, rfl, _, rfl, rfl, rfl⟩⟩
  · exact ⟨⟨_, rfl, rfl⟩, _, ⟨_, rfl, rfl, _, rfl, rfl, rfl⟩⟩
  · exact ⟨⟨_, rfl, rfl⟩, _, ⟨_, rfl, rfl, _, rfl, rfl, rfl⟩⟩
  · exact ⟨⟨_, rfl, rfl⟩, _, ⟨_, rfl, rfl, _, rfl, rfl, rfl⟩⟩
  · exact ⟨⟨_, rfl, rfl⟩, _, ⟨_, rfl, rfl, _, rfl, rfl, rfl⟩⟩
  · exact ⟨rfl, by omega, by omega, ⟨_, rfl, rfl, _, rfl, rfl, rfl⟩, rfl, ⟨_, rfl, rfl, _, rfl, rfl, rfl⟩, kdOf_at _ _ _ _ _ _ _⟩
  · exact ⟨⟨_, rfl, rfl⟩, _, ⟨_, rfl, rfl, _, rfl, rfl, rfl⟩⟩
  · exact ⟨⟨_, rfl, rfl⟩, _, ⟨_, rfl, rfl, _, rfl, rfl, rfl⟩⟩
  · exact ⟨rfl, by omega, by omega, ⟨_, rfl, rfl, _, rfl, rfl, rfl⟩, rfl, ⟨_, rfl, rfl, _, rfl, rfl, rfl⟩, kdOf_at _ _ _ _ _ _ _⟩
  · exact ⟨⟨_, rfl, by kernel_rfl, fun ks h => by cases h⟩, ⟨_, rfl, rfl, _, rfl, rfl, rfl⟩⟩
  · exact ⟨⟨_, rfl, by kernel_rfl, fun ks h => by cases h⟩, ⟨_, rfl, rfl, _, rfl, rfl, rfl⟩⟩
  · exact ⟨⟨_, rfl, rfl⟩, _, ⟨_, rfl, rfl, _, rfl, rfl, rfl⟩⟩
  · exact ⟨⟨_, rfl, by kernel_rfl, fun ks h => by cases h⟩, ⟨_, rfl, rfl, _, rfl, rfl, rfl⟩⟩
  · exact ⟨⟨_, rfl, by kernel_rfl, fun ks h => by cases h⟩, ⟨_, rfl, rfl, _, rfl, rfl, rfl⟩⟩
  · exact ⟨⟨_, rfl, rfl⟩, _, ⟨_, rfl, rfl, _, rfl, rfl, rfl⟩⟩
  · exact ⟨⟨_, rfl, rfl⟩, _, ⟨_, rfl, rfl, _, rfl, rfl, rfl⟩⟩
  · exact ⟨⟨_, rfl, rfl⟩, _, ⟨_, rfl, rfl, _, rfl, rfl, rfl⟩⟩
  · exact ⟨⟨_, rfl, rfl⟩, _, ⟨_, rfl, rfl, _, rfl, rfl, rfl⟩⟩
  · exact ⟨⟨_, rfl, rfl⟩, _, ⟨_, rfl, rfl, _, rfl, rfl, rfl⟩⟩
  · exact ⟨⟨_, rfl, rfl⟩, _, ⟨_, rfl, rfl, _, rfl, rfl, rfl⟩⟩
  · exact ⟨⟨_, rfl, rfl⟩, _, ⟨_, rfl, rfl, _, rfl, rfl, rfl⟩⟩
  · exact ⟨⟨_, rfl, rfl⟩, _, ⟨_, rfl, rfl, _, rfl, rfl, rfl⟩⟩
  · exact ⟨⟨_, rfl, rfl⟩, _, ⟨_, rfl, rfl, _, rfl, rfl, rfl⟩⟩
  · exact ⟨⟨_, rfl, rfl⟩, _, ⟨_, rfl, rfl, _, rfl, rfl, rfl⟩⟩
  · exact ⟨⟨_, rfl, rfl⟩, _, ⟨_, rfl, rfl, _, rfl, rfl, rfl⟩⟩
  · exact ⟨⟨_, rfl, rfl⟩, _, ⟨_, rfl, rfl, _, rfl, rfl, rfl⟩⟩
  · exact ⟨⟨_, rfl, rfl⟩, _, ⟨_, rfl, rfl, _, rfl, rfl, rfl⟩⟩
  · exact ⟨⟨_, rfl, rfl⟩, _, ⟨_, rfl, rfl, _, rfl, rfl, rfl⟩⟩
  · exact ⟨⟨_, rfl, rfl⟩, _, ⟨_, rfl, rfl, _, rfl, rfl, rfl⟩⟩
  · exact ⟨⟨_, rfl, rfl⟩, _, ⟨_, rfl, rfl, _, rfl, rfl, rfl⟩⟩
  · exact ⟨⟨_, rfl, rfl⟩, _, ⟨_, rfl, rfl, _, rfl, rfl, rfl⟩⟩
  · exact ⟨⟨_, rfl, rfl⟩, _, ⟨_, rfl, rfl, _, rfl, rfl, rfl⟩⟩
  · exact ⟨⟨_, rfl, rfl⟩, _, ⟨_, rfl, rfl, _, rfl, rfl, rfl⟩⟩
  · exact ⟨⟨_, rfl, rfl⟩, _, ⟨_, rfl, rfl, _, rfl, rfl, rfl⟩⟩
  · exact ⟨rfl, _, rfl, rfl, _, rfl, rfl, rfl⟩
  · exact ⟨⟨_, rfl, rfl⟩, _, ⟨_, rfl, rfl, _, rfl, rfl, rfl⟩⟩
  · exact ⟨⟨_, rfl, rfl⟩, _, ⟨_, rfl, rfl, _, rfl, rfl, rfl⟩⟩
  · exact ⟨⟨_, rfl, rfl⟩, _, ⟨_, rfl, rfl, _, rfl, rfl, rfl⟩⟩
  · exact ⟨⟨_, rfl, rfl⟩, _, ⟨_, rfl, rfl, _, rfl, rfl, rfl⟩⟩
  · exact ⟨⟨_, rfl, rfl⟩, _, ⟨_, rfl, rfl, _, rfl, rfl, rfl⟩⟩
  · exact ⟨⟨_, rfl, rfl⟩, _, ⟨_, rfl, rfl, _, rfl, rfl, rfl⟩⟩
  · exact ⟨⟨_, rfl, rfl⟩, _, ⟨_, rfl, rfl, _, rfl, rfl, rfl⟩⟩
  · exact ⟨rfl, _, rfl, rfl, _, rfl, rfl, rfl⟩
  · exact ⟨⟨_, rfl, rfl⟩, _, ⟨_, rfl, rfl, _, rfl, rfl, rfl⟩⟩
  · exact ⟨rfl, _, rfl, rfl, _, rfl, rfl, rfl⟩
  · exact ⟨⟨_, rfl, rfl⟩, _, ⟨_, rfl, rfl, _, rfl, rfl, rfl⟩⟩
  · exact ⟨⟨_, rfl, rfl⟩, _, ⟨_, rfl, rfl, _, rfl, rfl, rfl⟩⟩
  · exact ⟨⟨_, rfl, rfl⟩, _, ⟨_, rfl, rfl, _, rfl, rfl, rfl⟩⟩
  · exact ⟨⟨_, rfl, rfl⟩, _, ⟨_, rfl, rfl, _, rfl, rfl, rfl⟩⟩
  · exact ⟨⟨_, rfl, rfl⟩, _, ⟨_, rfl, rfl, _, rfl, rfl, rfl⟩⟩
  · exact ⟨⟨_, rfl, rfl⟩, _, ⟨_, rfl, rfl, _, rfl, rfl, rfl⟩⟩
  · exact ⟨⟨_, rfl, rfl⟩, _, ⟨_, rfl, rfl, _, rfl, rfl, rfl⟩⟩
  · exact ⟨⟨_, rfl, rfl⟩, _, ⟨_, rfl, rfl, _, rfl, rfl, rfl⟩⟩
  · exact ⟨⟨_, rfl, by kernel_rfl, fun ks h => by cases h⟩, ⟨_, rfl, rfl, _, rfl, rfl, rfl⟩⟩
  · exact ⟨⟨_, rfl, by kernel_rfl, fun ks h => by cases h⟩, ⟨_, rfl, rfl, _, rfl, rfl, rfl⟩⟩
  · exact ⟨⟨_, rfl, rfl⟩, _, ⟨_, rfl, rfl, _, rfl, rfl, rfl⟩⟩
  · exact ⟨⟨_, rfl, rfl⟩, _, ⟨_, rfl, rfl, _, rfl, rfl, rfl⟩⟩
  · exact ⟨⟨_, rfl, rfl⟩, _, ⟨_, rfl, rfl, _, rfl, rfl, rfl⟩⟩
  · exact ⟨⟨_, rfl, rfl⟩, _, ⟨_, rfl, rfl, _, rfl, rfl, rfl⟩⟩
  · exact ⟨⟨_, rfl, rfl⟩, _, ⟨_, rfl, rfl, _, rfl, rfl, rfl⟩⟩
  · exact ⟨⟨_, rfl, rfl⟩, _, ⟨_, rfl, rfl, _, rfl, rfl, rfl⟩⟩
  · exact ⟨⟨_, rfl, rfl⟩, _, ⟨_, rfl, rfl, _, rfl, rfl, rfl⟩⟩
  · exact ⟨⟨_, rfl, rfl⟩, _, ⟨_, rfl, rfl, _, rfl, rfl, rfl⟩⟩
  · exact ⟨⟨_, rfl, rfl⟩, _, ⟨_, rfl, rfl, _, rfl, rfl, rfl⟩⟩
  · exact ⟨⟨_, rfl, rfl⟩, _, ⟨_, rfl, rfl, _, rfl, rfl, rfl⟩⟩
  · exact ⟨⟨_, rfl, rfl⟩, _, ⟨_, rfl, rfl, _, rfl, rfl, rfl⟩⟩
  · exact ⟨⟨_, rfl, rfl⟩, _, ⟨_, rfl, rfl, _, rfl, rfl, rfl⟩⟩
  · exact ⟨⟨_, rfl, rfl⟩, _, ⟨_, rfl, rfl, _, rfl, rfl, rfl⟩⟩
  · exact ⟨⟨_, rfl, rfl⟩, _, ⟨_, rfl, rfl, _, rfl, rfl, rfl⟩⟩
  · exact ⟨⟨_, rfl, by kernel_rfl, fun ks h => by cases h; exact ⟨by kernel_rfl, by kernel_rfl, by kernel_rfl⟩⟩, ⟨_, rfl, rfl, _, rfl, rfl, rfl⟩⟩
  · exact ⟨⟨_, rfl, by kernel_rfl, fun ks h => by cases h; exact ⟨by kernel_rfl, by kernel_rfl, by kernel_rfl⟩⟩, ⟨_, rfl, rfl, _, rfl, rfl, rfl⟩⟩
  · exact ⟨⟨_, rfl, rfl⟩, _, ⟨_, rfl, rfl, _, rfl, rfl, rfl⟩⟩
  · exact ⟨⟨_, rfl, rfl⟩, _, ⟨_, rfl, rfl, _, rfl, rfl, rfl⟩⟩
  · trivial, (fun t r h => by
  have h : ars t = some r := h
  unfold ars at h
  split at h
  · cases h), (fun f h => by cases h),
  (fun t n f h => by
  have h : mts t n = some f := h
  unfold mts at h
  split at h
  · cases h
  · cases h
  · cases h
  · cases h
  · cases h), (fun t h => by
  have h : nifs t = true := h
  unfold nifs at h
  split at h
  · exact ⟨_, rfl, rfl⟩
  · exact ⟨_, rfl, rfl⟩
  · exact ⟨_, rfl, rfl⟩
  · exact ⟨_, rfl, rfl⟩
  · cases h), (fun e => rfl), (fun t ks h => by cases h), (fun f => rfl), (fun t h => by cases h), (fun t h => by cases h)⟩
theorem envOk : EnvOk Tryd.prog E := envOkW []
theorem zlW (w : List Nat) : Zl (Ew w) := ⟨fun t e sz b z h => by
  have h : tys t = .slice e sz b z := h
  unfold tys at h
  split at h <;> cases h <;> rfl⟩
theorem zl : Zl E := zlW []
theorem mixed : Tryd.prog.follows .mixedOrders = true := by kernel_rfl
def noCon : FuncId → Con := fun _ _ _ _ => Bad 1000
theorem noCon_ok : ConOk Tryd.prog noCon := fun f A H K h => by cases h
def noDet : FuncId → Option Dt := fun _ => none
theorem noDet_ok : DetOk Tryd.prog noDet := fun f d h => by cases h
set_option maxRecDepth 100000
theorem opn_Ins : Opn Tryd.prog 30 Ins := by
  intro H enc w fuel cs x h
  obtain ⟨xs, n, _, rfl, hl, hxl, hf⟩ := DataW.trod_struct Tryd.underlying30 h
  rw [show Tryd.prog.cellsOf 30 = 3 by kernel_rfl] at hl
  obtain ⟨c0, c1, c2, rfl⟩ : ∃ c0 c1 c2, cs = [c0, c1, c2] := by
    match cs, hl with | [c0, c1, c2], _ => exact ⟨c0, c1, c2, rfl⟩
  obtain ⟨x0, x1, x2, rfl⟩ : ∃ x0 x1 x2, xs = [x0, x1, x2] := by
    match xs, hxl with | [x0, x1, x2], _ => exact ⟨x0, x1, x2, rfl⟩
  have h0 : DataW.trod enc Tryd.prog w 0 (fun _ => true) true n 3 (([c0, c1, c2].drop 0).take (Tryd.prog.cellsOf 3)) = some x0 := hf 0 _ rfl
  rw [show Tryd.prog.cellsOf 3 = 1 by kernel_rfl] at h0
  have h0 : DataW.trod enc Tryd.prog w 0 (fun _ => true) true n 3 [c0] = some x0 := h0
  obtain ⟨y0, u0, b0, e0⟩ := (opn_int Tryd.underlying3) h0
  have h1 : DataW.trod enc Tryd.prog w 0 (fun _ => true) true n 3 (([c0, c1, c2].drop 1).take (Tryd.prog.cellsOf 3)) = some x1 := hf 1 _ rfl
  rw [show Tryd.prog.cellsOf 3 = 1 by kernel_rfl] at h1
  have h1 : DataW.trod enc Tryd.prog w 0 (fun _ => true) true n 3 [c1] = some x1 := h1
  obtain ⟨y1, u1, b1, e1⟩ := (opn_int Tryd.underlying3) h1
  have h2 : DataW.trod enc Tryd.prog w 0 (fun _ => true) true n 3 (([c0, c1, c2].drop 2).take (Tryd.prog.cellsOf 3)) = some x2 := hf 2 _ rfl
  rw [show Tryd.prog.cellsOf 3 = 1 by kernel_rfl] at h2
  have h2 : DataW.trod enc Tryd.prog w 0 (fun _ => true) true n 3 [c2] = some x2 := h2
  obtain ⟨y2, u2, b2, e2⟩ := (opn_int Tryd.underlying3) h2
  exact ⟨⟨y0, y1, y2⟩, ⟨u0, u1, u2⟩, by simp only [Siz.bulk, bulkD, bulkL, List.map] at *; omega, openCs_app e0 (openCs_app e1 (openCs_app e2 (openCs_nil)))⟩
theorem fin_b {b : Th Bool} {H : Hp} {kl : List Nat} (h : b () = true) : outA (.bc true) [] (.b b) H kl := by
  cbv
  repeat' first | (refine Stp.mk ?_; cbv) | (refine Gen.mk fun r hr => ?_; (try simp only [Dat.ok, Dat.dec, Leaf.ok, Leaf.val, Z0, Z1, val_sl, val_nil] at hr); cbv) | exact trivial | rfl | refine Both.mk ?_ ?_ | (refine Imp.mk fun h => ?_; (try dsimp only at h); (try simp only [nc, Int.toNat_natCast, ne_eq, zz] at h); (try simp only [nc] at h)) | refine Ob.mk ?_ ?_ | refine Chk.mk (by kernel_rfl) ?_ | refine Eq'.mk ?_ | (refine AllN.mk fun i hi => ?_; cbv) | (refine AllC.mk fun c hc hcm => ?_; (try dsimp only at hc); cbv) | (refine AllS.mk fun r hr => ?_; (try simp only [Dat.ok, Dat.dec, Leaf.ok, Leaf.val, Z0, Z1, val_sl] at hr); cbv)
  exact h
theorem fin_t {H : Hp} {kl : List Nat} : outA (.bc true) [] (.bc true) H kl := by
  cbv
  repeat' first | (refine Stp.mk ?_; cbv) | (refine Gen.mk fun r hr => ?_; (try simp only [Dat.ok, Dat.dec, Leaf.ok, Leaf.val, Z0, Z1, val_sl, val_nil] at hr); cbv) | exact trivial | rfl | refine Both.mk ?_ ?_ | (refine Imp.mk fun h => ?_; (try dsimp only at h); (try simp only [nc, Int.toNat_natCast, ne_eq, zz] at h); (try simp only [nc] at h)) | refine Ob.mk ?_ ?_ | refine Chk.mk (by kernel_rfl) ?_ | refine Eq'.mk ?_ | (refine AllN.mk fun i hi => ?_; cbv) | (refine AllC.mk fun c hc hcm => ?_; (try dsimp only at hc); cbv) | (refine AllS.mk fun r hr => ?_; (try simp only [Dat.ok, Dat.dec, Leaf.ok, Leaf.val, Z0, Z1, val_sl] at hr); cbv)

end Go.Proofs.YtebiaihhpflpgaaDoor
