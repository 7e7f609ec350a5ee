/- The program's functions, walked: Ty. -/
import Derived.Test.YthojlodlfgagmaaAbsG4
import Derived.Test.YthojlodlfgagmaaRows
import Derived.KernelRfl
import Derived.JoinedCond
import Derived.WalkKit
import Derived.ProofKit
import Derived.OpenShut
import Derived.ShutString
import Derived.ChangeOld
set_option linter.all false
namespace Go.Proofs.Ythojlodlfgagmaa
open Go Go.Abs
noncomputable instance kdI : Kd := ⟨fun e => match Try.prog.info? e with | some i => (match i.zero with | some zv => zv.cells.toList | none => []) | none => []⟩
structure Port where
  kind : Int
  size : Int
  room : Int
  fresh : Int
  texts : (List ByteArray)
  at_ : Int
  deriving DecidableEq
instance datPort : Dat Port where
  d0 := ⟨0, 0, 0, 0, [], 0⟩
  sz := 6
  enc x := [Leaf.av fun _ => (x ()).kind, Leaf.av fun _ => (x ()).size, Leaf.av fun _ => (x ()).room, Leaf.av fun _ => (x ()).fresh, Leaf.av fun _ => (x ()).texts, Leaf.av fun _ => (x ()).at_]
  dec l := match l with | [a0, a1, a2, a3, a4, a5] => ⟨Leaf.val a0, Leaf.val a1, Leaf.val a2, Leaf.val a3, Leaf.val a4, Leaf.val a5⟩ | _ => ⟨0, 0, 0, 0, [], 0⟩
  ok l := match l with | [a0, a1, a2, a3, a4, a5] => Leaf.ok Int a0 ∧ Leaf.ok Int a1 ∧ Leaf.ok Int a2 ∧ Leaf.ok Int a3 ∧ Leaf.ok (List ByteArray) a4 ∧ Leaf.ok Int a5 | _ => False
  hlen _ := rfl
  hclosed x := by simp only [closedL, Leaf.hclosed]
  hdec x := by simp only [Leaf.hval]
  hok x := ⟨Leaf.hok _, Leaf.hok _, Leaf.hok _, Leaf.hok _, Leaf.hok _, Leaf.hok _⟩
  hle l h := by
    split at h
    · obtain ⟨k0, k1, k2, k3, k4, k5⟩ := h
      exact .mk (Leaf.hle _ k0) (.mk (Leaf.hle _ k1) (.mk (Leaf.hle _ k2) (.mk (Leaf.hle _ k3) (.mk (Leaf.hle _ k4) (.mk (Leaf.hle _ k5) (trivial))))))
    · cases h
  hpick c l m h1 h2 := by
    split at h1
    · split at h2
      · obtain ⟨k0, k1, k2, k3, k4, k5⟩ := h1
        obtain ⟨j0, j1, j2, j3, j4, j5⟩ := h2
        refine ⟨⟨(Leaf.hpick c _ _ k0 j0).1, (Leaf.hpick c _ _ k1 j1).1, (Leaf.hpick c _ _ k2 j2).1, (Leaf.hpick c _ _ k3 j3).1, (Leaf.hpick c _ _ k4 j4).1, (Leaf.hpick c _ _ k5 j5).1⟩, ?_⟩
        have e := (fun (u : Bool) => rfl : ∀ u : Bool, u = u)
        simp only [rowL, nth, dropN, (Leaf.hpick c _ _ k0 j0).2, (Leaf.hpick c _ _ k1 j1).2, (Leaf.hpick c _ _ k2 j2).2, (Leaf.hpick c _ _ k3 j3).2, (Leaf.hpick c _ _ k4 j4).2, (Leaf.hpick c _ _ k5 j5).2]
        cases c () <;> rfl
      · cases h2
    · cases h1
instance sizPort : Siz Port := ⟨fun x => Siz.fit x.kind ∧ Siz.fit x.size ∧ Siz.fit x.room ∧ Siz.fit x.fresh ∧ Siz.fit x.texts ∧ Siz.fit x.at_, fun x => Siz.bulk x.kind + Siz.bulk x.size + Siz.bulk x.room + Siz.bulk x.fresh + Siz.bulk x.texts + Siz.bulk x.at_ + 1⟩
theorem Port.eta (x : Port) : (⟨x.kind, x.size, x.room, x.fresh, x.texts, x.at_⟩ : Port) = x := rfl
theorem Port.one_le (x : Port) : 1 ≤ Siz.bulk x := Nat.le_add_left _ _
structure PortOp where
  kind : Int
  now : Int
  text : ByteArray
  deriving DecidableEq
instance datPortOp : Dat PortOp where
  d0 := ⟨0, 0, .empty⟩
  sz := 3
  enc x := [Leaf.av fun _ => (x ()).kind, Leaf.av fun _ => (x ()).now, Leaf.av fun _ => (x ()).text]
  dec l := match l with | [a0, a1, a2] => ⟨Leaf.val a0, Leaf.val a1, Leaf.val a2⟩ | _ => ⟨0, 0, .empty⟩
  ok l := match l with | [a0, a1, a2] => Leaf.ok Int a0 ∧ Leaf.ok Int a1 ∧ Leaf.ok ByteArray a2 | _ => False
  hlen _ := rfl
  hclosed x := by simp only [closedL, Leaf.hclosed]
  hdec x := by simp only [Leaf.hval]
  hok x := ⟨Leaf.hok _, Leaf.hok _, Leaf.hok _⟩
  hle l h := by
    split at h
    · obtain ⟨k0, k1, k2⟩ := h
      exact .mk (Leaf.hle _ k0) (.mk (Leaf.hle _ k1) (.mk (Leaf.hle _ k2) (trivial)))
    · cases h
  hpick c l m h1 h2 := by
    split at h1
    · split at h2
      · obtain ⟨k0, k1, k2⟩ := h1
        obtain ⟨j0, j1, j2⟩ := h2
        refine ⟨⟨(Leaf.hpick c _ _ k0 j0).1, (Leaf.hpick c _ _ k1 j1).1, (Leaf.hpick c _ _ k2 j2).1⟩, ?_⟩
        have e := (fun (u : Bool) => rfl : ∀ u : Bool, u = u)
        simp only [rowL, nth, dropN, (Leaf.hpick c _ _ k0 j0).2, (Leaf.hpick c _ _ k1 j1).2, (Leaf.hpick c _ _ k2 j2).2]
        cases c () <;> rfl
      · cases h2
    · cases h1
instance sizPortOp : Siz PortOp := ⟨fun x => Siz.fit x.kind ∧ Siz.fit x.now ∧ Siz.fit x.text, fun x => Siz.bulk x.kind + Siz.bulk x.now + Siz.bulk x.text + 1⟩
theorem PortOp.eta (x : PortOp) : (⟨x.kind, x.now, x.text⟩ : PortOp) = x := rfl
theorem PortOp.one_le (x : PortOp) : 1 ≤ Siz.bulk x := Nat.le_add_left _ _
structure PortAns where
  text : ByteArray
  fresh : Bool
  err : Int
  deriving DecidableEq
instance datPortAns : Dat PortAns where
  d0 := ⟨.empty, false, 0⟩
  sz := 3
  enc x := [Leaf.av fun _ => (x ()).text, Leaf.av fun _ => (x ()).fresh, Leaf.av fun _ => (x ()).err]
  dec l := match l with | [a0, a1, a2] => ⟨Leaf.val a0, Leaf.val a1, Leaf.val a2⟩ | _ => ⟨.empty, false, 0⟩
  ok l := match l with | [a0, a1, a2] => Leaf.ok ByteArray a0 ∧ Leaf.ok Bool a1 ∧ Leaf.ok Int a2 | _ => False
  hlen _ := rfl
  hclosed x := by simp only [closedL, Leaf.hclosed]
  hdec x := by simp only [Leaf.hval]
  hok x := ⟨Leaf.hok _, Leaf.hok _, Leaf.hok _⟩
  hle l h := by
    split at h
    · obtain ⟨k0, k1, k2⟩ := h
      exact .mk (Leaf.hle _ k0) (.mk (Leaf.hle _ k1) (.mk (Leaf.hle _ k2) (trivial)))
    · cases h
  hpick c l m h1 h2 := by
    split at h1
    · split at h2
      · obtain ⟨k0, k1, k2⟩ := h1
        obtain ⟨j0, j1, j2⟩ := h2
        refine ⟨⟨(Leaf.hpick c _ _ k0 j0).1, (Leaf.hpick c _ _ k1 j1).1, (Leaf.hpick c _ _ k2 j2).1⟩, ?_⟩
        have e := (fun (u : Bool) => rfl : ∀ u : Bool, u = u)
        simp only [rowL, nth, dropN, (Leaf.hpick c _ _ k0 j0).2, (Leaf.hpick c _ _ k1 j1).2, (Leaf.hpick c _ _ k2 j2).2]
        cases c () <;> rfl
      · cases h2
    · cases h1
instance sizPortAns : Siz PortAns := ⟨fun x => Siz.fit x.text ∧ Siz.fit x.fresh ∧ Siz.fit x.err, fun x => Siz.bulk x.text + Siz.bulk x.fresh + Siz.bulk x.err + 1⟩
theorem PortAns.eta (x : PortAns) : (⟨x.text, x.fresh, x.err⟩ : PortAns) = x := rfl
theorem PortAns.one_le (x : PortAns) : 1 ≤ Siz.bulk x := Nat.le_add_left _ _
noncomputable def tys : TypeId → Ty := fun t => match t with
  | 1 => .one
  | 2 => .int .i64
  | 3 => .int .i64
  | 4 => .bool
  | 5 => .int .u8
  | 9 => .str
  | 12 => .int .u64
  | 13 => .struct none [(0, 9, 1), (1, 12, 1)] 2 [.s fun _ => .empty, .i .u64 fun _ => 0]
  | 21 => .int .i32
  | 22 => .slice 32 3 32 [.i .i64 fun _ => 0, .i .i64 fun _ => 0, .s fun _ => .empty]
  | 23 => .slice 9 1 16 [.s fun _ => .empty]
  | 24 => .struct none [(0, 3, 1), (1, 3, 1), (2, 3, 1), (3, 3, 1), (4, 23, 1), (5, 3, 1)] 6 [.i .i64 fun _ => 0, .i .i64 fun _ => 0, .i .i64 fun _ => 0, .i .i64 fun _ => 0, .nil, .i .i64 fun _ => 0]
  | 25 => .struct none [(0, 3, 1), (1, 3, 1), (2, 3, 1), (3, 3, 1), (4, 23, 1), (5, 3, 1)] 6 [.i .i64 fun _ => 0, .i .i64 fun _ => 0, .i .i64 fun _ => 0, .i .i64 fun _ => 0, .nil, .i .i64 fun _ => 0]
  | 26 => .slice 34 3 32 [.s fun _ => .empty, .bc false, .i .i64 fun _ => 0]
  | 27 => .int .i64
  | 29 => .one
  | 30 => .one
  | 31 => .struct (some [.i, .i, .s]) [(0, 3, 1), (1, 3, 1), (2, 9, 1)] 3 [.i .i64 fun _ => 0, .i .i64 fun _ => 0, .s fun _ => .empty]
  | 32 => .struct (some [.i, .i, .s]) [(0, 3, 1), (1, 3, 1), (2, 9, 1)] 3 [.i .i64 fun _ => 0, .i .i64 fun _ => 0, .s fun _ => .empty]
  | 33 => .struct (some [.s, .b, .i]) [(0, 9, 1), (1, 4, 1), (2, 27, 1)] 3 [.s fun _ => .empty, .bc false, .i .i64 fun _ => 0]
  | 34 => .struct (some [.s, .b, .i]) [(0, 9, 1), (1, 4, 1), (2, 27, 1)] 3 [.s fun _ => .empty, .bc false, .i .i64 fun _ => 0]
  | 35 => .one
  | 36 => .one
  | 37 => .one
  | 38 => .one
  | 39 => .one
  | 40 => .one
  | 42 => .one
  | 44 => .one
  | 46 => .one
  | 50 => .one
  | 51 => .one
  | 52 => .one
  | 53 => .one
  | 54 => .one
  | 55 => .one
  | 56 => .one
  | 58 => .one
  | 60 => .struct none [] 0 []
  | 61 => .struct none [] 0 []
  | 62 => .one
  | 63 => .one
  | 69 => .one
  | 70 => .int .u32
  | 73 => .one
  | _ => .other
noncomputable def ars : TypeId → Option Arr := fun t => match t with
  | 45 => some ⟨2, 1, [.nil], false⟩
  | _ => none
def mts : TypeId → String → Option FuncId := fun t n => match t with
  | 60 => if n = "dutyroster/port.check" then some 35 else if n = "dutyroster/port.read" then some 36 else if n = "dutyroster/port.write" then some 37 else none
  | 61 => if n = "dutyroster/port.check" then some 38 else if n = "dutyroster/port.read" then some 39 else if n = "dutyroster/port.write" then some 40 else none
  | _ => none
def nifs : TypeId → Bool := fun t => match t with
  | 60 => true
  | 61 => true
  | _ => false
noncomputable def E : Env := { ty := tys, ar := ars, mt := mts, nif := nifs }
noncomputable def Ew (w : List Nat) : Env := { ty := tys, wr := w, ar := ars, mt := mts, nif := nifs }
set_option maxRecDepth 100000
theorem envOkW (w : List Nat) : EnvOk Try.prog (Ew w) := ⟨fun t => by
  show TyOk Try.prog t (tys t)
  unfold tys
  split
  · exact ⟨⟨_, rfl, rfl⟩, ⟨_, rfl, rfl, _, rfl, rfl, rfl⟩⟩
  · exact ⟨rfl, _, rfl, rfl, _, rfl, rfl, rfl⟩
  · exact ⟨rfl, _, rfl, rfl, _, rfl, rfl, rfl⟩
  · exact ⟨rfl, _, rfl, rfl, _, rfl, rfl, rfl⟩
  · exact ⟨rfl, _, rfl, rfl, _, rfl, rfl, rfl⟩
  · exact ⟨rfl, _, rfl, rfl, _, rfl, rfl, rfl⟩
  · exact ⟨rfl, _, rfl, rfl, _, rfl, rfl, rfl⟩
  · exact ⟨⟨_, rfl, by kernel_rfl, fun ks h => by cases h⟩, ⟨_, rfl, rfl, _, rfl, rfl, rfl⟩⟩
  · exact ⟨rfl, _, rfl, rfl, _, rfl, rfl, rfl⟩
  · exact ⟨rfl, by omega, by omega, ⟨_, rfl, rfl, _, rfl, rfl, rfl⟩, rfl, ⟨_, rfl, rfl, _, rfl, rfl, rfl⟩, kdOf_at _ _⟩
  · exact ⟨rfl, by omega, by omega, ⟨_, rfl, rfl, _, rfl, rfl, rfl⟩, rfl, ⟨_, rfl, rfl, _, rfl, rfl, rfl⟩, kdOf_at _ _⟩
  · exact ⟨⟨_, rfl, by kernel_rfl, fun ks h => by cases h⟩, ⟨_, rfl, rfl, _, rfl, rfl, rfl⟩⟩
  · exact ⟨⟨_, rfl, by kernel_rfl, fun ks h => by cases h⟩, ⟨_, rfl, rfl, _, rfl, rfl, rfl⟩⟩
  · exact ⟨rfl, by omega, by omega, ⟨_, rfl, rfl, _, rfl, rfl, rfl⟩, rfl, ⟨_, rfl, rfl, _, rfl, rfl, rfl⟩, kdOf_at _ _⟩
  · exact ⟨rfl, _, rfl, rfl, _, rfl, rfl, rfl⟩
  · exact ⟨⟨_, rfl, rfl⟩, ⟨_, rfl, rfl, _, rfl, rfl, rfl⟩⟩
  · exact ⟨⟨_, rfl, rfl⟩, ⟨_, rfl, rfl, _, rfl, rfl, rfl⟩⟩
  · exact ⟨⟨_, rfl, by kernel_rfl, fun ks h => by cases h; exact ⟨by kernel_rfl, by kernel_rfl, by kernel_rfl⟩⟩, ⟨_, rfl, rfl, _, rfl, rfl, rfl⟩⟩
  · exact ⟨⟨_, rfl, by kernel_rfl, fun ks h => by cases h; exact ⟨by kernel_rfl, by kernel_rfl, by kernel_rfl⟩⟩, ⟨_, rfl, rfl, _, rfl, rfl, rfl⟩⟩
  · exact ⟨⟨_, rfl, by kernel_rfl, fun ks h => by cases h; exact ⟨by kernel_rfl, by kernel_rfl, by kernel_rfl⟩⟩, ⟨_, rfl, rfl, _, rfl, rfl, rfl⟩⟩
  · exact ⟨⟨_, rfl, by kernel_rfl, fun ks h => by cases h; exact ⟨by kernel_rfl, by kernel_rfl, by kernel_rfl⟩⟩, ⟨_, rfl, rfl, _, rfl, rfl, rfl⟩⟩
  · exact ⟨⟨_, rfl, rfl⟩, ⟨_, rfl, rfl, _, rfl, rfl, rfl⟩⟩
  · exact ⟨⟨_, rfl, rfl⟩, ⟨_, rfl, rfl, _, rfl, rfl, rfl⟩⟩
  · exact ⟨⟨_, rfl, rfl⟩, ⟨_, rfl, rfl, _, rfl, rfl, rfl⟩⟩
  · exact ⟨⟨_, rfl, rfl⟩, ⟨_, rfl, rfl, _, rfl, rfl, rfl⟩⟩
  · exact ⟨⟨_, rfl, rfl⟩, ⟨_, rfl, rfl, _, rfl, rfl, rfl⟩⟩
  · exact ⟨⟨_, rfl, rfl⟩, ⟨_, rfl, rfl, _, rfl, rfl, rfl⟩⟩
  · exact ⟨⟨_, rfl, rfl⟩, ⟨_, rfl, rfl, _, rfl, rfl, rfl⟩⟩
  · exact ⟨⟨_, rfl, rfl⟩, ⟨_, rfl, rfl, _, rfl, rfl, rfl⟩⟩
  · exact ⟨⟨_, rfl, rfl⟩, ⟨_, rfl, rfl, _, rfl, rfl, rfl⟩⟩
  · exact ⟨⟨_, rfl, rfl⟩, ⟨_, rfl, rfl, _, rfl, rfl, rfl⟩⟩
  · exact ⟨⟨_, rfl, rfl⟩, ⟨_, rfl, rfl, _, rfl, rfl, rfl⟩⟩
  · exact ⟨⟨_, rfl, rfl⟩, ⟨_, rfl, rfl, _, rfl, rfl, rfl⟩⟩
  · exact ⟨⟨_, rfl, rfl⟩, ⟨_, rfl, rfl, _, rfl, rfl, rfl⟩⟩
  · exact ⟨⟨_, rfl, rfl⟩, ⟨_, rfl, rfl, _, rfl, rfl, rfl⟩⟩
  · exact ⟨⟨_, rfl, rfl⟩, ⟨_, rfl, rfl, _, rfl, rfl, rfl⟩⟩
  · exact ⟨⟨_, rfl, rfl⟩, ⟨_, rfl, rfl, _, rfl, rfl, rfl⟩⟩
  · exact ⟨⟨_, rfl, rfl⟩, ⟨_, rfl, rfl, _, rfl, rfl, rfl⟩⟩
  · exact ⟨⟨_, rfl, by kernel_rfl, fun ks h => by cases h⟩, ⟨_, rfl, rfl, _, rfl, rfl, rfl⟩⟩
  · exact ⟨⟨_, rfl, by kernel_rfl, fun ks h => by cases h⟩, ⟨_, rfl, rfl, _, rfl, rfl, rfl⟩⟩
  · exact ⟨⟨_, rfl, rfl⟩, ⟨_, rfl, rfl, _, rfl, rfl, rfl⟩⟩
  · exact ⟨⟨_, rfl, rfl⟩, ⟨_, rfl, rfl, _, rfl, rfl, rfl⟩⟩
  · exact ⟨⟨_, rfl, rfl⟩, ⟨_, rfl, rfl, _, rfl, rfl, rfl⟩⟩
  · exact ⟨rfl, _, rfl, rfl, _, rfl, rfl, rfl⟩
  · exact ⟨⟨_, rfl, rfl⟩, ⟨_, rfl, rfl, _, rfl, rfl, rfl⟩⟩
  · trivial, (fun t r h => by
  have h : ars t = some r := h
  unfold ars at h
  split at h
  · cases h; exact ⟨23, rfl, ⟨_, _, rfl, rfl, rfl, rfl⟩, ⟨_, rfl, rfl, _, rfl, rfl, rfl⟩, _, rfl, rfl⟩
  · cases h), (fun f h => by cases h),
  (fun t n f h => by
  have h : mts t n = some f := h
  unfold mts at h
  split at h
  · repeat (split at h; (rename_i e; subst e; cases h; intro v w; kernel_rfl))
    cases h
  · repeat (split at h; (rename_i e; subst e; cases h; intro v w; kernel_rfl))
    cases h
  · cases h), fun t h => by
  have h : nifs t = true := h
  unfold nifs at h
  split at h
  · exact ⟨_, rfl, rfl⟩
  · exact ⟨_, rfl, rfl⟩
  · cases h⟩
theorem envOk : EnvOk Try.prog E := envOkW []
theorem zlW (w : List Nat) : Zl (Ew w) := ⟨fun t e sz b z h => by
  have h : tys t = .slice e sz b z := h
  unfold tys at h
  split at h <;> cases h <;> rfl⟩
theorem zl : Zl E := zlW []
theorem mixed : Try.prog.follows .mixedOrders = true := by kernel_rfl
def noCon : FuncId → Con := fun _ _ _ _ => Bad 1000
theorem noCon_ok : ConOk Try.prog noCon := fun f A H K h => by cases h
def noDet : FuncId → Option Dt := fun _ => none
theorem noDet_ok : DetOk Try.prog noDet := fun f d h => by cases h
set_option maxRecDepth 100000
theorem opn_Port : Opn Try.prog 25 Port := by
  intro H enc w fuel cs x h
  obtain ⟨xs, n, _, rfl, hl, hxl, hf⟩ := DataW.trod_struct Try.underlying25 h
  rw [show Try.prog.cellsOf 25 = 6 by kernel_rfl] at hl
  obtain ⟨c0, c1, c2, c3, c4, c5, rfl⟩ : ∃ c0 c1 c2 c3 c4 c5, cs = [c0, c1, c2, c3, c4, c5] := by
    match cs, hl with | [c0, c1, c2, c3, c4, c5], _ => exact ⟨c0, c1, c2, c3, c4, c5, rfl⟩
  obtain ⟨x0, x1, x2, x3, x4, x5, rfl⟩ : ∃ x0 x1 x2 x3 x4 x5, xs = [x0, x1, x2, x3, x4, x5] := by
    match xs, hxl with | [x0, x1, x2, x3, x4, x5], _ => exact ⟨x0, x1, x2, x3, x4, x5, rfl⟩
  have h0 : DataW.trod enc Try.prog w 0 (fun _ => true) true n 3 (([c0, c1, c2, c3, c4, c5].drop 0).take (Try.prog.cellsOf 3)) = some x0 := hf 0 _ rfl
  rw [show Try.prog.cellsOf 3 = 1 by kernel_rfl] at h0
  have h0 : DataW.trod enc Try.prog w 0 (fun _ => true) true n 3 [c0] = some x0 := h0
  obtain ⟨y0, u0, b0, e0⟩ := (opn_int Try.underlying3) h0
  have h1 : DataW.trod enc Try.prog w 0 (fun _ => true) true n 3 (([c0, c1, c2, c3, c4, c5].drop 1).take (Try.prog.cellsOf 3)) = some x1 := hf 1 _ rfl
  rw [show Try.prog.cellsOf 3 = 1 by kernel_rfl] at h1
  have h1 : DataW.trod enc Try.prog w 0 (fun _ => true) true n 3 [c1] = some x1 := h1
  obtain ⟨y1, u1, b1, e1⟩ := (opn_int Try.underlying3) h1
  have h2 : DataW.trod enc Try.prog w 0 (fun _ => true) true n 3 (([c0, c1, c2, c3, c4, c5].drop 2).take (Try.prog.cellsOf 3)) = some x2 := hf 2 _ rfl
  rw [show Try.prog.cellsOf 3 = 1 by kernel_rfl] at h2
  have h2 : DataW.trod enc Try.prog w 0 (fun _ => true) true n 3 [c2] = some x2 := h2
  obtain ⟨y2, u2, b2, e2⟩ := (opn_int Try.underlying3) h2
  have h3 : DataW.trod enc Try.prog w 0 (fun _ => true) true n 3 (([c0, c1, c2, c3, c4, c5].drop 3).take (Try.prog.cellsOf 3)) = some x3 := hf 3 _ rfl
  rw [show Try.prog.cellsOf 3 = 1 by kernel_rfl] at h3
  have h3 : DataW.trod enc Try.prog w 0 (fun _ => true) true n 3 [c3] = some x3 := h3
  obtain ⟨y3, u3, b3, e3⟩ := (opn_int Try.underlying3) h3
  have h4 : DataW.trod enc Try.prog w 0 (fun _ => true) true n 23 (([c0, c1, c2, c3, c4, c5].drop 4).take (Try.prog.cellsOf 23)) = some x4 := hf 4 _ rfl
  rw [show Try.prog.cellsOf 23 = 1 by kernel_rfl] at h4
  have h4 : DataW.trod enc Try.prog w 0 (fun _ => true) true n 23 [c4] = some x4 := h4
  obtain ⟨y4, u4, b4, e4⟩ := (opn_slice Try.underlying23 (by kernel_rfl) (by decide) (opn_str Try.underlying9)) h4
  have h5 : DataW.trod enc Try.prog w 0 (fun _ => true) true n 3 (([c0, c1, c2, c3, c4, c5].drop 5).take (Try.prog.cellsOf 3)) = some x5 := hf 5 _ rfl
  rw [show Try.prog.cellsOf 3 = 1 by kernel_rfl] at h5
  have h5 : DataW.trod enc Try.prog w 0 (fun _ => true) true n 3 [c5] = some x5 := h5
  obtain ⟨y5, u5, b5, e5⟩ := (opn_int Try.underlying3) h5
  exact ⟨⟨y0, y1, y2, y3, y4, y5⟩, ⟨u0, u1, u2, u3, u4, u5⟩, by simp only [Siz.bulk, bulkD, bulkL, List.map] at *; omega, openCs_app e0 (openCs_app e1 (openCs_app e2 (openCs_app e3 (openCs_app e4 (openCs_app e5 (openCs_nil))))))⟩
theorem opn_PortOp : Opn Try.prog 32 PortOp := by
  intro H enc w fuel cs x h
  obtain ⟨xs, n, _, rfl, hl, hxl, hf⟩ := DataW.trod_struct Try.underlying32 h
  rw [show Try.prog.cellsOf 32 = 3 by kernel_rfl] at hl
  obtain ⟨c0, c1, c2, rfl⟩ : ∃ c0 c1 c2, cs = [c0, c1, c2] := by
    match cs, hl with | [c0, c1, c2], _ => exact ⟨c0, c1, c2, rfl⟩
  obtain ⟨x0, x1, x2, rfl⟩ : ∃ x0 x1 x2, xs = [x0, x1, x2] := by
    match xs, hxl with | [x0, x1, x2], _ => exact ⟨x0, x1, x2, rfl⟩
  have h0 : DataW.trod enc Try.prog w 0 (fun _ => true) true n 3 (([c0, c1, c2].drop 0).take (Try.prog.cellsOf 3)) = some x0 := hf 0 _ rfl
  rw [show Try.prog.cellsOf 3 = 1 by kernel_rfl] at h0
  have h0 : DataW.trod enc Try.prog w 0 (fun _ => true) true n 3 [c0] = some x0 := h0
  obtain ⟨y0, u0, b0, e0⟩ := (opn_int Try.underlying3) h0
  have h1 : DataW.trod enc Try.prog w 0 (fun _ => true) true n 3 (([c0, c1, c2].drop 1).take (Try.prog.cellsOf 3)) = some x1 := hf 1 _ rfl
  rw [show Try.prog.cellsOf 3 = 1 by kernel_rfl] at h1
  have h1 : DataW.trod enc Try.prog w 0 (fun _ => true) true n 3 [c1] = some x1 := h1
  obtain ⟨y1, u1, b1, e1⟩ := (opn_int Try.underlying3) h1
  have h2 : DataW.trod enc Try.prog w 0 (fun _ => true) true n 9 (([c0, c1, c2].drop 2).take (Try.prog.cellsOf 9)) = some x2 := hf 2 _ rfl
  rw [show Try.prog.cellsOf 9 = 1 by kernel_rfl] at h2
  have h2 : DataW.trod enc Try.prog w 0 (fun _ => true) true n 9 [c2] = some x2 := h2
  obtain ⟨y2, u2, b2, e2⟩ := (opn_str Try.underlying9) h2
  exact ⟨⟨y0, y1, y2⟩, ⟨u0, u1, u2⟩, by simp only [Siz.bulk, bulkD, bulkL, List.map] at *; omega, openCs_app e0 (openCs_app e1 (openCs_app e2 (openCs_nil)))⟩
theorem opn_PortAns : Opn Try.prog 34 PortAns := by
  intro H enc w fuel cs x h
  obtain ⟨xs, n, _, rfl, hl, hxl, hf⟩ := DataW.trod_struct Try.underlying34 h
  rw [show Try.prog.cellsOf 34 = 3 by kernel_rfl] at hl
  obtain ⟨c0, c1, c2, rfl⟩ : ∃ c0 c1 c2, cs = [c0, c1, c2] := by
    match cs, hl with | [c0, c1, c2], _ => exact ⟨c0, c1, c2, rfl⟩
  obtain ⟨x0, x1, x2, rfl⟩ : ∃ x0 x1 x2, xs = [x0, x1, x2] := by
    match xs, hxl with | [x0, x1, x2], _ => exact ⟨x0, x1, x2, rfl⟩
  have h0 : DataW.trod enc Try.prog w 0 (fun _ => true) true n 9 (([c0, c1, c2].drop 0).take (Try.prog.cellsOf 9)) = some x0 := hf 0 _ rfl
  rw [show Try.prog.cellsOf 9 = 1 by kernel_rfl] at h0
  have h0 : DataW.trod enc Try.prog w 0 (fun _ => true) true n 9 [c0] = some x0 := h0
  obtain ⟨y0, u0, b0, e0⟩ := (opn_str Try.underlying9) h0
  have h1 : DataW.trod enc Try.prog w 0 (fun _ => true) true n 4 (([c0, c1, c2].drop 1).take (Try.prog.cellsOf 4)) = some x1 := hf 1 _ rfl
  rw [show Try.prog.cellsOf 4 = 1 by kernel_rfl] at h1
  have h1 : DataW.trod enc Try.prog w 0 (fun _ => true) true n 4 [c1] = some x1 := h1
  obtain ⟨y1, u1, b1, e1⟩ := (opn_bool Try.underlying4) h1
  have h2 : DataW.trod enc Try.prog w 0 (fun _ => true) true n 27 (([c0, c1, c2].drop 2).take (Try.prog.cellsOf 27)) = some x2 := hf 2 _ rfl
  rw [show Try.prog.cellsOf 27 = 1 by kernel_rfl] at h2
  have h2 : DataW.trod enc Try.prog w 0 (fun _ => true) true n 27 [c2] = some x2 := h2
  obtain ⟨y2, u2, b2, e2⟩ := (opn_int Try.underlying27) h2
  exact ⟨⟨y0, y1, y2⟩, ⟨u0, u1, u2⟩, by simp only [Siz.bulk, bulkD, bulkL, List.map] at *; omega, openCs_app e0 (openCs_app e1 (openCs_app e2 (openCs_nil)))⟩
theorem fin_b {b : Th Bool} {H : Hp} {kl : List Nat} (h : b () = true) : outA (.bc true) [] (.b b) H kl := by
  cbv
  repeat' first | (refine Stp.mk ?_; cbv) | (refine Gen.mk fun r hr => ?_; (try simp only [Dat.ok, Dat.dec, Leaf.ok, Leaf.val, Port.eta, PortOp.eta, PortAns.eta, val_sl, val_nil] at hr); cbv) | exact trivial | rfl | refine Both.mk ?_ ?_ | (refine Imp.mk fun h => ?_; (try dsimp only at h); (try simp only [nc, Int.toNat_natCast, Bool.not_eq_true', Bool.not_eq_false', decide_eq_true_eq, decide_eq_false_iff_not, beq_iff_eq, beq_eq_false_iff_ne, ba_inj, bne_iff_ne, ne_eq, Bool.and_eq_true, Bool.or_eq_true, Bool.and_eq_false_iff, Bool.or_eq_false_iff, Int.not_le, Int.not_lt, Nat.not_le, Nat.not_lt] at h); (try simp only [nc] at h)) | refine Ob.mk ?_ ?_ | refine Chk.mk (by kernel_rfl) ?_ | refine Eq'.mk ?_ | (refine AllN.mk fun i hi => ?_; cbv) | (refine AllC.mk fun c hc hcm => ?_; (try dsimp only at hc); cbv) | (refine AllS.mk fun r hr => ?_; (try simp only [Dat.ok, Dat.dec, Leaf.ok, Leaf.val, Port.eta, PortOp.eta, PortAns.eta, val_sl] at hr); cbv)
  exact h
theorem fin_t {H : Hp} {kl : List Nat} : outA (.bc true) [] (.bc true) H kl := by
  cbv
  repeat' first | (refine Stp.mk ?_; cbv) | (refine Gen.mk fun r hr => ?_; (try simp only [Dat.ok, Dat.dec, Leaf.ok, Leaf.val, Port.eta, PortOp.eta, PortAns.eta, val_sl, val_nil] at hr); cbv) | exact trivial | rfl | refine Both.mk ?_ ?_ | (refine Imp.mk fun h => ?_; (try dsimp only at h); (try simp only [nc, Int.toNat_natCast, Bool.not_eq_true', Bool.not_eq_false', decide_eq_true_eq, decide_eq_false_iff_not, beq_iff_eq, beq_eq_false_iff_ne, ba_inj, bne_iff_ne, ne_eq, Bool.and_eq_true, Bool.or_eq_true, Bool.and_eq_false_iff, Bool.or_eq_false_iff, Int.not_le, Int.not_lt, Nat.not_le, Nat.not_lt] at h); (try simp only [nc] at h)) | refine Ob.mk ?_ ?_ | refine Chk.mk (by kernel_rfl) ?_ | refine Eq'.mk ?_ | (refine AllN.mk fun i hi => ?_; cbv) | (refine AllC.mk fun c hc hcm => ?_; (try dsimp only at hc); cbv) | (refine AllS.mk fun r hr => ?_; (try simp only [Dat.ok, Dat.dec, Leaf.ok, Leaf.val, Port.eta, PortOp.eta, PortAns.eta, val_sl] at hr); cbv)

end Go.Proofs.Ythojlodlfgagmaa
