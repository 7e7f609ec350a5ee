/- The abstract step of an operation: definitions. -/
import Derived.Test.YtadjemhbfaonbaaAbsCore
set_option linter.all false
namespace Go.Abs
open Go

/-- Kinds of plain cells. -/
inductive LK where
  | i | b | s

/-- What is known of a type. -/
inductive Ty where
  | int (k : IntKind)
  | bool
  | str
  | slice (e : TypeId) (sz bytes : Nat) (z : List AV)
  | struct (flat : Option (List LK)) (fs : List (Nat × TypeId × Nat)) (sz : Nat) (z : List AV)
  | one
  | other
  deriving Inhabited

def valAV : Value → AV
  | .int k n => .i k (fun _ => n)
  | .bool b => .bc b
  | .string s => .s (fun _ => s)
  | .slice a n c => match a, n, c with
    | none, 0, 0 => .nil
    | _, _, _ => .any
  | .func f x y => match f, x.toList, y.toList with
    | .func f, [], [] => .fn f []
    | _, _, _ => .any
  | _ => .any

def lk : Tm → Nat → AV
  | [], _ => .any
  | (j, v) :: r, i => match Nat.beq j i with
    | true => v
    | false => lk r i

def ev (s : Tm) : Operand → AV
  | .tmp t => lk s t
  | .const v => valAV v
  | .func f => .fn f []
  | _ => .any

def evO (s : Tm) : Option Operand → Option AV
  | some x => some (ev s x)
  | none => none

def nth {α : Type} (d : α) : List α → Nat → α
  | [], _ => d
  | x :: _, 0 => x
  | _ :: r, n + 1 => nth d r n

def dropN {α : Type} : Nat → List α → List α
  | 0, l => l
  | _ + 1, [] => []
  | n + 1, _ :: r => dropN n r

def takeN {α : Type} : Nat → List α → List α
  | 0, _ => []
  | _ + 1, [] => []
  | n + 1, x :: r => x :: takeN n r

def len {α : Type} : List α → Nat
  | [] => 0
  | _ :: r => Nat.succ (len r)

/-- The list with other values from place 'o' on. -/
def splice : Nat → List AV → List AV → List AV
  | 0, [], cs => cs
  | 0, _ :: _, [] => []
  | 0, v :: vs, _ :: cs => v :: splice 0 vs cs
  | _ + 1, _, [] => []
  | n + 1, vs, c :: cs => c :: splice n vs cs

/-- One of two, by a Bool. -/
def AV.pick (c : Th Bool) (x y : AV) : AV :=
  match x, y with
  | .i .i64 p, .i .i64 q => .i .i64 fun _ => bif c () then p () else q ()
  | .i .u8 p, .i .u8 q => .i .u8 fun _ => bif c () then p () else q ()
  | .i .i32 p, .i .i32 q => .i .i32 fun _ => bif c () then p () else q ()
  | .i .u32 p, .i .u32 q => .i .u32 fun _ => bif c () then p () else q ()
  | .i .u64 p, .i .u64 q => .i .u64 fun _ => bif c () then p () else q ()
  | .b p, .b q => .b fun _ => bif c () then p () else q ()
  | .bc p, .b q => .b fun _ => bif c () then p else q ()
  | .b p, .bc q => .b fun _ => bif c () then p () else q
  | .bc p, .bc q => .b fun _ => bif c () then p else q
  | .s p, .s q => .s fun _ => bif c () then p () else q ()
  | x, y => .ite c x y
def pickL (c : Th Bool) : List AV → List AV → List AV
  | x :: l, y :: m => AV.pick c x y :: pickL c l m
  | _, _ => []

/-- A value's cells, where it is known whether it is one. -/
def cells : AV → Option (List AV)
  | .agg l => some l
  | .any | .tup _ | .ite _ _ _ => none
  | x => some [x]

mutual
/-- No object's number in it. -/
def closed : AV → Bool
  | .ptr _ _ | .ept _ _ _ _ | .own _ _ | .vw _ _ _ _ | .nn _ _ | .fn _ _ => false
  | .ite _ x y => match closed x with | true => closed y | false => false
  | .agg l | .tup l => closedL l
  | _ => true
def closedL : List AV → Bool
  | [] => true
  | x :: r => match closed x with | true => closedL r | false => false
end

inductive Chg where
  | no
  | new (o : AObj)
  | upd (b : Nat) (o : AObj)
  | mv (b : Nat) (o : AObj)

inductive Res where
  | bad (n : Nat)
  | ok (v : AV) (c : Chg)
  | ob (p : Th Prop) (v : AV) (c : Chg)

def hput (h : Hp) (n : Nat) (o : AObj) : Hp := match Nat.blt n (len h) with | true => h.set n o | false => h ++ [o]

def Chg.on (c : Chg) (nid : Nat) (h : Hp) : Hp := match c with
  | .no => h
  | .new o => hput h nid o
  | .upd b o => h.set b o
  | .mv b o => hput (h.set b .dead) nid o

def InR (n : Int) : Prop := -9223372036854775808 ≤ n ∧ n ≤ 9223372036854775807

/-- Are two lists of plain cells the same? -/
def eqCells : List LK → List AV → List AV → Option (Th Bool)
  | [], [], [] => some fun _ => true
  | k :: ks, x :: l, y :: m =>
    match eqCells ks l m with
    | none => none
    | some r =>
      match k, x, y with
      | .i, .i .i64 p, .i .i64 q => some fun _ => (p () == q ()) && r ()
      | .b, .b p, .b q => some fun _ => (p () == q ()) && r ()
      | .b, .bc p, .b q => some fun _ => (p == q ()) && r ()
      | .b, .b p, .bc q => some fun _ => (p () == q) && r ()
      | .b, .bc p, .bc q => some fun _ => (p == q) && r ()
      | .s, .s p, .s q => some fun _ => ((p ()).toList == (q ()).toList) && r ()
      | _, _, _ => none
  | _, _, _ => none

def asB : AV → Option (Th Bool)
  | .b p => some p
  | .bc p => some fun _ => p
  | _ => none

def kEq : IntKind → IntKind → Bool
  | .i64, .i64 => true
  | .i32, .i32 => true
  | .u64, .u64 => true
  | .u32, .u32 => true
  | .u8, .u8 => true
  | _, _ => false
def bAnd (k : IntKind) (x y : Int) : Int := k.wrap (BitVec.ofInt k.bits x &&& BitVec.ofInt k.bits y).toNat
def bOr (k : IntKind) (x y : Int) : Int := k.wrap (BitVec.ofInt k.bits x ||| BitVec.ofInt k.bits y).toNat
def bXor (k : IntKind) (x y : Int) : Int := k.wrap (BitVec.ofInt k.bits x ^^^ BitVec.ofInt k.bits y).toNat
def bAndNot (k : IntKind) (x y : Int) : Int := k.wrap (BitVec.ofInt k.bits x &&& ~~~BitVec.ofInt k.bits y).toNat
def bShl (k : IntKind) (x y : Int) : Int := k.wrap (x * 2 ^ min y.toNat k.bits)
def bShr (k : IntKind) (x y : Int) : Int := x.fdiv (2 ^ min y.toNat k.bits)

/-- Two numbers of one kind, but sums of 64 bits. -/
def aBinK (k : IntKind) (op : BinOp) (a b : Th Int) : Res :=
  match op with
  | .add => .ok (.i k fun _ => k.wrap (a () + b ())) .no
  | .sub => .ok (.i k fun _ => k.wrap (a () - b ())) .no
  | .mul => .ok (.i k fun _ => k.wrap (a () * b ())) .no
  | .quo => .ob (fun _ => b () ≠ 0) (.i k fun _ => k.wrap ((a ()).tdiv (b ()))) .no
  | .rem => .ob (fun _ => b () ≠ 0) (.i k fun _ => (a ()).tmod (b ())) .no
  | .and => .ok (.i k fun _ => bAnd k (a ()) (b ())) .no
  | .or => .ok (.i k fun _ => bOr k (a ()) (b ())) .no
  | .xor => .ok (.i k fun _ => bXor k (a ()) (b ())) .no
  | .andNot => .ok (.i k fun _ => bAndNot k (a ()) (b ())) .no
  | .lss => .ok (.b fun _ => decide (a () < b ())) .no
  | .leq => .ok (.b fun _ => decide (a () ≤ b ())) .no
  | .gtr => .ok (.b fun _ => decide (b () < a ())) .no
  | .geq => .ok (.b fun _ => decide (b () ≤ a ())) .no
  | .eql => .ok (.b fun _ => a () == b ()) .no
  | .neq => .ok (.b fun _ => !(a () == b ())) .no
  | .shl => .ob (fun _ => 0 ≤ b ()) (.i k fun _ => bShl k (a ()) (b ())) .no
  | .shr => .ob (fun _ => 0 ≤ b ()) (.i k fun _ => bShr k (a ()) (b ())) .no

def aBin (T : Ty) (wr : Bool) (op : BinOp) (x y : AV) : Res :=
  match x, y with
  | .i k a, .i k' b =>
    match kEq k k' with
    | true => match k, wr, op with
      | .i64, false, .add => .ob (fun _ => InR (a () + b ())) (.i .i64 fun _ => a () + b ()) .no
      | .i64, false, .sub => .ob (fun _ => InR (a () - b ())) (.i .i64 fun _ => a () - b ()) .no
      | .i64, false, .mul => .ob (fun _ => InR (a () * b ())) (.i .i64 fun _ => a () * b ()) .no
      | .i64, _, .quo => .ob (fun _ => b () ≠ 0 ∧ InR ((a ()).tdiv (b ()))) (.i .i64 fun _ => (a ()).tdiv (b ())) .no
      | k, _, op => aBinK k op a b
    | false => match op with
      | .shl => .ob (fun _ => 0 ≤ b ()) (.i k fun _ => bShl k (a ()) (b ())) .no
      | .shr => .ob (fun _ => 0 ≤ b ()) (.i k fun _ => bShr k (a ()) (b ())) .no
      | _ => .bad 2
  | .s a, .s b =>
    match op with
    | .eql => .ok (.b fun _ => (a ()).toList == (b ()).toList) .no
    | .neq => .ok (.b fun _ => !((a ()).toList == (b ()).toList)) .no
    | .add => .ob (fun _ => (a ()).size + (b ()).size ≤ 9223372036854775807) (.s fun _ => a () ++ b ()) .no
    | _ => .bad 3
  | .agg l, .agg m =>
    match T with
    | .struct (some ks) _ _ _ => match eqCells ks l m with
      | some r => match op with
        | .eql => .ok (.b r) .no
        | .neq => .ok (.b fun _ => !(r ())) .no
        | _ => .bad 4
      | none => .bad 5
    | _ => .bad 6
  | x, y => match T, asB x, asB y with
    | .bool, some a, some b => match op with
      | .eql => .ok (.b fun _ => a () == b ()) .no
      | .neq => .ok (.b fun _ => !(a () == b ())) .no
      | _ => .bad 7
    | _, _, _ => .bad 8

def loadCs (T : Ty) (p : Option (Th Prop)) (cs : List AV) : Res :=
  let out (v : AV) : Res := match p with | none => .ok v .no | some q => .ob q v .no
  match T with
  | .struct _ _ sz _ => match Nat.ble sz (len cs) with
    | true => out (.agg (takeN sz cs))
    | false => .bad 20
  | .other => .bad 21
  | _ => match cs with
    | x :: _ => out x
    | [] => .bad 22

def aLoad (T : Ty) (h : Hp) (x : AV) : Res :=
  match x with
  | .ptr b o => match nth .dead h b with
    | .blk cs => loadCs T none (dropN o cs)
    | _ => .bad 23
  | .ept b sz i o => match nth .dead h b with
    | .vec et sz' n f => match Nat.beq sz sz' with
      | true => loadCs T (some fun _ => i () < n ()) (dropN o (f i))
      | false => .bad 24
    | _ => .bad 25
  | .rp l => loadCs T none l
  | _ => .bad 26

def tySz : Ty → Option Nat
  | .struct _ _ sz _ => some sz
  | .other => none
  | _ => some 1

def aStore (T : Ty) (h : Hp) (x v : AV) : Res :=
  match cells v, tySz T with
  | some vs, some sz => match Nat.beq (len vs) sz with
    | true => match x with
      | .ptr b o => match nth .dead h b with
        | .blk cs => match Nat.ble (o + len vs) (len cs) with
          | true => .ok .any (.upd b (.blk (splice o vs cs)))
          | false => .bad 30
        | _ => .bad 31
      | .ept b sz i o => match nth .dead h b with
        | .vec et sz' n f => match Nat.beq sz sz', Nat.ble (o + len vs) sz, closedL vs with
          | true, true, true => .ob (fun _ => i () < n ()) .any (.upd b (.vec et sz n fun k => pickL (fun _ => decide (k () = i ())) (splice o vs (f k)) (f k)))
          | _, _, _ => .bad 32
        | _ => .bad 33
      | _ => .bad 34
    | false => .bad 35
  | _, _ => .bad 36

def zeroOf : Ty → Option (List AV)
  | .int k => some [.i k fun _ => 0]
  | .bool => some [.bc false]
  | .str => some [.s fun _ => .empty]
  | .slice _ _ _ _ => some [.nil]
  | .struct _ _ _ z => some z
  | .one => some [.any]
  | .other => none

/-- The parts of a struct, laid over its zero. -/
def fillA (fs : List (Nat × TypeId × Nat)) : List AV → List (Nat × AV) → Option (List AV)
  | cs, [] => some cs
  | cs, (i, v) :: r =>
    match cells v, nth (0, 0, 0) fs i with
    | some vs, (o, _, sz) => match Nat.beq (len vs) sz, Nat.ble (o + len vs) (len cs), Nat.blt i (len fs) with
      | true, true, true => fillA fs (splice o vs cs) r
      | _, _, _ => none
    | none, _ => none

/-- A bound of a slice expression. -/
def bound (d : Th Int) : Option AV → Option (Th Int)
  | none => some d
  | some (.i _ n) => some n
  | some _ => none

/-- How many rows are known of what a slice lies over. -/
def rowsOf (h : Hp) : AV → Option (Th Nat)
  | .nn b _ => match nth .dead h b with | .vec _ _ k _ => some k | _ => none
  | _ => none
def aSlice (T : Ty) (x : AV) (lo hi : Option AV) (rows : Option (Th Nat)) : Res :=
  match T, x with
  | .slice _ tz _ _, .sl sz n f => match Nat.beq tz sz, bound (fun _ => 0) lo, bound (fun _ => (n () : Int)) hi with
    | true, some l, some h => .ob (fun _ => 0 ≤ l () ∧ l () ≤ h () ∧ h () ≤ n ()) (.sl sz (fun _ => (h () - l ()).toNat) fun k => f fun _ => k () + (l ()).toNat) .no
    | _, _, _ => .bad 40
  | .str, .s v => match bound (fun _ => 0) lo, bound (fun _ => ((v ()).size : Int)) hi with
    | some l, some h => .ob (fun _ => 0 ≤ l () ∧ l () ≤ h () ∧ h () ≤ (v ()).size) (.s fun _ => (v ()).extract (l ()).toNat (h ()).toNat) .no
    | _, _ => .bad 41
  | .slice _ tz _ _, .own b n => match lo with
    | none => match bound (fun _ => 0) lo, bound (fun _ => (n () : Int)) hi with
      | some l, some h => .ob (fun _ => l () = 0 ∧ 0 ≤ h () ∧ h () ≤ n ()) (.own b fun _ => (h ()).toNat) .no
      | _, _ => .bad 42
    | some _ => match bound (fun _ => 0) lo, bound (fun _ => (n () : Int)) hi with
      | some l, some h => .ob (fun _ => 0 ≤ l () ∧ l () ≤ h () ∧ h () ≤ n ()) (.vw b tz (fun _ => (l ()).toNat) fun _ => (h () - l ()).toNat) .no
      | _, _ => .bad 42
  | .slice _ tz _ _, .nn b n => match lo with
    | none => match bound (fun _ => (n () : Int)) hi with
      | some h => .ob (fun _ => 0 ≤ h () ∧ h () ≤ n ()) (.nn b fun _ => (h ()).toNat) .no
      | none => .bad 42
    | some _ => match bound (fun _ => 0) lo, bound (fun _ => (n () : Int)) hi, rows with
      | some l, some h, some k => .ob (fun _ => 0 ≤ l () ∧ l () ≤ h () ∧ h () ≤ k ()) (.vw b tz (fun _ => (l ()).toNat) fun _ => (h () - l ()).toNat) .no
      | _, _, _ => .bad 42
  | .slice _ tz _ _, .vw b sz p n => match Nat.beq tz sz, bound (fun _ => 0) lo, bound (fun _ => (n () : Int)) hi with
    | true, some l, some h => .ob (fun _ => 0 ≤ l () ∧ l () ≤ h () ∧ h () ≤ n ()) (.vw b sz (fun _ => p () + (l ()).toNat) fun _ => (h () - l ()).toNat) .no
    | _, _, _ => .bad 42
  | _, _ => .bad 43

/-- A slice with a bound of its room: only that it is one. -/
def aSlice3 (T : Ty) (x : AV) (lo hi mx : Option AV) : Res :=
  match T, bound (fun _ => 0) lo, hi, mx with
  | .slice _ _ _ _, some l, some (.i _ h), some (.i _ m) => match x with
    | .sl _ n _ => .ob (fun _ => 0 ≤ l () ∧ l () ≤ h () ∧ h () ≤ m () ∧ m () ≤ n ()) .any .no
    | .own _ n => .ob (fun _ => 0 ≤ l () ∧ l () ≤ h () ∧ h () ≤ m () ∧ m () ≤ n ()) .any .no
    | .nn _ n => .ob (fun _ => 0 ≤ l () ∧ l () ≤ h () ∧ h () ≤ m () ∧ m () ≤ n ()) .any .no
    | _ => .bad 47
  | _, _, _, _ => .bad 46
def aMinMax (mx : Bool) (x y : AV) : Res :=
  match x, y with
  | .i k a, .i _ b => match mx with
    | true => .ok (.i k fun _ => if b () > a () then b () else a ()) .no
    | false => .ok (.i k fun _ => if b () < a () then b () else a ()) .no
  | _, _ => .bad 45

/-- The places of a literal's elements; its zeros; one of its rows. -/
def mkFs (sz : Nat) : Nat → Nat → List (Nat × TypeId × Nat)
  | _, 0 => []
  | o, n + 1 => (o, 0, sz) :: mkFs sz (o + sz) n
def replN (n : Nat) (z : List AV) : List AV := match n with
  | 0 => []
  | n + 1 => z ++ replN n z
def rowN (sz : Nat) (l : List AV) : Th Nat → List AV := fun i => takeN sz (dropN (i () * sz) l)

/-- What is known of an array's type: how many, of how many cells each, an element's zero, and whether it is one of more cells. -/
structure Arr where
  n : Nat
  sz : Nat
  z : List AV
  ag : Bool
structure Env where
  ty : TypeId → Ty
  wr : List Nat := []
  ar : TypeId → Option Arr := fun _ => none
  su : Option FuncId := none
/-- A byte of a text. -/
def byteAt (v : ByteArray) (k : Int) : Int := (v.data.getD k.toNat 0).toNat

def memB (d : Option Nat) : List Nat → Bool
  | [] => false
  | x :: r => match d with
    | none => false
    | some d => match Nat.beq x d with | true => true | false => memB (some d) r

def isU8 : List AV → Bool
  | [.i .u8 _] => true
  | _ => false
def u8At : List AV → Int
  | [.i .u8 n] => n ()
  | _ => 0
/-- A text of bytes. -/
def sOf (n : Nat) (f : Nat → Int) : ByteArray := ⟨((List.range n).map fun i => UInt8.ofNat (f i).toNat).toArray⟩
/-- A slice of bytes, as a text. -/
def aToStr (h : Hp) (X : AV) : Res := match X with
  | .nil => .ok (.s fun _ => .empty) .no
  | .sl sz n f => match Nat.beq sz 1 with
    | true => .ob (fun _ => ∀ i, i < n () → isU8 (f fun _ => i) = true) (.s fun _ => sOf (n ()) fun i => u8At (f fun _ => i)) .no
    | false => .bad 162
  | .own b n => match nth .dead h b with
    | .vec _ sz m f => match Nat.beq sz 1 with
      | true => .ob (fun _ => n () ≤ m () ∧ ∀ i, i < n () → isU8 (f fun _ => i) = true) (.s fun _ => sOf (n ()) fun i => u8At (f fun _ => i)) .no
      | false => .bad 163
    | _ => .bad 164
  | _ => .bad 165

/-- A difference of 64 bits without a borrow ahead, and its borrow. -/
def aSub64 (X Y Z : AV) : Res := match X, Y, Z with
  | .i .u64 x, .i .u64 y, .i .u64 z => .ob (fun _ => 0 ≤ x () ∧ 0 ≤ y () ∧ y () ≤ 18446744073709551616 ∧ z () = 0) (.tup [.i .u64 fun _ => (x () + 18446744073709551616 - y ()) % 18446744073709551616, .i .u64 fun _ => if x () < y () then 1 else 0]) .no
  | _, _, _ => .bad 171
/-- The step of an operation that has one outcome. -/
def step (E : Env) (o : Oper) (s : Tm) (h : Hp) (nid : Nat) : Res :=
  match o.op with
  | .move x | .assign x => .ok (ev s x) .no
  | .pick c a b => match ev s c with
    | .bc true => .ok (ev s a) .no
    | .bc false => .ok (ev s b) .no
    | .b c => .ok (AV.pick c (ev s a) (ev s b)) .no
    | _ => .bad 50
  | .alloc t => match zeroOf (E.ty t) with
    | some z => .ok (.ptr nid 0) (.new (.blk z))
    | none => .bad 51
  | .box _ x => match cells (ev s x) with
    | some cs => .ok (.ptr nid 0) (.new (.blk cs))
    | none => .bad 52
  | .build t ps => match E.ty t with
    | .struct _ fs _ z => match fillA fs z (ps.toList.map fun p => (p.1, ev s p.2)), fs.all (fun f => Nat.blt 0 f.2.2) with
      | some cs, true => .ok (.agg cs) .no
      | _, _ => .bad 53
    | .other => match E.ar t with
      | some r => match Nat.beq (len r.z) r.sz, fillA (mkFs r.sz 0 r.n) (replN r.n r.z) (ps.toList.map fun p => (p.1, ev s p.2)) with
        | true, some cs => .ok (.agg cs) .no
        | _, _ => .bad 54
      | none => .bad 54
    | _ => .bad 54
  | .buildSlice t n ps => match E.ty t with
    | .slice et sz _ z => match n, ps.toList with
      | 0, [] => .ok (.own nid fun _ => 0) (.new (.vec et sz (fun _ => 0) fun _ => []))
      | 1, [(0, x)] => match cells (ev s x) with
        | some cs => match Nat.beq (len cs) sz, closedL cs with
          | true, true => .ok (.own nid fun _ => 1) (.new (.vec et sz (fun _ => 1) fun _ => cs))
          | _, _ => .bad 55
        | none => .bad 56
      | n, l => match Nat.beq (len z) sz, Nat.ble (n * sz) 16777216, fillA (mkFs sz 0 n) (replN n z) (l.map fun p => (p.1, ev s p.2)) with
        | true, true, some out => match closedL out with
          | true => .ok (.own nid fun _ => n) (.new (.vec et sz (fun _ => n) (rowN sz out)))
          | false => .bad 55
        | _, _, _ => .bad 57
    | _ => .bad 58
  | .makeSlice t n c => match E.ty t, ev s n, ev s c with
    | .slice et sz bytes z, .i _ n, .i _ c => match Nat.beq (len z) sz, closedL z with
      | true, true => .ob (fun _ => 0 ≤ n () ∧ n () ≤ c () ∧ (bytes : Int) * c () ≤ 281474976710656 ∧ c () ≤ 9223372036854775807) (.own nid fun _ => (n ()).toNat) (.new (.vec et sz (fun _ => (n ()).toNat) fun _ => z))
      | _, _ => .bad 82
    | _, _, _ => .bad 83
  | .load t x => aLoad (E.ty t) h (ev s x)
  | .store t a v => aStore (E.ty t) h (ev s a) (ev s v)
  | .nilCheck x => match ev s x with
    | .ptr b o => .ok (.ptr b o) .no
    | .ept b sz i o => .ok (.ept b sz i o) .no
    | .rp l => .ok (.rp l) .no
    | _ => .bad 59
  | .binOp op t x y _ => aBin (E.ty t) (memB o.dst E.wr) op (ev s x) (ev s y)
  | .unOp op _ x => match op, ev s x with
    | .not, .b b => .ok (.b fun _ => !(b ())) .no
    | .not, .bc true => .ok (.bc false) .no
    | .not, .bc false => .ok (.bc true) .no
    | .neg, .i .i64 a => match memB o.dst E.wr with
      | false => .ob (fun _ => InR (0 - a ())) (.i .i64 fun _ => 0 - a ()) .no
      | true => .ok (.i .i64 fun _ => IntKind.i64.wrap (0 - a ())) .no
    | .xor, .i k a => .ok (.i k fun _ => bXor k (if k.signed then -1 else k.max) (a ())) .no
    | _, _ => .bad 60
  | .fieldAddr t x i => match E.ty t with
    | .struct _ fs _ _ => match nth (0, 0, 0) fs i, Nat.blt i (len fs) with
      | (o, _, sz), true => match Nat.blt 0 sz, ev s x with
        | true, .ptr b p => .ok (.ptr b (p + o)) .no
        | true, .ept b z j p => .ok (.ept b z j (p + o)) .no
        | true, .rp l => match Nat.blt o (len l) with
          | true => .ok (.rp (dropN o l)) .no
          | false => .bad 61
        | _, _ => .bad 62
      | _, false => .bad 63
    | _ => .bad 64
  | .indexAddr t x i => match E.ty t with
    | .slice _ sz _ _ => match ev s x, ev s i with
      | .sl sz' n f, .i _ i => match Nat.beq sz sz' with
        | true => .ob (fun _ => 0 ≤ i () ∧ i () < n ()) (.rp (f fun _ => (i ()).toNat)) .no
        | false => .bad 65
      | .own b n, .i _ i => match nth .dead h b with
        | .vec _ sz' _ _ => match Nat.beq sz sz' with
          | true => .ob (fun _ => 0 ≤ i () ∧ i () < n ()) (.ept b sz (fun _ => (i ()).toNat) 0) .no
          | false => .bad 66
        | _ => .bad 67
      | .vw b sz' p n, .i _ i => match Nat.beq sz sz' with
        | true => .ob (fun _ => 0 ≤ i () ∧ i () < n ()) (.ept b sz (fun _ => p () + (i ()).toNat) 0) .no
        | false => .bad 66
      | _, _ => .bad 68
    | _ => .bad 69
  | .index t x i => match E.ty t, ev s x, ev s i with
    | .str, .s v, .i _ k => .ob (fun _ => 0 ≤ k () ∧ k () < (v ()).size) (.i .u8 fun _ => byteAt (v ()) (k ())) .no
    | _, _, _ => .bad 160
  | .extract x i => match ev s x with
    | .tup l => match Nat.blt i (len l) with
      | true => .ok (nth .any l i) .no
      | false => .bad 70
    | _ => .bad 71
  | .slice t x lo hi mx => match mx with
    | none => aSlice (E.ty t) (ev s x) (evO s lo) (evO s hi) (rowsOf h (ev s x))
    | some m => aSlice3 (E.ty t) (ev s x) (evO s lo) (evO s hi) (some (ev s m))
  | .convert t d x => match E.ty t, E.ty d, ev s x with
    | .int _, .int k, .i _ a => .ok (.i k fun _ => k.wrap (a ())) .no
    | .str, .str, .s v => .ok (.s v) .no
    | .slice e _ _ _, .str, X => match E.ty e with
      | .int .u8 => aToStr h X
      | _ => .bad 161
    | _, _, _ => .bad 73
  | .call c => match c.callee with
    | .builtin .len => match c.argTypes.toList, c.args.toList with
      | [t], [x] => match E.ty t with
        | .slice _ _ _ _ => match ev s x with
          | .sl _ n _ => .ok (.i .i64 fun _ => n ()) .no
          | .own _ n => .ok (.i .i64 fun _ => n ()) .no
          | .vw _ _ _ n => .ok (.i .i64 fun _ => n ()) .no
          | .nn _ n => .ok (.i .i64 fun _ => n ()) .no
          | .nil => .ok (.i .i64 fun _ => 0) .no
          | _ => .bad 74
        | .str => match ev s x with
          | .s v => .ok (.i .i64 fun _ => (v ()).size) .no
          | _ => .bad 80
        | _ => .bad 81
      | _, _ => .bad 75
    | .value (.func f) => match E.su with
      | some g => match Nat.beq f g with
        | true => match c.args.toList with
          | [x, y, z] => aSub64 (ev s x) (ev s y) (ev s z)
          | _ => .bad 170
        | false => .bad 78
      | none => .bad 78
    | .builtin .max => match c.args.toList with
      | [x, y] => aMinMax true (ev s x) (ev s y)
      | _ => .bad 76
    | .builtin .min => match c.args.toList with
      | [x, y] => aMinMax false (ev s x) (ev s y)
      | _ => .bad 77
    | _ => .bad 78
  | _ => .bad 79

end Go.Abs
