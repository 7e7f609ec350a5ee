/- What is to be proved of a piece of code, by its text: definitions. -/
import Derived.Test.YtadjemhbfaonbaaAbsSound6
set_option linter.all false
namespace Go.Abs
open Go

/- The connectives: inductive, so that 'cbv' evaluates what stands under them and leaves the data under 'fun _ =>' alone. -/
inductive Both (p q : Prop) : Prop where | mk (h1 : p) (h2 : q)
inductive Imp (c : Th Prop) (p : Prop) : Prop where | mk (h : c () → p)
inductive Ob (c : Th Prop) (p : Prop) : Prop where | mk (h1 : c ()) (h2 : p)
inductive Bad (n : Nat) : Prop
/-- What the kernel is to look at. -/
inductive Chk (b : Th Bool) (p : Prop) : Prop where | mk (h1 : b () = true) (h2 : p)
inductive AllN (n : Th Nat) (p : Nat → Prop) : Prop where | mk (h : ∀ i, i < n () → p i)
inductive Eq' {α : Type} (a b : Th α) : Prop where | mk (h : a () = b ())

def killTm : List Nat → Tm → Tm
  | [], s => s
  | b :: r, s => killTm r (s.map fun p => (p.1, p.2.kill b))

def AObj.kill (b : Nat) : AObj → AObj
  | .blk cs => .blk (killL b cs)
  | o => o

/-- The kill of one object's number in all others. -/
def killHp (b : Nat) : Nat → Hp → Hp
  | _, [] => []
  | n, o :: r => (match Nat.beq n b with | true => o | false => o.kill b) :: killHp b (n + 1) r

abbrev Kont := AV → Hp → List Nat → Prop
abbrev Con := List AV → Hp → Kont → Prop

def rowL (sz : Nat) (c : Th Bool) (l m : List AV) : List AV :=
  match sz with
  | 0 => []
  | n + 1 => AV.pick c (nth .any l 0) (nth .any m 0) :: rowL n c (dropN 1 l) (dropN 1 m)

/-- What is appended: how many, which, and what must hold. -/
def src (sz : Nat) (h : Hp) : AV → Option (Th Prop × Th Nat × (Th Nat → List AV))
  | .sl sz' n f => match Nat.beq sz sz' with | true => some (fun _ => True, n, f) | false => none
  | .own b n => match nth .dead h b with
    | .vec _ sz' m f => match Nat.beq sz sz' with | true => some (fun _ => n () ≤ m (), n, f) | false => none
    | _ => none
  | .vw b sz'' p n => match nth .dead h b with
    | .vec _ sz' m f => match Nat.beq sz sz', Nat.beq sz sz'' with | true, true => some (fun _ => p () + n () ≤ m (), n, fun k => f fun _ => k () + p ()) | _, _ => none
    | _ => none
  | .nil => some (fun _ => True, fun _ => 0, fun _ => [])
  | _ => none

/-- An append of a part of a row to the begin of that row, within it: what it leaves, and how many. -/
def aInRow (E : Env) (c : Call) (s : Tm) (h : Hp) : Option (Nat × Th Prop × Th Nat × AObj) :=
  match c.argTypes.toList, c.args.toList with
  | [t, t'], [x, y] => match ev s x, ev s y, Nat.beq t t', E.ty t with
    | .nn b n, .vw b' sz0 p m, true, .slice e sz _ _ => match nth .dead h b with
      | .vec e' sz' k f => match Nat.beq b b', Nat.beq sz sz', Nat.beq sz sz0, Nat.beq e e' with
        | true, true, true, true => some (b, fun _ => n () + m () ≤ k () ∧ p () + m () ≤ k (), fun _ => n () + m (), .vec e sz k fun j => rowL sz (fun _ => decide (n () ≤ j () ∧ j () < n () + m ())) (f fun _ => j () - n () + p ()) (f j))
        | _, _, _, _ => none
      | _ => none
    | _, _, _, _ => none
  | _, _ => none
def aAppend (E : Env) (o : Oper) (c : Call) (s : Tm) (h : Hp) (K : Kont) : Prop :=
  match c.argTypes.toList, c.args.toList with
  | [t, t'], [x, y] => match Nat.beq t t', E.ty t with
    | true, .slice e sz bytes _ => match src sz h (ev s y) with
      | some (q, m, g) => match ev s x with
        | .own b n => match nth .dead h b with
          | .vec e' sz' k f => match Nat.beq e e', Nat.beq sz sz' with
            | true, true => Ob (fun _ => n () ≤ k () ∧ q () ∧ (n () + m ()) * bytes ≤ 140737488355328 ∧ n () + m () ≤ 9223372036854775807)
                (K (.own b fun _ => n () + m ()) (killHp b 0 (h.set b (.vec e sz (fun _ => n () + m ()) fun j => rowL sz (fun _ => decide (j () < n ())) (f j) (g fun _ => j () - n ())))) [b])
            | _, _ => Bad 90
          | _ => Bad 91
        | .nil => Ob (fun _ => q () ∧ m () * bytes ≤ 140737488355328 ∧ m () ≤ 9223372036854775807)
            (K (.own (len h) m) (h ++ [.vec e sz m g]) [])
        | _ => Bad 92
      | none => Bad 93
    | false, .slice e sz bytes _ => match Nat.beq sz 1, Nat.beq bytes 1, E.ty t', ev s y with
      | true, true, .str, .s v => match ev s x with
        | .own b n => match nth .dead h b with
          | .vec e' sz' k f => match Nat.beq e e', Nat.beq sz sz' with
            | true, true => Ob (fun _ => n () ≤ k () ∧ n () + (v ()).size ≤ 140737488355328)
                (K (.own b fun _ => n () + (v ()).size) (killHp b 0 (h.set b (.vec e sz (fun _ => n () + (v ()).size) fun j => rowL sz (fun _ => decide (j () < n ())) (f j) [.i .u8 fun _ => byteAt (v ()) (j () - n () : Nat)]))) [b])
            | _, _ => Bad 96
          | _ => Bad 96
        | .nil => Ob (fun _ => (v ()).size ≤ 140737488355328) (K (.own (len h) fun _ => (v ()).size) (h ++ [.vec e sz (fun _ => (v ()).size) fun j => [.i .u8 fun _ => byteAt (v ()) (j () : Nat)]]) [])
        | _ => Bad 96
      | _, _, _, _ => Bad 94
    | _, _ => Bad 94
  | _, _ => Bad 95

/-- A slice, and nil: which it is may be open where there is no element. -/
def aNil (T : Ty) (op : BinOp) (X Y : AV) (K : AV → Prop) : Prop :=
  match T, Y with
  | .slice _ _ _ _, .nil => match op with
    | .eql => match X with
      | .nil => K (.bc true)
      | .sl _ n _ => Both (Imp (fun _ => n () = 0) (K (.bc true))) (K (.bc false))
      | .own _ n => Both (Imp (fun _ => n () = 0) (K (.bc true))) (K (.bc false))
      | _ => Bad 140
    | .neq => match X with
      | .nil => K (.bc false)
      | .sl _ n _ => Both (Imp (fun _ => n () = 0) (K (.bc false))) (K (.bc true))
      | .own _ n => Both (Imp (fun _ => n () = 0) (K (.bc false))) (K (.bc true))
      | _ => Bad 141
    | _ => Bad 142
  | _, _ => Bad 143

/-- A halt: 'cbv' goes no further by itself. -/
inductive Stp (p : Th Prop) : Prop where | mk (h : p ())
theorem Stp.out {p : Th Prop} (h : Stp p) : p () := by cases h with | mk h => exact h
def idxV (ag : Bool) (sz : Nat) (cs : List AV) : Option AV := match ag with
  | true => some (.agg (takeN sz cs))
  | false => match cs with | x :: _ => some x | [] => none
/-- An element of an array, by its place. -/
def idxS (ag : Bool) (sz : Nat) (k : Th Int) (K : AV → Prop) : Nat → Nat → List AV → Prop
  | 0, _, _ => True
  | n + 1, j, cs => match idxV ag sz cs with
    | some v => Both (Imp (fun _ => k () = (j : Int)) (Stp fun _ => K v)) (idxS ag sz k K n (Nat.succ j) (dropN sz cs))
    | none => Bad 150
def aIndex (r : Option Arr) (X I : AV) (K : AV → Prop) : Prop := match r, X, I with
  | some r, .agg cs, .i _ k => match Nat.beq (len cs) (r.n * r.sz) with
    | true => Ob (fun _ => 0 ≤ k () ∧ k () < r.n) (idxS r.ag r.sz k K r.n 0 cs)
    | false => Bad 151
  | _, _, _ => Bad 152

/-- The end of a row is cleared: what is left of it is what stood ahead. -/
def aClear (E : Env) (c : Call) (s : Tm) (h : Hp) (K : Kont) : Prop :=
  match c.argTypes.toList, c.args.toList with
  | [t], [x] => match E.ty t with
    | .slice _ tz _ _ => match ev s x with
      | .vw b sz p n => match nth .dead h b with
        | .vec e sz' k f => match Nat.beq sz sz', Nat.beq sz tz with
          | true, true => Ob (fun _ => p () + n () = k ()) (K (.tup []) (h.set b (.vec e sz p f)) [])
          | _, _ => Bad 170
        | _ => Bad 171
      | .nil => K (.tup []) h []
      | _ => Bad 172
    | _ => Bad 173
  | _, _ => Bad 174
/-- Where a slice lies: its object, from where on, how many. -/
def dstV (sz : Nat) : AV → Option (Nat × Th Nat × Th Nat)
  | .own b n => some (b, fun _ => 0, n)
  | .vw b sz' p n => match Nat.beq sz sz' with | true => some (b, p, n) | false => none
  | _ => none
/-- A row is copied over a part of another one, or of itself. -/
def aCopyR (E : Env) (c : Call) (s : Tm) (h : Hp) : Res :=
  match c.argTypes.toList, c.args.toList with
  | [t, t'], [x, y] => match Nat.beq t t', E.ty t with
    | true, .slice _ sz _ _ => match dstV sz (ev s x) with
      | some (b, p, n) => match nth .dead h b with
        | .vec e sz' k f => match src sz h (ev s y), Nat.beq sz sz' with
          | some (q, m, g), true => .ob (fun _ => q () ∧ p () + n () ≤ k ())
              (.i .i64 fun _ => (min (m ()) (n ()) : Nat)) (.upd b (.vec e sz k fun j => rowL sz (fun _ => decide (p () ≤ j () ∧ j () < p () + min (m ()) (n ()))) (g fun _ => j () - p ()) (f j)))
          | _, _ => .bad 175
        | _ => .bad 176
      | _ => .bad 177
    | _, _ => .bad 178
  | _, _ => .bad 179
def aCopy (E : Env) (c : Call) (s : Tm) (h : Hp) (K : Kont) : Prop := match aCopyR E c s h with
  | .ok v ch => K v (ch.on (len h) h) []
  | .ob p v ch => Ob p (K v (ch.on (len h) h) [])
  | .bad n => Bad n

def vcOp (E : Env) (con : FuncId → Con) (o : Oper) (s : Tm) (h : Hp) (K : Kont) : Prop :=
  match step E o s h (len h) with
  | .ok v c => K v (c.on (len h) h) []
  | .ob p v c => Ob p (K v (c.on (len h) h) [])
  | .bad n => match o.op with
    | .call c => match c.callee with
      | .value (.func f) => con f (c.args.toList.map (ev s)) h K
      | .value (.tmp t) => match lk s t with
        | .fn f l => con f (c.args.toList.map (ev s) ++ l) h K
        | _ => Bad n
      | .builtin .append => match aInRow E c s h with
        | some (b, q, n, O) => Ob q (K (.nn b n) (h.set b O) [])
        | none => aAppend E o c s h K
      | .builtin .clear => aClear E c s h K
      | .builtin .copy => aCopy E c s h K
      | _ => Bad n
    | .binOp op t x y _ => aNil (E.ty t) op (ev s x) (ev s y) fun v => K v h []
    | .index t x i => aIndex (E.ar t) (ev s x) (ev s i) fun v => K v h []
    | .makeFunc (.func f) first caps => match first.toList with
      | [] => K (.fn f (caps.toList.map (ev s))) h []
      | _ => Bad n
    | _ => Bad n

def put (nt : Nat) (d : Option Tmp) (v : AV) (s : Tm) : Option Tm :=
  match d with
  | none => some s
  | some d => match Nat.blt d nt with
    | true => some ((d, v) :: s)
    | false => none

def splitB (b : Th Bool) (p q : Th Prop) : Prop := Both (Imp (fun _ => b () = true) (Stp p)) (Imp (fun _ => b () = false) (Stp q))
theorem splitB_def (b : Th Bool) (p q : Th Prop) : splitB b p q = Both (Imp (fun _ => b () = true) (Stp p)) (Imp (fun _ => b () = false) (Stp q)) := by rw [splitB]

def vcOps (E : Env) (con : FuncId → Con) (nt : Nat) (all : List Oper) : List Oper → Tm → Hp → List Nat → (Tm → Hp → List Nat → Prop) → Prop
  | [], s, h, kl, K => K s h kl
  | o :: r, s, h, kl, K =>
    let run (s : Tm) : Prop := vcOp E con o s h fun v h' kl' => match put nt o.dst v (killTm kl' s) with
      | some s' => vcOps E con nt all r s' h' (kl' ++ kl) K
      | none => Bad 100
    let skip (s : Tm) : Prop := match put nt o.dst (.tup []) s with
      | some s' => vcOps E con nt all r s' h kl K
      | none => Bad 101
    match o.guard with
    | none => run s
    | some (j, b) => match nth none (all.map (·.dst)) j with
      | none => Bad 102
      | some d => match lk s d with
        | .bc x => match x, b with
          | true, true => run s
          | false, false => run s
          | _, _ => skip s
        | .b x => match b with
          | true => splitB x (fun _ => run ((d, .bc true) :: s)) fun _ => skip ((d, .bc false) :: s)
          | false => splitB x (fun _ => skip ((d, .bc true) :: s)) fun _ => run ((d, .bc false) :: s)
        | .tup [] => skip s
        | _ => Bad 103

inductive Ex where
  | nrm
  | exit (id : Nat)
  | ret

def prune (keep : List Nat) (s : Tm) : Tm := keep.map fun i => (i, lk s i)

mutual
/-- x says all that y says; of objects below number nb alone. -/
def le (nb : Nat) : AV → AV → Prop
  | _, .any => True
  | .bc p, .bc q => Eq' (fun _ => p) (fun _ => q)
  | .bc p, .b q => Eq' (fun _ => p) q
  | .b p, .bc q => Eq' p (fun _ => q)
  | .b p, .b q => Eq' p q
  | .i k p, .i k' q => Both (Eq' (fun _ => k) (fun _ => k')) (Eq' p q)
  | .s p, .s q => Eq' p q
  | .nil, .nil => True
  | .nil, .sl _ n _ => Eq' n fun _ => 0
  | .nil, .own _ n => Eq' n fun _ => 0
  | .con p, .con q => Eq' p q
  | .agg l, .agg m => leL nb l m
  | .tup l, .tup m => leL nb l m
  | .ptr b o, .ptr c p => match Nat.beq b c, Nat.beq o p, Nat.blt b nb with | true, true, true => True | _, _, _ => Bad 110
  | .ept b sz i o, .ept c sz' j p => match Nat.beq b c, Nat.beq sz sz', Nat.beq o p, Nat.blt b nb with | true, true, true, true => Eq' i j | _, _, _, _ => Bad 111
  | .own b n, .own c m => match Nat.beq b c, Nat.blt b nb with | true, true => Eq' n m | _, _ => Bad 112
  | .vw b sz p n, .vw c sz' q m => match Nat.beq b c, Nat.beq sz sz', Nat.blt b nb with | true, true, true => Both (Eq' p q) (Eq' n m) | _, _, _ => Bad 112
  | .nn b n, .nn c m => match Nat.beq b c, Nat.blt b nb with | true, true => Eq' n m | _, _ => Bad 112
  | .nn b n, .own c m => match Nat.beq b c, Nat.blt b nb with | true, true => Eq' n m | _, _ => Bad 112
  | .own b n, .vw c _ q m => match Nat.beq b c, Nat.blt b nb with | true, true => Both (Eq' (fun _ => 0) q) (Eq' n m) | _, _ => Bad 112
  | .nil, .vw _ _ _ n => Eq' n fun _ => 0
  | .sl sz n f, .sl sz' m g => match Nat.beq sz sz' with | true => Both (Eq' n m) (AllN n fun i => Both (leL nb (f fun _ => i) (g fun _ => i)) (closedL (g fun _ => i) = true)) | false => Bad 113
  | .rp l, .rp m => Both (leL nb l m) (closedL m = true)
  | .fn f l, .fn g m => match Nat.beq f g with | true => leL nb l m | false => Bad 114
  | .ite c x y, z => Both (Imp (fun _ => c () = true) (le nb x z)) (Imp (fun _ => c () = false) (le nb y z))
  | _, _ => Bad 115
def leL (nb : Nat) : List AV → List AV → Prop
  | [], [] => True
  | x :: l, y :: m => Both (le nb x y) (leL nb l m)
  | _, _ => Bad 116
end

def leO (nb : Nat) : AObj → AObj → Prop
  | _, .dead => True
  | .blk l, .blk m => leL nb l m
  | .vec e sz n f, .vec e' sz' m g => match Nat.beq e e', Nat.beq sz sz' with
    | true, true => Both (Eq' n m) (AllN n fun i => Both (leL nb (f fun _ => i) (g fun _ => i)) (closedL (g fun _ => i) = true))
    | _, _ => Bad 117
  | _, _ => Bad 118

/-- The heap may hold more behind; what is empty may be not yet born. -/
def leHs (nb : Nat) : Hp → Hp → Prop
  | _, [] => True
  | x :: h, y :: k => Both (leO nb x y) (leHs nb h k)
  | [], .vec _ _ n _ :: k => Both (Eq' n fun _ => 0) (leHs nb [] k)
  | [], .dead :: k => leHs nb [] k
  | [], _ => Bad 119
def leH (h k : Hp) : Prop := leHs (len k) h k

def leTs (nb : Nat) (s : Tm) : Tm → Prop
  | [] => True
  | (i, v) :: r => Both (le nb (lk s i) v) (leTs nb s r)
def leT (s : Tm) (s' : Tm) (k : Hp) : Prop := leTs (len k) s s'

def memN (b : Nat) : List Nat → Bool
  | [] => false
  | x :: r => match Nat.beq x b with | true => true | false => memN b r
def subN : List Nat → List Nat → Bool
  | [], _ => true
  | x :: r, l => match memN x l with | true => subN r l | false => false

abbrev KEx := Ex → Tm → Hp → List Nat → Prop

/- Objects by other numbers. -/
abbrev As := List (Nat × Nat)
def fwd (j : Nat) : As → Option Nat
  | [] => none
  | (i, b) :: r => match Nat.beq i j with | true => some b | false => fwd j r
def bwd (b : Nat) : As → Option Nat
  | [] => none
  | (i, c) :: r => match Nat.beq c b with | true => some i | false => bwd b r
def okAs : As → Bool
  | [] => true
  | (j, b) :: r => match fwd j r, bwd b r with
    | none, none => okAs r
    | _, _ => false
mutual
def ren (as : As) : AV → AV
  | .own b n => match bwd b as with | some j => .own j n | none => .any
  | .vw b sz p n => match bwd b as with | some j => .vw j sz p n | none => .any
  | .nn b n => match bwd b as with | some j => .nn j n | none => .any
  | .ept b sz x o => match bwd b as with | some j => .ept j sz x o | none => .any
  | .ptr b o => match bwd b as with | some j => .ptr j o | none => .any
  | .agg l => .agg (renL as l)
  | .tup l => .tup (renL as l)
  | .fn _ _ => .any
  | .ite c x y => .ite c (ren as x) (ren as y)
  | x => x
def renL (as : As) : List AV → List AV
  | [] => []
  | x :: r => ren as x :: renL as r
end
def selO (as : As) (H : Hp) (j : Nat) (y : AObj) : AObj := match fwd j as with
  | some b => match nth .dead H b with
    | .blk cs => .blk (renL as cs)
    | o => o
  | none => match y with
    | .vec e sz _ _ => .vec e sz (fun _ => 0) fun _ => []
    | _ => .dead
def selH (as : As) (H : Hp) : Nat → Hp → Hp
  | _, [] => []
  | j, y :: r => selO as H j y :: selH as H (j + 1) r

def renT (as : As) : Tm → Tm
  | [] => []
  | (i, v) :: r => (i, ren as v) :: renT as r
/-- all places that the pairs name -/
def below' (N : Nat) : As → Bool
  | [] => true
  | (j, _) :: r => match Nat.blt j N with | true => below' N r | false => false
/-- A loop of at most so many rounds, each walked. -/
def UnVC (body : Tm → Hp → List Nat → KEx → Prop) (K : KEx) : Nat → Tm → Hp → List Nat → Prop
  | 0, _, _, _ => Bad 130
  | n + 1, s, h, kl => body s h kl fun e s' h' kl' => match e with
    | .nrm => UnVC body K n s' h' kl'
    | e => K e s' h' kl'
/-- A loop: an invariant, by a parameter, and a measure; kL: all objects of which nothing is known any more in some round. -/
inductive LoopVC (nh : Nat) (body : Tm → Hp → List Nat → KEx → Prop) (s : Tm) (h : Hp) (kl : List Nat) (K : KEx) : Prop where
  | mk (X : Type) (I : X → Tm) (J : X → Hp) (kL : List Nat) (μ : X → Nat) (x0 : X) (hk : subN kl kL = true) (h0 : ∀ x, Nat.ble nh (len (J x)) = true) (h1 : leT s (I x0) (J x0)) (h2 : leH h (J x0))
    (h3 : ∀ x, body (I x) (J x) kL fun e s' h' kl' => match e with
      | .nrm => ∃ y, leT s' (I y) (J y) ∧ leH h' (J y) ∧ subN kl' kL = true ∧ μ y < μ x
      | e => K e s' h' kl') : LoopVC nh body s h kl K
  | mkR (hn : nh = 0) (X : Type) (I : X → Tm) (J : X → Hp) (μ : X → Nat) (x0 : X) (h1 : leT s (I x0) (J x0)) (h2 : leH h (J x0))
    (h3 : ∀ x, body (I x) (J x) [] fun e s' h' kl' => match e with
      | .nrm => ∃ y as, okAs as = true ∧ below' (len (J y)) as = true ∧ leT (renT as s') (I y) (J y) ∧ leH (selH as h' 0 (J y)) (J y) ∧ μ y < μ x
      | e => K e s' h' kl') : LoopVC nh body s h kl K
  | un (n : Nat) (hv : UnVC body K n s h kl) : LoopVC nh body s h kl K

/-- How a statement whose order is open is walked. -/
abbrev Drw := Nat → List Oper → Tm → Hp → List Nat → (Tm → Hp → List Nat → Prop) → Prop
def noDraws : Drw := fun _ _ _ _ _ _ => Bad 121

/-- A way's test. -/
def condV : AV → Th Prop → Th Prop → Prop
  | .bc true, p, _ => p ()
  | .bc false, _, q => q ()
  | .b x, p, q => splitB x p q
  | .ite c x y, p, q => splitB c (fun _ => condV x p q) fun _ => condV y p q
  | _, _, _ => Bad 120

def vc (E : Env) (con : FuncId → Con) (drw : Drw) (nh nt : Nat) (keep : List Nat) : Code → Tm → Hp → List Nat → KEx → Prop
  | .skip, s, h, kl, K => K .nrm s h kl
  | .region _ ops false, s, h, kl, K => vcOps E con nt ops.toList ops.toList s h kl fun s h kl => K .nrm (prune keep s) h kl
  | .region _ ops true, s, h, kl, K => drw nt ops.toList s h kl fun s h kl => K .nrm (prune keep s) h kl
  | .seq p q, s, h, kl, K => vc E con drw nh nt keep p s h kl fun e s h kl => match e with
    | .nrm => vc E con drw nh nt keep q s h kl K
    | .exit i => K (.exit i) s h kl
    | .ret => K .ret s h kl
  | .cond c p q, s, h, kl, K => condV (ev s c) (fun _ => vc E con drw nh nt keep p s h kl K) fun _ => vc E con drw nh nt keep q s h kl K
  | .block id c, s, h, kl, K => vc E con drw nh nt keep c s h kl fun e s h kl => match e with
    | .exit i => match Nat.beq i id with
      | true => K .nrm s h kl
      | false => K (.exit i) s h kl
    | .nrm => K .nrm s h kl
    | .ret => K .ret s h kl
  | .loop c, s, h, kl, K => LoopVC nh (fun s h kl K => vc E con drw nh nt keep c s h kl K) s h kl K
  | .exit i, s, h, kl, K => K (.exit i) s h kl
  | .ret, s, h, kl, K => K .ret s h kl
  | _, _, _, _, _ => Bad 121

/-- A result's abstract value. -/
def resAV (E : Env) (s : Tm) (h : Hp) : ResultVar → Option AV
  | .tmp t => some (lk s t)
  | .cell p t => match aLoad (E.ty t) h (lk s p) with
    | .ok v .no => some v
    | _ => none
def resAVs (E : Env) (s : Tm) (h : Hp) : List ResultVar → Option (List AV)
  | [] => some []
  | r :: l => match resAV E s h r, resAVs E s h l with
    | some v, some vs => some (v :: vs)
    | _, _ => none

def retVC (E : Env) (rs : List ResultVar) (s : Tm) (h : Hp) (kl : List Nat) (K : Kont) : Prop :=
  match resAVs E s h rs with
  | some [v] => K v h kl
  | some vs => K (.tup vs) h kl
  | none => Bad 130

def argTm (n : Nat) : List AV → Tm
  | [] => []
  | x :: r => (n, x) :: argTm (n + 1) r

/-- What is to be proved of a function. -/
def fnVC (E : Env) (con : FuncId → Con) (drw : Drw) (nt : Nat) (keep : List Nat) (rs : List ResultVar) (c : Code) (A : List AV) (H : Hp) (K : Kont) : Prop :=
  match Nat.ble (len A) nt with
  | true => vc E con drw (len H) nt keep c (argTm 0 A) H [] fun e s h kl => match e with
    | .exit _ => Bad 131
    | _ => retVC E rs s h kl K
  | false => Bad 132

end Go.Abs
