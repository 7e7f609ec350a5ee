/- A statement whose order is open: one walk in the order of the text serves every order. Definitions, and the steps. -/
import Derived.Test.YtadjemhbfaonbaaAbsCall
set_option linter.all false
namespace Go.Abs
open Go

abbrev Det := List AV → Option (Th Prop × AV)

/-- A contract with one outcome, and no new object. -/
def detPC (d : Det) : PC := fun A K => match d A with
  | some (p, r) => Ob p (K r [])
  | none => Bad 300

abbrev DetN := List AV → Option (Th Prop × AV × AObj)
/-- A contract with one outcome, and one new object. -/
def detNPC (d : DetN) : PC := fun A K => match d A with
  | some (p, r, o) => Ob p (K r [o])
  | none => Bad 300
/-- A call that turns one own object: by how much of it is told, the object, and what else is handed in. -/
abbrev DetO := Th Nat → AObj → List AV → Option (Th Prop × Th Nat × AObj)
/-- What is known of a function that is called in a statement whose order is open. -/
inductive Dt where
  | c (d : Det)
  | n (d : DetN)
  | f (d : Det)
  | o (d : DetO)

/-- The one own object that a call gets first, and the rest. -/
def ownArg : List AV → Option (Nat × Th Nat × List AV)
  | .own b n :: r => some (b, n, r)
  | _ => none
def ownD (d : DetO) (h : Hp) (nid : Nat) (A : List AV) : Res := match ownArg A with
  | some (b, n, rest) => match nth .dead h b with
    | .vec e sz m f => match closedL rest, d n (.vec e sz m f) rest with
      | true, some (p, N, O) => match O with
        | .vec e' sz' m' f' => .ob p (.own nid N) (.mv b (.vec e' sz' m' f'))
        | _ => .bad 321
      | _, _ => .bad 322
    | _ => .bad 323
  | none => .bad 324

def conj : List (Th Prop) → Th Prop → Th Prop
  | [], p => p
  | q :: r, p => fun _ => q () ∧ conj r p ()

/-- An append: the object that it leaves is a new one; the old one is no more. -/
def appD (E : Env) (c : Call) (s : Tm) (h : Hp) (nid : Nat) : Res :=
  match c.argTypes.toList, c.args.toList with
  | [t, t'], [x, y] => match Nat.beq t t', E.ty t with
    | true, .slice e sz bytes _ => match src sz h (ev s y) with
      | some (q, m, g) => match ev s x with
        | .own b n => match nth .dead h b with
          | .vec e' sz' k f => match Nat.beq e e', Nat.beq sz sz' with
            | true, true => .ob (fun _ => n () ≤ k () ∧ q () ∧ (n () + m ()) * bytes ≤ 140737488355328 ∧ n () + m () ≤ 9223372036854775807)
                (.own nid fun _ => n () + m ()) (.mv b (.vec e sz (fun _ => n () + m ()) fun j => rowL sz (fun _ => decide (j () < n ())) (f j) (g fun _ => j () - n ())))
            | _, _ => .bad 90
          | _ => .bad 91
        | .nil => .ob (fun _ => q () ∧ m () * bytes ≤ 140737488355328 ∧ m () ≤ 9223372036854775807) (.own nid m) (.new (.vec e sz m g))
        | _ => .bad 92
      | none => .bad 93
    | _, _ => .bad 94
  | _, _ => .bad 95

/-- A call of a function's value that names no more than the function. -/
def detD (d : Det) (h : Hp) (A0 : List AV) : Res := match lower.lowerL h A0 with
  | some (q, l, A) => match closedL A, d A with
    | true, some (p, r) => match closed r, l, noSl r with
      | true, [], _ => .ob (conj q p) r .no
      | true, _, true => .ob (conj q p) r .no
      | _, _, _ => .bad 331
    | _, _ => .bad 332
  | none => .bad 333
def fnOf (det : FuncId → Option Dt) : AV → Option (FuncId × Det)
  | .fn f [] => match det f with
    | some (.c d) => some (f, d)
    | _ => none
  | _ => none

/-- A step, or a call with one outcome. -/
def stepD (E : Env) (det : FuncId → Option Dt) (o : Oper) (s : Tm) (h : Hp) (nid : Nat) : Res :=
  match step E o s h nid with
  | .ok v c => .ok v c
  | .ob p v c => .ob p v c
  | .bad n => match o.op with
    | .call c => match c.callee with
      | .value (.func f) => match det f with
        | some (.c d) => match lower.lowerL h (c.args.toList.map (ev s)) with
          | some (q, l, A) => match closedL A, d A with
            | true, some (p, r) => match closed r, l, noSl r with
              | true, [], _ => .ob (conj q p) r .no
              | true, _, true => .ob (conj q p) r .no
              | _, _, _ => .bad 301
            | _, _ => .bad 302
          | none => .bad 303
        | some (.f d) => match lower.lowerL h (c.args.toList.map (ev s)) with
          | some (q, _, A) => match closedL A, d A with
            | true, some (p, r) => .ob (conj q p) r .no
            | _, _ => .bad 308
          | none => .bad 309
        | some (.n d) => match lower.lowerL h (c.args.toList.map (ev s)) with
          | some (q, l, A) => match closedL A, d A with
            | true, some (p, r, .vec e sz n f) => match l, noSl r with
              | [], _ => .ob (conj q p) (r.shift nid) (.new (.vec e sz n f))
              | _, true => .ob (conj q fun _ => p () ∧ ∀ i, i < n () → noSlL (f fun _ => i) = true) (r.shift nid) (.new (.vec e sz n f))
              | _, _ => .bad 305
            | _, _ => .bad 306
          | none => .bad 307
        | some (.o d) => ownD d h nid (c.args.toList.map (ev s))
        | none => .bad 304
      | .builtin .append => match aInRow E c s h with
        | some (b, q, n, O) => .ob q (.nn nid n) (.mv b O)
        | none => appD E c s h nid
      | .builtin .copy => aCopyR E c s h
      | .value (.tmp t) => match fnOf det (lk s t) with
        | some (f, d) => detD d h (c.args.toList.map (ev s))
        | none => .bad n
      | _ => .bad n
    | _ => .bad n

mutual
def ids : AV → List Nat
  | .own b _ | .nn b _ | .vw b _ _ _ | .ept b _ _ _ | .ptr b _ => [b]
  | .agg l | .tup l | .fn _ l => idsL l
  | .ite _ x y => ids x ++ ids y
  | _ => []
def idsL : List AV → List Nat
  | [] => []
  | x :: r => ids x ++ idsL r
end

structure TrE where
  o : Oper
  v : AV
  c : Chg
  nid : Nat
  rs : List Nat
  rh : List Nat

def Chg.wr (c : Chg) (nid : Nat) : List (Nat × AObj) := match c with
  | .no => []
  | .new o => [(nid, o)]
  | .upd b o => [(b, o)]
  | .mv b o => [(nid, o), (b, .dead)]
def fwdO (b : Nat) : List (Nat × AObj) → Option AObj
  | [] => none
  | (c, o) :: r => match Nat.beq c b with | true => some o | false => fwdO b r
def fstL : List (Nat × AObj) → List Nat
  | [] => []
  | (c, _) :: r => c :: fstL r

def opSlots (o : Oper) : List Operand → List Nat
  | [] => []
  | .tmp t :: r => t :: opSlots o r
  | _ :: r => opSlots o r

def guardSlot (all : List (Option Tmp)) (o : Oper) : List Nat := match o.guard with
  | none => []
  | some (j, _) => match nth none all j with
    | some d => [d]
    | none => []

def slotsOf (all : List (Option Tmp)) (o : Oper) : List Nat := guardSlot all o ++ opSlots o o.op.operands.toList
def idsAt (s : Tm) : List Operand → List Nat
  | [] => []
  | x :: r => ids (ev s x) ++ idsAt s r

/-- What of the heap an operation reads: a move reads none of it. -/
def rhAt (s : Tm) (o : Oper) : List Nat := match o.op with
  | .move _ => []
  | _ => idsAt s o.op.operands.toList

def isNewOp (det : FuncId → Option Dt) : Op → Bool
  | .alloc _ | .box _ _ | .buildSlice _ _ _ | .makeSlice _ _ _ => true
  | .call c => match c.callee with
    | .builtin .append => true
    | .value (.func f) => match det f with
      | some (.n _) => true
      | some (.o _) => true
      | _ => false
    | _ => false
  | _ => false
/-- Where a new object is laid; N: behind all. -/
def nidOf (det : FuncId → Option Dt) (N : Nat) (o : Oper) (h : Hp) : Nat := match isNewOp det o.op with | true => len h | false => N

def chgOk (det : FuncId → Option Dt) (o : Op) (h : Hp) : Chg → Bool
  | .new _ => isNewOp det o
  | .no => match isNewOp det o with | true => false | false => true
  | .upd b _ => match isNewOp det o with | true => false | false => Nat.blt b (len h)
  | .mv b _ => match isNewOp det o with | true => Nat.blt b (len h) | false => false

/-- What is settled of the guards' slots. -/
def fwdM (d : Nat) : List (Nat × Bool) → Option Bool
  | [] => none
  | (i, y) :: r => match Nat.beq i d with | true => some y | false => fwdM d r
def dropM (o : Option Tmp) : List (Nat × Bool) → List (Nat × Bool)
  | [] => []
  | (i, y) :: r => match o with
    | none => (i, y) :: r
    | some d => match Nat.beq i d with | true => dropM o r | false => (i, y) :: dropM o r

def wrL (e : TrE) : List Nat := fstL (e.c.wr e.nid)
/-- What an operation reads and writes. -/
structure Fp where
  dst : Option Nat
  rs : List Nat
  wr : List Nat
  rh : List Nat
  mv : Option (Nat × Nat)
def mvOf (nid : Nat) : Chg → Option (Nat × Nat)
  | .mv b _ => some (nid, b)
  | _ => none
def fpOf (e : TrE) : Fp := ⟨e.o.dst, e.rs, wrL e, e.rh, mvOf e.nid e.c⟩

/-- One of two by a slot that is settled. -/
def refV (s : Tm) (m : List (Nat × Bool)) (op : Op) (v : AV) : AV := match op with
  | .pick (.tmp d) x y => match lk s d with
    | .b _ => match fwdM d m with
      | some true => ev s x
      | some false => ev s y
      | none => v
    | _ => v
  | _ => v

/-- The order of the text: what each operation comes to. -/
def vcDraw (E : Env) (det : FuncId → Option Dt) (nt N : Nat) (all : List (Option Tmp)) : List Oper → List (Nat × Bool) → Tm → Hp → List Fp → (Tm → Hp → List Fp → Prop) → Prop
  | [], _, s, h, tr, K => K s h tr
  | o :: r, m, s, h, tr, K =>
    let go (m : List (Nat × Bool)) (v : AV) (c : Chg) : Prop := match chgOk det o.op h c, put nt o.dst (refV s m o.op v) s with
      | true, some s' => vcDraw E det nt N all r (dropM o.dst m) s' (c.on (nidOf det N o h) h) (tr ++ [⟨o.dst, slotsOf all o, fstL (c.wr (nidOf det N o h)), rhAt s o, mvOf (nidOf det N o h) c⟩]) K
      | _, _ => Bad 310
    let run (m : List (Nat × Bool)) : Prop := match stepD E det o s h (nidOf det N o h) with
      | .ok v c => go m v c
      | .ob p v c => Ob p (go m v c)
      | .bad n => Bad n
    let skip (m : List (Nat × Bool)) : Prop := match put nt o.dst (.tup []) s with
      | some s' => vcDraw E det nt N all r (dropM o.dst m) s' h (tr ++ [⟨o.dst, slotsOf all o, [], [], none⟩]) K
      | none => Bad 313
    match o.guard with
    | none => run m
    | some (j, b) => match nth none all j with
      | none => Bad 311
      | some d => match lk s d with
        | .bc x => match x, b with
          | true, true => run m
          | false, false => run m
          | _, _ => skip m
        | .b x => match fwdM d m with
          | some y => match y, b with
            | true, true => run m
            | false, false => run m
            | _, _ => skip m
          | none => match b with
            | true => splitB x (fun _ => run ((d, true) :: m)) fun _ => skip ((d, false) :: m)
            | false => splitB x (fun _ => skip ((d, true) :: m)) fun _ => run ((d, false) :: m)
        | .tup [] => skip m
        | _ => Bad 312

def inter : List Nat → List Nat → Bool
  | [], _ => false
  | x :: r, l => match memN x l with | true => true | false => inter r l
def optL : Option Nat → List Nat
  | none => []
  | some x => [x]

/-- May the two not change places? -/
def confl (x y : Fp) : Bool :=
  match inter (optL x.dst) (y.rs ++ optL y.dst), inter (optL y.dst) x.rs, inter x.wr (y.rh ++ y.wr), inter y.wr x.rh with
  | false, false, false, false => false
  | _, _, _, _ => true

def bindsAny (e : Edge) : Bool := match e.ground with
  | .textOnly _ => false
  | .gcOnly _ => false
  | _ => true

def uni : List Nat → List Nat → List Nat
  | [], l => l
  | x :: r, l => match memN x l with
    | true => uni r l
    | false => uni r (x :: l)
def preds (j : Nat) (acc : List (List Nat)) : List Edge → Option (List Nat)
  | [] => some []
  | e :: r => match preds j acc r with
    | none => none
    | some l => match bindsAny e with
      | false => some l
      | true => match Nat.blt e.on j with
        | true => some (uni (e.on :: nth [] acc e.on) l)
        | false => none
/-- Which operations stand ahead of each. -/
def befs : Nat → List (List Nat) → List Oper → Option (List (List Nat))
  | _, acc, [] => some acc
  | j, acc, o :: r => match preds j acc o.after.toList with
    | none => none
    | some l => befs (j + 1) (acc ++ [l]) r

def okPair (bef : List Nat) (y : Fp) : Nat → List Fp → Bool
  | _, [] => true
  | i, x :: r => match confl x y with
    | false => okPair bef y (i + 1) r
    | true => match memN i bef with
      | true => okPair bef y (i + 1) r
      | false => false
/-- Whatever may not change places stands in order. -/
def okAll (bef : List (List Nat)) (done : List Fp) : List Fp → Bool
  | [] => true
  | y :: r => match okPair (nth [] bef (len done)) y 0 done with
    | true => okAll bef (done ++ [y]) r
    | false => false

mutual
/-- The object n gets the number b; what stood there is no more. -/
def mvA (n b : Nat) : AV → AV
  | .own c k => match Nat.beq c n with | true => .own b k | false => match Nat.beq c b with | true => .any | false => .own c k
  | .nn c k => match Nat.beq c n with | true => .nn b k | false => match Nat.beq c b with | true => .any | false => .nn c k
  | .vw c sz p k => match Nat.beq c n with | true => .vw b sz p k | false => match Nat.beq c b with | true => .any | false => .vw c sz p k
  | .ept c sz x o => match Nat.beq c n with | true => .ept b sz x o | false => match Nat.beq c b with | true => .any | false => .ept c sz x o
  | .ptr c o => match Nat.beq c n with | true => .ptr b o | false => match Nat.beq c b with | true => .any | false => .ptr c o
  | .agg l => .agg (mvL n b l)
  | .tup l => .tup (mvL n b l)
  | .fn f l => .fn f (mvL n b l)
  | .ite c x y => .ite c (mvA n b x) (mvA n b y)
  | x => x
def mvL (n b : Nat) : List AV → List AV
  | [] => []
  | x :: r => mvA n b x :: mvL n b r
end
def mvO (n b : Nat) : AObj → AObj
  | .blk cs => .blk (mvL n b cs)
  | o => o
def mvHs (n b : Nat) (O : AObj) : Nat → Hp → Hp
  | _, [] => []
  | i, o :: r => (match Nat.beq i n with | true => .dead | false => match Nat.beq i b with | true => O | false => mvO n b o) :: mvHs n b O (i + 1) r
def mvHp (n b : Nat) (h : Hp) : Hp := mvHs n b (mvO n b (nth .dead h n)) 0 h
def mvT (n b : Nat) : Tm → Tm
  | [] => []
  | (i, v) :: r => (i, mvA n b v) :: mvT n b r
/-- What was moved by appends gets its old numbers back, the last one first. -/
def settle : List Fp → Tm → Hp → List Nat → Option (Tm × Hp × List Nat)
  | [], s, h, kl => some (s, h, kl)
  | e :: r, s, h, kl => match settle r s h kl with
    | none => none
    | some (s, h, kl) => match e.mv with
      | none => some (s, h, kl)
      | some (n, b) => match Nat.beq n b, Nat.blt b (len h) with
        | false, true => some (mvT n b s, mvHp n b h, b :: kl)
        | _, _ => none

def okDraw (ops : List Oper) (tr : List Fp) : Bool :=
  match befs 0 [] ops with
  | none => false
  | some bef => okAll bef [] tr

section
variable {P : Program} {E : Env} {det : FuncId → Option Dt} {w : World} {M : Nat → Prop} {β : Nat → Option Nat} {cp : Nat → Nat} {h : Hp} {o : Oper} {a : Act} {s : Tm} {nid : Nat}

def DtOk (P : Program) (f : FuncId) : Dt → Prop
  | .c d => PcOk P f (detPC d)
  | .n d => PcOk P f (detNPC d)
  | .f d => ∀ A p r, d A = some (p, r) → p () → FrOk P f A r
  | .o d => ∀ n e sz m g rest p N O, closedL rest = true → d n (.vec e sz m g) rest = some (p, N, O) → p () → FnOk P f (.own 0 n :: rest) [.vec e sz m g] fun r H _ => r = .own 0 N ∧ H = [O]
def DetOk (P : Program) (det : FuncId → Option Dt) : Prop := ∀ f d, det f = some d → Enters P f ∧ DtOk P f d

theorem conj_out : ∀ {q : List (Th Prop)} {p : Th Prop}, conj q p () → (∀ x ∈ q, x ()) ∧ p ()
  | [], p, h => ⟨by simp, h⟩
  | x :: q, p, h => by
    have := conj_out (q := q) (p := p) h.2
    exact ⟨by intro y hy; rcases List.mem_cons.1 hy with rfl | hy; exact h.1; exact this.1 y hy, this.2⟩

theorem hput_at {h : Hp} {nid : Nat} {x : AObj} (hn : nid ≤ h.length) : (hput h nid x)[nid]? = some x := by
  unfold hput
  rw [len_eq]
  split
  · rename_i hl; have := blt_iff.1 hl; simp [this]
  · rename_i hl
    have : nid = h.length := by
      have : ¬ nid < h.length := fun hlt => by rw [blt_iff.2 hlt] at hl; cases hl
      omega
    simp [this]

/-- A row is written in place, and gets another number. -/
theorem after_mv {b g e sz : Nat} {k : Th Nat} {f : Th Nat → List AV} {cur cur' : Array Value} (hh : HeapRel w M β cp h) (hn : nid ≤ h.length) (hd : β nid = none) (hb : h[b]? = some (.vec e sz k f)) (hg : β b = some g) (hM : M g) (hcell : w.heap[g]? = some (.cells cur e (0, 0))) (hsz : cur'.size = cur.size)
    {N : Th Nat} {F : Th Nat → List AV} (ho : ∀ k', k' < N () * sz → (cur'.getD k' undef).oneCell' = true) (hNc : N () ≤ cp b) (hcs : cur.size = cp b * sz) (hcm : cp b ≤ maxLen) (hl : ∀ i : Nat, i < N () → (F fun _ => i).length = sz)
    (hF : ∀ (i j : Nat) (x : AV), i < N () → (F fun _ => i)[j]? = some x → RepC w M x (cur'.getD (i * sz + j) undef)) : After w M β cp h (w.setRow g cur') M (updO β nid (some g)) (updN cp nid (cp b)) (hput (h.set b .dead) nid (.vec e sz N F)) := by
  obtain ⟨f1, f2, f3, f4, f5, f6⟩ := setRow_facts (w := w) (cur' := cur') hcell
  have hk : ∀ k, k < w.heap.size → ¬ M k → (w.setRow g cur').heap[k]? = w.heap[k]? ∧ ¬ M k := fun k hk hk' => ⟨f6 k (by rintro rfl; exact hk' hM), hk'⟩
  have hbn : b ≠ nid := by rintro rfl; rw [hd] at hg; cases hg
  have hbk : ∀ c, β c ≠ none → (updO β nid (some g)) c = β c ∧ (updN cp nid (cp b)) c = cp c := fun c hc => by
    have : c ≠ nid := by rintro rfl; exact hc hd
    simp [updO, updN, this]
  have hns : nid ≤ (h.set b .dead).length := by simpa using hn
  have hget : ∀ c o', (hput (h.set b .dead) nid (AObj.vec e sz N F))[c]? = some o' → (c = nid ∧ o' = .vec e sz N F) ∨ (c ≠ nid ∧ ((c = b ∧ o' = .dead) ∨ (c ≠ b ∧ h[c]? = some o'))) := by
    intro c o' hc
    rcases hput_get hns hc with h1 | ⟨h1, h2⟩
    · exact .inl h1
    · refine .inr ⟨h1, ?_⟩
      rw [List.getElem?_set] at h2
      split at h2
      · split at h2
        · exact .inl ⟨by omega, by cases h2; rfl⟩
        · cases h2
      · exact .inr ⟨by omega, h2⟩
  refine ⟨⟨fun c hc => ?_, fun c o' hc => ?_, fun c c' o1 o2 g0 hc hc' hl1 hl2 hg1 hg2 => ?_, fun k hk => by rw [f4]; exact hh.dom k hk⟩, hk, hbk, ⟨f1, f2, f3, by omega, fun k _ hB => f6 k (by rintro rfl; exact hB ⟨b, _, hb, rfl, hg⟩), fun _ h => h, fun _ h => .inl h⟩, ?_, fun c h1 h2 => ?_⟩
  · have := hput_len (o := AObj.vec e sz N F) hns
    simp only [List.length_set] at this
    have hc2 : c ≠ nid := by omega
    simp only [updO, hc2, if_false]
    exact hh.out c (by omega)
  · rcases hget c o' hc with ⟨rfl, rfl⟩ | ⟨hne, ⟨_, rfl⟩ | ⟨hneb, hy⟩⟩
    · refine .inr ⟨g, cur', by simp [updO], hM, f5, by simp only [updN, if_true]; rw [hsz, hcs], ho, by simp only [updN, if_true]; exact hNc, by simp only [updN, if_true]; exact hcm, hl, fun i j x hi hj => (hF i j x hi hj).keep hk⟩
    · trivial
    · by_cases hly : o'.live = true
      · exact (hh.obj c o' hy).keep hk hbk (fun h0 => by simp [updO, hne, h0]) fun g0 hg0 => ⟨f6 g0 (by rintro rfl; exact hneb (hh.inj c b o' _ g0 hy hb hly rfl hg0 hg)), id⟩
      · cases o' with
        | dead => trivial
        | blk cs => exact absurd rfl hly
        | vec _ _ _ _ => exact absurd rfl hly
  · have one : ∀ c o1, (hput (h.set b .dead) nid (AObj.vec e sz N F))[c]? = some o1 → o1.live = true → (updO β nid (some g)) c = some g0 → (c = nid ∧ g0 = g) ∨ (c ≠ nid ∧ c ≠ b ∧ h[c]? = some o1 ∧ β c = some g0) := by
      intro c o1 hc hl hg0
      rcases hget c o1 hc with ⟨rfl, rfl⟩ | ⟨hne, ⟨_, rfl⟩ | ⟨hneb, hy⟩⟩
      · simp only [updO, if_true] at hg0; cases hg0; exact .inl ⟨rfl, rfl⟩
      · cases hl
      · simp only [updO, hne, if_false] at hg0
        exact .inr ⟨hne, hneb, hy, hg0⟩
    rcases one c o1 hc hl1 hg1 with ⟨a1, a2⟩ | ⟨a1, a2, a3, a4⟩ <;> rcases one c' o2 hc' hl2 hg2 with ⟨b1, b2⟩ | ⟨b1, b2, b3, b4⟩
    · omega
    · subst a2; exact absurd (hh.inj c' b o2 _ g0 b3 hb hl2 rfl b4 hg) b2
    · subst b2; exact absurd (hh.inj c b o1 _ g0 a3 hb hl1 rfl a4 hg) a2
    · exact hh.inj c c' o1 o2 g0 a3 b3 hl1 hl2 a4 b4
  · rintro g0 ⟨c, o1, hc, hl, hg0⟩
    rcases hget c o1 hc with ⟨rfl, rfl⟩ | ⟨hne, ⟨_, rfl⟩ | ⟨hneb, hy⟩⟩
    · simp only [updO, if_true] at hg0; cases hg0; exact .inl ⟨b, _, hb, rfl, hg⟩
    · cases hl
    · simp only [updO, hne, if_false] at hg0
      exact .inl ⟨c, o1, hy, hl, hg0⟩
  · have hcn : c = nid := by
      by_cases hne : c = nid
      · exact hne
      · simp only [updO, hne, if_false] at h2; exact absurd h1 h2
    subst hcn
    refine ⟨.vec e sz N F, ?_, rfl⟩
    unfold hput
    rw [len_eq]
    split
    · rename_i hl; have := blt_iff.1 hl; rw [List.length_set] at this; simp [this]
    · rename_i hl
      have hln : c = (h.set b .dead).length := by
        have : ¬ c < (h.set b .dead).length := fun hlt => by rw [blt_iff.2 hlt] at hl; cases hl
        omega
      rw [hln]
      exact List.getElem?_concat_length
theorem appD_sound (hE : EnvOk P E) {c : Call} (ho : o.op = .call c) (hcal : c.callee = .builtin .append) (hh : HeapRel w M β cp h) (hn : nid ≤ h.length) (hd : β nid = none) (hx : ∀ x, Rep w M β cp (ev s x) (a.eval x))
    (hz : ∀ t e sz b z, E.ty t = .slice e sz b z → z.length = sz) : (appD E c s h nid).Sound (Good P o a w M β cp h nid) := by
  unfold appD
  split
  · rename_i t t' x y hta ha
    split
    · rename_i e sz bytes z q0 hT
      have q0 := beq_iff.1 q0
      subst q0
      have hTy := hE.ty t
      rw [hT] at hTy
      have hzl := hz t e sz bytes z hT
      have hargs : c.args = #[x, y] := Array.toList_inj.1 ha
      have hats : c.argTypes = #[t, t] := Array.toList_inj.1 hta
      have run : ∀ v' w', (Builtin.append_ #[t, t] o.type #[a.eval x, a.eval y]).run P w = .ok v' w' → (execOp a.eval o).run P w = .ok (.value v') w' := by
        intro v' w' hv'
        simp [execOp, ho, resolve, hcal, invoke, builtin, hargs, hats, hv']
      split
      · rename_i q m g hsrc
        have hx0 := hx x
        split
        · rename_i b n hX
          rw [hX] at hx0
          split
          · rename_i e' sz' k f hb
            split
            · rename_i q1 q2
              have q1 := beq_iff.1 q1
              have q2 := beq_iff.1 q2
              subst q1 q2
              rintro ⟨hnk, hq, hby, hmx⟩
              obtain ⟨ao, c', news, ey, hnl, hnc, hn1, hglen, hgrep⟩ := src_sound hTy.2.1 hh (hx y) hsrc hq
              have hb := nth_some hb rfl
              have hobj := hh.obj b _ hb
              -- the row as it is
              obtain ⟨xs, hown, hx1, hxrep⟩ : ∃ xs, w.ownsRow 0 e sz (a.eval x) (n ()) xs ∧ (∀ u ∈ xs, u.oneCell' = true) ∧ ∀ (i j : Nat) (z : AV), i < n () → (f fun _ => i)[j]? = some z → RepC w M z (xs.getD (i * sz + j) undef) := by
                rcases rep_own hx0 with ⟨h0, hv0⟩ | ⟨g0, hg0, hn0, hv0⟩
                · refine ⟨[], ⟨by simp [h0], .inl ⟨hv0, h0⟩⟩, by simp, fun i j z hi => by omega⟩
                · rcases hobj with ⟨e1, _⟩ | ⟨g', cur, e1, e2, e3, e4, e5, e6, e7, e8, e9⟩
                  · rw [hg0] at e1; cases e1
                  · rw [hg0] at e1; cases e1
                    have hle : n () * sz ≤ cur.size := by rw [e4]; exact Nat.mul_le_mul_right _ (by omega)
                    have hle2 : n () * sz ≤ k () * sz := Nat.mul_le_mul_right _ hnk
                    refine ⟨cur.toList.take (n () * sz), ⟨by simp; omega, .inr ⟨g0, cp b, cur, hv0, Nat.zero_le _, e3, by omega, e7, e4, rfl⟩⟩, fun u hu => ?_, fun i j z hi hj => ?_⟩
                    · obtain ⟨j, hj, rfl⟩ := List.mem_iff_getElem.1 hu
                      have hj2 : j < n () * sz := by simp at hj; omega
                      have := e5 j (by omega)
                      simpa [show j < cur.size by omega] using this
                    · have hjs : j < sz := by rw [← e8 i (by omega)]; exact (List.getElem?_eq_some_iff.1 hj).1
                      have hlt : i * sz + j < n () * sz := by
                        have := Nat.mul_le_mul_right sz (show i + 1 ≤ n () by omega)
                        rw [Nat.succ_mul] at this
                        omega
                      have := e9 i j z (by omega) hj
                      rw [List.getD_eq_getElem?_getD, List.getElem?_take, if_pos hlt, ← List.getD_eq_getElem?_getD, ← getD_arr]
                      exact this
              obtain ⟨v', w', r1, r2, r3, r4⟩ := run_append_any (P := P) (ty := o.type) (c := c') hTy hzl hown hnl hnc hn1 (by unfold maxLen; omega) hby
              have hvb : ∀ g0, (a.eval x).ownBlock = some g0 → β b = some g0 := by
                intro g0 hg0
                rcases rep_own hx0 with ⟨_, hv0⟩ | ⟨g1, hg1, _, hv0⟩
                · rw [hv0] at hg0; cases hg0
                · rw [hv0] at hg0; cases hg0; exact hg1
              have hkeep : ∀ k, k < w.heap.size → ¬ M k → w'.heap[k]? = w.heap[k]? ∧ ¬ (M k ∨ v'.ownBlock = some k) := by
                intro k hk hM
                refine ⟨r3.block k hk fun e => hM (blk_lt hh hb rfl (hvb k e.symm)).2, fun h => ?_⟩
                rcases h with h | h
                · exact hM h
                · rcases r4 with r4 | r4
                  · exact hM (blk_lt hh hb rfl (hvb k (by rw [← r4]; exact h))).2
                  · rw [r4] at h; cases h; omega
              obtain ⟨cap, hcap⟩ := capOf v'
              have hβ' : ∀ c, c ≠ nid → (updO β nid v'.ownBlock) c = β c ∧ (updN cp nid cap) c = cp c := fun c hc => by simp [updO, updN, hc]
              have hbk : ∀ c, β c ≠ none → (updO β nid v'.ownBlock) c = β c ∧ (updN cp nid cap) c = cp c := fun c hc => hβ' c (fun e => hc (by rw [e]; exact hd))
              have hnew : ∀ g0, v'.ownBlock = some g0 → β b = some g0 ∨ w.heap.size ≤ g0 := by
                intro g0 hg0
                rcases r4 with r4 | r4
                · exact .inl (hvb g0 (by rw [← r4]; exact hg0))
                · rw [r4] at hg0; cases hg0; exact .inr (Nat.le_refl _)
              have hobj' := obj_of_row (M' := fun k => M k ∨ v'.ownBlock = some k) (β' := updO β nid v'.ownBlock) (cp' := updN cp nid cap) (b := nid) r2 (fun k hk => .inr hk) (by simp [updO]) (fun ad n c hv => by simp [updN, hcap ad n c hv])
                (by intro u hu; rcases List.mem_append.1 hu with hu | hu; exact hx1 u hu; exact hn1 u hu)
                (F := fun j => rowL sz (fun _ => decide (j () < n ())) (f j) (g fun _ => j () - n ())) (fun i hi => rowL_len _ _ _ _)
                (fun i j z hi hj => by
                  obtain ⟨hjs, rfl⟩ := rowL_get _ _ _ _ _ _ hj
                  have hxl : xs.length = n () * sz := hown.1
                  refine pick_rep _ _ (fun hc => ?_) (fun hc => ?_)
                  · have hi2 : i < n () := by simpa using hc
                    have hlt : i * sz + j < xs.length := by
                      have := Nat.mul_le_mul_right sz (show i + 1 ≤ n () by omega)
                      rw [Nat.succ_mul] at this
                      omega
                    rw [List.getD_eq_getElem?_getD (l := xs ++ news), List.getElem?_append_left hlt, ← List.getD_eq_getElem?_getD]
                    rw [List.getD_eq_getElem?_getD]
                    cases hf : (f fun _ => i)[j]? with
                    | none => exact .any _
                    | some z => exact (hxrep i j z hi2 hf).keep hkeep
                  · have hi2 : ¬ i < n () := by simpa using hc
                    have e1 : i * sz + j - xs.length = (i - n ()) * sz + j := by rw [hxl, Nat.sub_mul]; have := Nat.mul_le_mul_right sz (show n () ≤ i by omega); omega
                    have hge : xs.length ≤ i * sz + j := by rw [hxl]; have := Nat.mul_le_mul_right sz (show n () ≤ i by omega); omega
                    rw [List.getD_eq_getElem?_getD (l := xs ++ news), List.getElem?_append_right hge, e1, ← List.getD_eq_getElem?_getD]
                    rw [List.getD_eq_getElem?_getD]
                    cases hf : (g fun _ => i - n ())[j]? with
                    | none => exact .any _
                    | some z => exact (hgrep (i - n ()) j z (by omega) hf).keep hkeep) (n := fun _ => n () + m ()) rfl
              generalize hO : (AObj.vec e sz (fun _ => n () + m ()) fun j => rowL sz (fun _ => decide (j () < n ())) (f j) (g fun _ => j () - n ())) = O at hobj'
              have hOl : O.live = true := by rw [← hO]; rfl
              have hns : nid ≤ (h.set b .dead).length := by simpa using hn
              have hget : ∀ c o', (hput (h.set b .dead) nid O)[c]? = some o' → (c = nid ∧ o' = O) ∨ (c ≠ nid ∧ ((c = b ∧ o' = .dead) ∨ (c ≠ b ∧ h[c]? = some o'))) := by
                intro c o' hc
                rcases hput_get hns hc with h1 | ⟨h1, h2⟩
                · exact .inl h1
                · refine .inr ⟨h1, ?_⟩
                  rw [List.getElem?_set] at h2
                  split at h2
                  · split at h2
                    · exact .inl ⟨by omega, by cases h2; rfl⟩
                    · cases h2
                  · exact .inr ⟨by omega, h2⟩
              refine ⟨.value v', v', w', fun k => M k ∨ v'.ownBlock = some k, updO β nid v'.ownBlock, updN cp nid cap, run v' w' (by rw [ey]; exact r1), .inl rfl, ?_, hobj'.2⟩
              show After w M β cp h w' _ _ _ (hput (h.set b .dead) nid O)
              refine ⟨⟨fun c hc => ?_, fun c o' hc => ?_, fun c c' o1 o2 g0 hc hc' hl1 hl2 hg hg' => ?_, fun k hk => hk.elim (fun h1 => Nat.lt_of_lt_of_le (hh.dom k h1) r3.size) fun h1 => own_lt r2 h1⟩, hkeep, hbk, ⟨r3.os, r3.tape, r3.output, r3.size, fun k hk hB => ?_, fun k hk => .inl hk, fun k hk => ?_⟩, ?_, fun c h1 h2 => ?_⟩
              · have := hput_len (o := O) hns
                simp only [List.length_set] at this
                rw [(hβ' c (by omega)).1]
                exact hh.out c (by omega)
              · rcases hget c o' hc with ⟨rfl, rfl⟩ | ⟨hne, ⟨_, rfl⟩ | ⟨hneb, hy⟩⟩
                · exact hobj'.1
                · trivial
                · by_cases hly : o'.live = true
                  · exact (hh.obj c o' hy).keep hkeep hbk (fun h0 => by rw [(hβ' c hne).1]; exact h0) fun g0 hg0 => ⟨r3.block g0 (blk_lt hh hy hly hg0).1 fun e => hneb (hh.inj c b o' _ g0 hy hb hly rfl hg0 (hvb g0 e.symm)), .inl⟩
                  · cases o' with
                    | dead => trivial
                    | blk cs => exact absurd rfl hly
                    | vec _ _ _ _ => exact absurd rfl hly
              · have key : ∀ c y, c ≠ nid → c ≠ b → h[c]? = some y → y.live = true → (updO β nid v'.ownBlock) c = some g0 → (updO β nid v'.ownBlock) nid = some g0 → False := by
                  intro c y hne hneb hy hly h1 h2
                  rw [(hβ' c hne).1] at h1
                  have h2 : v'.ownBlock = some g0 := by simpa [updO] using h2
                  rcases hnew g0 h2 with h3 | h3
                  · exact hneb (hh.inj c b y _ g0 hy hb hly rfl h1 h3)
                  · have := (blk_lt hh hy hly h1).1; omega
                rcases hget c o1 hc with ⟨rfl, rfl⟩ | ⟨hne, ⟨_, rfl⟩ | ⟨hneb, hy⟩⟩
                · rcases hget c' o2 hc' with ⟨rfl, rfl⟩ | ⟨hne', ⟨_, rfl⟩ | ⟨hneb', hy'⟩⟩
                  · rfl
                  · cases hl2
                  · exact (key c' o2 hne' hneb' hy' hl2 hg' hg).elim
                · cases hl1
                · rcases hget c' o2 hc' with ⟨rfl, rfl⟩ | ⟨hne', ⟨_, rfl⟩ | ⟨hneb', hy'⟩⟩
                  · exact (key c o1 hne hneb hy hl1 hg hg').elim
                  · cases hl2
                  · rw [(hβ' c hne).1] at hg
                    rw [(hβ' c' hne').1] at hg'
                    exact hh.inj c c' o1 o2 g0 hy hy' hl1 hl2 hg hg'
              · exact r3.block k hk fun e => hB ⟨b, _, hb, rfl, hvb k e.symm⟩
              · rcases hk with hk | hk
                · exact .inl hk
                · rcases hnew k hk with h1 | h1
                  · exact .inl (blk_lt hh hb rfl h1).2
                  · exact .inr h1
              · rintro g0 ⟨c, o', hc, hl, hg⟩
                rcases hget c o' hc with ⟨rfl, rfl⟩ | ⟨hne, ⟨_, rfl⟩ | ⟨hneb, hy⟩⟩
                · rcases hnew g0 (by simpa [updO] using hg) with h1 | h1
                  · exact .inl ⟨b, _, hb, rfl, h1⟩
                  · exact .inr h1
                · cases hl
                · rw [(hβ' c hne).1] at hg
                  exact .inl ⟨c, o', hy, hl, hg⟩
              · have hc : c = nid := by
                  by_cases hc : c = nid
                  · exact hc
                  · rw [(hβ' c hc).1] at h2; exact absurd h1 h2
                subst hc
                exact ⟨O, hput_at hns, hOl⟩
            · trivial
          · trivial
        · rename_i hX
          rw [hX] at hx0
          have hv0 := rep_nil hx0
          rintro ⟨hq, hby, hmx⟩
          obtain ⟨ao, c', news, ey, hnl, hnc, hn1, hglen, hgrep⟩ := src_sound hTy.2.1 hh (hx y) hsrc hq
          have hown : w.ownsRow 0 e sz (a.eval x) 0 [] := ⟨by simp, .inl ⟨hv0, rfl⟩⟩
          obtain ⟨v', w', r1, r2, r3, r4⟩ := run_append_any (P := P) (ty := o.type) (c := c') hTy hzl hown hnl hnc hn1 (by unfold maxLen; omega) (by simpa using hby)
          rw [hv0] at r3 r4
          have hkeep : ∀ k, k < w.heap.size → ¬ M k → w'.heap[k]? = w.heap[k]? ∧ ¬ (M k ∨ v'.ownBlock = some k) := by
            intro k hk hM
            refine ⟨r3.block k hk (by simp [Value.ownBlock]), fun h => ?_⟩
            rcases h with h | h
            · exact hM h
            · rcases r4 with r4 | r4
              · rw [r4] at h; cases h
              · rw [r4] at h; cases h; omega
          have hsame : ∀ k, k < w.heap.size → w'.heap[k]? = w.heap[k]? := fun k hk => r3.block k hk (by simp [Value.ownBlock])
          obtain ⟨cap, hcap⟩ := capOf v'
          have hβ' : ∀ c, c ≠ nid → (updO β nid v'.ownBlock) c = β c ∧ (updN cp nid cap) c = cp c := fun c hc => by simp [updO, updN, hc]
          have hbk : ∀ c, β c ≠ none → (updO β nid v'.ownBlock) c = β c ∧ (updN cp nid cap) c = cp c := fun c hc => hβ' c (fun e => hc (by rw [e]; exact hd))
          have hnew : ∀ g0, v'.ownBlock = some g0 → w.heap.size ≤ g0 := by
            intro g0 hg0
            rcases r4 with r4 | r4
            · rw [r4] at hg0; cases hg0
            · rw [r4] at hg0; cases hg0; exact Nat.le_refl _
          have hobj' := obj_of_row (M' := fun k => M k ∨ v'.ownBlock = some k) (β' := updO β nid v'.ownBlock) (cp' := updN cp nid cap) (b := nid) r2 (fun k hk => .inr hk) (by simp [updO]) (fun ad n c hv => by simp [updN, hcap ad n c hv])
            (by intro u hu; exact hn1 u (by simpa using hu)) (F := g) (fun i hi => hglen i (by omega))
            (fun i j z hi hj => by have := (hgrep i j z (by omega) hj).keep hkeep; simpa using this) (n := m) (by omega)
          refine ⟨.value v', v', w', fun k => M k ∨ v'.ownBlock = some k, updO β nid v'.ownBlock, updN cp nid cap, run v' w' (by rw [ey]; exact r1), .inl rfl, ?_, hobj'.2⟩
          show After w M β cp h w' _ _ _ (hput h nid _)
          refine ⟨⟨fun c hc => ?_, fun c o' hc => ?_, fun c c' o1 o2 g0 hc hc' hl1 hl2 hg hg' => ?_, fun k hk => hk.elim (fun h1 => Nat.lt_of_lt_of_le (hh.dom k h1) r3.size) fun h1 => own_lt r2 h1⟩, hkeep, hbk, ⟨r3.os, r3.tape, r3.output, r3.size, fun k hk _ => hsame k hk, fun k hk => .inl hk, fun k hk => hk.elim .inl fun h1 => .inr (hnew k h1)⟩, ?_, fun c h1 h2 => ?_⟩
          · have := hput_len (o := AObj.vec e sz m g) hn
            rw [(hβ' c (by omega)).1]
            exact hh.out c (by omega)
          · rcases hput_get hn hc with ⟨rfl, rfl⟩ | ⟨hne, hy⟩
            · exact hobj'.1
            · by_cases hly : o'.live = true
              · exact (hh.obj c o' hy).keep hkeep hbk (fun h0 => by rw [(hβ' c hne).1]; exact h0) fun g0 hg0 => ⟨hsame g0 (blk_lt hh hy hly hg0).1, .inl⟩
              · cases o' with
                | dead => trivial
                | blk cs => exact absurd rfl hly
                | vec _ _ _ _ => exact absurd rfl hly
          · have key : ∀ c y, c ≠ nid → h[c]? = some y → y.live = true → (updO β nid v'.ownBlock) c = some g0 → (updO β nid v'.ownBlock) nid = some g0 → False := by
              intro c y hne hy hly h1 h2
              rw [(hβ' c hne).1] at h1
              have h2 : v'.ownBlock = some g0 := by simpa [updO] using h2
              have h3 := hnew g0 h2
              have := (blk_lt hh hy hly h1).1
              omega
            rcases hput_get hn hc with ⟨rfl, rfl⟩ | ⟨hne, hy⟩
            · rcases hput_get hn hc' with ⟨rfl, rfl⟩ | ⟨hne', hy'⟩
              · rfl
              · exact (key c' o2 hne' hy' hl2 hg' hg).elim
            · rcases hput_get hn hc' with ⟨rfl, rfl⟩ | ⟨hne', hy'⟩
              · exact (key c o1 hne hy hl1 hg hg').elim
              · rw [(hβ' c hne).1] at hg
                rw [(hβ' c' hne').1] at hg'
                exact hh.inj c c' o1 o2 g0 hy hy' hl1 hl2 hg hg'
          · rintro g0 ⟨c, o', hc, hl, hg⟩
            rcases hput_get hn hc with ⟨rfl, rfl⟩ | ⟨hne, hy⟩
            · exact .inr (hnew g0 (by simpa [updO] using hg))
            · rw [(hβ' c hne).1] at hg
              exact .inl ⟨c, o', hy, hl, hg⟩
          · have hc : c = nid := by
              by_cases hc : c = nid
              · exact hc
              · rw [(hβ' c hc).1] at h2; exact absurd h1 h2
            subst hc
            exact ⟨_, hput_at hn, rfl⟩
        · trivial
      · trivial
    · trivial
  · trivial

/-- A call that leaves one new object. -/
theorem callN_after {f : FuncId} {d : DetN} (hpc : PcOk P f (detNPC d)) (hh : HeapRel w M β cp h) (hn : nid ≤ h.length) (hd : β nid = none) {A0 A : List AV} {vs : Array Value} (hargs : RepL w M β cp A0 vs.toList) {q : List (Th Prop)} {l : List Nat}
    (hl : lower.lowerL h A0 = some (q, l, A)) (hq : ∀ x ∈ q, x ()) (hcl : closedL A = true) {p : Th Prop} {r : AV} {e : TypeId} {sz : Nat} {n : Th Nat} {g : Th Nat → List AV} (hdA : d A = some (p, r, .vec e sz n g)) (hp : p ())
    (hls : l = [] ∨ (noSl r = true ∧ ∀ i, i < n () → noSlL (g fun _ => i) = true)) :
    Calls P f vs w fun x w' => ∃ v M2 β2 cp2, x = .returned v ∧ After w M β cp h w' M2 β2 cp2 (hput h nid (.vec e sz n g)) ∧ Rep w' M2 β2 cp2 (r.shift nid) v := by
  have hA' := lowerL_rep hh _ q l A hl hq l (fun _ h => h) _ hargs
  have hA2 : RepL w (fun k => M k ∧ ¬ Lent β l k) (fun _ => none) (fun _ => 0) A vs.toList := ⟨hA'.1, fun j x hj => .c (closed_rep (hA'.2 j x hj) (closedL_get hcl hj))⟩
  have hpc' := hpc A (fun r' H' => r' = r ∧ H' = [.vec e sz n g]) (by unfold detNPC; rw [hdA]; exact .mk hp ⟨rfl, rfl⟩)
  refine (hpc' w (fun k => M k ∧ ¬ Lent β l k) (fun _ => none) (fun _ => 0) _ ⟨fun _ _ => rfl, fun b o hb => by simp at hb, fun b b' o o' g hb => by simp at hb, fun k hk => hh.dom k hk.1⟩ hA2).mono ?_
  rintro x w' ⟨v, r', H', kl, M', β', cp', rfl, ⟨rfl, rfl⟩, hh', hak, hrep⟩
  have hsame : ∀ k, k < w.heap.size → w'.heap[k]? = w.heap[k]? := fun k hk => hak.ext.block k hk (by rintro ⟨b, o, hb, _⟩; simp at hb)
  have hout : ∀ b, β' b ≠ none → b = 0 := fun b hb => by
    rcases Nat.eq_zero_or_pos b with h0 | h0
    · exact h0
    · exact absurd (hh'.out b (show 1 ≤ b from h0)) hb
  have hfresh : ∀ g, β' 0 = some g → w.heap.size ≤ g := fun g hg => (hak.own g ⟨0, _, rfl, rfl, hg⟩).elim (by rintro ⟨b, o, hb, _⟩; simp at hb) id
  have hkeep : ∀ k, k < w.heap.size → ¬ M k → w'.heap[k]? = w.heap[k]? ∧ ¬ (M' k ∨ M k) := fun k hk hM => by
    have := hak.keep k hk (fun h => hM h.1)
    exact ⟨this.1, fun h => h.elim this.2 hM⟩
  have hbk : ∀ b, β b ≠ none → updO β nid (β' 0) b = β b ∧ updN cp nid (cp' 0) b = cp b := by
    intro b hb
    have : b ≠ nid := by rintro rfl; exact hb hd
    simp [updO, updN, this]
  have hsh : ∀ b, β' b ≠ none → updO β nid (β' 0) (b + nid) = β' b ∧ updN cp nid (cp' 0) (b + nid) = cp' b := by
    intro b hb
    obtain rfl := hout b hb
    simp [updO, updN]
  have hM2 : l = [] → ∀ k, (M' k ∨ M k) → M' k := by
    rintro rfl k hk
    refine hk.elim id fun hk => hak.ext.sub k ⟨hk, ?_⟩
    rintro ⟨b, hb, _⟩
    cases hb
  have upC : ∀ x v, (l = [] ∨ noSl x = true) → RepC w' M' x v → RepC w' (fun k => M' k ∨ M k) x v := by
    intro x v hx hr
    rcases hx with hd | hx
    · exact hr.keep fun k _ hM => ⟨rfl, fun h => hM (hM2 hd k h)⟩
    · exact noSl_repC hr hx
  have hob : ObjRel w' (fun k => M' k ∨ M k) (updO β nid (β' 0)) (updN cp nid (cp' 0)) nid (.vec e sz n g) := by
    have e1 : updO β nid (β' 0) nid = β' 0 := by simp [updO]
    have e2 : updN cp nid (cp' 0) nid = cp' 0 := by simp [updN]
    rcases hh'.obj 0 _ rfl with ⟨o1, o2⟩ | ⟨g', cur, o1, o2, o3, o4, o5, o6, o7, o8, o9⟩
    · exact .inl ⟨e1.trans o1, o2⟩
    · refine .inr ⟨g', cur, e1.trans o1, .inl o2, o3, by rw [e2]; exact o4, o5, by rw [e2]; exact o6, by rw [e2]; exact o7, o8, fun i j x hi hj => upC x _ ?_ (o9 i j x hi hj)⟩
      exact hls.imp id fun h => noSlL_get (h.2 i hi) hj
  refine ⟨v, fun k => M' k ∨ M k, updO β nid (β' 0), updN cp nid (cp' 0), rfl, ⟨⟨?_, ?_, ?_, fun k hk => hk.elim (hh'.dom k) fun h1 => Nat.lt_of_lt_of_le (hh.dom k h1) hak.ext.size⟩, hkeep, hbk,
    ⟨hak.ext.os, hak.ext.tape, hak.ext.output, hak.ext.size, fun k hk _ => hsame k hk, fun k hk => .inr hk, fun k hk => hk.elim (fun h => (hak.ext.new k h).imp And.left id) .inl⟩, ?_, fun b h1 h2 => ?_⟩, ?_⟩
  · intro b hb
    have h1 := hput_len (o := .vec e sz n g) hn
    have : b ≠ nid := by omega
    simp only [updO, this, if_false]
    exact hh.out b (by omega)
  · intro b o' hb
    rcases hput_get hn hb with ⟨rfl, rfl⟩ | ⟨hne, hb'⟩
    · exact hob
    · have h1 := hh.obj b o' hb'
      by_cases hlive : o'.live = true
      · exact h1.keep hkeep hbk (fun h0 => by simp [updO, hne, h0]) fun g hg => ⟨hsame g (blk_lt hh hb' hlive hg).1, .inr⟩
      · cases o' with
        | dead => trivial
        | blk cs => simp [AObj.live] at hlive
        | vec e sz n f => simp [AObj.live] at hlive
  · intro b b' o1 o2 g' hb hb' hl1 hl2 hg hg'
    rcases hput_get hn hb with ⟨rfl, rfl⟩ | ⟨hne, hb1⟩
    · rcases hput_get hn hb' with ⟨rfl, rfl⟩ | ⟨hne', hb1'⟩
      · rfl
      · simp only [updO, if_true, hne', if_false] at hg hg'
        have := (blk_lt hh hb1' hl2 hg').1
        have := hfresh _ hg
        omega
    · rcases hput_get hn hb' with ⟨rfl, rfl⟩ | ⟨hne', hb1'⟩
      · simp only [updO, if_true, hne, if_false] at hg hg'
        have := (blk_lt hh hb1 hl1 hg).1
        have := hfresh _ hg'
        omega
      · simp only [updO, hne, hne', if_false] at hg hg'
        exact hh.inj b b' o1 o2 g' hb1 hb1' hl1 hl2 hg hg'
  · rintro g' ⟨b, o', hb, hl, hg⟩
    rcases hput_get hn hb with ⟨rfl, rfl⟩ | ⟨hne, hb1⟩
    · simp only [updO, if_true] at hg
      exact .inr (hfresh _ hg)
    · simp only [updO, hne, if_false] at hg
      exact .inl ⟨b, o', hb1, hl, hg⟩
  · have hbn : b = nid := by
      by_cases hne : b = nid
      · exact hne
      · simp only [updO, hne, if_false] at h2; exact absurd h1 h2
    subst hbn
    exact ⟨_, hput_at hn, rfl⟩
  · refine shift_rep (β := β') (cp := cp') hsh _ v ?_
    rcases hls with hl | hl
    · exact hrep.keep (fun k _ hM => ⟨rfl, fun h => hM (hM2 hl k h)⟩) fun _ _ => ⟨rfl, rfl⟩
    · exact noSl_rep hrep hl.1

/-- A call that turns one own object. -/
theorem callO_after {f : FuncId} {b e sz e' sz' : Nat} {n m m' N : Th Nat} {g g' : Th Nat → List AV} {rest : List AV} {vs : Array Value}
    (hF : FnOk P f (.own 0 n :: rest) [.vec e sz m g] fun r H _ => r = .own 0 N ∧ H = [.vec e' sz' m' g']) (hh : HeapRel w M β cp h) (hn : nid ≤ h.length) (hd : β nid = none) (hcl : closedL rest = true)
    (hb : h[b]? = some (.vec e sz m g)) (hA : RepL w M β cp (.own b n :: rest) vs.toList) :
    Calls P f vs w fun x w' => ∃ v M2 β2 cp2, x = .returned v ∧ After w M β cp h w' M2 β2 cp2 (hput (h.set b .dead) nid (.vec e' sz' m' g')) ∧ Rep w' M2 β2 cp2 (.own nid N) v := by
  have hobj := hh.obj b _ hb
  have h1obj : HeapRel w M (fun c => if c = 0 then β b else none) (fun _ => cp b) [.vec e sz m g] := by
    refine ⟨fun c hc => ?_, fun c o hc => ?_, fun c c' o o' g0 hc hc' _ _ _ _ => ?_, hh.dom⟩
    · have : c ≠ 0 := by simp at hc; omega
      simp [this]
    · cases c with
      | succ c => simp at hc
      | zero =>
        simp at hc
        subst hc
        rcases hobj with ⟨h1, h2⟩ | ⟨g0, cur, h1, h2, h3, h4, h5, h6, h7, h8, h9⟩
        · exact .inl ⟨by simpa using h1, h2⟩
        · exact .inr ⟨g0, cur, by simpa using h1, h2, h3, h4, h5, h6, h7, h8, h9⟩
    · have e1 : c = 0 := by have := (List.getElem?_eq_some_iff.1 hc).1; simp at this; omega
      have e2 : c' = 0 := by have := (List.getElem?_eq_some_iff.1 hc').1; simp at this; omega
      omega
  have h1args : RepL w M (fun c => if c = 0 then β b else none) (fun _ => cp b) (.own 0 n :: rest) vs.toList := by
    refine ⟨by have := hA.1; simpa using this, fun j x hj => ?_⟩
    cases j with
    | zero =>
      simp at hj
      subst hj
      rcases rep_own (hA.2 0 _ rfl) with ⟨h0, hv0⟩ | ⟨g0, hg0, hn0, hv0⟩
      · rw [hv0]; exact .own0 0 _ h0
      · rw [hv0]; exact .own (cp := fun _ => cp b) 0 _ g0 (by simpa using hg0) hn0
    | succ j => exact .c (closed_rep (hA.2 (j + 1) x (by simpa using hj)) (closedL_get hcl (by simpa using hj)))
  refine (hF w M _ _ vs h1obj h1args).mono ?_
  rintro ex w' ⟨v, r, H', kl, M', β', cp', rfl, ⟨rfl, rfl⟩, hh', hak, hrep⟩
  have hbl : b < h.length := (List.getElem?_eq_some_iff.1 hb).1
  have hns : nid ≤ (h.set b .dead).length := by simpa using hn
  have hbk : ∀ c, β c ≠ none → updO β nid (β' 0) c = β c ∧ updN cp nid (cp' 0) c = cp c := fun c hc => by
    have : c ≠ nid := by rintro rfl; exact hc hd
    simp [updO, updN, this]
  have hget : ∀ c o', (hput (h.set b .dead) nid (AObj.vec e' sz' m' g'))[c]? = some o' → (c = nid ∧ o' = .vec e' sz' m' g') ∨ (c ≠ nid ∧ ((c = b ∧ o' = .dead) ∨ (c ≠ b ∧ h[c]? = some o'))) := by
    intro c o' hc
    rcases hput_get hns hc with h1 | ⟨h1, h2⟩
    · exact .inl h1
    · refine .inr ⟨h1, ?_⟩
      rw [List.getElem?_set] at h2
      split at h2
      · exact .inl ⟨by omega, by cases h2; rfl⟩
      · exact .inr ⟨by omega, h2⟩
  have hother : ∀ c (x : AObj), c ≠ b → h[c]? = some x → x.live = true → ∀ g0, β c = some g0 → w'.heap[g0]? = w.heap[g0]? := by
    intro c x hc hx hl g0 hg0
    refine hak.ext.block g0 (blk_lt hh hx hl hg0).1 ?_
    rintro ⟨c', o, hc', hl', hg'⟩
    have e1 : c' = 0 := by have := (List.getElem?_eq_some_iff.1 hc').1; simp at this; omega
    subst e1
    exact hc (hh.inj c b x _ g0 hx hb hl rfl hg0 (by simpa using hg'))
  have hnew : ∀ g0, β' 0 = some g0 → β b = some g0 ∨ w.heap.size ≤ g0 := by
    intro g0 hg0
    rcases hak.own g0 ⟨0, _, rfl, rfl, hg0⟩ with ⟨c', o, hc', hl', hg'⟩ | h
    · have e1 : c' = 0 := by have := (List.getElem?_eq_some_iff.1 hc').1; simp at this; omega
      subst e1
      exact .inl (by simpa using hg')
    · exact .inr h
  refine ⟨v, M', updO β nid (β' 0), updN cp nid (cp' 0), rfl, ⟨⟨fun c hc => ?_, fun c o' hc => ?_, fun c c' o1 o2 g0 hc hc' hl1 hl2 hg1 hg2 => ?_, hh'.dom⟩, hak.keep, hbk, ⟨hak.ext.os, hak.ext.tape, hak.ext.output, hak.ext.size, fun k hk hB => hak.ext.block k hk ?_, hak.ext.sub, hak.ext.new⟩, ?_, fun c h1 h2 => ?_⟩, ?_⟩
  · have := hput_len (o := AObj.vec e' sz' m' g') hns
    simp only [List.length_set] at this
    have hc2 : c ≠ nid := by omega
    simp only [updO, hc2, if_false]
    exact hh.out c (by omega)
  · rcases hget c o' hc with ⟨rfl, rfl⟩ | ⟨hne, ⟨_, rfl⟩ | ⟨hneb, hy⟩⟩
    · rcases hh'.obj 0 _ rfl with ⟨h1, h2⟩ | ⟨g0, cur, h1, h2, h3, h4, h5, h6, h7, h8, h9⟩
      · exact .inl ⟨by simp only [updO, if_true]; exact h1, h2⟩
      · exact .inr ⟨g0, cur, by simp only [updO, if_true]; exact h1, h2, h3, by simp only [updN, if_true]; exact h4, h5, by simp only [updN, if_true]; exact h6, by simp only [updN, if_true]; exact h7, h8, h9⟩
    · trivial
    · by_cases hly : o'.live = true
      · exact (hh.obj c o' hy).keep hak.keep hbk (fun h0 => by simp [updO, hne, h0]) fun g0 hg0 => ⟨hother c o' hneb hy hly g0 hg0, hak.ext.sub g0⟩
      · cases o' with
        | dead => trivial
        | blk cs => exact absurd rfl hly
        | vec _ _ _ _ => exact absurd rfl hly
  · have one : ∀ c o1, (hput (h.set b .dead) nid (AObj.vec e' sz' m' g'))[c]? = some o1 → o1.live = true → (updO β nid (β' 0)) c = some g0 → (c = nid ∧ β' 0 = some g0) ∨ (c ≠ nid ∧ c ≠ b ∧ h[c]? = some o1 ∧ β c = some g0) := by
      intro c o1 hc hl hg0
      rcases hget c o1 hc with ⟨rfl, rfl⟩ | ⟨hne, ⟨_, rfl⟩ | ⟨hneb, hy⟩⟩
      · simp only [updO, if_true] at hg0; exact .inl ⟨rfl, hg0⟩
      · cases hl
      · simp only [updO, hne, if_false] at hg0
        exact .inr ⟨hne, hneb, hy, hg0⟩
    rcases one c o1 hc hl1 hg1 with ⟨a1, a2⟩ | ⟨a1, a2, a3, a4⟩ <;> rcases one c' o2 hc' hl2 hg2 with ⟨b1, b2⟩ | ⟨b1, b2, b3, b4⟩
    · omega
    · rcases hnew g0 a2 with hx | hx
      · exact absurd (hh.inj c' b o2 _ g0 b3 hb hl2 rfl b4 hx) b2
      · have := (blk_lt hh b3 hl2 b4).1; omega
    · rcases hnew g0 b2 with hx | hx
      · exact absurd (hh.inj c b o1 _ g0 a3 hb hl1 rfl a4 hx) a2
      · have := (blk_lt hh a3 hl1 a4).1; omega
    · exact hh.inj c c' o1 o2 g0 a3 b3 hl1 hl2 a4 b4
  · rintro ⟨c', o, hc', hl', hg'⟩
    have e1 : c' = 0 := by have := (List.getElem?_eq_some_iff.1 hc').1; simp at this; omega
    subst e1
    exact hB ⟨b, _, hb, rfl, by simpa using hg'⟩
  · rintro g0 ⟨c, o1, hc, hl, hg0⟩
    rcases hget c o1 hc with ⟨rfl, rfl⟩ | ⟨hne, ⟨_, rfl⟩ | ⟨hneb, hy⟩⟩
    · simp only [updO, if_true] at hg0
      rcases hnew g0 hg0 with hx | hx
      · exact .inl ⟨b, _, hb, rfl, hx⟩
      · exact .inr hx
    · cases hl
    · simp only [updO, hne, if_false] at hg0
      exact .inl ⟨c, o1, hy, hl, hg0⟩
  · have hcn : c = nid := by
      by_cases hne : c = nid
      · exact hne
      · simp only [updO, hne, if_false] at h2; exact absurd h1 h2
    subst hcn
    exact ⟨_, hput_at hns, rfl⟩
  · rcases rep_own hrep with ⟨h0, rfl⟩ | ⟨g0, hg0, hn0, rfl⟩
    · exact .own0 nid _ h0
    · have := Rep.own (w := w') (M := M') (β := updO β nid (β' 0)) (cp := updN cp nid (cp' 0)) nid N g0 (by simp only [updO, if_true]; exact hg0) (by simp only [updN, if_true]; exact hn0)
      simpa [updN] using this

/-- One operation of a statement whose order is open. -/
def GoodD (P : Program) (o : Oper) (a : Act) (w : World) (M : Nat → Prop) (β : Nat → Option Nat) (cp : Nat → Nat) (h : Hp) (nid : Nat) (v : AV) (c : Chg) : Prop :=
  ∀ (next : Act → World → Prop) (Q : Exit → Act → World → Prop), (∀ v' w' M' β' cp', After w M β cp h w' M' β' cp' (c.on nid h) → Rep w' M' β' cp' v v' → next (a.put o.dst v') w') → o.wp P a w next Q

theorem fn_rep {f : FuncId} {v : Value} (hv : Rep w M β cp (.fn f []) v) : v = .func (.func f) #[] #[] := by
  cases hv with
  | c h => cases h
  | fn _ _ cs hl _ =>
    have : cs = #[] := Array.size_eq_zero_iff.1 (by simpa using hl)
    rw [this]

theorem detD_sound {f : FuncId} {d : Det} {A0 : List AV} {vs : Array Value} (hpc : PcOk P f (detPC d)) (hh : HeapRel w M β cp h) (hargs : RepL w M β cp A0 vs.toList) (hr : (execOp a.eval o).run P w = .ok (.enter f vs) w) :
    (detD d h A0).Sound (GoodD P o a w M β cp h nid) := by
  unfold detD
  split
  · rename_i q l A hl
    split
    · rename_i p r hcl hdA
      have key : (l = [] ∨ noSl r = true) → closed r = true → conj q p () → GoodD P o a w M β cp h nid r .no := by
        intro hls hcr hqp next Q hnext
        obtain ⟨hq, hp⟩ := conj_out hqp
        unfold Oper.wp
        rw [hr, Oper.upon_enter]
        have hA' := lowerL_rep hh _ q l A hl hq l (fun _ h => h) _ hargs
        have hA2 : RepL w (fun k => M k ∧ ¬ Lent β l k) (fun _ => none) (fun _ => 0) A vs.toList := ⟨hA'.1, fun j x hj => .c (closed_rep (hA'.2 j x hj) (closedL_get hcl hj))⟩
        have hpc' := hpc A (fun r' H' => r' = r ∧ H' = []) (by unfold detPC; rw [hdA]; exact .mk hp ⟨rfl, rfl⟩)
        refine (hpc' w (fun k => M k ∧ ¬ Lent β l k) (fun _ => none) (fun _ => 0) _ ⟨fun _ _ => rfl, fun b o hb => by simp at hb, fun b b' o o' g hb => by simp at hb, fun k hk => hh.dom k hk.1⟩ hA2).mono ?_
        rintro e w' ⟨v, r', H', kl, M', β', cp', rfl, ⟨rfl, rfl⟩, hh', hak, hrep⟩
        have hsame : ∀ k, k < w.heap.size → w'.heap[k]? = w.heap[k]? := fun k hk => hak.ext.block k hk (by rintro ⟨b, o, hb, _⟩; simp at hb)
        have hkeep : ∀ k, k < w.heap.size → ¬ M k → w'.heap[k]? = w.heap[k]? ∧ ¬ M k := fun k hk hM => ⟨hsame k hk, hM⟩
        have hrC := closed_rep hrep hcr
        refine hnext v w' M β cp ⟨⟨hh.out, fun b o hb => ?_, hh.inj, fun k hk => Nat.lt_of_lt_of_le (hh.dom k hk) hak.ext.size⟩, hkeep, fun _ _ => ⟨rfl, rfl⟩, ⟨hak.ext.os, hak.ext.tape, hak.ext.output, hak.ext.size, fun k hk _ => hsame k hk, fun _ h => h, fun _ h => .inl h⟩, fun _ h => .inl h, fun _ h1 h2 => absurd h1 h2⟩ (.c ?_)
        · by_cases ho : o.live = true
          · exact (hh.obj b o hb).keep hkeep (fun _ _ => ⟨rfl, rfl⟩) id fun g hg => ⟨hsame g (blk_lt hh hb ho hg).1, id⟩
          · cases o with
            | dead => trivial
            | blk cs => exact absurd rfl ho
            | vec _ _ _ _ => exact absurd rfl ho
        · rcases hls with rfl | hns
          · exact hrC.keep fun k _ hM => ⟨rfl, fun h => hM (hak.ext.sub k ⟨h, by rintro ⟨b, hb, _⟩; cases hb⟩)⟩
          · exact noSl_repC hrC hns
      split
      · exact fun hqp => key (.inl rfl) ‹closed _ = true› hqp
      · exact fun hqp => key (.inr ‹noSl _ = true›) ‹closed _ = true› hqp
      · trivial
    · trivial
  · trivial

theorem stepD_sound (hE : EnvOk P E) (hZ : Zl E) (hD : DetOk P det) (hh : HeapRel w M β cp h) (hn : nid ≤ h.length) (hd : β nid = none) (ht : ∀ t, Rep w M β cp (lk s t) (a.tmps.getD t undef)) :
    (stepD E det o s h nid).Sound (GoodD P o a w M β cp h nid) := by
  have hx := fun x => ev_rep (a := a) ht x
  have hs := step_sound (o := o) (nid := nid) hE hh hn hd hx
  have good : ∀ v c, Good P o a w M β cp h nid v c → GoodD P o a w M β cp h nid v c := by
    rintro v c ⟨n, v', w', M', β', cp', hr, hnv, haf, hrep⟩ next Q hnext
    unfold Oper.wp
    rw [hr]
    rcases hnv with rfl | ⟨rfl, rfl⟩
    · exact hnext _ _ _ _ _ haf hrep
    · exact hnext _ _ _ _ _ haf hrep
  unfold stepD
  split
  · rename_i v c he; rw [he] at hs; exact good v c hs
  · rename_i p v c he; rw [he] at hs; exact fun hp => good v c (hs hp)
  · split
    · rename_i c ho
      split
      · rename_i f hc
        split
        · rename_i d hdf
          split
          · rename_i q l A hl
            split
            · rename_i p r hcl hdA
              obtain ⟨hent, hpc⟩ := hD f _ hdf
              have hargs : RepL w M β cp (c.args.toList.map (ev s)) (c.args.map a.eval).toList := ⟨by simp, fun j x hj => by
                simp only [List.getElem?_map, Option.map_eq_some_iff] at hj
                obtain ⟨y, hy, rfl⟩ := hj
                have : (c.args.map a.eval).toList[j]? = some (a.eval y) := by rw [Array.toList_map, List.getElem?_map, hy]; rfl
                rw [List.getD_eq_getElem?_getD, this]
                exact hx y⟩
              have key : (l = [] ∨ noSl r = true) → closed r = true → conj q p () → GoodD P o a w M β cp h nid r .no := by
                intro hls hcr hqp next Q hnext
                obtain ⟨hq, hp⟩ := conj_out hqp
                have hr : (execOp a.eval o).run P w = .ok (.enter f (c.args.map a.eval)) w := by
                  simp [execOp, ho, resolve, hc, Act.eval, Deferred.ofValue, invoke, run_callFunc hent]
                unfold Oper.wp
                rw [hr, Oper.upon_enter]
                have hA' := lowerL_rep hh _ q l A hl hq l (fun _ h => h) _ hargs
                have hA2 : RepL w (fun k => M k ∧ ¬ Lent β l k) (fun _ => none) (fun _ => 0) A (c.args.map a.eval).toList := ⟨hA'.1, fun j x hj => .c (closed_rep (hA'.2 j x hj) (closedL_get hcl hj))⟩
                have hpc' := hpc A (fun r' H' => r' = r ∧ H' = []) (by unfold detPC; rw [hdA]; exact .mk hp ⟨rfl, rfl⟩)
                refine (hpc' w (fun k => M k ∧ ¬ Lent β l k) (fun _ => none) (fun _ => 0) _ ⟨fun _ _ => rfl, fun b o hb => by simp at hb, fun b b' o o' g hb => by simp at hb, fun k hk => hh.dom k hk.1⟩ hA2).mono ?_
                rintro e w' ⟨v, r', H', kl, M', β', cp', rfl, ⟨rfl, rfl⟩, hh', hak, hrep⟩
                have hsame : ∀ k, k < w.heap.size → w'.heap[k]? = w.heap[k]? := fun k hk => hak.ext.block k hk (by rintro ⟨b, o, hb, _⟩; simp at hb)
                have hkeep : ∀ k, k < w.heap.size → ¬ M k → w'.heap[k]? = w.heap[k]? ∧ ¬ M k := fun k hk hM => ⟨hsame k hk, hM⟩
                have hrC := closed_rep hrep hcr
                refine hnext v w' M β cp ⟨⟨hh.out, fun b o hb => ?_, hh.inj, fun k hk => Nat.lt_of_lt_of_le (hh.dom k hk) hak.ext.size⟩, hkeep, fun _ _ => ⟨rfl, rfl⟩, ⟨hak.ext.os, hak.ext.tape, hak.ext.output, hak.ext.size, fun k hk _ => hsame k hk, fun _ h => h, fun _ h => .inl h⟩, fun _ h => .inl h, fun _ h1 h2 => absurd h1 h2⟩ (.c ?_)
                · by_cases ho : o.live = true
                  · exact (hh.obj b o hb).keep hkeep (fun _ _ => ⟨rfl, rfl⟩) id fun g hg => ⟨hsame g (blk_lt hh hb ho hg).1, id⟩
                  · cases o with
                    | dead => trivial
                    | blk cs => exact absurd rfl ho
                    | vec _ _ _ _ => exact absurd rfl ho
                · rcases hls with rfl | hns
                  · exact hrC.keep fun k _ hM => ⟨rfl, fun h => hM (hak.ext.sub k ⟨h, by rintro ⟨b, hb, _⟩; cases hb⟩)⟩
                  · exact noSl_repC hrC hns
              split
              · exact fun hqp => key (.inl rfl) ‹closed _ = true› hqp
              · exact fun hqp => key (.inr ‹noSl _ = true›) ‹closed _ = true› hqp
              · trivial
            · trivial
          · trivial
        · rename_i d hdf
          split
          · rename_i q l A hl
            split
            · rename_i p r hcl hdA
              obtain ⟨hent, hpc⟩ := hD f _ hdf
              have hargs : RepL w M β cp (c.args.toList.map (ev s)) (c.args.map a.eval).toList := ⟨by simp, fun j x hj => by
                simp only [List.getElem?_map, Option.map_eq_some_iff] at hj
                obtain ⟨y, hy, rfl⟩ := hj
                have : (c.args.map a.eval).toList[j]? = some (a.eval y) := by rw [Array.toList_map, List.getElem?_map, hy]; rfl
                rw [List.getD_eq_getElem?_getD, this]
                exact hx y⟩
              intro hqp next Q hnext
              obtain ⟨hq, hp⟩ := conj_out hqp
              have hr : (execOp a.eval o).run P w = .ok (.enter f (c.args.map a.eval)) w := by
                simp [execOp, ho, resolve, hc, Act.eval, Deferred.ofValue, invoke, run_callFunc hent]
              unfold Oper.wp
              rw [hr, Oper.upon_enter]
              refine (fr_after (nid := nid) (hpc A p r hdA hp) hh hargs hl hq hcl).mono ?_
              rintro x w' ⟨v, rfl, haf, hrep⟩
              exact hnext v w' M β cp haf hrep
            · trivial
          · trivial
        · rename_i d hdf
          split
          · rename_i q l A hl
            split
            · rename_i p r e sz n g hcl hdA
              obtain ⟨hent, hpc⟩ := hD f _ hdf
              have hargs : RepL w M β cp (c.args.toList.map (ev s)) (c.args.map a.eval).toList := ⟨by simp, fun j x hj => by
                simp only [List.getElem?_map, Option.map_eq_some_iff] at hj
                obtain ⟨y, hy, rfl⟩ := hj
                have : (c.args.map a.eval).toList[j]? = some (a.eval y) := by rw [Array.toList_map, List.getElem?_map, hy]; rfl
                rw [List.getD_eq_getElem?_getD, this]
                exact hx y⟩
              have key : (l = [] ∨ (noSl r = true ∧ ∀ i, i < n () → noSlL (g fun _ => i) = true)) → (∀ x ∈ q, x ()) → p () → GoodD P o a w M β cp h nid (r.shift nid) (.new (.vec e sz n g)) := by
                intro hls hq hp next Q hnext
                have hr : (execOp a.eval o).run P w = .ok (.enter f (c.args.map a.eval)) w := by
                  simp [execOp, ho, resolve, hc, Act.eval, Deferred.ofValue, invoke, run_callFunc hent]
                unfold Oper.wp
                rw [hr, Oper.upon_enter]
                refine (callN_after (f := f) (d := d) hpc hh hn hd hargs hl hq hcl hdA hp hls).mono ?_
                rintro x w' ⟨v, M2, β2, cp2, rfl, haf, hrep⟩
                exact hnext v w' M2 β2 cp2 haf hrep
              split
              · exact fun hqp => key (.inl rfl) (conj_out hqp).1 (conj_out hqp).2
              · exact fun hqp => key (.inr ⟨‹noSl _ = true›, (conj_out hqp).2.2⟩) (conj_out hqp).1 (conj_out hqp).2.1
              · trivial
            · trivial
          · trivial
        · rename_i d hdf
          obtain ⟨hent, hpc⟩ := hD f _ hdf
          have hargs : RepL w M β cp (c.args.toList.map (ev s)) (c.args.map a.eval).toList := ⟨by simp, fun j x hj => by
            simp only [List.getElem?_map, Option.map_eq_some_iff] at hj
            obtain ⟨y, hy, rfl⟩ := hj
            have : (c.args.map a.eval).toList[j]? = some (a.eval y) := by rw [Array.toList_map, List.getElem?_map, hy]; rfl
            rw [List.getD_eq_getElem?_getD, this]
            exact hx y⟩
          unfold ownD
          split
          · rename_i b n rest hoa
            split
            · rename_i e sz m g hb0
              split
              · rename_i p N O hcl hdA
                split
                · rename_i e' sz' m' g'
                  intro hp next Q hnext
                  have hA : RepL w M β cp (.own b n :: rest) (c.args.map a.eval).toList := by
                    generalize c.args.toList.map (ev s) = A0 at hargs hoa
                    unfold ownArg at hoa
                    split at hoa
                    · cases hoa; exact hargs
                    · cases hoa
                  have hr : (execOp a.eval o).run P w = .ok (.enter f (c.args.map a.eval)) w := by
                    simp [execOp, ho, resolve, hc, Act.eval, Deferred.ofValue, invoke, run_callFunc hent]
                  unfold Oper.wp
                  rw [hr, Oper.upon_enter]
                  refine (callO_after (f := f) (hpc n e sz m g rest p N _ hcl hdA hp) hh hn hd hcl (nth_some hb0 rfl) hA).mono ?_
                  rintro x w' ⟨v, M2, β2, cp2, rfl, haf, hrep⟩
                  exact hnext v w' M2 β2 cp2 haf hrep
                · trivial
              · trivial
            · trivial
          · trivial
        · trivial
      · rename_i hcal
        split
        · rename_i b q n O ha
          intro hq
          obtain ⟨g, cur, cur', e, sz, k, f, F, a1, rfl, a3, a4, a5, a6, a7, a8, a9, a10, a11, a12, a13, a14⟩ := inRow_run hE ‹_› hcal hh hx ha hq
          have h2 := after_mv hh hn hd a1 a3 a4 a5 a6 a7 a8 a9 a10 a11 a12
          refine good _ _ ⟨_, _, _, M, _, _, a14, .inl rfl, h2, ?_⟩
          have := Rep.nn (w := w.setRow g cur') (M := M) (β := updO β nid (some g)) (cp := updN cp nid (cp b)) nid n g (by simp [updO]) (by simp only [updN, if_true]; omega)
          simpa [updN] using this
        · have ha := appD_sound (o := o) (nid := nid) hE ‹_› hcal hh hn hd hx hZ.zl
          revert ha
          generalize appD E _ s h nid = R
          intro ha
          cases R with
          | bad n => trivial
          | ok v c => exact good v c ha
          | ob p v c => exact fun hp => good v c (ha hp)
      · rename_i hcal
        have ha := copyR_sound (o := o) (nid := nid) hE ‹_› hcal hh hx
        revert ha
        generalize aCopyR E _ s h = R
        intro ha
        cases R with
        | bad n => trivial
        | ok v c => exact good v c ha
        | ob p v c => exact fun hp => good v c (ha hp)
      · rename_i t hcal
        split
        · rename_i f d hfn
          have hargs : RepL w M β cp (c.args.toList.map (ev s)) (c.args.map a.eval).toList := ⟨by simp, fun j x hj => by
            simp only [List.getElem?_map, Option.map_eq_some_iff] at hj
            obtain ⟨y, hy, rfl⟩ := hj
            have : (c.args.map a.eval).toList[j]? = some (a.eval y) := by rw [Array.toList_map, List.getElem?_map, hy]; rfl
            rw [List.getD_eq_getElem?_getD, this]
            exact hx y⟩
          have hv := ht t
          generalize lk s t = X at hv hfn
          unfold fnOf at hfn
          split at hfn
          · rename_i f0
            split at hfn
            · rename_i d0 hdf
              cases hfn
              obtain ⟨hent, hpc⟩ := hD f _ hdf
              have hvv : a.tmps.getD t undef = .func (.func f) #[] #[] := fn_rep hv
              have hr : (execOp a.eval o).run P w = .ok (.enter f (c.args.map a.eval)) w := by
                simp [execOp, ho, resolve, hcal, Act.eval, hvv, Deferred.ofValue, invoke, run_callFunc hent]
              exact detD_sound hpc hh hargs hr
            · cases hfn
          · cases hfn
        · trivial
      · trivial
    · trivial


theorem src_agree {sz : Nat} {h h' : Hp} {Y : AV} (hb : ∀ b ∈ ids Y, nth .dead h b = nth .dead h' b) : src sz h Y = src sz h' Y := by
  cases Y <;> simp only [src]
  all_goals rw [hb _ (by simp [ids])]

theorem load_agree {T : Ty} {h h' : Hp} {X : AV} (hb : ∀ b ∈ ids X, nth .dead h b = nth .dead h' b) : aLoad T h X = aLoad T h' X := by
  cases X <;> simp only [aLoad]
  all_goals rw [hb _ (by simp [ids])]
theorem store_agree {T : Ty} {h h' : Hp} {X V : AV} (hb : ∀ b ∈ ids X, nth .dead h b = nth .dead h' b) : aStore T h X V = aStore T h' X V := by
  cases X <;> simp only [aStore]
  all_goals rw [hb _ (by simp [ids])]

mutual
theorem lower_agree {h h' : Hp} : ∀ (X : AV), (∀ b ∈ ids X, nth .dead h b = nth .dead h' b) → lower h X = lower h' X
  | .own b n, hb => by simp only [lower]; rw [hb b (by simp [ids])]
  | .vw b _ _ _, hb => by simp only [lower]; rw [hb b (by simp [ids])]
  | .agg l, hb => by simp only [lower]; rw [lowerL_agree l (fun b h => hb b (by simpa [ids] using h))]
  | .any, _ => rfl
  | .bc _, _ => rfl
  | .b _, _ => rfl
  | .i _ _, _ => rfl
  | .s _, _ => rfl
  | .nil, _ => rfl
  | .con _, _ => rfl
  | .tup _, _ => rfl
  | .ptr _ _, _ => rfl
  | .ept _ _ _ _, _ => rfl
  | .nn _ _, _ => rfl
  | .sl _ _ _, _ => rfl
  | .rp _, _ => rfl
  | .fn _ _, _ => rfl
  | .ite _ _ _, _ => rfl
theorem lowerL_agree {h h' : Hp} : ∀ (l : List AV), (∀ b ∈ idsL l, nth .dead h b = nth .dead h' b) → lower.lowerL h l = lower.lowerL h' l
  | [], _ => rfl
  | x :: l, hb => by
    simp only [lower.lowerL]
    rw [lower_agree x (fun b h => hb b (by simp [idsL, h])), lowerL_agree l (fun b h => hb b (by simp [idsL, h]))]
end

theorem idsAt_mem {s : Tm} {b : Nat} {x : Operand} : ∀ {l : List Operand}, x ∈ l → b ∈ ids (ev s x) → b ∈ idsAt s l
  | [], hx, _ => by simp at hx
  | y :: l, hx, hb => by
    rcases List.mem_cons.1 hx with rfl | hx
    · simp [idsAt, hb]
    · simp [idsAt, idsAt_mem hx hb]
theorem idsAt_map {s : Tm} {b : Nat} : ∀ {l : List Operand}, b ∈ idsL (l.map (ev s)) → b ∈ idsAt s l
  | [], h => by simp [idsL] at h
  | x :: l, h => by
    simp only [List.map_cons, idsL, List.mem_append] at h
    simp only [idsAt, List.mem_append]
    exact h.imp id idsAt_map

theorem step_agree {s s' : Tm} {h h' : Hp} (hs : ∀ x ∈ o.op.operands.toList, ev s' x = ev s x) (hb : ∀ b ∈ idsAt s o.op.operands.toList, nth .dead h' b = nth .dead h b) : step E o s' h' nid = step E o s h nid := by
  cases ho : o.op <;> simp only [step, ho]
  case move x => rw [hs x (by simp [ho, Op.operands])]
  case assign x => rw [hs x (by simp [ho, Op.operands])]
  case pick c x y => rw [hs c (by simp [ho, Op.operands]), hs x (by simp [ho, Op.operands]), hs y (by simp [ho, Op.operands])]
  case box t x => rw [hs x (by simp [ho, Op.operands])]
  case build t ps =>
    have : (ps.toList.map fun p => (p.1, ev s' p.2)) = ps.toList.map fun p => (p.1, ev s p.2) := List.map_congr_left fun p hp => by
      rw [hs p.2 (by simp only [ho, Op.operands]; exact List.mem_map.2 ⟨p, hp, rfl⟩)]
    rw [this]
  case buildSlice t n ps =>
    have : (ps.toList.map fun p => (p.1, ev s' p.2)) = ps.toList.map fun p => (p.1, ev s p.2) := List.map_congr_left fun p hp => by
      rw [hs p.2 (by simp only [ho, Op.operands]; exact List.mem_map.2 ⟨p, hp, rfl⟩)]
    split
    · split
      · rfl
      · rename_i x hps
        rw [hs x (by simp [ho, Op.operands, hps])]
      · rw [this]
    · rfl
  case load t x => rw [hs x (by simp [ho, Op.operands])]; exact load_agree fun b h => hb b (idsAt_mem (x := x) (by simp [ho, Op.operands]) h)
  case store t x y =>
    rw [hs x (by simp [ho, Op.operands]), hs y (by simp [ho, Op.operands])]
    exact store_agree fun b h => hb b (idsAt_mem (x := x) (by simp [ho, Op.operands]) h)
  case nilCheck x => rw [hs x (by simp [ho, Op.operands])]
  case binOp op t x y t' => rw [hs x (by simp [ho, Op.operands]), hs y (by simp [ho, Op.operands])]
  case unOp op t x => rw [hs x (by simp [ho, Op.operands])]
  case convert t t' x =>
    rw [hs x (by simp [ho, Op.operands])]
    split
    · rfl
    · rfl
    · split
      · have hb' : ∀ b ∈ ids (ev s x), nth .dead h' b = nth .dead h b := fun b h => hb b (idsAt_mem (x := x) (by simp [ho, Op.operands]) h)
        revert hb'
        generalize ev s x = X
        intro hb'
        unfold aToStr
        cases X
        case own b n => dsimp only; rw [hb' b (by simp [ids])]
        all_goals rfl
      · rfl
    · rfl
  case makeSlice t x y => rw [hs x (by simp [ho, Op.operands]), hs y (by simp [ho, Op.operands])]
  case fieldAddr t x k => rw [hs x (by simp [ho, Op.operands])]
  case indexAddr t x y =>
    rw [hs x (by simp [ho, Op.operands]), hs y (by simp [ho, Op.operands])]
    split
    · have hb' : ∀ b ∈ ids (ev s x), nth .dead h' b = nth .dead h b := fun b h => hb b (idsAt_mem (x := x) (by simp [ho, Op.operands]) h)
      revert hb'
      generalize ev s x = X
      generalize ev s y = Y
      intro hb'
      cases X
      case own b n => cases Y <;> first | rfl | (dsimp only; rw [hb' b (by simp [ids])])
      all_goals (cases Y <;> rfl)
    · rfl
  case extract x k => rw [hs x (by simp [ho, Op.operands])]
  case index t x y => rw [hs x (by simp [ho, Op.operands]), hs y (by simp [ho, Op.operands])]
  case slice t x lo hi mx =>
    have e : ∀ y : Option Operand, (∀ z, y = some z → z ∈ o.op.operands.toList) → evO s' y = evO s y := by
      intro y hy
      cases y with
      | none => rfl
      | some z => simp only [evO]; rw [hs z (hy z rfl)]
    rw [hs x (by simp [ho, Op.operands]), e lo (by rintro z rfl; simp [ho, Op.operands]), e hi (by rintro z rfl; simp [ho, Op.operands])]
    cases mx with
    | none =>
      have hb' : ∀ b ∈ ids (ev s x), nth .dead h' b = nth .dead h b := fun b h => hb b (idsAt_mem (x := x) (by simp [ho, Op.operands]) h)
      have er : rowsOf h' (ev s x) = rowsOf h (ev s x) := by
        revert hb'
        generalize ev s x = X
        intro hb'
        cases X
        case nn b n => simp only [rowsOf]; rw [hb' b (by simp [ids])]
        all_goals rfl
      dsimp only
      rw [er]
    | some z => dsimp only; rw [hs z (by simp [ho, Op.operands])]
  case call c =>
    have hc : ∀ y ∈ c.args.toList, ev s' y = ev s y := fun y hy => hs y (by simp [ho, Op.operands, Call.operands]; right; simpa using hy)
    split
    · split
      · rename_i t x _ hx; rw [hc x (by simp [hx])]
      · rfl
    · split
      · split
        · split
          · rename_i x y z hx; rw [hc x (by simp [hx]), hc y (by simp [hx]), hc z (by simp [hx])]
          · rfl
        · rfl
      · rfl
    · split
      · rename_i x y hx; rw [hc x (by simp [hx]), hc y (by simp [hx])]
      · rfl
    · split
      · rename_i x y hx; rw [hc x (by simp [hx]), hc y (by simp [hx])]
      · rfl
    · rfl

theorem stepD_agree {s s' : Tm} {h h' : Hp} (hs : ∀ x ∈ o.op.operands.toList, ev s' x = ev s x) (hb : ∀ b ∈ idsAt s o.op.operands.toList, nth .dead h' b = nth .dead h b) : stepD E det o s' h' nid = stepD E det o s h nid := by
  unfold stepD
  rw [step_agree hs hb]
  split
  · rfl
  · rfl
  · split
    · rename_i c ho
      split
      · rename_i f hcal
        have hc : c.args.toList.map (ev s') = c.args.toList.map (ev s) := List.map_congr_left fun y hy => hs y (by simp [ho, Op.operands, Call.operands]; right; simpa using hy)
        rw [hc]
        split
        · rw [lowerL_agree (h := h') (h' := h) _ fun b hm => hb b (by
            have := idsAt_map hm
            have e : o.op.operands.toList = .func f :: c.args.toList := by simp [ho, Op.operands, Call.operands, hcal]
            rw [e]
            simp [idsAt, ev, ids, idsL, this])]
        · rw [lowerL_agree (h := h') (h' := h) _ fun b hm => hb b (by
            have := idsAt_map hm
            have e : o.op.operands.toList = .func f :: c.args.toList := by simp [ho, Op.operands, Call.operands, hcal]
            rw [e]
            simp [idsAt, ev, ids, idsL, this])]
        · rw [lowerL_agree (h := h') (h' := h) _ fun b hm => hb b (by
            have := idsAt_map hm
            have e : o.op.operands.toList = .func f :: c.args.toList := by simp [ho, Op.operands, Call.operands, hcal]
            rw [e]
            simp [idsAt, ev, ids, idsL, this])]
        · unfold ownD
          split
          · rename_i b n rest hoa
            have hbm : b ∈ idsL (c.args.toList.map (ev s)) := by
              generalize c.args.toList.map (ev s) = A0 at hoa
              unfold ownArg at hoa
              split at hoa
              · cases hoa; simp [idsL, ids]
              · cases hoa
            rw [hb b (by
              have := idsAt_map hbm
              have e : o.op.operands.toList = .func f :: c.args.toList := by simp [ho, Op.operands, Call.operands, hcal]
              rw [e]
              simp [idsAt, ev, ids, idsL, this])]
          · rfl
        · rfl
      · rename_i hcal
        have hc : ∀ y ∈ c.args.toList, ev s' y = ev s y := fun y hy => hs y (by simp [ho, Op.operands, Call.operands]; right; simpa using hy)
        have hi : ∀ y ∈ c.args.toList, ∀ b ∈ ids (ev s y), nth .dead h' b = nth .dead h b := fun y hy b hm => hb b (idsAt_mem (x := y) (by simp [ho, Op.operands, Call.operands]; right; simpa using hy) hm)
        have er : aInRow E c s' h' = aInRow E c s h := by
          unfold aInRow
          split
          · rename_i t t' x y _ hxy
            rw [hc x (by simp [hxy]), hc y (by simp [hxy])]
            have ix := hi x (by simp [hxy])
            revert ix
            generalize ev s x = X
            intro ix
            split
            · rw [ix _ (by simp [ids])]
            · rfl
          · rfl
        rw [er]
        split
        · rfl
        unfold appD
        split
        · rename_i t t' x y _ hxy
          have ex := hc x (by simp [hxy])
          have ey := hc y (by simp [hxy])
          have ix := hi x (by simp [hxy])
          have iy := hi y (by simp [hxy])
          rw [ex, ey]
          split
          · rw [src_agree iy]
            split
            · revert ix
              generalize ev s x = X
              intro ix
              cases X <;> first | rfl | (dsimp only; rw [ix _ (by simp [ids])])
            · rfl
          · rfl
        · rfl
      · rename_i hcal
        have hc : ∀ y ∈ c.args.toList, ev s' y = ev s y := fun y hy => hs y (by simp [ho, Op.operands, Call.operands]; right; simpa using hy)
        have hi : ∀ y ∈ c.args.toList, ∀ b ∈ ids (ev s y), nth .dead h' b = nth .dead h b := fun y hy b hm => hb b (idsAt_mem (x := y) (by simp [ho, Op.operands, Call.operands]; right; simpa using hy) hm)
        unfold aCopyR
        split
        · rename_i t t' x y _ hxy
          have ex := hc x (by simp [hxy])
          have ey := hc y (by simp [hxy])
          have ix := hi x (by simp [hxy])
          have iy := hi y (by simp [hxy])
          rw [ex, ey]
          split
          · rw [src_agree iy]
            revert ix
            generalize ev s x = X
            intro ix
            split
            · rename_i b p n hd
              have hbi : b ∈ ids X := by
                unfold dstV at hd
                split at hd
                · simp only [Option.some.injEq, Prod.mk.injEq] at hd
                  obtain ⟨rfl, _, _⟩ := hd
                  simp [ids]
                · split at hd
                  · simp only [Option.some.injEq, Prod.mk.injEq] at hd
                    obtain ⟨rfl, _, _⟩ := hd
                    simp [ids]
                  · cases hd
                · cases hd
              rw [ix _ hbi]
            · rfl
          · rfl
        · rfl
      · rename_i t hcal
        have hc : c.args.toList.map (ev s') = c.args.toList.map (ev s) := List.map_congr_left fun y hy => hs y (by simp [ho, Op.operands, Call.operands]; right; simpa using hy)
        have et : lk s' t = lk s t := hs (.tmp t) (by simp [ho, Op.operands, Call.operands, hcal])
        rw [hc, et]
        split
        · unfold detD
          rw [lowerL_agree (h := h') (h' := h) _ fun b hm => hb b (by
            have := idsAt_map hm
            have e : o.op.operands.toList = .tmp t :: c.args.toList := by simp [ho, Op.operands, Call.operands, hcal]
            rw [e]
            simp [idsAt, this])]
        · rfl
      · rfl
    · rfl

theorem stepD_agreeR {s s' : Tm} {h h' : Hp} (hs : ∀ x ∈ o.op.operands.toList, ev s' x = ev s x) (hb : ∀ b ∈ rhAt s o, nth .dead h' b = nth .dead h b) : stepD E det o s' h' nid = stepD E det o s h nid := by
  by_cases hm : ∃ x, o.op = .move x
  · obtain ⟨x, hx⟩ := hm
    have e := hs x (by simp [hx, Op.operands])
    simp only [stepD, step, hx, e]
  · refine stepD_agree hs fun b h1 => hb b ?_
    unfold rhAt
    split
    · rename_i x hx; exact absurd ⟨x, hx⟩ hm
    · exact h1
end
end Go.Abs
