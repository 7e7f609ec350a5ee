/- An abstract interpreter over the model's Code: abstract values, abstract heaps, and what it means that they stand for values and worlds. No program in sight. -/
import Derived.Calls
import Derived.Orders
import Derived.Below
import Derived.Laws.AppendOwn
set_option linter.all false
namespace Go.Abs
open Go

abbrev Th (α : Type) := Unit → α

inductive AV where
  | any
  | bc (b : Bool)
  | b (x : Th Bool)
  | i (k : IntKind) (n : Th Int)
  | s (x : Th ByteArray)
  | nil
  | con (x : Th Value)
  | agg (l : List AV)
  | tup (l : List AV)
  | ptr (b o : Nat)
  | ept (b sz : Nat) (i : Th Nat) (o : Nat)
  | own (b : Nat) (n : Th Nat)
  | vw (b sz : Nat) (o n : Th Nat)
  | nn (b : Nat) (n : Th Nat)
  | sl (sz : Nat) (n : Th Nat) (f : Th Nat → List AV)
  | rp (l : List AV)
  | fn (f : FuncId) (l : List AV)
  | ite (c : Th Bool) (x y : AV)
  deriving Inhabited

inductive AObj where
  | dead
  | blk (cs : List AV)
  | vec (e : TypeId) (sz : Nat) (n : Th Nat) (f : Th Nat → List AV)
  deriving Inhabited

abbrev Tm := List (Nat × AV)
abbrev Hp := List AObj

/-- A closed abstract value (no object's number in it) stands for a value, in a world; 'M': the blocks that may still be written: what is read as data lies in none of them. -/
inductive RepC (w : World) (M : Nat → Prop) : AV → Value → Prop where
  | any (v : Value) : RepC w M .any v
  | bc (b : Bool) : RepC w M (.bc b) (.bool b)
  | b (x : Th Bool) : RepC w M (.b x) (.bool (x ()))
  | i (k : IntKind) (n : Th Int) : RepC w M (.i k n) (.int k (n ()))
  | s (x : Th ByteArray) : RepC w M (.s x) (.string (x ()))
  | nil : RepC w M .nil (.slice none 0 0)
  | ite (c : Th Bool) (x y : AV) (v : Value) (h1 : c () = true → RepC w M x v) (h2 : c () = false → RepC w M y v) : RepC w M (.ite c x y) v
  | con (x : Th Value) (hx : (x ()).oneCell' = true) : RepC w M (.con x) (x ())
  | agg (l : List AV) (cs : Array Value) (hl : cs.size = l.length) (ho : ∀ v ∈ cs, v.oneCell' = true) (h : ∀ (j : Nat) (x : AV), l[j]? = some x → RepC w M x (cs.getD j undef)) : RepC w M (.agg l) (.agg cs)
  | tup (l : List AV) (cs : Array Value) (hl : cs.size = l.length) (h : ∀ (j : Nat) (x : AV), l[j]? = some x → RepC w M x (cs.getD j undef)) : RepC w M (.tup l) (.tuple cs)
  | sl0 (sz : Nat) (n : Th Nat) (f : Th Nat → List AV) (a : Option Addr) (c : Nat) (hn : n () = 0) (hc : c ≤ maxLen) : RepC w M (.sl sz n f) (.slice a 0 c)
  | sl (sz : Nat) (n : Th Nat) (f : Th Nat → List AV) (a : Addr) (c : Nat) (u : Nat → Nat → Value) (hM : ¬ M a.block) (hsz : 0 < sz) (hn : n () ≤ c) (hc : c ≤ maxLen)
      (hlen : ∀ i : Nat, i < n () → (f fun _ => i).length = sz) (hcell : ∀ i j, i < n () → j < sz → w.cell? (a.add (i * sz + j)) = some (u i j)) (ho : ∀ i j, i < n () → j < sz → (u i j).oneCell' = true)
      (h : ∀ (i j : Nat) (x : AV), i < n () → (f fun _ => i)[j]? = some x → RepC w M x (u i j)) : RepC w M (.sl sz n f) (.slice (some a) (n ()) c)
  | rp (l : List AV) (a : Addr) (u : Nat → Value) (hM : ¬ M a.block) (hl : 0 < l.length) (hcell : ∀ j, j < l.length → w.cell? (a.add j) = some (u j)) (ho : ∀ j, j < l.length → (u j).oneCell' = true)
      (h : ∀ (j : Nat) (x : AV), l[j]? = some x → RepC w M x (u j)) : RepC w M (.rp l) (.pointer (some a))

/-- An abstract value stands for a value: 'β': where an abstract object lies; 'cp': its capacity. -/
inductive Rep (w : World) (M : Nat → Prop) (β : Nat → Option Nat) (cp : Nat → Nat) : AV → Value → Prop where
  | c {x : AV} {v : Value} (h : RepC w M x v) : Rep w M β cp x v
  | ite (c : Th Bool) (x y : AV) (v : Value) (h1 : c () = true → Rep w M β cp x v) (h2 : c () = false → Rep w M β cp y v) : Rep w M β cp (.ite c x y) v
  | agg (l : List AV) (cs : Array Value) (hl : cs.size = l.length) (ho : ∀ v ∈ cs, v.oneCell' = true) (h : ∀ (j : Nat) (x : AV), l[j]? = some x → Rep w M β cp x (cs.getD j undef)) : Rep w M β cp (.agg l) (.agg cs)
  | tup (l : List AV) (cs : Array Value) (hl : cs.size = l.length) (h : ∀ (j : Nat) (x : AV), l[j]? = some x → Rep w M β cp x (cs.getD j undef)) : Rep w M β cp (.tup l) (.tuple cs)
  | ptr (b o g : Nat) (h : β b = some g) : Rep w M β cp (.ptr b o) (.pointer (some ⟨g, o, none⟩))
  | ept (b sz : Nat) (i : Th Nat) (o g : Nat) (h : β b = some g) : Rep w M β cp (.ept b sz i o) (.pointer (some ⟨g, i () * sz + o, none⟩))
  | fn (f : FuncId) (l : List AV) (cs : Array Value) (hl : cs.size = l.length) (h : ∀ (j : Nat) (x : AV), l[j]? = some x → Rep w M β cp x (cs.getD j undef)) : Rep w M β cp (.fn f l) (.func (.func f) #[] cs)
  | own0 (b : Nat) (n : Th Nat) (hn : n () = 0) : Rep w M β cp (.own b n) (.slice none 0 0)
  | vw0 (b sz : Nat) (o n : Th Nat) (a : Option Addr) (c : Nat) (hn : n () = 0) (hc : c ≤ maxLen) : Rep w M β cp (.vw b sz o n) (.slice a 0 c)
  | nn (b : Nat) (n : Th Nat) (g : Nat) (h : β b = some g) (hn : n () ≤ cp b) : Rep w M β cp (.nn b n) (.slice (some ⟨g, 0, none⟩) (n ()) (cp b))
  | vw (b sz : Nat) (o n : Th Nat) (g : Nat) (h : β b = some g) (hn : o () + n () ≤ cp b) : Rep w M β cp (.vw b sz o n) (.slice (some ⟨g, o () * sz, none⟩) (n ()) (cp b - o ()))
  | own (b : Nat) (n : Th Nat) (g : Nat) (h : β b = some g) (hn : n () ≤ cp b) : Rep w M β cp (.own b n) (.slice (some ⟨g, 0, none⟩) (n ()) (cp b))

/-- Cells that stand for a list of abstract values. -/
def RepL (w : World) (M : Nat → Prop) (β : Nat → Option Nat) (cp : Nat → Nat) (l : List AV) (vs : List Value) : Prop :=
  vs.length = l.length ∧ ∀ (j : Nat) (x : AV), l[j]? = some x → Rep w M β cp x (vs.getD j undef)

/-- An abstract object stands for a block. -/
def ObjRel (w : World) (M : Nat → Prop) (β : Nat → Option Nat) (cp : Nat → Nat) (b : Nat) : AObj → Prop
  | .dead => True
  | .blk cs => ∃ g cur t, β b = some g ∧ M g ∧ w.heap[g]? = some (.cells cur t (0, 0)) ∧ RepL w M β cp cs cur.toList ∧ ∀ v ∈ cur, v.oneCell' = true
  | .vec e sz n f => (β b = none ∧ n () = 0) ∨ ∃ g cur, β b = some g ∧ M g ∧ w.heap[g]? = some (.cells cur e (0, 0)) ∧ cur.size = cp b * sz ∧ (∀ k, k < n () * sz → (cur.getD k undef).oneCell' = true) ∧ n () ≤ cp b ∧ cp b ≤ maxLen ∧
      (∀ i : Nat, i < n () → (f fun _ => i).length = sz) ∧ ∀ (i j : Nat) (x : AV), i < n () → (f fun _ => i)[j]? = some x → RepC w M x (cur.getD (i * sz + j) undef)

def AObj.live : AObj → Bool | .dead => false | _ => true

structure HeapRel (w : World) (M : Nat → Prop) (β : Nat → Option Nat) (cp : Nat → Nat) (h : Hp) : Prop where
  out : ∀ b, h.length ≤ b → β b = none
  obj : ∀ (b : Nat) (o : AObj), h[b]? = some o → ObjRel w M β cp b o
  inj : ∀ (b b' : Nat) (o o' : AObj) (g : Nat), h[b]? = some o → h[b']? = some o' → o.live = true → o'.live = true → β b = some g → β b' = some g → b = b'
  dom : ∀ k, M k → k < w.heap.size

/-- What a piece of a call leaves of the world in which it began: B: the blocks that it was let write. -/
structure Ext (w0 : World) (M0 B : Nat → Prop) (w : World) (M : Nat → Prop) : Prop where
  os : w.os = w0.os
  tape : w.tape = w0.tape
  output : w.output = w0.output
  size : w0.heap.size ≤ w.heap.size
  block : ∀ k, k < w0.heap.size → ¬ B k → w.heap[k]? = w0.heap[k]?
  sub : ∀ k, M0 k → M k
  new : ∀ k, M k → M0 k ∨ w0.heap.size ≤ k

theorem Ext.refl (w : World) (M B : Nat → Prop) : Ext w M B w M := ⟨rfl, rfl, rfl, Nat.le_refl _, fun _ _ _ => rfl, fun _ h => h, fun _ h => .inl h⟩
theorem Ext.trans {w0 w1 w2 : World} {M0 M1 M2 B B1 : Nat → Prop} (h : Ext w0 M0 B w1 M1) (k : Ext w1 M1 B1 w2 M2) (hB : ∀ g, B1 g → B g ∨ w0.heap.size ≤ g) : Ext w0 M0 B w2 M2 where
  os := k.os.trans h.os
  tape := k.tape.trans h.tape
  output := k.output.trans h.output
  size := Nat.le_trans h.size k.size
  block g hg hb := (k.block g (Nat.lt_of_lt_of_le hg h.size) fun h1 => (hB g h1).elim hb (by omega)).trans (h.block g hg hb)
  sub g hg := k.sub g (h.sub g hg)
  new g hg := (k.new g hg).elim (fun h1 => h.new g h1) fun h1 => .inr (Nat.le_trans h.size h1)

theorem add_block (a : Addr) (n : Nat) : (a.add n).block = a.block := by unfold Addr.add; split <;> rfl
theorem block_lt {w : World} {a : Addr} {v : Value} (h : w.cell? a = some v) : a.block < w.heap.size := by
  unfold World.cell? at h
  rcases Nat.lt_or_ge a.block w.heap.size with h1 | h1
  · exact h1
  · rw [Array.getElem?_eq_none h1] at h; cases h

theorem RepC.keep {w w' : World} {M M' : Nat → Prop} {x : AV} {v : Value}
    (hr : RepC w M x v) (hw : ∀ k, k < w.heap.size → ¬ M k → w'.heap[k]? = w.heap[k]? ∧ ¬ M' k) : RepC w' M' x v := by
  have cell : ∀ (a : Addr) (v : Value), ¬ M a.block → w.cell? a = some v → w'.cell? a = some v ∧ ¬ M' a.block := fun a v hM h =>
    have h1 := hw a.block (block_lt h) hM
    ⟨(World.cell?_of_block h1.1).trans h, h1.2⟩
  induction hr with
  | any v => exact .any v
  | bc b => exact .bc b
  | b x => exact .b x
  | i k n => exact .i k n
  | s x => exact .s x
  | nil => exact .nil
  | ite c x y v h1 h2 ih1 ih2 => exact .ite c x y v ih1 ih2
  | con x hx => exact .con x hx
  | agg l cs hl ho h ih => exact .agg l cs hl ho ih
  | tup l cs hl h ih => exact .tup l cs hl ih
  | sl0 sz n f a c hn hc => exact .sl0 sz n f a c hn hc
  | sl sz n f a c u hM hsz hn hc hlen hcell ho h ih =>
    by_cases h0 : n () = 0
    · rw [h0]; exact .sl0 sz n f _ c h0 hc
    · have h1 := cell _ _ (by rw [add_block]; exact hM) (hcell 0 0 (by omega) (by omega))
      refine .sl sz n f a c u (by have := h1.2; rwa [add_block] at this) hsz hn hc hlen (fun i j hi hj => ?_) ho ih
      exact (cell _ _ (by rw [add_block]; exact hM) (hcell i j hi hj)).1
  | rp l a u hM hl hcell ho h ih =>
    have h1 := cell _ _ (by rw [add_block]; exact hM) (hcell 0 hl)
    exact .rp l a u (by have := h1.2; rwa [add_block] at this) hl (fun j hj => (cell _ _ (by rw [add_block]; exact hM) (hcell j hj)).1) ho ih

theorem Rep.keep {w w' : World} {M M' : Nat → Prop} {β β' : Nat → Option Nat} {cp cp' : Nat → Nat} {x : AV} {v : Value}
    (hr : Rep w M β cp x v) (hw : ∀ k, k < w.heap.size → ¬ M k → w'.heap[k]? = w.heap[k]? ∧ ¬ M' k) (hβ : ∀ b, β b ≠ none → β' b = β b ∧ cp' b = cp b) : Rep w' M' β' cp' x v := by
  induction hr with
  | c h => exact .c (h.keep hw)
  | ite c x y v h1 h2 ih1 ih2 => exact .ite c x y v ih1 ih2
  | agg l cs hl ho h ih => exact .agg l cs hl ho ih
  | tup l cs hl h ih => exact .tup l cs hl ih
  | ptr b o g h => exact .ptr b o g (by rw [(hβ b (by simp [h])).1]; exact h)
  | ept b sz i o g h => exact .ept b sz i o g (by rw [(hβ b (by simp [h])).1]; exact h)
  | fn f l cs hl h ih => exact .fn f l cs hl ih
  | own0 b n hn => exact .own0 b n hn
  | vw0 b sz o n a c hn hc => exact .vw0 b sz o n a c hn hc
  | nn b n g h hn =>
    have h1 := hβ b (by simp [h])
    rw [← h1.2]; exact .nn b n g (by rw [h1.1]; exact h) (by rw [h1.2]; exact hn)
  | vw b sz o n g h hn =>
    have h1 := hβ b (by simp [h])
    rw [← h1.2]; exact .vw b sz o n g (by rw [h1.1]; exact h) (by rw [h1.2]; exact hn)
  | own b n g h hn =>
    have h1 := hβ b (by simp [h])
    rw [← h1.2]; exact .own b n g (by rw [h1.1]; exact h) (by rw [h1.2]; exact hn)

theorem RepL.keep {w w' : World} {M M' : Nat → Prop} {β β' : Nat → Option Nat} {cp cp' : Nat → Nat} {l : List AV} {vs : List Value}
    (hr : RepL w M β cp l vs) (hw : ∀ k, k < w.heap.size → ¬ M k → w'.heap[k]? = w.heap[k]? ∧ ¬ M' k) (hβ : ∀ b, β b ≠ none → β' b = β b ∧ cp' b = cp b) : RepL w' M' β' cp' l vs :=
  ⟨hr.1, fun j x hj => (hr.2 j x hj).keep hw hβ⟩

mutual
/-- What the kill of an object's number leaves of a value: nothing is known any more of slices over it, and of pointers into it. -/
def AV.kill (b : Nat) : AV → AV
  | .own c n => match Nat.beq c b with | true => .any | false => .own c n
  | .vw c sz x n => match Nat.beq c b with | true => .any | false => .vw c sz x n
  | .nn c n => match Nat.beq c b with | true => .any | false => .nn c n
  | .ept c sz x o => match Nat.beq c b with | true => .any | false => .ept c sz x o
  | .ptr c o => match Nat.beq c b with | true => .any | false => .ptr c o
  | .agg l => .agg (killL b l)
  | .tup l => .tup (killL b l)
  | .fn _ _ => .any
  | .ite c x y => .ite c (x.kill b) (y.kill b)
  | x => x
def killL (b : Nat) : List AV → List AV
  | [] => []
  | x :: r => x.kill b :: killL b r
end

end Go.Abs
