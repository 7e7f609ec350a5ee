/- Contracts of functions that are handed no object of their caller's, and how they are called. -/
import Derived.Test.YtadjemhbfaonbaaAbsVcSound5
set_option linter.all false
namespace Go.Abs
open Go

mutual
/-- An object's number, further on. -/
def AV.shift (n : Nat) : AV → AV
  | .own b k => .own (b + n) k
  | .vw b sz p k => .vw (b + n) sz p k
  | .nn b k => .nn (b + n) k
  | .ept b sz i o => .ept (b + n) sz i o
  | .ptr b o => .ptr (b + n) o
  | .agg l => .agg (shiftL n l)
  | .tup l => .tup (shiftL n l)
  | .fn f l => .fn f (shiftL n l)
  | .ite c x y => .ite c (x.shift n) (y.shift n)
  | x => x
def shiftL (n : Nat) : List AV → List AV
  | [] => []
  | x :: r => x.shift n :: shiftL n r
end
def AObj.shift (n : Nat) : AObj → AObj
  | .blk l => .blk (shiftL n l)
  | o => o
def shiftH (n : Nat) : Hp → Hp
  | [] => []
  | o :: r => o.shift n :: shiftH n r

mutual
/-- No slice, and no place, that is read alone. -/
def noSl : AV → Bool
  | .sl _ _ _ | .rp _ => false
  | .agg l | .tup l | .fn _ l => noSlL l
  | .ite _ x y => match noSl x with | true => noSl y | false => false
  | _ => true
def noSlL : List AV → Bool
  | [] => true
  | x :: r => match noSl x with | true => noSlL r | false => false
end
def noSlO : AObj → Prop
  | .dead => True
  | .blk l => noSlL l = true
  | .vec _ _ n f => AllN n fun i => noSlL (f fun _ => i) = true
def noSlH : Hp → Prop
  | [] => True
  | o :: r => Both (noSlO o) (noSlH r)

/-- What is handed on to be read: a slice over an object as the list that it is; was there one? -/
def lower (h : Hp) : AV → Option (List (Th Prop) × List Nat × AV)
  | .own b n => match nth .dead h b with
    | .vec _ sz m f => match Nat.blt 0 sz with
      | true => some ([fun _ => n () ≤ m ()], [b], .sl sz n f)
      | false => none
    | _ => none
  | .vw b sz' p n => match nth .dead h b with
    | .vec _ sz m f => match Nat.blt 0 sz, Nat.beq sz' sz with
      | true, true => some ([fun _ => p () + n () ≤ m ()], [b], .sl sz n fun k => f fun _ => k () + p ())
      | _, _ => none
    | _ => none
  | .agg l => match lowerL h l with
    | some (q, d, l') => some (q, d, .agg l')
    | none => none
  | x => some ([], [], x)
where lowerL (h : Hp) : List AV → Option (List (Th Prop) × List Nat × List AV)
  | [] => some ([], [], [])
  | x :: r => match lower h x, lowerL h r with
    | some (q, d, y), some (q', d', l) => some (q ++ q', d ++ d', y :: l)
    | _, _ => none

def obs : List (Th Prop) → Prop → Prop
  | [], p => p
  | q :: r, p => Ob q (obs r p)

abbrev PC := List AV → (AV → Hp → Prop) → Prop

/-- A call of a function that is handed no object. -/
def pureCon (pc : PC) : Con := fun A H K =>
  match lower.lowerL H A with
  | some (q, d, A') => obs q (match closedL A' with
    | true => pc A' fun r H' => match d with
      | [] => K (r.shift (len H)) (H ++ shiftH (len H) H') []
      | _ :: _ => Both (noSl r = true) (Both (noSlH H') (K (r.shift (len H)) (H ++ shiftH (len H) H') []))
    | false => Bad 200)
  | none => Bad 201

def PcOk (P : Program) (f : FuncId) (pc : PC) : Prop := ∀ A PK, pc A PK → FnOk P f A [] fun r H _ => PK r H

section
variable {P : Program} {w w' : World} {M M' : Nat → Prop} {β β' : Nat → Option Nat} {cp cp' : Nat → Nat} {h : Hp}

mutual
theorem shift_rep {n : Nat} {β2 : Nat → Option Nat} {cp2 : Nat → Nat} (hβ : ∀ b, β b ≠ none → β2 (b + n) = β b ∧ cp2 (b + n) = cp b) : ∀ (x : AV) (v : Value), Rep w M β cp x v → Rep w M β2 cp2 (x.shift n) v
  | .any, v, _ => .c (.any v)
  | .bc p, v, hr => by cases hr with | c h => exact .c h
  | .b p, v, hr => by cases hr with | c h => exact .c h
  | .i k n, v, hr => by cases hr with | c h => exact .c h
  | .s x, v, hr => by cases hr with | c h => exact .c h
  | .nil, v, hr => by cases hr with | c h => exact .c h
  | .con x, v, hr => by cases hr with | c h => exact .c h
  | .sl sz n f, v, hr => by cases hr with | c h => exact .c h
  | .rp l, v, hr => by cases hr with | c h => exact .c h
  | .agg l, v, hr => by
    obtain ⟨cs, rfl, hL, ho⟩ := rep_agg hr
    have := shiftL_rep hβ l _ hL
    exact .agg _ cs (by simpa using this.1) (fun v hv => ho v (by simpa using hv)) fun j x hj => by rw [getD_arr]; exact this.2 j x hj
  | .tup l, v, hr => by
    obtain ⟨cs, rfl, hL⟩ := rep_tup hr
    have := shiftL_rep hβ l _ hL
    exact .tup _ cs (by simpa using this.1) fun j x hj => by rw [getD_arr]; exact this.2 j x hj
  | .fn f l, v, hr => by
    obtain ⟨cs, rfl, hL⟩ := rep_fn hr
    have := shiftL_rep hβ l _ hL
    exact .fn f _ cs (by simpa using this.1) fun j x hj => by rw [getD_arr]; exact this.2 j x hj
  | .ptr c o, v, hr => by
    obtain ⟨g, hg, rfl⟩ := rep_ptr hr
    exact .ptr _ o g (by rw [(hβ c (by simp [hg])).1]; exact hg)
  | .ept c sz i o, v, hr => by
    obtain ⟨g, hg, rfl⟩ := rep_ept hr
    exact .ept _ sz i o g (by rw [(hβ c (by simp [hg])).1]; exact hg)
  | .own c m, v, hr => by
    rcases rep_own hr with ⟨h0, rfl⟩ | ⟨g, hg, hn, rfl⟩
    · exact .own0 _ m h0
    · have h1 := hβ c (by simp [hg])
      rw [← h1.2]
      exact .own _ m g (by rw [h1.1]; exact hg) (by rw [h1.2]; exact hn)
  | .nn c m, v, hr => by
    obtain ⟨g, hg, hn, rfl⟩ := rep_nn hr
    have h1 := hβ c (by simp [hg])
    rw [← h1.2]
    exact .nn _ m g (by rw [h1.1]; exact hg) (by rw [h1.2]; exact hn)
  | .vw c sz p m, v, hr => by
    rcases rep_vw hr with ⟨h0, a, c', hc', rfl⟩ | ⟨g, hg, hn, rfl⟩
    · exact .vw0 _ sz p m a c' h0 hc'
    · have h1 := hβ c (by simp [hg])
      rw [← h1.2]
      exact .vw _ sz p m g (by rw [h1.1]; exact hg) (by rw [h1.2]; exact hn)
  | .ite c x y, v, hr => by
    have key : (c () = true → Rep w M β cp x v) ∧ (c () = false → Rep w M β cp y v) := by
      cases hr with
      | c h => cases h with | ite _ _ _ _ h1 h2 => exact ⟨fun h => .c (h1 h), fun h => .c (h2 h)⟩
      | ite _ _ _ _ h1 h2 => exact ⟨h1, h2⟩
    exact .ite c _ _ v (fun hc => shift_rep hβ x v (key.1 hc)) (fun hc => shift_rep hβ y v (key.2 hc))
theorem shiftL_rep {n : Nat} {β2 : Nat → Option Nat} {cp2 : Nat → Nat} (hβ : ∀ b, β b ≠ none → β2 (b + n) = β b ∧ cp2 (b + n) = cp b) : ∀ (l : List AV) (vs : List Value), RepL w M β cp l vs → RepL w M β2 cp2 (shiftL n l) vs
  | [], vs, hr => ⟨hr.1, fun j x hj => by simp [shiftL] at hj⟩
  | x :: l, vs, hr => by
    match vs, hr with
    | [], hr => exact absurd hr.1 (by simp)
    | u :: vs, hr =>
      have hx := shift_rep hβ x u (by have := hr.2 0 x rfl; simpa using this)
      have := shiftL_rep hβ l vs ⟨by have := hr.1; simp at this; omega, fun j x hj => by have := hr.2 (j + 1) x (by simpa using hj); simpa using this⟩
      refine ⟨by have := this.1; simp [shiftL]; omega, fun j z hj => ?_⟩
      cases j with
      | zero => simp [shiftL] at hj; subst hj; simpa using hx
      | succ j => have := this.2 j z (by simpa [shiftL] using hj); simpa using this
end

theorem noSlL_get : ∀ {l : List AV}, noSlL l = true → ∀ {j : Nat} {y : AV}, l[j]? = some y → noSl y = true
  | [], _, j, y, h => by simp at h
  | x :: r, hc, j, y, hj => by
    simp only [noSlL] at hc
    split at hc
    · rename_i h1
      cases j with
      | zero => simp at hj; subst hj; exact h1
      | succ j => exact noSlL_get hc (by simpa using hj)
    · cases hc
theorem noSl_repC {x : AV} {v : Value} (hr : RepC w M x v) : noSl x = true → RepC w M' x v := by
  induction hr with
  | any v => exact fun _ => .any v
  | bc b => exact fun _ => .bc b
  | b x => exact fun _ => .b x
  | i k n => exact fun _ => .i k n
  | s x => exact fun _ => .s x
  | nil => exact fun _ => .nil
  | ite c x y v h1 h2 ih1 ih2 =>
    intro hc
    simp only [noSl] at hc
    split at hc
    · rename_i q; exact .ite c x y v (fun h => ih1 h q) (fun h => ih2 h hc)
    · cases hc
  | con x hx => exact fun _ => .con x hx
  | agg l cs hl ho h ih => exact fun hc => .agg l cs hl ho fun j x hj => ih j x hj (noSlL_get (by simpa [noSl] using hc) hj)
  | tup l cs hl h ih => exact fun hc => .tup l cs hl fun j x hj => ih j x hj (noSlL_get (by simpa [noSl] using hc) hj)
  | sl0 sz n f a c hn hc => intro hc; simp [noSl] at hc
  | sl sz n f a c u hM hsz hn hc hlen hcell ho h ih => intro hc; simp [noSl] at hc
  | rp l a u hM hl hcell ho h ih => intro hc; simp [noSl] at hc
theorem noSl_rep {x : AV} {v : Value} (hr : Rep w M β cp x v) : noSl x = true → Rep w M' β cp x v := by
  induction hr with
  | c h => exact fun hc => .c (noSl_repC h hc)
  | ite c x y v h1 h2 ih1 ih2 =>
    intro hc
    simp only [noSl] at hc
    split at hc
    · rename_i q; exact .ite c x y v (fun h => ih1 h q) (fun h => ih2 h hc)
    · cases hc
  | agg l cs hl ho h ih => exact fun hc => .agg l cs hl ho fun j x hj => ih j x hj (noSlL_get (by simpa [noSl] using hc) hj)
  | tup l cs hl h ih => exact fun hc => .tup l cs hl fun j x hj => ih j x hj (noSlL_get (by simpa [noSl] using hc) hj)
  | fn f l cs hl h ih => exact fun hc => .fn f l cs hl fun j x hj => ih j x hj (noSlL_get (by simpa [noSl] using hc) hj)
  | ptr b o g h => exact fun _ => .ptr b o g h
  | ept b sz i o g h => exact fun _ => .ept b sz i o g h
  | own0 b n hn => exact fun _ => .own0 b n hn
  | own b n g h hn => exact fun _ => .own b n g h hn
  | nn b n g h hn => exact fun _ => .nn b n g h hn
  | vw0 b sz p n a c hn hc => exact fun _ => .vw0 b sz p n a c hn hc
  | vw b sz p n g h hn => exact fun _ => .vw b sz p n g h hn

theorem shiftH_get {n : Nat} : ∀ (H : Hp) (c : Nat), (shiftH n H)[c]? = (H[c]?).map (·.shift n)
  | [], _ => by simp [shiftH]
  | o :: r, 0 => by simp [shiftH]
  | o :: r, c + 1 => by simp [shiftH, shiftH_get r c]
theorem shiftH_len {n : Nat} : ∀ (H : Hp), (shiftH n H).length = H.length
  | [] => rfl
  | o :: r => by simp [shiftH, shiftH_len r]
theorem noSlH_get : ∀ {H : Hp}, noSlH H → ∀ {c : Nat} {o : AObj}, H[c]? = some o → noSlO o
  | [], _, c, o, h => by simp at h
  | x :: r, hc, c, o, ho => by
    cases hc with
    | mk h1 h2 =>
      cases c with
      | zero => simp at ho; subst ho; exact h1
      | succ c => exact noSlH_get h2 (by simpa using ho)

/-- The blocks of the objects that are handed on to be read. -/
def Lent (β : Nat → Option Nat) (d : List Nat) (k : Nat) : Prop := ∃ b, b ∈ d ∧ β b = some k

theorem obs_out : ∀ {q : List (Th Prop)} {p : Prop}, obs q p → (∀ x ∈ q, x ()) ∧ p
  | [], p, h => ⟨by simp, h⟩
  | x :: q, p, h => by
    cases h with
    | mk h1 h2 =>
      have := obs_out h2
      exact ⟨by intro y hy; rcases List.mem_cons.1 hy with rfl | hy; exact h1; exact this.1 y hy, this.2⟩

theorem lower_same {x y : AV} {q : List (Th Prop)} {d D : List Nat} {v : Value} (hl : lower h x = some (q, d, y)) (hs : lower h x = some ([], [], x)) (hr : Rep w M β cp x v) : Rep w (fun k => M k ∧ ¬ Lent β D k) β cp y v := by
  rw [hs] at hl
  simp only [Option.some.injEq, Prod.mk.injEq] at hl
  obtain ⟨rfl, rfl, rfl⟩ := hl
  exact hr.keep (fun k _ hM => ⟨rfl, fun h => hM h.1⟩) fun _ _ => ⟨rfl, rfl⟩

mutual
theorem lower_rep (hh : HeapRel w M β cp h) : ∀ (x : AV) (q : List (Th Prop)) (d : List Nat) (y : AV), lower h x = some (q, d, y) → (∀ p ∈ q, p ()) → ∀ (D : List Nat), (∀ b ∈ d, b ∈ D) → ∀ (v : Value), Rep w M β cp x v →
    Rep w (fun k => M k ∧ ¬ Lent β D k) β cp y v
  | .own b n, q, d, y, hl, hq, D, hD, v, hr => by
    simp only [lower] at hl
    split at hl
    · rename_i et sz m f hb
      split at hl
      case h_2 => cases hl
      rename_i qs
      have hs0 : 0 < sz := blt_iff.1 qs
      simp only [Option.some.injEq, Prod.mk.injEq] at hl
      obtain ⟨rfl, rfl, rfl⟩ := hl
      have hnm : n () ≤ m () := hq (fun _ => n () ≤ m ()) (by simp)
      have hbD : b ∈ D := hD b (by simp)
      rcases rep_own hr with ⟨h0, rfl⟩ | ⟨g, hg, hn, rfl⟩
      · exact .c (.sl0 sz n f none 0 h0 (by unfold maxLen; omega))
      · rcases hh.obj b _ (nth_some hb rfl) with ⟨e1, _⟩ | ⟨g', cur, e1, e2, e3, e4, e5, e6, e7, e8, e9⟩
        · rw [hg] at e1; cases e1
        · rw [hg] at e1; cases e1
          by_cases h0 : n () = 0
          · rw [h0]; exact .c (.sl0 sz n f _ _ h0 e7)
          · have hk : ∀ k, k < w.heap.size → ¬ M k → w.heap[k]? = w.heap[k]? ∧ ¬ (M k ∧ ¬ Lent β D k) := fun k _ hM => ⟨rfl, fun h => hM h.1⟩
            · have hlt : ∀ i j, i < n () → j < sz → i * sz + j < n () * sz := by
                intro i j hi hj
                have := Nat.mul_le_mul_right sz (show i + 1 ≤ n () by omega)
                rw [Nat.succ_mul] at this
                omega
              have hle : n () * sz ≤ m () * sz := Nat.mul_le_mul_right _ hnm
              have hle2 : n () * sz ≤ cur.size := by rw [e4]; exact Nat.mul_le_mul_right _ (by omega)
              refine .c (.sl sz n f ⟨g, 0, none⟩ (cp b) (fun i j => cur.getD (i * sz + j) undef) (fun h => h.2 ⟨b, hbD, hg⟩) hs0 hn e7 (fun i hi => e8 i (by omega)) (fun i j hi hj => ?_) (fun i j hi hj => e5 _ (by have := hlt i j hi hj; omega)) fun i j x hi hj => (e9 i j x (by omega) hj).keep hk)
              have := hlt i j hi hj
              have h3 : i * sz + j < cur.size := by omega
              rw [addr_add, Nat.zero_add, cell_of_row e3 h3]
              simp [h3]
    · cases hl
  | .vw b sz' p n, q, d, y, hl, hq, D, hD, v, hr => by
    simp only [lower] at hl
    split at hl
    · rename_i et sz m f hb
      split at hl
      case h_2 => cases hl
      rename_i qs qz
      have hs0 : 0 < sz := blt_iff.1 qs
      have qz := beq_iff.1 qz
      subst qz
      simp only [Option.some.injEq, Prod.mk.injEq] at hl
      obtain ⟨rfl, rfl, rfl⟩ := hl
      have hnm : p () + n () ≤ m () := hq (fun _ => p () + n () ≤ m ()) (by simp)
      have hbD : b ∈ D := hD b (by simp)
      rcases rep_vw hr with ⟨h0, a, c, hc, rfl⟩ | ⟨g, hg, hn, rfl⟩
      · exact .c (.sl0 _ n _ a c h0 hc)
      · rcases hh.obj b _ (nth_some hb rfl) with ⟨e1, _⟩ | ⟨g', cur, e1, e2, e3, e4, e5, e6, e7, e8, e9⟩
        · rw [hg] at e1; cases e1
        · rw [hg] at e1; cases e1
          by_cases h0 : n () = 0
          · rw [h0]; exact .c (.sl0 _ n _ _ _ h0 (by omega))
          · have hk : ∀ k, k < w.heap.size → ¬ M k → w.heap[k]? = w.heap[k]? ∧ ¬ (M k ∧ ¬ Lent β D k) := fun k _ hM => ⟨rfl, fun h => hM h.1⟩
            have hlt : ∀ i j, i < n () → j < sz' → (i + p ()) * sz' + j < (p () + n ()) * sz' := by
              intro i j hi hj
              have := Nat.mul_le_mul_right sz' (show i + p () + 1 ≤ p () + n () by omega)
              rw [Nat.succ_mul] at this
              omega
            have hle : (p () + n ()) * sz' ≤ m () * sz' := Nat.mul_le_mul_right _ hnm
            have hle2 : (p () + n ()) * sz' ≤ cur.size := by rw [e4]; exact Nat.mul_le_mul_right _ (by omega)
            refine .c (.sl sz' n (fun k => f fun _ => k () + p ()) ⟨g, p () * sz', none⟩ (cp b - p ()) (fun i j => cur.getD ((i + p ()) * sz' + j) undef) (fun h => h.2 ⟨b, hbD, hg⟩) hs0 (by omega) (by omega) (fun i hi => e8 (i + p ()) (by omega)) (fun i j hi hj => ?_) (fun i j hi hj => e5 _ (by have := hlt i j hi hj; omega)) fun i j x hi hj => (e9 (i + p ()) j x (by omega) hj).keep hk)
            have := hlt i j hi hj
            have h3 : (i + p ()) * sz' + j < cur.size := by omega
            rw [addr_add, show p () * sz' + (i * sz' + j) = (i + p ()) * sz' + j by rw [Nat.add_mul]; omega, cell_of_row e3 h3]
            simp [h3]
    · cases hl
  | .agg l, q, d, y, hl, hq, D, hD, v, hr => by
    simp only [lower] at hl
    split at hl
    · rename_i q' d' l' hl'
      simp only [Option.some.injEq, Prod.mk.injEq] at hl
      obtain ⟨rfl, rfl, rfl⟩ := hl
      obtain ⟨cs, rfl, hL, ho⟩ := rep_agg hr
      have := lowerL_rep hh l q' d' l' hl' hq D hD _ hL
      exact .agg _ cs (by simpa using this.1) (fun v hv => ho v (by simpa using hv)) fun j x hj => by rw [getD_arr]; exact this.2 j x hj
    · cases hl
  | .any, q, d, y, hl, hq, D, hD, v, hr => lower_same hl (by rfl) hr
  | .bc _, q, d, y, hl, hq, D, hD, v, hr => lower_same hl (by rfl) hr
  | .b _, q, d, y, hl, hq, D, hD, v, hr => lower_same hl (by rfl) hr
  | .i _ _, q, d, y, hl, hq, D, hD, v, hr => lower_same hl (by rfl) hr
  | .s _, q, d, y, hl, hq, D, hD, v, hr => lower_same hl (by rfl) hr
  | .nil, q, d, y, hl, hq, D, hD, v, hr => lower_same hl (by rfl) hr
  | .con _, q, d, y, hl, hq, D, hD, v, hr => lower_same hl (by rfl) hr
  | .tup _, q, d, y, hl, hq, D, hD, v, hr => lower_same hl (by rfl) hr
  | .ptr _ _, q, d, y, hl, hq, D, hD, v, hr => lower_same hl (by rfl) hr
  | .ept _ _ _ _, q, d, y, hl, hq, D, hD, v, hr => lower_same hl (by rfl) hr
  | .nn _ _, q, d, y, hl, hq, D, hD, v, hr => lower_same hl (by rfl) hr
  | .sl _ _ _, q, d, y, hl, hq, D, hD, v, hr => lower_same hl (by rfl) hr
  | .rp _, q, d, y, hl, hq, D, hD, v, hr => lower_same hl (by rfl) hr
  | .fn _ _, q, d, y, hl, hq, D, hD, v, hr => lower_same hl (by rfl) hr
  | .ite _ _ _, q, d, y, hl, hq, D, hD, v, hr => lower_same hl (by rfl) hr
theorem lowerL_rep (hh : HeapRel w M β cp h) : ∀ (l : List AV) (q : List (Th Prop)) (d : List Nat) (l' : List AV), lower.lowerL h l = some (q, d, l') → (∀ p ∈ q, p ()) → ∀ (D : List Nat), (∀ b ∈ d, b ∈ D) → ∀ (vs : List Value), RepL w M β cp l vs →
    RepL w (fun k => M k ∧ ¬ Lent β D k) β cp l' vs
  | [], q, d, l', hl, hq, D, hD, vs, hr => by
    simp only [lower.lowerL, Option.some.injEq, Prod.mk.injEq] at hl
    obtain ⟨rfl, rfl, rfl⟩ := hl
    exact ⟨hr.1, fun j x hj => by simp at hj⟩
  | x :: l, q, d, l', hl, hq, D, hD, vs, hr => by
    simp only [lower.lowerL] at hl
    split at hl
    · rename_i q1 d1 y q2 d2 l2 h1 h2
      simp only [Option.some.injEq, Prod.mk.injEq] at hl
      obtain ⟨rfl, rfl, rfl⟩ := hl
      match vs, hr with
      | [], hr => exact absurd hr.1 (by simp)
      | u :: vs, hr =>
        have hx := lower_rep hh x q1 d1 y h1 (fun p hp => hq p (by simp [hp])) D (fun b hb => hD b (by simp [hb])) u (by have := hr.2 0 x rfl; simpa using this)
        have := lowerL_rep hh l q2 d2 l2 h2 (fun p hp => hq p (by simp [hp])) D (fun b hb => hD b (by simp [hb])) vs ⟨by have := hr.1; simp at this; omega, fun j x hj => by have := hr.2 (j + 1) x (by simpa using hj); simpa using this⟩
        refine ⟨by have := this.1; simp; omega, fun j z hj => ?_⟩
        cases j with
        | zero => simp at hj; subst hj; simpa using hx
        | succ j => have := this.2 j z (by simpa using hj); simpa using this
    · cases hl
end


/-- A CALL OF A FUNCTION THAT IS HANDED NO OBJECT. -/
theorem pureCon_ok {f : FuncId} {pc : PC} (hp : PcOk P f pc) {A : List AV} {H : Hp} {K : Kont} (hv : pureCon pc A H K) : FnOk P f A H K := by
  intro w M β cp vs hh hA
  unfold pureCon at hv
  split at hv
  · rename_i q d A' hl
    obtain ⟨hq, hv⟩ := obs_out hv
    split at hv
    · rename_i hcl
      have hA' := lowerL_rep hh A q d A' hl hq d (fun _ h => h) _ hA
      have hA2 : RepL w (fun k => M k ∧ ¬ Lent β d k) (fun _ => none) (fun _ => 0) A' vs.toList := ⟨hA'.1, fun j x hj => .c (closed_rep (hA'.2 j x hj) (closedL_get hcl hj))⟩
      refine (hp A' _ hv w (fun k => M k ∧ ¬ Lent β d k) (fun _ => none) (fun _ => 0) vs ⟨fun _ _ => rfl, fun b o hb => by simp at hb, fun b b' o o' g hb => by simp at hb, fun k hk => hh.dom k hk.1⟩ hA2).mono ?_
      rintro e w' ⟨v, r, H', kl, M', β', cp', rfl, hK, hh', hak, hrep⟩
      -- no block that was there has turned
      have hsame : ∀ k, k < w.heap.size → w'.heap[k]? = w.heap[k]? := fun k hk => hak.ext.block k hk (by rintro ⟨b, o, hb, _⟩; simp at hb)
      have hfresh : ∀ g, Blks β' H' g → w.heap.size ≤ g := fun g hg => (hak.own g hg).elim (by rintro ⟨b, o, hb, _⟩; simp at hb) id
      let M2 : Nat → Prop := fun k => M' k ∨ M k
      let β2 : Nat → Option Nat := fun b => if b < H.length then β b else β' (b - H.length)
      let cp2 : Nat → Nat := fun b => if b < H.length then cp b else cp' (b - H.length)
      have hkeep : ∀ k, k < w.heap.size → ¬ M k → w'.heap[k]? = w.heap[k]? ∧ ¬ M2 k := by
        intro k hk hM
        have := hak.keep k hk (fun h => hM h.1)
        exact ⟨this.1, fun h => h.elim this.2 hM⟩
      have hbk : ∀ b, β b ≠ none → β2 b = β b ∧ cp2 b = cp b := by
        intro b hb
        have : b < H.length := by
          rcases Nat.lt_or_ge b H.length with h1 | h1
          · exact h1
          · exact absurd (hh.out b h1) hb
        simp [β2, cp2, this]
      have hsh : ∀ b, β' b ≠ none → β2 (b + H.length) = β' b ∧ cp2 (b + H.length) = cp' b := by
        intro b hb
        have : ¬ b + H.length < H.length := by omega
        simp [β2, cp2, this]
      -- what was lent, if anything, is in no result
      have hup : (d = [] → ∀ k, M k → M' k) := by
        rintro rfl k hk
        refine hak.ext.sub k ⟨hk, ?_⟩
        rintro ⟨b, hb, _⟩
        cases hb
      have hM2 : d = [] → ∀ k, M2 k → M' k := fun hd k hk => hk.elim id (hup hd k)
      obtain ⟨hK2, hsl⟩ : K (r.shift (len H)) (H ++ shiftH (len H) H') [] ∧ (d = [] ∨ noSl r = true ∧ noSlH H') := by
        cases d with
        | nil => exact ⟨hK, .inl rfl⟩
        | cons _ _ => cases hK with | mk h1 h2 => cases h2 with | mk h2 h3 => exact ⟨h3, .inr ⟨h1, h2⟩⟩
      rw [len_eq] at hK2
      have upC : ∀ x v, (d = [] ∨ noSl x = true) → RepC w' M' x v → RepC w' M2 x v := by
        intro x v hx hr
        rcases hx with hd | hx
        · exact hr.keep fun k _ hM => ⟨rfl, fun h => hM (hM2 hd k h)⟩
        · exact noSl_repC hr hx
      have up : ∀ x v, (d = [] ∨ noSl x = true) → Rep w' M' β' cp' x v → Rep w' M2 β2 cp2 (x.shift H.length) v := by
        intro x v hx hr
        refine shift_rep (β := β') (cp := cp') hsh x v ?_
        rcases hx with hd | hx
        · exact hr.keep (fun k _ hM => ⟨rfl, fun h => hM (hM2 hd k h)⟩) fun _ _ => ⟨rfl, rfl⟩
        · exact noSl_rep hr hx
      have hget : ∀ b o, (H ++ shiftH H.length H')[b]? = some o → (b < H.length ∧ H[b]? = some o) ∨ (H.length ≤ b ∧ ∃ o', H'[b - H.length]? = some o' ∧ o = o'.shift H.length) := by
        intro b o hb
        rw [List.getElem?_append] at hb
        split at hb
        · rename_i h1; exact .inl ⟨h1, hb⟩
        · rename_i h1
          rw [shiftH_get, Option.map_eq_some_iff] at hb
          obtain ⟨o', h2, rfl⟩ := hb
          exact .inr ⟨by omega, o', h2, rfl⟩
      have hlive : ∀ o : AObj, (o.shift H.length).live = o.live := fun o => by cases o <;> rfl
      refine ⟨v, _, _, [], M2, β2, cp2, rfl, hK2, ⟨fun b hb => ?_, fun b o hb => ?_, fun b b' o o' g hb hb' hl1 hl2 hg hg' => ?_, fun k hk => hk.elim (hh'.dom k) fun h1 => Nat.lt_of_lt_of_le (hh.dom k h1) hak.ext.size⟩, ⟨hkeep, fun b _ hb => hbk b hb, ⟨hak.ext.os, hak.ext.tape, hak.ext.output, hak.ext.size, fun k hk _ => hsame k hk, fun k hk => .inr hk, fun k hk => ?_⟩, ?_⟩, up r v (hsl.imp id And.left) hrep⟩
      · rw [List.length_append, shiftH_len] at hb
        have : ¬ b < H.length := by omega
        simp only [β2, this, if_false]
        exact hh'.out _ (by omega)
      · rcases hget b o hb with ⟨h1, h2⟩ | ⟨h1, o', h2, rfl⟩
        · by_cases ho : o.live = true
          · exact (hh.obj b o h2).keep hkeep hbk (fun h0 => by simp [β2, h1, h0]) fun g hg => ⟨hsame g (blk_lt hh h2 ho hg).1, .inr⟩
          · cases o with
            | dead => trivial
            | blk cs => exact absurd rfl ho
            | vec _ _ _ _ => exact absurd rfl ho
        · have h3 : ¬ b < H.length := by omega
          have e1 : β2 b = β' (b - H.length) := by simp [β2, h3]
          have e2 : cp2 b = cp' (b - H.length) := by simp [cp2, h3]
          have ho := hh'.obj _ _ h2
          have hns : d = [] ∨ noSlO o' := hsl.imp id fun h => noSlH_get h.2 h2
          cases o' with
          | dead => trivial
          | blk cs =>
            obtain ⟨g, cur, t, o1, o2, o3, o4, o5⟩ := ho
            refine ⟨g, cur, t, e1.trans o1, .inl o2, o3, ?_, o5⟩
            refine shiftL_rep (β := β') (cp := cp') hsh cs _ ⟨o4.1, fun j x hj => ?_⟩
            have hx : d = [] ∨ noSl x = true := hns.imp id fun h => noSlL_get h hj
            rcases hx with hd | hx
            · exact (o4.2 j x hj).keep (fun k _ hM => ⟨rfl, fun h => hM (hM2 hd k h)⟩) fun _ _ => ⟨rfl, rfl⟩
            · exact noSl_rep (o4.2 j x hj) hx
          | vec e sz n f =>
            rcases ho with ⟨o1, o2⟩ | ⟨g, cur, o1, o2, o3, o4, o5, o6, o7, o8, o9⟩
            · exact .inl ⟨e1.trans o1, o2⟩
            · refine .inr ⟨g, cur, e1.trans o1, .inl o2, o3, by rw [e2]; exact o4, o5, by rw [e2]; exact o6, by rw [e2]; exact o7, o8, fun i j x hi hj => upC x _ ?_ (o9 i j x hi hj)⟩
              exact hns.imp id fun h => by cases h with | mk h => exact noSlL_get (h i hi) hj
      · have c1 : ∀ b o, (H ++ shiftH H.length H')[b]? = some o → o.live = true → β2 b = some g → (b < H.length ∧ H[b]? = some o ∧ β b = some g ∧ g < w.heap.size) ∨ (H.length ≤ b ∧ ∃ o', H'[b - H.length]? = some o' ∧ o'.live = true ∧ β' (b - H.length) = some g ∧ w.heap.size ≤ g) := by
          intro b o hb hl hg
          rcases hget b o hb with ⟨h1, h2⟩ | ⟨h1, o', h2, rfl⟩
          · have hg : β b = some g := by simpa [β2, h1] using hg
            exact .inl ⟨h1, h2, hg, (blk_lt hh h2 hl hg).1⟩
          · have h3 : ¬ b < H.length := by omega
            have hg : β' (b - H.length) = some g := by simpa [β2, h3] using hg
            have hl' : o'.live = true := by rw [← hlive o']; exact hl
            exact .inr ⟨h1, o', h2, hl', hg, hfresh g ⟨_, o', h2, hl', hg⟩⟩
        rcases c1 b o hb hl1 hg with ⟨a1, a2, a3, a4⟩ | ⟨a1, o1, a2, a3, a4, a5⟩ <;> rcases c1 b' o' hb' hl2 hg' with ⟨b1, b2, b3, b4⟩ | ⟨b1, o2, b2, b3, b4, b5⟩
        · exact hh.inj b b' o o' g a2 b2 hl1 hl2 a3 b3
        · omega
        · omega
        · have := hh'.inj _ _ o1 o2 g a2 b2 a3 b3 a4 b4
          omega
      · rcases hk with hk | hk
        · exact (hak.ext.new k hk).imp (fun h => h.1) id
        · exact .inl hk
      · rintro g ⟨b, o, hb, hl, hg⟩
        rcases hget b o hb with ⟨h1, h2⟩ | ⟨h1, o', h2, rfl⟩
        · exact .inl ⟨b, o, h2, hl, by simpa [β2, h1] using hg⟩
        · have h3 : ¬ b < H.length := by omega
          exact .inr (hfresh g ⟨_, o', h2, by rw [← hlive o']; exact hl, by simpa [β2, h3] using hg⟩)
    · cases hv
  · cases hv

/-- A function whose result is data that lie in blocks of their own; nothing else is left. -/
def FrOk (P : Program) (f : FuncId) (A : List AV) (r : AV) : Prop :=
  ∀ (w : World) (M : Nat → Prop) (vs : Array Value), (∀ k, M k → k < w.heap.size) → RepL w M (fun _ => none) (fun _ => 0) A vs.toList →
    Calls P f vs w fun e w' => ∃ v, e = .returned v ∧ (w'.os = w.os ∧ w'.tape = w.tape ∧ w'.output = w.output ∧ w.heap.size ≤ w'.heap.size ∧ ∀ k, k < w.heap.size → w'.heap[k]? = w.heap[k]?) ∧ RepC w' (fun k => k < w.heap.size) r v

/-- Such a call, with whatever is lent. -/
theorem fr_after {f : FuncId} {nid : Nat} {A0 A : List AV} {r : AV} {vs : Array Value} {q : List (Th Prop)} {l : List Nat} (hf : FrOk P f A r) (hh : HeapRel w M β cp h) (hargs : RepL w M β cp A0 vs.toList) (hl : lower.lowerL h A0 = some (q, l, A)) (hq : ∀ x ∈ q, x ()) (hcl : closedL A = true) :
    Calls P f vs w fun e w' => ∃ v, e = .returned v ∧ After w M β cp h w' M β cp (Chg.no.on nid h) ∧ Rep w' M β cp r v := by
  have hA' := lowerL_rep hh _ q l A hl hq l (fun _ h => h) _ hargs
  have hA2 : RepL w (fun k => M k ∧ ¬ Lent β l k) (fun _ => none) (fun _ => 0) A vs.toList := ⟨hA'.1, fun j x hj => .c (closed_rep (hA'.2 j x hj) (closedL_get hcl hj))⟩
  refine (hf w (fun k => M k ∧ ¬ Lent β l k) vs (fun k hk => hh.dom k hk.1) hA2).mono ?_
  rintro e w' ⟨v, rfl, ⟨x1, x2, x3, x4, x5⟩, hr⟩
  have hkeep : ∀ k, k < w.heap.size → ¬ M k → w'.heap[k]? = w.heap[k]? ∧ ¬ M k := fun k hk hM => ⟨x5 k hk, hM⟩
  refine ⟨v, rfl, ⟨⟨hh.out, fun b o hb => ?_, hh.inj, fun k hk => Nat.lt_of_lt_of_le (hh.dom k hk) x4⟩, hkeep, fun _ _ => ⟨rfl, rfl⟩, ⟨x1, x2, x3, x4, fun k hk _ => x5 k hk, fun _ h => h, fun _ h => .inl h⟩, fun _ h => .inl h, fun _ h1 h2 => absurd h1 h2⟩, .c (hr.keep fun k _ hM => ⟨rfl, fun h => hM (hh.dom k h)⟩)⟩
  by_cases ho : o.live = true
  · exact (hh.obj b o hb).keep hkeep (fun _ _ => ⟨rfl, rfl⟩) id fun g hg => ⟨x5 g (blk_lt hh hb ho hg).1, id⟩
  · cases o with
    | dead => trivial
    | blk cs => exact absurd rfl ho
    | vec _ _ _ _ => exact absurd rfl ho

def frCon (d : List AV → Option (Th Prop × AV)) : Con := fun A H K => match lower.lowerL H A with
  | some (q, _, A') => obs q (match closedL A', d A' with
    | true, some (p, r) => Ob p (K r H [])
    | _, _ => Bad 210)
  | none => Bad 211
theorem frCon_ok {f : FuncId} {d : List AV → Option (Th Prop × AV)} (hd : ∀ A p r, d A = some (p, r) → p () → FrOk P f A r) {A : List AV} {H : Hp} {K : Kont} (hv : frCon d A H K) : FnOk P f A H K := by
  intro w M β cp vs hh hA
  unfold frCon at hv
  split at hv
  · rename_i q l A' hl
    obtain ⟨hq, hv⟩ := obs_out hv
    split at hv
    · rename_i p r hcl hdA
      cases hv with
      | mk h1 h2 =>
        refine (fr_after (nid := 0) (hd A' p r hdA h1) hh hA hl hq hcl).mono ?_
        rintro e w' ⟨v, rfl, haf, hrep⟩
        exact ⟨v, r, H, [], M, β, cp, rfl, h2, haf.heap, AK.of_after haf, hrep⟩
    · cases hv
  · cases hv

end
end Go.Abs
