/- What comes out, whatever the numbers of its objects. -/
import Derived.Test.YtpooooomhnehfaaAbsOpen
set_option linter.all false
namespace Go.Abs
open Go

abbrev As := List (Nat × Nat)
def fwd (j : Nat) : As → Option Nat
  | [] => none
  | (i, b) :: r => match Nat.beq i j with | true => some b | false => fwd j r
def bwd (b : Nat) : As → Option Nat
  | [] => none
  | (i, c) :: r => match Nat.beq c b with | true => some i | false => bwd b r
def okAs : As → Bool
  | [] => true
  | (j, b) :: r => match fwd j r, bwd b r with
    | none, none => okAs r
    | _, _ => false
def addAs (p : Nat × Nat) (as : As) : As := match fwd p.1 as with
  | some c => match Nat.beq c p.2 with
    | true => as
    | false => p :: as
  | none => p :: as

mutual
def al : AV → AV → As → As
  | .own j _, .own b _, as => addAs (j, b) as
  | .ptr j _, .ptr b _, as => addAs (j, b) as
  | .agg l, .agg m, as => alL l m as
  | .tup l, .tup m, as => alL l m as
  | _, _, as => as
def alL : List AV → List AV → As → As
  | x :: l, y :: m, as => alL l m (al x y as)
  | _, _, as => as
end

mutual
def ren (as : As) : AV → AV
  | .own b n => match bwd b as with | some j => .own j n | none => .any
  | .ept b sz x o => match bwd b as with | some j => .ept j sz x o | none => .any
  | .ptr b o => match bwd b as with | some j => .ptr j o | none => .any
  | .agg l => .agg (renL as l)
  | .tup l => .tup (renL as l)
  | .fn _ _ => .any
  | .ite c x y => .ite c (ren as x) (ren as y)
  | x => x
def renL (as : As) : List AV → List AV
  | [] => []
  | x :: r => ren as x :: renL as r
end
def selO (as : As) (H : Hp) (j : Nat) (y : AObj) : AObj := match fwd j as with
  | some b => match nth .dead H b with
    | .blk cs => .blk (renL as cs)
    | o => o
  | none => match y with
    | .vec e sz _ _ => .vec e sz (fun _ => 0) fun _ => []
    | _ => .dead
def selH (as : As) (H : Hp) : Nat → Hp → Hp
  | _, [] => []
  | j, y :: r => selO as H j y :: selH as H (j + 1) r

/-- What comes out says at least this, its objects numbered as here. -/
def outA (r0 : AV) (H0 : Hp) : Kont := fun r H _ =>
  let as := al r0 r []
  match okAs as with
  | true => Both (le (len H0) (ren as r) r0) (leH (selH as H 0 H0) H0)
  | false => Bad 410

section
variable {P : Program} {w : World} {M : Nat → Prop} {β : Nat → Option Nat} {cp : Nat → Nat} {h : Hp}

def reβ (as : As) (N : Nat) (β : Nat → Option Nat) : Nat → Option Nat := fun j => if j < N then (match fwd j as with | some b => β b | none => none) else none
def recp (as : As) (cp : Nat → Nat) : Nat → Nat := fun j => match fwd j as with | some b => cp b | none => 0

theorem fwd_bwd : ∀ {as : As}, okAs as = true → ∀ {j b : Nat}, bwd b as = some j → fwd j as = some b
  | [], _, j, b, h => by simp [bwd] at h
  | (i, c) :: r, ho, j, b, h => by
    simp only [okAs] at ho
    split at ho
    · rename_i h1 h2
      simp only [bwd] at h
      simp only [fwd]
      split at h
      · rename_i q
        have q := beq_iff.1 q
        cases h
        subst q
        rw [beq_iff.2 rfl]
      · have ih := fwd_bwd ho h
        split
        · rename_i q
          have q := beq_iff.1 q
          subst q
          rw [h1] at ih; cases ih
        · exact ih
    · cases ho
theorem bwd_fwd : ∀ {as : As}, okAs as = true → ∀ {j b : Nat}, fwd j as = some b → bwd b as = some j
  | [], _, j, b, h => by simp [fwd] at h
  | (i, c) :: r, ho, j, b, h => by
    simp only [okAs] at ho
    split at ho
    · rename_i h1 h2
      simp only [fwd] at h
      simp only [bwd]
      split at h
      · rename_i q
        have q := beq_iff.1 q
        cases h
        subst q
        rw [beq_iff.2 rfl]
      · have ih := bwd_fwd ho h
        split
        · rename_i q
          have q := beq_iff.1 q
          subst q
          rw [h2] at ih; cases ih
        · exact ih
    · cases ho

variable {as : As} {N : Nat}
theorem reβ_of (ho : okAs as = true) (hN : ∀ j b, fwd j as = some b → j < N) {j b : Nat} (h : bwd b as = some j) : reβ as N β j = β b ∧ recp as cp j = cp b := by
  have h1 := fwd_bwd ho h
  have h2 := hN j b h1
  simp [reβ, recp, h1, h2]

mutual
theorem ren_rep (ho : okAs as = true) (hN : ∀ j b, fwd j as = some b → j < N) : ∀ (x : AV) (v : Value), Rep w M β cp x v → Rep w M (reβ as N β) (recp as cp) (ren as x) v
  | .any, v, _ => .c (.any v)
  | .bc p, v, hr => by cases hr with | c h => exact .c h
  | .b p, v, hr => by cases hr with | c h => exact .c h
  | .i k n, v, hr => by cases hr with | c h => exact .c h
  | .s x, v, hr => by cases hr with | c h => exact .c h
  | .nil, v, hr => by cases hr with | c h => exact .c h
  | .con x, v, hr => by cases hr with | c h => exact .c h
  | .sl sz n f, v, hr => by cases hr with | c h => exact .c h
  | .rp l, v, hr => by cases hr with | c h => exact .c h
  | .agg l, v, hr => by
    obtain ⟨cs, rfl, hL, hone⟩ := rep_agg hr
    have := renL_rep ho hN l _ hL
    exact .agg _ cs (by simpa using this.1) (fun v hv => hone v (by simpa using hv)) fun j x hj => by rw [getD_arr]; exact this.2 j x hj
  | .tup l, v, hr => by
    obtain ⟨cs, rfl, hL⟩ := rep_tup hr
    have := renL_rep ho hN l _ hL
    exact .tup _ cs (by simpa using this.1) fun j x hj => by rw [getD_arr]; exact this.2 j x hj
  | .fn f l, v, hr => .c (.any v)
  | .ptr c o, v, hr => by
    obtain ⟨g, hg, rfl⟩ := rep_ptr hr
    simp only [ren]
    split
    · rename_i j hj
      exact .ptr _ o g (by rw [(reβ_of (β := β) (cp := cp) ho hN hj).1]; exact hg)
    · exact .c (.any _)
  | .ept c sz i o, v, hr => by
    obtain ⟨g, hg, rfl⟩ := rep_ept hr
    simp only [ren]
    split
    · rename_i j hj
      exact .ept _ sz i o g (by rw [(reβ_of (β := β) (cp := cp) ho hN hj).1]; exact hg)
    · exact .c (.any _)
  | .own c m, v, hr => by
    simp only [ren]
    split
    · rename_i j hj
      rcases rep_own hr with ⟨h0, rfl⟩ | ⟨g, hg, hn, rfl⟩
      · exact .own0 _ m h0
      · have h1 := reβ_of (β := β) (cp := cp) ho hN hj
        rw [← h1.2]
        exact .own _ m g (by rw [h1.1]; exact hg) (by rw [h1.2]; exact hn)
    · exact .c (.any _)
  | .ite c x y, v, hr => by
    have key : (c () = true → Rep w M β cp x v) ∧ (c () = false → Rep w M β cp y v) := by
      cases hr with
      | c h => cases h with | ite _ _ _ _ h1 h2 => exact ⟨fun h => .c (h1 h), fun h => .c (h2 h)⟩
      | ite _ _ _ _ h1 h2 => exact ⟨h1, h2⟩
    exact .ite c _ _ v (fun hc => ren_rep ho hN x v (key.1 hc)) (fun hc => ren_rep ho hN y v (key.2 hc))
theorem renL_rep (ho : okAs as = true) (hN : ∀ j b, fwd j as = some b → j < N) : ∀ (l : List AV) (vs : List Value), RepL w M β cp l vs → RepL w M (reβ as N β) (recp as cp) (renL as l) vs
  | [], vs, hr => ⟨hr.1, fun j x hj => by simp [renL] at hj⟩
  | x :: l, vs, hr => by
    match vs, hr with
    | [], hr => exact absurd hr.1 (by simp)
    | u :: vs, hr =>
      have hx := ren_rep ho hN x u (by have := hr.2 0 x rfl; simpa using this)
      have := renL_rep ho hN l vs ⟨by have := hr.1; simp at this; omega, fun j x hj => by have := hr.2 (j + 1) x (by simpa using hj); simpa using this⟩
      refine ⟨by have := this.1; simp [renL]; omega, fun j z hj => ?_⟩
      cases j with
      | zero => simp [renL] at hj; subst hj; simpa using hx
      | succ j => have := this.2 j z (by simpa [renL] using hj); simpa using this
end

theorem selH_get {H : Hp} : ∀ (H0 : Hp) (k j : Nat) (o : AObj), (selH as H k H0)[j]? = some o → ∃ y, H0[j]? = some y ∧ o = selO as H (k + j) y
  | [], _, _, _, h => by simp [selH] at h
  | y :: r, k, 0, o, h => by simp [selH] at h; exact ⟨y, rfl, by rw [← h]; rfl⟩
  | y :: r, k, j + 1, o, h => by
    obtain ⟨z, h1, h2⟩ := selH_get r (k + 1) j o (by simpa [selH] using h)
    exact ⟨z, by simpa using h1, by rw [h2, show k + 1 + j = k + (j + 1) by omega]⟩
theorem selH_len {H : Hp} : ∀ (H0 : Hp) (k : Nat), (selH as H k H0).length = H0.length
  | [], _ => rfl
  | y :: r, k => by simp [selH, selH_len r (k + 1)]

/-- The pairs of places below a number alone. -/
def cutAs (N : Nat) : As → As
  | [] => []
  | (j, b) :: r => match Nat.blt j N with
    | true => (j, b) :: cutAs N r
    | false => cutAs N r

theorem sel_heap (hh : HeapRel w M β cp h) {H0 : Hp} (ho : okAs as = true) (hN : ∀ j b, fwd j as = some b → j < H0.length) : HeapRel w M (reβ as H0.length β) (recp as cp) (selH as h 0 H0) := by
  have hnth : ∀ b o, nth .dead h b = o → o.live = true → h[b]? = some o := fun b o h1 h2 => nth_some h1 h2
  have key : ∀ j o, (selH as h 0 H0)[j]? = some o → ∃ y, H0[j]? = some y ∧ o = selO as h j y := fun j o hj => by
    obtain ⟨y, h1, h2⟩ := selH_get H0 0 j o hj
    exact ⟨y, h1, by rw [h2, Nat.zero_add]⟩
  refine ⟨fun j hj => ?_, fun j o hj => ?_, fun j j' o o' g hj hj' hl hl' hg hg' => ?_⟩
  · rw [selH_len] at hj
    have : ¬ j < H0.length := by omega
    simp [reβ, this]
  · obtain ⟨y, hy, rfl⟩ := key j o hj
    have hjl := (List.getElem?_eq_some_iff.1 hy).1
    unfold selO
    split
    · rename_i b hb
      have e1 : reβ as H0.length β j = β b := by simp [reβ, hjl, hb]
      have e2 : recp as cp j = cp b := by simp [recp, hb]
      cases hn : nth .dead h b with
      | dead => trivial
      | blk cs =>
        have := hh.obj b _ (hnth b _ hn rfl)
        obtain ⟨g, cur, t, h1, h2, h3, h4, h5⟩ := this
        exact ⟨g, cur, t, e1.trans h1, h2, h3, renL_rep ho hN _ _ h4, h5⟩
      | vec e sz n f =>
        have := hh.obj b _ (hnth b _ hn rfl)
        rcases this with ⟨h1, h2⟩ | ⟨g, cur, h1, h2, h3, h4, h5, h6, h7, h8, h9⟩
        · exact .inl ⟨e1.trans h1, h2⟩
        · exact .inr ⟨g, cur, e1.trans h1, h2, h3, by rw [e2]; exact h4, h5, by rw [e2]; exact h6, by rw [e2]; exact h7, h8, h9⟩
    · rename_i hb
      cases y with
      | dead => trivial
      | blk cs => trivial
      | vec e sz n f => exact .inl ⟨by simp [reβ, hb], rfl⟩
  · obtain ⟨y, hy, rfl⟩ := key j o hj
    obtain ⟨y', hy', rfl⟩ := key j' o' hj'
    have hjl := (List.getElem?_eq_some_iff.1 hy).1
    have hjl' := (List.getElem?_eq_some_iff.1 hy').1
    have out : ∀ j (y : AObj), j < H0.length → (selO as h j y).live = true → reβ as H0.length β j = some g → ∃ b o, fwd j as = some b ∧ h[b]? = some o ∧ o.live = true ∧ β b = some g := by
      intro j y hjl hl hg
      simp only [reβ, hjl, if_true] at hg
      split at hg
      · rename_i b hb
        refine ⟨b, nth .dead h b, hb, ?_, ?_, hg⟩
        · refine hnth b _ rfl ?_
          simp only [selO, hb] at hl
          split at hl
          · rename_i hq; rw [hq]; rfl
          · exact hl
        · simp only [selO, hb] at hl
          split at hl
          · rename_i hq; rw [hq]; rfl
          · exact hl
      · cases hg
    obtain ⟨b, x, b1, b2, b3, b4⟩ := out j y hjl hl hg
    obtain ⟨b', x', c1, c2, c3, c4⟩ := out j' y' hjl' hl' hg'
    have := hh.inj b b' x x' g b2 c2 b3 c3 b4 c4
    subst this
    have p1 := bwd_fwd ho b1
    have p2 := bwd_fwd ho c1
    rw [p1] at p2
    cases p2
    rfl

variable {f : FuncId} {A : List AV} {K : Kont}

/-- all places that the pairs name -/
def below' (N : Nat) : As → Bool
  | [] => true
  | (j, _) :: r => match Nat.blt j N with | true => below' N r | false => false
theorem below'_fwd : ∀ {as : As}, below' N as = true → ∀ j b, fwd j as = some b → j < N
  | [], _, j, b, h => by simp [fwd] at h
  | (i, c) :: r, hb, j, b, h => by
    simp only [below'] at hb
    split at hb
    · rename_i q
      simp only [fwd] at h
      split at h
      · rename_i q2
        have := beq_iff.1 q2
        subst this
        exact blt_iff.1 q
      · exact below'_fwd hb j b h
    · cases hb

mutual
theorem al_below : ∀ (x y : AV) (as : As), (∀ b ∈ ids x, b < N) → below' N as = true → below' N (al x y as) = true := by
  intro x y as hx ha
  have add : ∀ p : Nat × Nat, p.1 < N → below' N (addAs p as) = true := by
    intro p hp
    unfold addAs
    split
    · split
      · exact ha
      · simp only [below']; rw [blt_iff.2 hp]; exact ha
    · simp only [below']; rw [blt_iff.2 hp]; exact ha
  match x, y with
  | .own j _, y => cases y <;> first | exact ha | exact add _ (hx j (by simp [ids]))
  | .ptr j _, y => cases y <;> first | exact ha | exact add _ (hx j (by simp [ids]))
  | .agg l, y => cases y <;> first | exact ha | exact alL_below l _ as (fun b hb => hx b (by simpa [ids] using hb)) ha
  | .tup l, y => cases y <;> first | exact ha | exact alL_below l _ as (fun b hb => hx b (by simpa [ids] using hb)) ha
  | .any, _ => exact ha
  | .bc _, _ => exact ha
  | .b _, _ => exact ha
  | .i _ _, _ => exact ha
  | .s _, _ => exact ha
  | .nil, _ => exact ha
  | .con _, _ => exact ha
  | .sl _ _ _, _ => exact ha
  | .rp _, _ => exact ha
  | .fn _ _, _ => exact ha
  | .ept _ _ _ _, _ => exact ha
  | .ite _ _ _, _ => exact ha
theorem alL_below : ∀ (l m : List AV) (as : As), (∀ b ∈ idsL l, b < N) → below' N as = true → below' N (alL l m as) = true
  | [], _, as, _, ha => by simp [alL, ha]
  | x :: l, [], as, _, ha => by simp [alL, ha]
  | x :: l, y :: m, as, hx, ha => alL_below l m _ (fun b hb => hx b (by simp [idsL, hb])) (al_below x y as (fun b hb => hx b (by simp [idsL, hb])) ha)
end

def allBelow (N : Nat) : List Nat → Bool
  | [] => true
  | x :: r => match Nat.blt x N with | true => allBelow N r | false => false
theorem allBelow_iff : ∀ {l : List Nat}, allBelow N l = true → ∀ b ∈ l, b < N
  | [], _, b, hb => by simp at hb
  | x :: r, h, b, hb => by
    simp only [allBelow] at h
    split at h
    · rename_i q
      rcases List.mem_cons.1 hb with rfl | hb
      · exact blt_iff.1 q
      · exact allBelow_iff h b hb
    · cases h

theorem FnOk.out {r0 : AV} {H0 : Hp} (h : FnOk P f A [] (outA r0 H0)) (hi : allBelow (len H0) (ids r0) = true) (hK : K r0 H0 []) : FnOk P f A [] K := by
  intro w M β cp vs hh hA
  refine (h w M β cp vs hh hA).mono ?_
  rintro e w' ⟨v, r, H', kl, M', β', cp', rfl, ho, hh', hak, hrep⟩
  unfold outA at ho
  dsimp only at ho
  split at ho
  · rename_i hok
    cases ho with
    | mk h1 h2 =>
      rw [len_eq] at h1 hi
      have hN := below'_fwd (al_below (N := H0.length) r0 r [] (allBelow_iff hi) rfl)
      have hr := ren_rep (N := H0.length) hok hN r v hrep
      have hs := sel_heap (as := al r0 r []) (H0 := H0) hh' hok hN
      refine ⟨v, r0, H0, [], M', _, _, rfl, hK, leH_sound hs h2, ⟨hak.keep, fun b hb h00 => absurd (hh.out b (Nat.zero_le _)) h00, hak.ext, fun g hg => ?_⟩, le_sound _ _ _ _ hr h1⟩
      obtain ⟨b, o, hb1, hb2, hb3⟩ := hg
      unfold leH at h2
      have hb4 : reβ (al r0 r []) H0.length β' b = some g := by
        simp only [cut] at hb3
        split at hb3
        · exact hb3
        · cases hb3
      have hbl := (List.getElem?_eq_some_iff.1 hb1).1
      rcases leHs_get h2 b o hb1 with ⟨x, hx, hxo⟩ | ⟨hlen, _⟩
      · have hxl := leO_live hxo hb2
        obtain ⟨y, hy, rfl⟩ := selH_get H0 0 b x hx
        rw [Nat.zero_add] at hxl
        simp only [reβ, hbl, if_true] at hb4
        split at hb4
        · rename_i c hc
          refine hak.own g ⟨c, nth .dead H' c, ?_, ?_, hb4⟩
          · refine nth_some rfl ?_
            simp only [selO, hc] at hxl
            split at hxl
            · rename_i hq; rw [hq]; rfl
            · exact hxl
          · simp only [selO, hc] at hxl
            split at hxl
            · rename_i hq; rw [hq]; rfl
            · exact hxl
        · cases hb4
      · rw [selH_len] at hlen; omega
  · cases ho

end
end Go.Abs
namespace Go.Abs
open Go Go.RowKit
/-- A contract with one outcome, by numbers of its own. -/
theorem det_okA {P : Program} {f : FuncId} {d : Det} (h : ∀ A p r, d A = some (p, r) → p () → allBelow 0 (ids r) = true ∧ FnOk P f A [] (outA r [])) : PcOk P f (detPC d) := by
  intro A PK hp
  unfold detPC at hp
  split at hp
  · rename_i p r hd
    cases hp with
    | mk h1 h2 =>
      obtain ⟨h3, h4⟩ := h A p r hd h1
      exact h4.out h3 h2
  · cases hp
theorem law_callsA {P : Program} {f : FuncId} {A : List AV} {args : Array Value} {W : World} (h : FnOk P f A [] (outA (.bc true) [])) (hA : RepL W (fun _ => False) (fun _ => none) (fun _ => 0) A args.toList) :
    Calls P f args W fun e W' => e = .returned (.bool true) ∧ Below W.heap.size W W' :=
  law_calls (h.out (K := outLe 0 (.bc true) [] []) rfl (.mk (.mk rfl) (.mk trivial rfl))) hA
end Go.Abs
namespace Go.Abs
open Go
/-- What a call tells, by a name of its own. -/
inductive Gen {α : Type} (x : Th α) (p : α → Prop) : Prop where | mk (h : ∀ r, r = x () → p r)
theorem Gen.out {α : Type} {x : Th α} {p : α → Prop} (h : Gen x p) : p (x ()) := by cases h with | mk h => exact h _ rfl

theorem val_sl {α : Type} [Dat α] (l : List α) (sz : Nat) : slV (.sl sz (fun _ => l.length) fun i => Dat.enc fun _ => l.getD (i ()) Dat.d0) = l := by
  simp only [slV, Dat.hdec]
  exact lst_getD _ _
theorem val_nil {α : Type} [Dat α] : slV (α := α) .nil = [] := rfl
theorem val_take {α : Type} [Dat α] (l : List α) (sz n : Nat) (h : n ≤ l.length) : slV (.sl sz (fun _ => n) fun i => Dat.enc fun _ => l.getD (i ()) Dat.d0) = l.take n := by
  simp only [slV, Dat.hdec]
  exact lst_take _ _ _ h
theorem val_drop {α : Type} [Dat α] (l : List α) (sz n k : Nat) (h : k + n ≤ l.length) : slV (.sl sz (fun _ => n) fun i => Dat.enc fun _ => l.getD (i () + k) Dat.d0) = (l.drop k).take n := by
  simp only [slV, Dat.hdec]
  exact lst_drop _ _ _ _ h
theorem val_app {α : Type} [Dat α] (l m : List α) (sz n k : Nat) (hs : sz = Dat.sz α) (hk : k = l.length) (hn : n = k + m.length) : slV (α := α) (.sl sz (fun _ => n) fun j => rowL sz (fun _ => decide (j () < k)) (Dat.enc fun _ => l.getD (j ()) Dat.d0) (Dat.enc fun _ => m.getD (j () - k) Dat.d0)) = l ++ m := by
  subst hs hk hn
  simp only [slV]
  rw [← lst_app l m Dat.d0 _ rfl]
  refine lst_congr fun i hi => ?_
  rw [(Dat.hpick _ _ _ (Dat.hok _) (Dat.hok _)).2]
  simp only [Dat.hdec]
theorem val_snoc {α : Type} [Dat α] (l : List α) (cs : List AV) (sz n : Nat) (hs : sz = Dat.sz α) (hn : n = l.length + 1) (hc : Dat.ok α cs) : slV (α := α) (.sl sz (fun _ => n) fun j => rowL sz (fun _ => decide (j () < l.length)) (Dat.enc fun _ => l.getD (j ()) Dat.d0) cs) = l ++ [Dat.dec cs] := by
  subst hs hn
  simp only [slV]
  rw [← lst_snoc l (Dat.dec cs) Dat.d0 _ rfl]
  refine lst_congr fun i hi => ?_
  rw [(Dat.hpick _ _ _ (Dat.hok _) hc).2]
  simp only [Dat.hdec]
theorem ok_row {α : Type} [Dat α] {c : Th Bool} {l m : List AV} {sz : Nat} (hs : sz = Dat.sz α) (h1 : Dat.ok α l) (h2 : Dat.ok α m) : Dat.ok α (rowL sz c l m) := by subst hs; exact (Dat.hpick c l m h1 h2).1
end Go.Abs
