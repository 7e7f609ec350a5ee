/- Objects by other numbers. -/
import Derived.Test.YtadjemhbfaonbaaAbsVcSound4
set_option linter.all false
namespace Go.Abs
open Go
section
variable {P : Program} {w : World} {M : Nat → Prop} {β : Nat → Option Nat} {cp : Nat → Nat} {h : Hp}

def reβ (as : As) (N : Nat) (β : Nat → Option Nat) : Nat → Option Nat := fun j => if j < N then (match fwd j as with | some b => β b | none => none) else none
def recp (as : As) (cp : Nat → Nat) : Nat → Nat := fun j => match fwd j as with | some b => cp b | none => 0

theorem fwd_bwd : ∀ {as : As}, okAs as = true → ∀ {j b : Nat}, bwd b as = some j → fwd j as = some b
  | [], _, j, b, h => by simp [bwd] at h
  | (i, c) :: r, ho, j, b, h => by
    simp only [okAs] at ho
    split at ho
    · rename_i h1 h2
      simp only [bwd] at h
      simp only [fwd]
      split at h
      · rename_i q
        have q := beq_iff.1 q
        cases h
        subst q
        rw [beq_iff.2 rfl]
      · have ih := fwd_bwd ho h
        split
        · rename_i q
          have q := beq_iff.1 q
          subst q
          rw [h1] at ih; cases ih
        · exact ih
    · cases ho
theorem bwd_fwd : ∀ {as : As}, okAs as = true → ∀ {j b : Nat}, fwd j as = some b → bwd b as = some j
  | [], _, j, b, h => by simp [fwd] at h
  | (i, c) :: r, ho, j, b, h => by
    simp only [okAs] at ho
    split at ho
    · rename_i h1 h2
      simp only [fwd] at h
      simp only [bwd]
      split at h
      · rename_i q
        have q := beq_iff.1 q
        cases h
        subst q
        rw [beq_iff.2 rfl]
      · have ih := bwd_fwd ho h
        split
        · rename_i q
          have q := beq_iff.1 q
          subst q
          rw [h2] at ih; cases ih
        · exact ih
    · cases ho

variable {as : As} {N : Nat}
theorem reβ_of (ho : okAs as = true) (hN : ∀ j b, fwd j as = some b → j < N) {j b : Nat} (h : bwd b as = some j) : reβ as N β j = β b ∧ recp as cp j = cp b := by
  have h1 := fwd_bwd ho h
  have h2 := hN j b h1
  simp [reβ, recp, h1, h2]

mutual
theorem ren_rep (ho : okAs as = true) (hN : ∀ j b, fwd j as = some b → j < N) : ∀ (x : AV) (v : Value), Rep w M β cp x v → Rep w M (reβ as N β) (recp as cp) (ren as x) v
  | .any, v, _ => .c (.any v)
  | .bc p, v, hr => by cases hr with | c h => exact .c h
  | .b p, v, hr => by cases hr with | c h => exact .c h
  | .i k n, v, hr => by cases hr with | c h => exact .c h
  | .s x, v, hr => by cases hr with | c h => exact .c h
  | .nil, v, hr => by cases hr with | c h => exact .c h
  | .con x, v, hr => by cases hr with | c h => exact .c h
  | .sl sz n f, v, hr => by cases hr with | c h => exact .c h
  | .rp l, v, hr => by cases hr with | c h => exact .c h
  | .agg l, v, hr => by
    obtain ⟨cs, rfl, hL, hone⟩ := rep_agg hr
    have := renL_rep ho hN l _ hL
    exact .agg _ cs (by simpa using this.1) (fun v hv => hone v (by simpa using hv)) fun j x hj => by rw [getD_arr]; exact this.2 j x hj
  | .tup l, v, hr => by
    obtain ⟨cs, rfl, hL⟩ := rep_tup hr
    have := renL_rep ho hN l _ hL
    exact .tup _ cs (by simpa using this.1) fun j x hj => by rw [getD_arr]; exact this.2 j x hj
  | .fn f l, v, hr => .c (.any v)
  | .ptr c o, v, hr => by
    obtain ⟨g, hg, rfl⟩ := rep_ptr hr
    simp only [ren]
    split
    · rename_i j hj
      exact .ptr _ o g (by rw [(reβ_of (β := β) (cp := cp) ho hN hj).1]; exact hg)
    · exact .c (.any _)
  | .ept c sz i o, v, hr => by
    obtain ⟨g, hg, rfl⟩ := rep_ept hr
    simp only [ren]
    split
    · rename_i j hj
      exact .ept _ sz i o g (by rw [(reβ_of (β := β) (cp := cp) ho hN hj).1]; exact hg)
    · exact .c (.any _)
  | .own c m, v, hr => by
    simp only [ren]
    split
    · rename_i j hj
      rcases rep_own hr with ⟨h0, rfl⟩ | ⟨g, hg, hn, rfl⟩
      · exact .own0 _ m h0
      · have h1 := reβ_of (β := β) (cp := cp) ho hN hj
        rw [← h1.2]
        exact .own _ m g (by rw [h1.1]; exact hg) (by rw [h1.2]; exact hn)
    · exact .c (.any _)
  | .nn c m, v, hr => by
    simp only [ren]
    split
    · rename_i j hj
      obtain ⟨g, hg, hn, rfl⟩ := rep_nn hr
      have h1 := reβ_of (β := β) (cp := cp) ho hN hj
      rw [← h1.2]
      exact .nn _ m g (by rw [h1.1]; exact hg) (by rw [h1.2]; exact hn)
    · exact .c (.any _)
  | .vw c sz p m, v, hr => by
    simp only [ren]
    split
    · rename_i j hj
      rcases rep_vw hr with ⟨h0, a, c', hc', rfl⟩ | ⟨g, hg, hn, rfl⟩
      · exact .vw0 _ sz p m a c' h0 hc'
      · have h1 := reβ_of (β := β) (cp := cp) ho hN hj
        rw [← h1.2]
        exact .vw _ sz p m g (by rw [h1.1]; exact hg) (by rw [h1.2]; exact hn)
    · exact .c (.any _)
  | .ite c x y, v, hr => by
    have key : (c () = true → Rep w M β cp x v) ∧ (c () = false → Rep w M β cp y v) := by
      cases hr with
      | c h => cases h with | ite _ _ _ _ h1 h2 => exact ⟨fun h => .c (h1 h), fun h => .c (h2 h)⟩
      | ite _ _ _ _ h1 h2 => exact ⟨h1, h2⟩
    exact .ite c _ _ v (fun hc => ren_rep ho hN x v (key.1 hc)) (fun hc => ren_rep ho hN y v (key.2 hc))
theorem renL_rep (ho : okAs as = true) (hN : ∀ j b, fwd j as = some b → j < N) : ∀ (l : List AV) (vs : List Value), RepL w M β cp l vs → RepL w M (reβ as N β) (recp as cp) (renL as l) vs
  | [], vs, hr => ⟨hr.1, fun j x hj => by simp [renL] at hj⟩
  | x :: l, vs, hr => by
    match vs, hr with
    | [], hr => exact absurd hr.1 (by simp)
    | u :: vs, hr =>
      have hx := ren_rep ho hN x u (by have := hr.2 0 x rfl; simpa using this)
      have := renL_rep ho hN l vs ⟨by have := hr.1; simp at this; omega, fun j x hj => by have := hr.2 (j + 1) x (by simpa using hj); simpa using this⟩
      refine ⟨by have := this.1; simp [renL]; omega, fun j z hj => ?_⟩
      cases j with
      | zero => simp [renL] at hj; subst hj; simpa using hx
      | succ j => have := this.2 j z (by simpa [renL] using hj); simpa using this
end

theorem selH_get {H : Hp} : ∀ (H0 : Hp) (k j : Nat) (o : AObj), (selH as H k H0)[j]? = some o → ∃ y, H0[j]? = some y ∧ o = selO as H (k + j) y
  | [], _, _, _, h => by simp [selH] at h
  | y :: r, k, 0, o, h => by simp [selH] at h; exact ⟨y, rfl, by rw [← h]; rfl⟩
  | y :: r, k, j + 1, o, h => by
    obtain ⟨z, h1, h2⟩ := selH_get r (k + 1) j o (by simpa [selH] using h)
    exact ⟨z, by simpa using h1, by rw [h2, show k + 1 + j = k + (j + 1) by omega]⟩
theorem selH_len {H : Hp} : ∀ (H0 : Hp) (k : Nat), (selH as H k H0).length = H0.length
  | [], _ => rfl
  | y :: r, k => by simp [selH, selH_len r (k + 1)]

theorem sel_heap (hh : HeapRel w M β cp h) {H0 : Hp} (ho : okAs as = true) (hN : ∀ j b, fwd j as = some b → j < H0.length) : HeapRel w M (reβ as H0.length β) (recp as cp) (selH as h 0 H0) := by
  have hnth : ∀ b o, nth .dead h b = o → o.live = true → h[b]? = some o := fun b o h1 h2 => nth_some h1 h2
  have key : ∀ j o, (selH as h 0 H0)[j]? = some o → ∃ y, H0[j]? = some y ∧ o = selO as h j y := fun j o hj => by
    obtain ⟨y, h1, h2⟩ := selH_get H0 0 j o hj
    exact ⟨y, h1, by rw [h2, Nat.zero_add]⟩
  refine ⟨fun j hj => ?_, fun j o hj => ?_, fun j j' o o' g hj hj' hl hl' hg hg' => ?_, hh.dom⟩
  · rw [selH_len] at hj
    have : ¬ j < H0.length := by omega
    simp [reβ, this]
  · obtain ⟨y, hy, rfl⟩ := key j o hj
    have hjl := (List.getElem?_eq_some_iff.1 hy).1
    unfold selO
    split
    · rename_i b hb
      have e1 : reβ as H0.length β j = β b := by simp [reβ, hjl, hb]
      have e2 : recp as cp j = cp b := by simp [recp, hb]
      cases hn : nth .dead h b with
      | dead => trivial
      | blk cs =>
        have := hh.obj b _ (hnth b _ hn rfl)
        obtain ⟨g, cur, t, h1, h2, h3, h4, h5⟩ := this
        exact ⟨g, cur, t, e1.trans h1, h2, h3, renL_rep ho hN _ _ h4, h5⟩
      | vec e sz n f =>
        have := hh.obj b _ (hnth b _ hn rfl)
        rcases this with ⟨h1, h2⟩ | ⟨g, cur, h1, h2, h3, h4, h5, h6, h7, h8, h9⟩
        · exact .inl ⟨e1.trans h1, h2⟩
        · exact .inr ⟨g, cur, e1.trans h1, h2, h3, by rw [e2]; exact h4, h5, by rw [e2]; exact h6, by rw [e2]; exact h7, h8, h9⟩
    · rename_i hb
      cases y with
      | dead => trivial
      | blk cs => trivial
      | vec e sz n f => exact .inl ⟨by simp [reβ, hb], rfl⟩
  · obtain ⟨y, hy, rfl⟩ := key j o hj
    obtain ⟨y', hy', rfl⟩ := key j' o' hj'
    have hjl := (List.getElem?_eq_some_iff.1 hy).1
    have hjl' := (List.getElem?_eq_some_iff.1 hy').1
    have out : ∀ j (y : AObj), j < H0.length → (selO as h j y).live = true → reβ as H0.length β j = some g → ∃ b o, fwd j as = some b ∧ h[b]? = some o ∧ o.live = true ∧ β b = some g := by
      intro j y hjl hl hg
      simp only [reβ, hjl, if_true] at hg
      split at hg
      · rename_i b hb
        refine ⟨b, nth .dead h b, hb, ?_, ?_, hg⟩
        · refine hnth b _ rfl ?_
          simp only [selO, hb] at hl
          split at hl
          · rename_i hq; rw [hq]; rfl
          · exact hl
        · simp only [selO, hb] at hl
          split at hl
          · rename_i hq; rw [hq]; rfl
          · exact hl
      · cases hg
    obtain ⟨b, x, b1, b2, b3, b4⟩ := out j y hjl hl hg
    obtain ⟨b', x', c1, c2, c3, c4⟩ := out j' y' hjl' hl' hg'
    have := hh.inj b b' x x' g b2 c2 b3 c3 b4 c4
    subst this
    have p1 := bwd_fwd ho b1
    have p2 := bwd_fwd ho c1
    rw [p1] at p2
    cases p2
    rfl

theorem below'_fwd : ∀ {as : As}, below' N as = true → ∀ j b, fwd j as = some b → j < N
  | [], _, j, b, h => by simp [fwd] at h
  | (i, c) :: r, hb, j, b, h => by
    simp only [below'] at hb
    split at hb
    · rename_i q
      simp only [fwd] at h
      split at h
      · rename_i q2
        have := beq_iff.1 q2
        subst this
        exact blt_iff.1 q
      · exact below'_fwd hb j b h
    · cases hb


theorem lk_renT {t : Nat} : ∀ {s : Tm}, lk (renT as s) t = ren as (lk s t)
  | [] => rfl
  | (i, v) :: r => by
    simp only [renT, lk]
    split
    · rfl
    · exact lk_renT
theorem sel_blks {H0 : Hp} {g : Nat} (hg : Blks (reβ as H0.length β) (selH as h 0 H0) g) : Blks β h g := by
  obtain ⟨b, x, hx, hxl, hb4⟩ := hg
  obtain ⟨y, hy, rfl⟩ := selH_get H0 0 b x hx
  have hbl := (List.getElem?_eq_some_iff.1 hy).1
  rw [Nat.zero_add] at hxl
  simp only [reβ, hbl, if_true] at hb4
  split at hb4
  · rename_i c hc
    refine ⟨c, nth .dead h c, ?_, ?_, hb4⟩
    · refine nth_some rfl ?_
      simp only [selO, hc] at hxl
      split at hxl
      · rename_i hq; rw [hq]; rfl
      · exact hxl
    · simp only [selO, hc] at hxl
      split at hxl
      · rename_i hq; rw [hq]; rfl
      · exact hxl
  · cases hb4
end
end Go.Abs
