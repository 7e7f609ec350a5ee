/- A stable sort of jobs: blocks, and merges of these: plain. -/
import Derived.Test.YtcnfdohlgmipoaaStJR
set_option linter.all false
namespace Go.Proofs.Ytcnfdohlgmipoaa
open Go Go.Abs

theorem cutJ_td (l : List job) (a b : Nat) : cutJ l a b = (l.take b).drop a := by
  unfold cutJ; rw [List.drop_take]
theorem cut_seg_lt {d : List job} {a b x y : Nat} (h1 : y ≤ a) (h3 : a ≤ d.length) : cutJ (segS d a b) x y = cutJ d x y := by
  rw [cutJ_td, cutJ_td]
  unfold segS
  rw [List.append_assoc, List.take_append_of_le_length (by rw [List.length_take]; omega), List.take_take, Nat.min_eq_left h1]
theorem cut_seg_gt {d : List job} {a b x y : Nat} (h1 : b ≤ x) (h2 : a ≤ b) (h3 : b ≤ d.length) : cutJ (segS d a b) x y = cutJ d x y := by
  have hl : (d.take a ++ sortS ((d.drop a).take (b - a))).length = b := by
    rw [List.length_append, sortS_len, List.length_take, List.length_take, List.length_drop]; omega
  unfold cutJ segS
  rw [List.drop_append, hl, List.drop_drop, show b + (x - b) = x by omega, List.drop_eq_nil_of_le (by rw [hl]; exact h1), List.nil_append]
theorem cut_seg_eq {d : List job} {a b : Nat} (h2 : a ≤ b) (h3 : b ≤ d.length) : cutJ (segS d a b) a b = sortS (cutJ d a b) :=
  cutP (P := d.take a) (Q := d.drop b) rfl (by rw [List.length_take]; omega) (by rw [sortS_len, cutJ_len h3]; omega)
theorem seg_flt {d : List job} {a b : Nat} (h2 : a ≤ b) (c : Int) : fltJ c (segS d a b) = fltJ c d := by
  unfold segS
  rw [fltJ_app, fltJ_app, sortS_flt, ← fltJ_app, ← fltJ_app, seg_cut d a b h2]
structure Keep (l d : List job) : Prop where
  hl : d.length = l.length
  hf : ∀ c, fltJ c d = fltJ c l
theorem Keep.seg {l d : List job} {a b : Nat} (h : Keep l d) (h2 : a ≤ b) (h3 : b ≤ d.length) : Keep l (segS d a b) :=
  ⟨by rw [segS_len h2 h3]; exact h.hl, fun c => by rw [seg_flt h2]; exact h.hf c⟩
def BlkJ (w : Nat) (d : List job) : Prop := ∀ x, w ∣ x → SrtJ (cutJ d x (min (x + w) d.length))
theorem dvd_nxt {w a x : Nat} (ha : w ∣ a) (hx : w ∣ x) (h : x < a + w) : x < a ∨ x = a := by
  rcases Nat.lt_or_ge x a with h2 | h2
  · exact .inl h2
  · right
    have h3 : w ∣ x - a := Nat.dvd_sub hx ha
    have h4 := Nat.eq_zero_of_dvd_of_lt h3 (by omega)
    omega
theorem dvd_nxt2 {w a x : Nat} (ha : w ∣ a) (hx : w ∣ x) (h : a < x) : a + w ≤ x := by
  rcases Nat.lt_or_ge x (a + w) with h2 | h2
  · rcases dvd_nxt ha hx h2 with h3 | h3 <;> omega
  · exact h2
structure UpJ (w : Nat) (l d : List job) (a : Nat) : Prop extends Keep l d where
  ha : w ∣ a
  p : ∀ x, w ∣ x → x < a → SrtJ (cutJ d x (x + w))
theorem cut_none {d : List job} {x y : Nat} (h : y ≤ x) : cutJ d x y = [] := by
  unfold cutJ; rw [show y - x = 0 by omega]; simp
theorem UpJ.step {w a : Nat} {l d : List job} (h : UpJ w l d a) (hb : a + w ≤ d.length) : UpJ w l (segS d a (a + w)) (a + w) :=
  { h.toKeep.seg (by omega) hb with
    ha := Nat.dvd_add h.ha (Nat.dvd_refl w)
    p := fun x hx hxa => by
      rcases dvd_nxt h.ha hx hxa with h2 | rfl
      · have h3 : x + w ≤ a := dvd_nxt2 hx h.ha h2
        rw [cut_seg_lt h3 (by omega)]
        exact h.p x hx h2
      · rw [cut_seg_eq (by omega) hb]
        exact sortS_srt _ }
theorem UpJ.last {w a : Nat} {l d : List job} (h : UpJ w l d a) (h1 : a ≤ d.length) (hb : d.length < a + w) : Keep l (segS d a d.length) ∧ BlkJ w (segS d a d.length) := by
  have k := h.toKeep.seg (a := a) (b := d.length) h1 (Nat.le_refl _)
  refine ⟨k, fun x hx => ?_⟩
  rw [k.hl, ← h.hl]
  rcases Nat.lt_or_ge x (a + w) with h2 | h2
  · rcases dvd_nxt h.ha hx h2 with h2 | rfl
    · have h3 : x + w ≤ a := dvd_nxt2 hx h.ha h2
      rw [cut_seg_lt (by omega) (by omega), Nat.min_eq_left (by omega)]
      exact h.p x hx h2
    · rw [Nat.min_eq_right (by omega), cut_seg_eq h1 (Nat.le_refl _)]
      exact sortS_srt _
  · rw [cut_none (by omega)]
    exact List.Pairwise.nil
structure MgJ (w : Nat) (l d : List job) (a : Nat) : Prop extends UpJ (2 * w) l d a where
  q : ∀ x, w ∣ x → a ≤ x → SrtJ (cutJ d x (min (x + w) d.length))
theorem MgJ.start {w : Nat} {l d : List job} (k : Keep l d) (h : BlkJ w d) : MgJ w l d 0 :=
  { k with
    ha := Nat.dvd_zero _
    p := fun x _ hx => absurd hx (Nat.not_lt_zero _)
    q := fun x hx _ => h x hx }
theorem MgJ.dw {w a : Nat} {l d : List job} (h : MgJ w l d a) : w ∣ a := Nat.dvd_trans (Nat.dvd_mul_left w 2) h.ha
theorem MgJ.sA {w a : Nat} {l d : List job} (h : MgJ w l d a) (hb : a + w ≤ d.length) : SrtJ (cutJ d a (a + w)) := by
  have := h.q a h.dw (Nat.le_refl _)
  rwa [Nat.min_eq_left hb] at this
theorem MgJ.sB {w a : Nat} {l d : List job} (h : MgJ w l d a) : SrtJ (cutJ d (a + w) (min (a + 2 * w) d.length)) := by
  have := h.q (a + w) (Nat.dvd_add h.dw (Nat.dvd_refl w)) (by omega)
  rwa [show a + w + w = a + 2 * w by omega] at this
theorem MgJ.step {w a : Nat} {l d : List job} (h : MgJ w l d a) (hb : a + 2 * w ≤ d.length) : MgJ w l (segS d a (a + 2 * w)) (a + 2 * w) :=
  { h.toUpJ.step hb with
    q := fun x hx hxa => by
      rw [(h.toKeep.seg (a := a) (b := a + 2 * w) (by omega) hb).hl, ← h.hl, cut_seg_gt hxa (by omega) hb]
      exact h.q x hx (by omega) }
theorem MgJ.none {w a : Nat} {l d : List job} (h : MgJ w l d a) (h1 : a ≤ d.length) (hb : d.length ≤ a + w) : segS d a d.length = d := by
  have := h.q a h.dw (Nat.le_refl _)
  rw [Nat.min_eq_right hb] at this
  have e : sortS ((d.drop a).take (d.length - a)) = (d.drop a).take (d.length - a) := sortS_of this
  unfold segS
  rw [e]
  exact seg_cut d a d.length h1
theorem blk_end {w : Nat} {l d : List job} (k : Keep l d) (h : BlkJ w d) (hw : d.length ≤ w) : sortS l = d := by
  refine sortS_uniq ?_ k.hf
  have := h 0 (Nat.dvd_zero _)
  rw [Nat.min_eq_right (by omega)] at this
  unfold cutJ at this
  rw [List.drop_zero, Nat.sub_zero, List.take_length] at this
  exact this

end Go.Proofs.Ytcnfdohlgmipoaa
