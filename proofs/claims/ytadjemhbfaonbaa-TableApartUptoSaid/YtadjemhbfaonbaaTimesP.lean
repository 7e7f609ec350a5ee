/- An owner's times, as a set. -/
import Derived.Test.YtadjemhbfaonbaaIndP
import Derived.Test.YtadjemhbfaonbaaOfQ
import Derived.Test.YtadjemhbfaonbaaTurnP
import Derived.Test.YtadjemhbfaonbaaMake
set_option linter.all false
namespace Go.Proofs.Ytadjemhbfaonbaa
open Go Go.Abs

def tmL (n : Int) : List Window → List Span
  | [] => []
  | w :: r => if w.owner = n then ⟨w.frm, w.frm + w.long⟩ :: tmL n r else tmL n r
theorem tmL_drop {n : Int} {l : List Window} {k : Nat} (hk : k < l.length) : tmL n (l.drop k) = if (l.getD k Dat.d0).owner = n then ⟨(l.getD k Dat.d0).frm, (l.getD k Dat.d0).frm + (l.getD k Dat.d0).long⟩ :: tmL n (l.drop (k + 1)) else tmL n (l.drop (k + 1)) := by
  rw [drop_cons Dat.d0 hk, tmL]
theorem tmL_mem {n : Int} {x : Span} : ∀ {l : List Window}, x ∈ tmL n l → ∃ w ∈ l, x = ⟨w.frm, w.frm + w.long⟩ ∧ w.owner = n
  | [], h => by simp [tmL] at h
  | w :: r, h => by
    rw [tmL] at h
    by_cases hn : w.owner = n
    · rw [if_pos hn] at h
      rcases List.mem_cons.1 h with rfl | h
      · exact ⟨w, by simp, rfl, hn⟩
      · obtain ⟨z, hz, h2⟩ := tmL_mem h
        exact ⟨z, by simp [hz], h2⟩
    · rw [if_neg hn] at h
      obtain ⟨z, hz, h2⟩ := tmL_mem h
      exact ⟨z, by simp [hz], h2⟩
theorem tmL_len {n : Int} : ∀ {l : List Window}, (tmL n l).length ≤ l.length
  | [] => Nat.le_refl _
  | w :: r => by
    have := tmL_len (n := n) (l := r)
    rw [tmL]
    split <;> simp only [List.length_cons] <;> omega
theorem tmL_pw {n f : Int} : ∀ {l : List Window} {e : Int}, okW f e l = true → (tmL n l).Pairwise fun x y => x.to ≤ y.frm
  | [], _, _ => List.Pairwise.nil
  | w :: r, e, h => by
    rw [okW, Bool.and_eq_true] at h
    rw [tmL]
    have ih := tmL_pw (n := n) h.2
    split
    · refine List.pairwise_cons.2 ⟨fun x hx => ?_, ih⟩
      obtain ⟨z, hz, rfl, _⟩ := tmL_mem hx
      exact okW_ge h.2 z hz
    · exact ih
theorem tmL_in {n f y : Int} (hn : 0 ≤ n) : ∀ {l : List Window} {e : Int}, okW f e l = true → inB (tmL n l) y = decide ((atW f y l).1 = n)
  | [], _, _ => by
    rw [tmL, atW, decide_eq_false (by show ¬ (-1 : Int) = n; omega)]; rfl
  | w :: r, e, h => by
    rw [okW, Bool.and_eq_true] at h
    have hw := winB_iff.1 h.1
    have ih := tmL_in (n := n) (y := y) hn h.2
    have hr : y < w.frm + w.long → inB (tmL n r) y = false := fun hy => by
      apply Bool.eq_false_iff.2
      intro q
      obtain ⟨x, hx, q1, q2⟩ := inB_iff.1 q
      obtain ⟨z, hz, rfl, _⟩ := tmL_mem hx
      have := okW_ge h.2 z hz
      have q1 : z.frm ≤ y := q1
      omega
    rw [tmL, atW]
    by_cases h1 : y < w.frm
    · rw [if_pos h1, decide_eq_false (by show ¬ (-1 : Int) = n; omega)]
      split
      · rw [inB_cons, hr (by omega), Bool.or_false, decide_eq_false (by show ¬ w.frm ≤ y; omega)]; rfl
      · exact hr (by omega)
    · rw [if_neg h1]
      by_cases h2 : y < w.frm + w.long
      · rw [if_pos h2]
        split
        · rename_i hq
          rw [inB_cons, decide_eq_true (by show w.frm ≤ y; omega), decide_eq_true h2, decide_eq_true hq]; rfl
        · rename_i hq
          rw [hr h2, decide_eq_false hq]
      · rw [if_neg h2]
        split
        · rw [inB_cons, ih, decide_eq_false (show ¬ y < w.frm + w.long from h2), Bool.and_false, Bool.false_or]
        · exact ih
theorem tmL_bad {n f : Int} {l : List Window} (h : okW f 0 l = true) : ∀ x ∈ tmL n l, ¬ badS f x := by
  intro x hx
  obtain ⟨w, hw, rfl, _⟩ := tmL_mem hx
  have := winB_iff.1 (okW_all (Int.le_refl 0) h w hw)
  unfold badS
  show ¬ (w.frm < 0 ∨ w.frm + w.long < w.frm ∨ f < w.frm + w.long)
  omega
def timesV (t : Table) (n : Int) : Set × Int := if wchkV t = 0 then (if ownB n = true then ofV t.frame (tmL n t.windows) else (⟨0, []⟩, 1)) else (⟨0, []⟩, wchkV t)
structure TmOk (t : Table) (n : Int) : Prop where
  e : (timesV t n).2 = 0
  rt : Right (timesV t n).1
  sz : (timesV t n).1.size = t.frame
  inn : ∀ y, inB (timesV t n).1.spans y = decide ((atW t.frame y t.windows).1 = n)
  of : ofV t.frame (tmL n t.windows) = timesV t n
theorem times_rt {t : Table} (h : RightT t) {n : Int} (hn : ownB n = true) : TmOk t n := by
  have hb : 0 ≤ n := by unfold ownB at hn; have := of_decide_eq_true hn; omega
  have e : timesV t n = ofV t.frame (tmL n t.windows) := by rw [timesV, if_pos (wchk_iff.2 h), if_pos hn]
  obtain ⟨o, o1, o2, o3, o4⟩ := ofN_ok (tmL_bad (n := n) h.ok)
  have s1 := h.s1
  have s2 := h.s2
  have hl := tmL_len (n := n) (l := t.windows)
  have hl2 := h.len
  have ev := ofV_some (show ¬ (t.frame < 1 ∨ 1000000 < t.frame) by omega) (by omega) o1
  have e0 : (ofV t.frame (tmL n t.windows)).2 = 0 := by rw [ev]
  obtain ⟨q1, q2, q3, q4⟩ := of_right e0
  exact ⟨by rw [e]; exact e0, by rw [e]; exact q1, by rw [e]; exact q2, fun y => by rw [e, q4, tmL_in hb h.ok], e.symm⟩
theorem times_is {t : Table} {n : Int} (h : (timesV t n).2 = 0) : RightT t ∧ ownB n = true := by
  unfold timesV at h
  by_cases h1 : wchkV t = 0
  · rw [if_pos h1] at h
    by_cases h2 : ownB n = true
    · exact ⟨wchk_iff.1 h1, h2⟩
    · rw [if_neg h2] at h; exact absurd h (by decide)
  · rw [if_neg h1] at h; exact absurd h h1
theorem ownT_mod {t : Table} (h : RightT t) {y : Int} (hy : 0 ≤ y) : ownT t y = (atW t.frame (y % t.frame) t.windows).1 := by
  unfold ownT atV
  rw [Int.tmod_eq_emod_of_nonneg hy]
theorem times_step {t : Table} (h : RightT t) {n : Int} (hn : ownB n = true) {y : Int} (hy : 0 ≤ y) : uptoV (timesV t n).1 (y + 1) = uptoV (timesV t n).1 y + if ownT t y = n then 1 else 0 := by
  have q := times_rt h hn
  rw [upto_ind q.rt hy, q.sz, q.inn, ownT_mod h hy]
  simp only [decide_eq_true_eq]
theorem times_run {t : Table} (h : RightT t) {n : Int} (hn : ownB n = true) {a : Int} (ha : 0 ≤ a) : ∀ (k : Nat), (∀ y, a ≤ y → y < a + k → ownT t y = n) → uptoV (timesV t n).1 (a + k) = uptoV (timesV t n).1 a + k
  | 0, _ => by simp
  | k + 1, hc => by
    have ih := times_run h hn ha k fun y h1 h2 => hc y h1 (by omega)
    have e := times_step h hn (y := a + k) (by omega)
    rw [if_pos (hc _ (by omega) (by omega))] at e
    rw [show a + ((k + 1 : Nat) : Int) = a + k + 1 by omega, e, ih]
    omega
theorem times_count {t : Table} (h : RightT t) {n : Int} (hn : ownB n = true) {a b : Int} (ha : 0 ≤ a) (hab : a ≤ b) (hb : b ≤ 1099511627776) (hc : ∀ y, a ≤ y → y < b → ownT t y = n) : countV (timesV t n).1 a b = (b - a, 0) := by
  have e := times_run h hn ha (b - a).toNat (fun y h1 h2 => hc y h1 (by omega))
  rw [show a + ((b - a).toNat : Int) = b by omega] at e
  rw [count_of (times_rt h hn).rt ha hab hb, e]
  congr 1; omega
theorem at_bd {t : Table} (h : RightT t) (y : Int) : -1 ≤ (atW t.frame y t.windows).1 ∧ (atW t.frame y t.windows).1 < 16 := by
  have : ∀ (l : List Window) (e : Int), okW t.frame e l = true → -1 ≤ (atW t.frame y l).1 ∧ (atW t.frame y l).1 < 16 := by
    intro l
    induction l with
    | nil => intro e _; exact ⟨Int.le_refl _, by show (-1 : Int) < 16; decide⟩
    | cons w r ih =>
      intro e h
      rw [okW, Bool.and_eq_true] at h
      have hw := winB_iff.1 h.1
      rw [atW]
      split
      · exact ⟨Int.le_refl _, by show (-1 : Int) < 16; decide⟩
      · split
        · exact ⟨by show -1 ≤ w.owner; omega, hw.2.1⟩
        · exact ih _ h.2
  exact this _ _ h.ok
theorem ownT_bd {t : Table} (h : RightT t) (y : Int) : -1 ≤ ownT t y ∧ ownT t y < 16 := at_bd h _
theorem ownB_iff {n : Int} : ownB n = true ↔ 0 ≤ n ∧ n < 16 := by simp [ownB]
/-- How long a set is that is made of spans one behind the other. -/
theorem long_app {z : Span} : ∀ {l : List Span}, long (l ++ [z]) = long l + (z.to - z.frm)
  | [] => by simp [long]
  | x :: r => by rw [List.cons_append, long, long, long_app]; omega
theorem addS_long {out : List Span} {x : Span} (hx : x.frm ≤ x.to) (h : ∀ y ∈ out, y.to ≤ x.frm) : long (addS out x) = long out + (x.to - x.frm) ∧ ∀ y ∈ addS out x, y.to ≤ x.to := by
  unfold addS
  split
  · exact ⟨by omega, fun y hy => by have := h y hy; omega⟩
  · rcases List.eq_nil_or_concat out with rfl | ⟨init, z, hz0⟩
    · rw [if_neg (by simp)]
      exact ⟨by simp [long], fun y hy => by simp at hy; subst hy; exact Int.le_refl _⟩
    · rw [List.concat_eq_append] at hz0
      subst hz0
      have e1 : lastG (init ++ [z]) = z := by simp [lastG, List.getD_eq_getElem?_getD]
      have e2 : (init ++ [z]).length - 1 = init.length := by simp
      have hz := h z (by simp)
      rw [e1]
      split
      · rename_i hc
        rw [e2, List.set_append_right _ _ (Nat.le_refl _), Nat.sub_self]
        show long (init ++ [_]) = _ ∧ ∀ y ∈ init ++ [_], _
        rw [long_app, long_app]
        refine ⟨by show _ + ((if x.to > z.to then x.to else z.to) - z.frm) = _; split <;> omega, fun y hy => ?_⟩
        rcases List.mem_append.1 hy with hy | hy
        · have := h y (by simp [hy]); omega
        · simp at hy; subst hy
          show (if x.to > z.to then x.to else z.to) ≤ x.to
          split <;> omega
      · rw [long_app]
        refine ⟨rfl, fun y hy => ?_⟩
        rcases List.mem_append.1 hy with hy | hy
        · have := h y hy; omega
        · simp at hy; subst hy; exact Int.le_refl _
theorem ofR_long {n : Int} : ∀ {d out o : List Span}, ofR n out d = some o → (∀ x ∈ d, x.frm ≤ x.to) → (∀ x ∈ d, ∀ y ∈ out, y.to ≤ x.frm) → d.Pairwise (fun x y => x.to ≤ y.frm) → long o = long out + long d
  | [], out, o, h, _, _, _ => by rw [ofR] at h; cases h; simp [long]
  | x :: d, out, o, h, h1, h2, h3 => by
    rw [ofR] at h
    split at h
    · cases h
    · rw [List.pairwise_cons] at h3
      have a := addS_long (h1 x (by simp)) (h2 x (by simp))
      have := ofR_long h (fun y hy => h1 y (by simp [hy])) (fun y hy z hz => Int.le_trans (a.2 z hz) (h3.1 y hy)) h3.2
      rw [this, a.1, long]; omega
theorem times_long {t : Table} (h : RightT t) {n : Int} (hn : ownB n = true) : countV (timesV t n).1 0 t.frame = (long (tmL n t.windows), 0) := by
  have q := times_rt h hn
  have s1 := h.s1
  have s2 := h.s2
  have u := upto_frame q.rt (Int.le_refl 0)
  rw [q.sz, Int.zero_add] at u
  rw [count_of q.rt (Int.le_refl 0) (by omega) (by omega), u]
  obtain ⟨o, h1, _, _, _, h5⟩ := of_ok (show (ofV t.frame (tmL n t.windows)).2 = 0 by rw [q.of]; exact q.e)
  have hp := tmL_pw (n := n) h.ok
  have hb : ∀ x ∈ tmL n t.windows, x.frm ≤ x.to := fun x hx => by
    have := tmL_bad h.ok x hx
    unfold badS at this; omega
  have hs : srtd (tmL n t.windows) := hp.imp_of_mem fun hx hy hxy => by
    have := hb _ hx
    omega
  have e : ofR t.frame [] (tmL n t.windows) = some o := (ofR_perm isr_perm.symm hs isr_srtd).trans h1
  have hlo := ofR_long e hb (by simp) hp
  rw [← q.of, h5] at *
  simp only [long] at hlo ⊢
  congr 1
  omega
def lenL (k : Int) : List Window → Int
  | [] => 0
  | w :: r => (if w.owner < k then w.long else 0) + lenL k r
def lenA : List Window → Int
  | [] => 0
  | w :: r => w.long + lenA r
theorem lenA_drop {l : List Window} {k : Nat} (hk : k < l.length) : lenA (l.drop k) = (l.getD k Dat.d0).long + lenA (l.drop (k + 1)) := by
  rw [drop_cons Dat.d0 hk, lenA]
theorem lenL_next {k : Int} : ∀ {l : List Window}, lenL (k + 1) l = lenL k l + long (tmL k l)
  | [] => rfl
  | w :: r => by
    rw [lenL, lenL, tmL, lenL_next (l := r)]
    by_cases h : w.owner = k
    · rw [if_pos h, if_pos (by omega), if_neg (by omega), long]
      show w.long + _ = 0 + _ + ((w.frm + w.long - w.frm) + _)
      omega
    · rw [if_neg h]
      by_cases h2 : w.owner < k
      · rw [if_pos (by omega), if_pos h2]; omega
      · rw [if_neg (by omega), if_neg h2]; omega
theorem lenL_zero {l : List Window} (h : ∀ w ∈ l, 0 ≤ w.owner) : lenL 0 l = 0 := by
  induction l with
  | nil => rfl
  | cons w r ih =>
    have := h w (by simp)
    rw [lenL, if_neg (by omega), ih fun x hx => h x (by simp [hx])]; rfl
theorem lenL_all {k : Int} {l : List Window} (h : ∀ w ∈ l, w.owner < k) : lenL k l = lenA l := by
  induction l with
  | nil => rfl
  | cons w r ih =>
    rw [lenL, lenA, if_pos (h w (by simp)), ih fun x hx => h x (by simp [hx])]
theorem long_bd {n f : Int} : ∀ {l : List Window} {e : Int}, okW f e l = true → 0 ≤ e → e ≤ f → 0 ≤ long (tmL n l) ∧ long (tmL n l) ≤ f - e ∧ 0 ≤ lenA l ∧ lenA l ≤ f - e
  | [], e, _, h0, h1 => ⟨Int.le_refl _, by show 0 ≤ f - e; omega, Int.le_refl _, by show 0 ≤ f - e; omega⟩
  | w :: r, e, h, h0, h1 => by
    rw [okW, Bool.and_eq_true] at h
    have hw := winB_iff.1 h.1
    have ih := long_bd (n := n) h.2 (by omega) (by omega)
    rw [tmL, lenA]
    split
    · rw [long]
      show 0 ≤ (w.frm + w.long - w.frm) + _ ∧ (w.frm + w.long - w.frm) + _ ≤ _ ∧ _
      omega
    · omega

end Go.Proofs.Ytadjemhbfaonbaa
