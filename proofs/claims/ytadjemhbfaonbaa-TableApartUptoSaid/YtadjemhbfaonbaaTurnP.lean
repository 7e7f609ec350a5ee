/- Turns: a time is cut into pieces of one owner each; there is one way to do so. -/
import Derived.Test.YtadjemhbfaonbaaTable
set_option linter.all false
namespace Go.Proofs.Ytadjemhbfaonbaa
open Go Go.Abs

def ownT (t : Table) (y : Int) : Int := (atV t (y.tmod t.frame)).1
theorem at_seg {f x : Int} : ∀ {l : List Window} {e : Int}, okW f e l = true → x < f → x < (atW f x l).2 ∧ (atW f x l).2 ≤ f ∧ ∀ y, x ≤ y → y < (atW f x l).2 → (atW f y l).1 = (atW f x l).1
  | [], e, _, hx => ⟨hx, Int.le_refl _, fun _ _ _ => rfl⟩
  | w :: r, e, h, hx => by
    rw [okW, Bool.and_eq_true] at h
    have hw := winB_iff.1 h.1
    rw [atW]
    by_cases h1 : x < w.frm
    · rw [if_pos h1]
      exact ⟨h1, hw.2.2.2.1, fun y _ h3 => by rw [atW, if_pos h3]⟩
    · rw [if_neg h1]
      by_cases h2 : x < w.frm + w.long
      · rw [if_pos h2]
        exact ⟨h2, by show w.frm + w.long ≤ f; omega, fun y h3 h4 => by rw [atW, if_neg (by omega), if_pos h4]⟩
      · rw [if_neg h2]
        obtain ⟨a, b, c⟩ := at_seg h.2 hx
        exact ⟨a, b, fun y h3 h4 => by rw [atW, if_neg (by omega), if_neg (by omega)]; exact c y h3 h4⟩
theorem tmod_in {f x : Int} (hf : 1 ≤ f) (hx : 0 ≤ x) : 0 ≤ x.tmod f ∧ x.tmod f < f ∧ x.tmod f ≤ x := by
  rw [Int.tmod_eq_emod_of_nonneg hx]
  exact ⟨Int.emod_nonneg _ (by omega), Int.emod_lt_of_pos _ (by omega), by
    have := Int.mul_ediv_add_emod x f
    have h2 := Int.mul_nonneg (show 0 ≤ f by omega) (Int.ediv_nonneg hx (show 0 ≤ f by omega))
    omega⟩
theorem tmod_add {f x k : Int} (hf : 1 ≤ f) (hx : 0 ≤ x) (hk : 0 ≤ k) (h : x.tmod f + k < f) : (x + k).tmod f = x.tmod f + k := by
  have := tmod_in hf hx
  rw [Int.tmod_eq_emod_of_nonneg hx] at *
  rw [Int.tmod_eq_emod_of_nonneg (by omega), ← Int.emod_add_emod, Int.emod_eq_of_lt (by omega) h]
theorem ownT_seg {t : Table} (h : RightT t) {x y : Int} (hx : 0 ≤ x) (h1 : x ≤ y) (h2 : y < x - x.tmod t.frame + (atV t (x.tmod t.frame)).2) : ownT t y = (atV t (x.tmod t.frame)).1 := by
  have hm := tmod_in h.s1 hx
  obtain ⟨a, b, c⟩ := at_seg h.ok hm.2.1
  have e := tmod_add (k := y - x) h.s1 hx (by omega) (by unfold atV at h2; omega)
  rw [show x + (y - x) = y by omega] at e
  unfold ownT
  rw [e]
  exact c _ (by omega) (by unfold atV at h2; omega)
theorem ownT_frame {t : Table} (h : RightT t) {x : Int} (hx : 0 ≤ x) : ownT t (x + t.frame) = ownT t x := by
  have := h.s1
  unfold ownT
  rw [Int.tmod_eq_emod_of_nonneg hx, Int.tmod_eq_emod_of_nonneg (by omega), Int.add_emod_right]
/-- What owns a whole frame owns all. -/
theorem ownT_all {t : Table} (h : RightT t) {b n : Int} (hb : 0 ≤ b) (hc : ∀ y, b ≤ y → y < b + t.frame → ownT t y = n) : ∀ (k : Nat) (y : Int), b ≤ y → y < b + t.frame + k → ownT t y = n
  | 0, y, h1, h2 => hc y h1 (by omega)
  | k + 1, y, h1, h2 => by
    have := h.s1
    by_cases h3 : y < b + t.frame
    · exact hc y h1 h3
    · have e := ownT_frame h (x := y - t.frame) (by omega)
      rw [Int.sub_add_cancel] at e
      rw [e]
      exact ownT_all h hb hc k _ (by omega) (by omega)
def Runs (t : Table) : Int → Int → List Window → Prop
  | a, b, [] => a = b
  | a, b, w :: r => w.frm = a ∧ 1 ≤ w.long ∧ (∀ y, a ≤ y → y < a + w.long → ownT t y = w.owner) ∧ (∀ z, r.head? = some z → z.owner ≠ w.owner) ∧ Runs t (a + w.long) b r
theorem runs_le {t : Table} : ∀ {l : List Window} {a b : Int}, Runs t a b l → a ≤ b
  | [], _, _, h => by rw [Runs] at h; omega
  | w :: r, _, _, h => by
    rw [Runs] at h
    have := runs_le h.2.2.2.2
    omega
theorem runs_head {t : Table} {a b : Int} {l : List Window} {z : Window} (h : Runs t a b l) (hz : l.head? = some z) : z.owner = ownT t a ∧ z.frm = a ∧ 1 ≤ z.long ∧ a < b := by
  match l, h with
  | w :: r, h =>
    rw [Runs] at h
    cases hz
    have := runs_le h.2.2.2.2
    exact ⟨(h.2.2.1 a (Int.le_refl _) (by omega)).symm, h.1, h.2.1, by omega⟩
theorem runs_nil {t : Table} {a b : Int} {l : List Window} (h : Runs t a b l) (hl : l.head? = none) : a = b := by
  match l, h with
  | [], h => exact h
theorem runs_first {t : Table} {a b c : Int} {w w' : Window} {r r' : List Window} (h : Runs t a b (w :: r)) (h' : Runs t a c (w' :: r')) (hr : w'.long < w.long) : r' = [] ∧ a + w'.long = c := by
  rw [Runs] at h; rw [Runs] at h'
  cases r' with
  | nil => exact ⟨rfl, h'.2.2.2.2⟩
  | cons z s =>
    have h1 := (runs_head h'.2.2.2.2 rfl).1
    have h2 := h'.2.2.2.1 z rfl
    have h3 := h.2.2.1 (a + w'.long) (by omega) (by omega)
    have h4 := h.2.2.1 a (by omega) (by omega)
    have h5 := h'.2.2.1 a (by omega) (by omega)
    exact absurd (by rw [h1, h3, ← h4, h5]) h2
theorem runs_pre {t : Table} : ∀ {l m : List Window} {a b c : Int}, Runs t a b l → Runs t a c m → b ≤ c → l.length ≤ m.length
  | [], _, _, _, _, _, _, _ => Nat.zero_le _
  | w :: r, [], a, b, c, h, h', hc => by
    rw [Runs] at h; rw [Runs] at h'
    have := runs_le h.2.2.2.2
    omega
  | w :: r, w' :: r', a, b, c, h, h', hc => by
    rcases Int.lt_trichotomy w.long w'.long with q | q | q
    · have := (runs_first h' h q).1
      subst this; simp
    · rw [Runs] at h; rw [Runs] at h'
      have := runs_pre (l := r) (m := r') h.2.2.2.2 (by rw [q]; exact h'.2.2.2.2) hc
      simpa using this
    · have h1 := runs_first h h' q
      rw [Runs] at h; rw [Runs] at h'
      have := runs_le h.2.2.2.2
      omega
theorem runs_one {t : Table} : ∀ {l m : List Window} {a b : Int}, Runs t a b l → Runs t a b m → l = m
  | [], [], _, _, _, _ => rfl
  | [], w' :: r', a, b, h, h' => by
    rw [Runs] at h; rw [Runs] at h'
    have := runs_le h'.2.2.2.2
    omega
  | w :: r, [], a, b, h, h' => by
    rw [Runs] at h; rw [Runs] at h'
    have := runs_le h.2.2.2.2
    omega
  | w :: r, w' :: r', a, b, h, h' => by
    rcases Int.lt_trichotomy w.long w'.long with q | q | q
    · have h1 := runs_first h' h q
      rw [Runs] at h; rw [Runs] at h'
      have := runs_le h'.2.2.2.2
      omega
    · rw [Runs] at h; rw [Runs] at h'
      have e := runs_one (l := r) (m := r') h.2.2.2.2 (by rw [q]; exact h'.2.2.2.2)
      have e2 : w.owner = w'.owner := by rw [← h.2.2.1 a (by omega) (by omega), ← h'.2.2.1 a (by omega) (by omega)]
      obtain ⟨f1, l1, o1⟩ := w
      obtain ⟨f2, l2, o2⟩ := w'
      simp only at *
      rw [e, e2, q, h.1, h'.1]
    · have h1 := runs_first h h' q
      rw [Runs] at h; rw [Runs] at h'
      have := runs_le h.2.2.2.2
      omega
theorem runs_snoc {t : Table} {w : Window} {c : Int} : ∀ {l : List Window} {a b : Int}, Runs t a b l → w.frm = b → 1 ≤ w.long → c = b + w.long → (∀ y, b ≤ y → y < c → ownT t y = w.owner) → (∀ z, l.getLast? = some z → z.owner ≠ w.owner) → Runs t a c (l ++ [w])
  | [], a, b, h, h1, h2, h3, h4, _ => by
    rw [Runs] at h
    subst h h3
    rw [List.nil_append, Runs, Runs]
    exact ⟨h1, h2, h4, by simp, rfl⟩
  | x :: r, a, b, h, h1, h2, h3, h4, h5 => by
    rw [Runs] at h
    rw [List.cons_append, Runs]
    refine ⟨h.1, h.2.1, h.2.2.1, fun z hz => ?_, runs_snoc h.2.2.2.2 h1 h2 h3 h4 fun z hz => ?_⟩
    · cases r with
      | nil => cases hz; exact (h5 x rfl).symm
      | cons y s => exact h.2.2.2.1 z hz
    · cases r with
      | nil => cases hz
      | cons y s => exact h5 z (by rw [List.getLast?_cons_cons]; exact hz)
theorem runs_ext {t : Table} {w : Window} {b c : Int} (hbc : b ≤ c) (hc : ∀ y, b ≤ y → y < c → ownT t y = w.owner) : ∀ {l : List Window} {a : Int}, Runs t a b (l ++ [w]) → Runs t a c (l ++ [⟨w.frm, w.long + (c - b), w.owner⟩])
  | [], a, h => by
    rw [List.nil_append, Runs, Runs] at h
    rw [List.nil_append, Runs, Runs]
    refine ⟨h.1, by show 1 ≤ w.long + (c - b); omega, fun y h1 h2 => ?_, by simp, by show a + (w.long + (c - b)) = c; omega⟩
    by_cases h3 : y < a + w.long
    · exact h.2.2.1 y h1 h3
    · exact hc y (by omega) (by have : y < a + (w.long + (c - b)) := h2; omega)
  | x :: r, a, h => by
    rw [List.cons_append, Runs] at *
    refine ⟨h.1, h.2.1, h.2.2.1, fun z hz => ?_, runs_ext hbc hc h.2.2.2.2⟩
    cases r with
    | nil => cases hz; exact h.2.2.2.1 w rfl
    | cons y s => exact h.2.2.2.1 z hz
theorem runs_last {t : Table} {w : Window} : ∀ {l : List Window} {a b : Int}, Runs t a b (l ++ [w]) → w.frm + w.long = b ∧ 1 ≤ w.long ∧ (∀ y, w.frm ≤ y → y < b → ownT t y = w.owner) ∧ a ≤ w.frm
  | [], a, b, h => by
    rw [List.nil_append, Runs, Runs] at h
    obtain ⟨h1, h2, h3, _, h5⟩ := h
    subst h1
    exact ⟨h5, h2, fun y q1 q2 => h3 y q1 (by omega), Int.le_refl _⟩
  | x :: r, a, b, h => by
    rw [List.cons_append, Runs] at h
    obtain ⟨q1, q2, q3, q4⟩ := runs_last h.2.2.2.2
    exact ⟨q1, q2, q3, by omega⟩
theorem runs_shift {t : Table} (h : RightT t) : ∀ {l : List Window} {a b : Int}, 0 ≤ a → Runs t a b l → Runs t (a + t.frame) (b + t.frame) (l.map fun w => ⟨w.frm + t.frame, w.long, w.owner⟩)
  | [], a, b, _, hr => by rw [Runs] at hr; rw [List.map_nil, Runs, hr]
  | w :: r, a, b, ha, hr => by
    have := h.s1
    rw [Runs] at hr
    rw [List.map_cons, Runs]
    refine ⟨by show w.frm + t.frame = _; rw [hr.1], hr.2.1, fun y h1 h2 => ?_, fun z hz => ?_, ?_⟩
    · have e := ownT_frame h (x := y - t.frame) (by omega)
      rw [Int.sub_add_cancel] at e
      rw [e]
      exact hr.2.2.1 _ (by omega) (by have : y < a + t.frame + w.long := h2; omega)
    · cases r with
      | nil => cases hz
      | cons y s => cases hz; exact hr.2.2.2.1 y rfl
    · have := runs_shift h (l := r) (by omega) hr.2.2.2.2
      rw [show a + t.frame + w.long = a + w.long + t.frame by omega]
      exact this
open Classical in
noncomputable def turnsV (t : Table) (frm to : Int) : List Window × Int :=
  if wchkV t = 0 then (if frm < 0 ∨ to < frm ∨ 1099511627776 < to then ([], 1) else if h : ∃ l, Runs t frm to l ∧ l.length ≤ 400 then (h.choose, 0) else ([], 2)) else ([], wchkV t)
theorem turns_err {t : Table} {a b : Int} (h : wchkV t ≠ 0) : turnsV t a b = ([], wchkV t) := by rw [turnsV, if_neg h]
theorem turns_arg {t : Table} {a b : Int} (h : wchkV t = 0) (h1 : a < 0 ∨ b < a ∨ 1099511627776 < b) : turnsV t a b = ([], 1) := by rw [turnsV, if_pos h, if_pos h1]
theorem turns_go {t : Table} {a b : Int} {l : List Window} (h : wchkV t = 0) (h1 : ¬ (a < 0 ∨ b < a ∨ 1099511627776 < b)) (hr : Runs t a b l) (hl : l.length ≤ 400) : turnsV t a b = (l, 0) := by
  have he : ∃ l, Runs t a b l ∧ l.length ≤ 400 := ⟨l, hr, hl⟩
  rw [turnsV, if_pos h, if_neg h1, dif_pos he, runs_one he.choose_spec.1 hr]
theorem turns_large {t : Table} {a b c : Int} {l : List Window} (h : wchkV t = 0) (h1 : ¬ (a < 0 ∨ b < a ∨ 1099511627776 < b)) (hr : Runs t a c l) (hc : c ≤ b) (hl : 400 < l.length) : turnsV t a b = ([], 2) := by
  rw [turnsV, if_pos h, if_neg h1, dif_neg]
  rintro ⟨m, h2, h3⟩
  have := runs_pre hr h2 hc
  omega
theorem turns_is {t : Table} {a b : Int} (h : (turnsV t a b).2 = 0) : RightT t ∧ 0 ≤ a ∧ a ≤ b ∧ b ≤ 1099511627776 ∧ Runs t a b (turnsV t a b).1 ∧ (turnsV t a b).1.length ≤ 400 := by
  unfold turnsV at *
  by_cases h1 : wchkV t = 0
  · rw [if_pos h1] at *
    by_cases h2 : a < 0 ∨ b < a ∨ 1099511627776 < b
    · rw [if_pos h2] at h; exact absurd h (by decide)
    · rw [if_neg h2] at *
      by_cases h3 : ∃ l, Runs t a b l ∧ l.length ≤ 400
      · rw [dif_pos h3] at *
        exact ⟨wchk_iff.1 h1, by omega, by omega, by omega, h3.choose_spec.1, h3.choose_spec.2⟩
      · rw [dif_neg h3] at h; exact absurd h (by decide)
  · rw [if_neg h1] at h; exact absurd h h1
theorem turns_no {t : Table} {a b : Int} (h : ¬ (turnsV t a b).2 = 0) : (turnsV t a b).1 = [] := by
  by_cases h1 : wchkV t = 0
  · by_cases h2 : a < 0 ∨ b < a ∨ 1099511627776 < b
    · rw [turns_arg h1 h2]
    · unfold turnsV at *
      rw [if_pos h1, if_neg h2] at *
      by_cases h3 : ∃ l, Runs t a b l ∧ l.length ≤ 400
      · rw [dif_pos h3] at h; exact absurd rfl h
      · rw [dif_neg h3]
  · rw [turns_err h1]
theorem turns_later {t : Table} {a b : Int} (h : (turnsV t a b).2 = 0) (hb : b ≤ 1099511627776 - t.frame) : turnsV t (a + t.frame) (b + t.frame) = ((turnsV t a b).1.map fun w => ⟨w.frm + t.frame, w.long, w.owner⟩, 0) := by
  obtain ⟨h1, h2, h3, h4, h5, h6⟩ := turns_is h
  have := h1.s1
  exact turns_go (wchk_iff.2 h1) (by omega) (runs_shift h1 h2 h5) (by rw [List.length_map]; exact h6)
theorem last_get (l : List Window) (w : Window) : (l ++ [w]).getD (((l ++ [w]).length : Int) - 1).toNat Dat.d0 = w := by
  have : (((l ++ [w]).length : Int) - 1).toNat = l.length := by rw [List.length_append, List.length_singleton]; omega
  rw [this, List.getD_eq_getElem?_getD]
  simp
theorem tu_seg {t : Table} (h : RightT t) {x to E : Int} (hx : 0 ≤ x) (hto : x < to) (hE : (if x - x.tmod t.frame + (atV t (x.tmod t.frame)).2 < to then x - x.tmod t.frame + (atV t (x.tmod t.frame)).2 else to) = E) :
    x < E ∧ E ≤ to ∧ (∀ y, x ≤ y → y < E → ownT t y = (atV t (x.tmod t.frame)).1) ∧ 0 ≤ x.tmod t.frame ∧ x.tmod t.frame ≤ x ∧ 0 ≤ (atV t (x.tmod t.frame)).2 ∧ (atV t (x.tmod t.frame)).2 ≤ 1000000 := by
  have hm := tmod_in h.s1 hx
  obtain ⟨a, b, c⟩ := at_seg h.ok hm.2.1
  have hs := h.s2
  have a' : x.tmod t.frame < (atV t (x.tmod t.frame)).2 := a
  have b' : (atV t (x.tmod t.frame)).2 ≤ t.frame := b
  have h1 : x < E ∧ E ≤ to ∧ E ≤ x - x.tmod t.frame + (atV t (x.tmod t.frame)).2 := by
    rw [← hE]; split <;> omega
  exact ⟨h1.1, h1.2.1, fun y q1 q2 => ownT_seg h hx q1 (by omega), hm.1, hm.2.2, by omega, by omega⟩
theorem tu_cut {t : Table} (h : RightT t) {a E to : Int} {w : Window} (ha : 0 ≤ a) (hto : E ≤ to) (hr : Runs t a E [w]) (hl : t.frame ≤ w.long) : Runs t a to [⟨w.frm, w.long + (to - E), w.owner⟩] := by
  have q := runs_last (l := []) hr
  have s1 := h.s1
  refine runs_ext (l := []) hto (fun y h1 h2 => ?_) hr
  exact ownT_all h (b := E - t.frame) (by omega) (fun z z1 z2 => q.2.2.1 z (by omega) (by omega)) (y - E + 1).toNat y (by omega) (by omega)
theorem tu_ne {l : List Window} {n : Int} (h : ¬ ((l.getD ((l.length : Int) - 1).toNat Dat.d0).owner = n)) : ∀ z, l.getLast? = some z → z.owner ≠ n := by
  intro z hz
  rcases List.eq_nil_or_concat l with rfl | ⟨i, w, rfl⟩
  · cases hz
  · rw [List.concat_eq_append] at *
    rw [last_get] at h
    rw [List.getLast?_append] at hz
    cases hz
    exact h
theorem gdW_set (l : List Window) (k i : Nat) (v : Window) (hk : k < l.length) : (l.set k v).getD i Dat.d0 = bif decide (i = k) then v else l.getD i Dat.d0 := by
  rw [List.getD_eq_getElem?_getD, List.getElem?_set, List.getD_eq_getElem?_getD]
  by_cases h : i = k
  · subst h; simp [hk]
  · simp [h, Ne.symm h]
theorem set_last (l : List Window) (w v : Window) : (l ++ [w]).set (((l ++ [w]).length : Int) - 1).toNat v = l ++ [v] := by
  have : (((l ++ [w]).length : Int) - 1).toNat = l.length := by rw [List.length_append, List.length_singleton]; omega
  rw [this, List.set_append_right _ _ (Nat.le_refl _)]; simp
theorem bif_t {α : Type} {p : Prop} {inst : Decidable p} (h : p) (A B : α) : (bif decide p then A else B) = A := by rw [decide_eq_true h]; rfl
theorem bif_f {α : Type} {p : Prop} {inst : Decidable p} (h : ¬ p) (A B : α) : (bif decide p then A else B) = B := by rw [decide_eq_false h]; rfl
theorem snocW_len (l : List Window) (w : Window) : (l ++ [w]).length = l.length + 1 := by rw [List.length_append, List.length_singleton]
theorem runs_bd {t : Table} : ∀ {l : List Window} {a b : Int} {k : Nat}, Runs t a b l → k < l.length → a ≤ (l.getD k Dat.d0).frm ∧ 1 ≤ (l.getD k Dat.d0).long ∧ (l.getD k Dat.d0).frm + (l.getD k Dat.d0).long ≤ b
  | w :: r, a, b, 0, h, _ => by
    rw [Runs] at h
    have := runs_le h.2.2.2.2
    simp only [List.getD_cons_zero]
    omega
  | w :: r, a, b, k + 1, h, hk => by
    rw [Runs] at h
    have := runs_bd (k := k) h.2.2.2.2 (by simpa using hk)
    simp only [List.getD_cons_succ]
    omega
theorem shift_get {l : List Window} {k : Nat} {f : Int} (hk : k < l.length) : (l.map fun w => (⟨w.frm + f, w.long, w.owner⟩ : Window)).getD k Dat.d0 = ⟨(l.getD k Dat.d0).frm + f, (l.getD k Dat.d0).long, (l.getD k Dat.d0).owner⟩ := by
  rw [List.getD_eq_getElem?_getD, List.getElem?_map, List.getD_eq_getElem?_getD, List.getElem?_eq_getElem hk]; rfl

end Go.Proofs.Ytadjemhbfaonbaa
