/- A statement whose order is open: the order of the text stands for all. -/
import Derived.Test.YtadjemhbfaonbaaAbsDraw2
import Derived.Test.YtadjemhbfaonbaaAbsVcSound5
set_option linter.all false
namespace Go.Abs
open Go

theorem memN_iff {b : Nat} : ∀ {l : List Nat}, memN b l = true ↔ b ∈ l
  | [] => by simp [memN]
  | x :: l => by
    rw [memN_cons, Bool.or_eq_true, decide_eq_true_iff, memN_iff (l := l), List.mem_cons]
    exact ⟨fun h => h.imp Eq.symm id, fun h => h.imp Eq.symm id⟩

theorem inter_iff : ∀ {l m : List Nat}, inter l m = true ↔ ∃ a, a ∈ l ∧ a ∈ m
  | [], m => by simp [inter]
  | x :: l, m => by
    simp only [inter]
    split
    · rename_i q
      exact ⟨fun _ => ⟨x, by simp, memN_iff.1 q⟩, fun _ => rfl⟩
    · rename_i q
      rw [inter_iff (l := l)]
      constructor
      · rintro ⟨a, h1, h2⟩; exact ⟨a, by simp [h1], h2⟩
      · rintro ⟨a, h1, h2⟩
        rcases List.mem_cons.1 h1 with rfl | h1
        · rw [memN_iff.2 h2] at q; cases q
        · exact ⟨a, h1, h2⟩

theorem confl_of {x y : TrE} (h : inter (optL x.o.dst) (y.rs ++ optL y.o.dst) = true ∨ inter (optL y.o.dst) x.rs = true ∨ inter (wrL x) (y.rh ++ wrL y) = true ∨ inter (wrL y) x.rh = true) : confl (fpOf x) (fpOf y) = true := by
  unfold confl
  simp only [fpOf]
  split
  · rename_i h1 h2 h3 h4; simp [h1, h2, h3, h4] at h
  · rfl

theorem fwdO_mem {b : Nat} : ∀ {l : List (Nat × AObj)}, fwdO b l ≠ none → b ∈ fstL l
  | [], h => absurd rfl h
  | (c, o) :: r, h => by
    simp only [fwdO] at h
    split at h
    · rename_i q; simp [fstL, beq_iff.1 q]
    · simp only [fstL, List.mem_cons]; exact .inr (fwdO_mem h)
theorem wrL_mem {x : TrE} {b : Nat} (h : fwdO b (x.c.wr x.nid) ≠ none) : b ∈ wrL x := fwdO_mem h

theorem okPair_get {bef : List Nat} {y : Fp} : ∀ {l : List Fp} {i : Nat}, okPair bef y i l = true → ∀ k x, l[k]? = some x → confl x y = true → i + k ∈ bef
  | [], i, _, k, x, hx, _ => by simp at hx
  | z :: l, i, h, k, x, hx, hc => by
    simp only [okPair] at h
    cases k with
    | zero =>
      simp only [List.getElem?_cons_zero, Option.some.injEq] at hx
      subst hx
      rw [hc] at h
      dsimp only at h
      split at h
      · rename_i q; exact memN_iff.1 q
      · cases h
    | succ k =>
      have hr : okPair bef y (i + 1) l = true := by
        split at h
        · exact h
        · split at h
          · exact h
          · cases h
      have := okPair_get hr k x (by simpa using hx) hc
      rw [show i + (k + 1) = i + 1 + k by omega]
      exact this

theorem okAll_get {bef : List (List Nat)} : ∀ {l done : List Fp}, okAll bef done l = true → ∀ j y, l[j]? = some y → ∀ k x, (done ++ l)[k]? = some x → k < done.length + j → confl x y = true → k ∈ nth [] bef (done.length + j)
  | [], done, _, j, y, hy, _, _, _, _, _ => by simp at hy
  | z :: l, done, h, j, y, hy, k, x, hx, hk, hc => by
    simp only [okAll] at h
    split at h
    · rename_i q
      rw [len_eq] at q
      cases j with
      | zero =>
        simp only [List.getElem?_cons_zero, Option.some.injEq] at hy
        subst hy
        have := okPair_get q k x (by rw [List.getElem?_append_left (by simpa using hk)] at hx; exact hx) hc
        simpa using this
      | succ j =>
        have := okAll_get h j y (by simpa using hy) k x (by simpa using hx) (by simp; omega) hc
        simp only [List.length_append, List.length_singleton] at this
        rw [show done.length + (j + 1) = done.length + 1 + j by omega]
        exact this
    · cases h

theorem uni_mem {k : Nat} : ∀ {a l : List Nat}, k ∈ uni a l → k ∈ a ∨ k ∈ l
  | [], l, h => .inr h
  | x :: r, l, h => by
    simp only [uni] at h
    split at h
    · exact (uni_mem h).imp (fun h => by simp [h]) id
    · rcases uni_mem h with h | h
      · exact .inl (by simp [h])
      · rcases List.mem_cons.1 h with rfl | h
        · exact .inl (by simp)
        · exact .inr h
theorem preds_get {j : Nat} {acc : List (List Nat)} : ∀ {es : List Edge} {l : List Nat}, preds j acc es = some l →
    (∀ k, k ∈ l → ∃ e ∈ es, bindsAny e = true ∧ (e.on = k ∨ k ∈ nth [] acc e.on)) ∧ ∀ e ∈ es, bindsAny e = true → e.on < j
  | [], l, h => by simp only [preds, Option.some.injEq] at h; subst h; simp
  | e :: es, l, h => by
    simp only [preds] at h
    split at h
    · cases h
    · rename_i l' hl
      obtain ⟨i1, i2⟩ := preds_get hl
      split at h
      · rename_i hb
        cases h
        refine ⟨fun k hk => ?_, fun e' he' hb' => ?_⟩
        · obtain ⟨e', h1, h2⟩ := i1 k hk; exact ⟨e', by simp [h1], h2⟩
        · rcases List.mem_cons.1 he' with rfl | he'
          · rw [hb] at hb'; cases hb'
          · exact i2 e' he' hb'
      · rename_i hb
        split at h
        · rename_i q
          have q := blt_iff.1 q
          cases h
          refine ⟨fun k hk => ?_, fun e' he' hb' => ?_⟩
          · rcases uni_mem hk with hk | hk
            · rcases List.mem_cons.1 hk with rfl | hk
              · exact ⟨e, by simp, hb, .inl rfl⟩
              · exact ⟨e, by simp, hb, .inr hk⟩
            · obtain ⟨e', h1, h2⟩ := i1 k hk; exact ⟨e', by simp [h1], h2⟩
          · rcases List.mem_cons.1 he' with rfl | he'
            · exact q
            · exact i2 e' he' hb'
        · cases h

theorem befs_get : ∀ {ops : List Oper} {j : Nat} {acc bef : List (List Nat)}, befs j acc ops = some bef → acc.length = j →
    (∀ i, i < j → nth [] bef i = nth [] acc i) ∧ ∀ i o, ops[i]? = some o →
      (∀ k, k ∈ nth [] bef (j + i) → ∃ e ∈ o.after, bindsAny e = true ∧ (e.on = k ∨ k ∈ nth [] bef e.on)) ∧ ∀ e ∈ o.after, bindsAny e = true → e.on < j + i
  | [], j, acc, bef, h, hl => by simp only [befs, Option.some.injEq] at h; subst h; simp
  | o :: ops, j, acc, bef, h, hl => by
    simp only [befs] at h
    split at h
    · cases h
    · rename_i l hp
      obtain ⟨p1, p2⟩ := preds_get hp
      obtain ⟨b1, b2⟩ := befs_get h (by simp [hl])
      have b1' : ∀ i, i < j → nth [] bef i = nth [] acc i := fun i hi => by
        rw [b1 i (by omega), nth_eq, nth_eq, List.getD_eq_getElem?_getD, List.getD_eq_getElem?_getD, List.getElem?_append_left (by omega)]
      refine ⟨b1', fun i o' hi => ?_⟩
      cases i with
      | zero =>
        simp only [List.getElem?_cons_zero, Option.some.injEq] at hi
        subst hi
        have e1 : nth [] bef (j + 0) = l := by
          rw [b1 (j + 0) (by omega), nth_eq, List.getD_eq_getElem?_getD, List.getElem?_append_right (by omega)]
          simp [hl]
        refine ⟨fun k hk => ?_, fun e he hb => p2 e (by simpa using he) hb⟩
        rw [e1] at hk
        obtain ⟨e, h1, h2, h3⟩ := p1 k hk
        exact ⟨e, by simpa using h1, h2, h3.imp id fun h => by rw [b1' _ (p2 e h1 h2)]; exact h⟩
      | succ i =>
        have := b2 i o' (by simpa using hi)
        rw [show j + (i + 1) = j + 1 + i by omega]
        exact this

theorem binds_any (e : Edge) : Region.binds .any e = bindsAny e := by
  unfold Region.binds bindsAny
  cases e.ground <;> rfl

section
variable {P : Program} {E : Env} {det : FuncId → Option Dt} {w : World} {M : Nat → Prop} {β : Nat → Option Nat} {cp : Nat → Nat} {h : Hp} {o : Oper} {a : Act} {s : Tm} {N : Nat}

theorem opSlots_mem {t : Nat} : ∀ {l : List Operand}, Operand.tmp t ∈ l → t ∈ opSlots o l
  | [], h => by simp at h
  | x :: l, h => by
    rcases List.mem_cons.1 h with rfl | h
    · simp [opSlots]
    · have := opSlots_mem h
      cases x <;> simp [opSlots, this]

theorem ev_agree {s s' : Tm} {x : Operand} (hx : ∀ t, x = .tmp t → lk s' t = lk s t) : ev s' x = ev s x := by
  cases x with
  | tmp t => exact hx t rfl
  | _ => rfl

theorem idsAt_agree {s s' : Tm} : ∀ {l : List Operand}, (∀ x ∈ l, ev s' x = ev s x) → idsAt s' l = idsAt s l
  | [], _ => rfl
  | x :: l, h => by simp only [idsAt]; rw [h x (by simp), idsAt_agree fun y hy => h y (by simp [hy])]

theorem want_agree {all : List (Option Tmp)} {s s' : Tm} {r : Bool} (h : ∀ t, t ∈ guardSlot all o → lk s' t = lk s t) (hw : Want all s o r) : Want all s' o r := by
  unfold Want at *
  split
  · rename_i hg; rw [hg] at hw; exact hw
  · rename_i j b hg
    rw [hg] at hw
    obtain ⟨d, hd, h1⟩ := hw
    refine ⟨d, hd, ?_⟩
    rw [h d (by simp [guardSlot, hg, hd])]
    exact h1

theorem want_sound {ops : Array Oper} {r : Bool} (ht : ∀ t, Rep w M β cp (lk s t) (a.tmps.getD t undef)) (hw : Want (ops.toList.map (·.dst)) s o r) : Region.wanted o (yielded ops a.tmps) = r := by
  unfold Want at hw
  split at hw
  · rename_i hg; subst hw; simp [Region.wanted, hg]
  · rename_i j b hg
    obtain ⟨d, hd, h1⟩ := hw
    have hdj : (ops[j]?).bind (·.dst) = some d := by
      rw [nth_eq, List.getD_eq_getElem?_getD, List.getElem?_map] at hd
      rw [← Array.getElem?_toList]
      cases hoj : ops.toList[j]? with
      | none => rw [hoj] at hd; simp at hd
      | some x => rw [hoj] at hd; simpa using hd
    have hw : ∀ x : Bool, a.tmps.getD d undef = .bool x → Region.wanted o (yielded ops a.tmps) = (x == b) := by
      intro x hx
      have hlt : d < a.tmps.size := by
        rcases Nat.lt_or_ge d a.tmps.size with h1 | h1
        · exact h1
        · simp [Array.getD_eq_getD_getElem?, Array.getElem?_eq_none h1, undef] at hx
      have : a.tmps[d]? = some (.bool x) := by
        rw [Array.getElem?_eq_getElem hlt]
        simpa [Array.getD, hlt] using hx
      simp [Region.wanted, hg, yielded, hdj, this]
    have hd1 := ht d
    rcases h1 with ⟨x, hl, rfl⟩ | ⟨x, hl, rfl⟩ | ⟨hl, rfl⟩
    · rw [hl] at hd1; exact hw x (rep_bc hd1)
    · rw [hl] at hd1; exact hw _ (rep_b hd1)
    · rw [hl] at hd1
      obtain ⟨cs, he, hL⟩ := rep_tup hd1
      simp only [Region.wanted, hg, yielded, hdj, Option.bind_some]
      cases hx : a.tmps[d]? with
      | none => rfl
      | some v =>
        have : a.tmps.getD d undef = v := by simp [Array.getD_eq_getD_getElem?, hx]
        rw [he] at this
        subst this
        rfl

/-- Where the walk stands, by what has been done. -/
structure Sim (w0 : World) (M0 : Nat → Prop) (β0 : Nat → Option Nat) (cp0 : Nat → Nat) (h0 : Hp) (nt : Nat) (kl : List Nat) (bef : List (List Nat)) (tr : List TrE) (sB : Tm) (hB : Hp) (ops : Array Oper) (listed : Array Bool) (a : Act) (w : World) : Prop where
  sz : listed.size = ops.size
  cl : ∀ j, listed.getD j false = true → ∀ k, k ∈ nth [] bef j → listed.getD k false = true
  ex : ∃ M β cp s h, HeapRel w M β cp h ∧ (∀ t, Rep w M β cp (lk s t) (a.tmps.getD t undef)) ∧ AK w0 M0 β0 cp0 h0 w M β cp h kl ∧
    (∀ t, lk s t = lastW (lk sB t) (wS tr t) (fun k => listed.getD k false) ops.size) ∧ (∀ b, nth .dead h b = lastW (nth .dead hB b) (wH tr b) (fun k => listed.getD k false) ops.size) ∧
    h.length = hB.length + ops.size ∧ ∀ b, β b ≠ none → b < hB.length ∨ ∃ k, listed.getD k false = true ∧ wH tr b k ≠ none
  nt : a.tmps.size = nt
  df : a.defers = []

variable {w0 : World} {M0 : Nat → Prop} {β0 : Nat → Option Nat} {cp0 : Nat → Nat} {h0 : Hp} {nt : Nat} {kl : List Nat} {bef : List (List Nat)} {tr : List TrE} {sB s1 : Tm} {hB h1 : Hp} {ops : Array Oper} {listed : Array Bool} {Q : Exit → Act → World → Prop}

theorem wS_ne {t k : Nat} (h : wS tr t k ≠ none) : ∃ e, tr[k]? = some e ∧ e.o.dst = some t := by
  unfold wS at h
  split at h
  · rename_i e he
    split at h
    · rename_i hd; exact ⟨e, he, hd⟩
    · exact absurd rfl h
  · exact absurd rfl h
theorem wH_ne {b k : Nat} (h : wH tr b k ≠ none) : ∃ e, tr[k]? = some e ∧ fwdO b (e.c.wr e.nid) ≠ none := by
  unfold wH at h
  split at h
  · rename_i e he; exact ⟨e, he, h⟩
  · exact absurd rfl h

theorem getD_true_set {listed : Array Bool} {i k : Nat} (hi : i < listed.size) : (listed.setIfInBounds i true).getD k false = (decide (k = i) || listed.getD k false) := by
  by_cases h : k = i
  · subst h; simp [Array.getD_eq_getD_getElem?, hi]
  · rw [Array.getD_eq_getD_getElem?, Array.getD_eq_getD_getElem?, Array.getElem?_setIfInBounds_ne (Ne.symm h)]; simp [h]

theorem sim_step (hE : EnvOk P E) (hZ : Zl E) (hD : DetOk P det) (hr : Run E det nt (hB.length + ops.size) (ops.toList.map (·.dst)) ops.toList sB hB tr s1 h1) (hbef : befs 0 [] ops.toList = some bef) (hok : okAll bef [] (tr.map fpOf) = true)
    (hs : Sim w0 M0 β0 cp0 h0 nt kl bef tr sB hB ops listed a w) {i : Nat} (hi : i ∈ Region.ready .any ops listed) {K : Act → World → Prop}
    (hK : ∀ a w, Sim w0 M0 β0 cp0 h0 nt kl bef tr sB hB ops (listed.setIfInBounds i true) a w → K a w) : wpOp P ops Q i K a w := by
  obtain ⟨hi0, o, hoi, hedge⟩ := mem_ready.1 hi
  have hilt : i < ops.size := (Array.getElem?_eq_some_iff.1 hoi).1
  have hisz : i < listed.size := by rw [hs.sz]; exact hilt
  have hif : listed.getD i false = false := by simpa [Array.getD_eq_getD_getElem?, hisz] using hi0
  obtain ⟨e, si, hsi, he, hent, hSi, hHi, hl1, hl2, hwr, s'', hpt⟩ := hr.get i o (by simpa using hoi)
  obtain ⟨f1, f2, f3, f4, f5, f6⟩ := hr.fin
  obtain ⟨-, hb2⟩ := befs_get hbef rfl
  have hbi := (hb2 i o (by simpa using hoi)).1
  rw [Nat.zero_add] at hbi
  -- what may not change places
  have before : ∀ k x, tr[k]? = some x → k < i → confl (fpOf x) (fpOf e) = true → listed.getD k false = true := by
    intro k x hx hk hc
    have := okAll_get hok i (fpOf e) (by simp [he]) k (fpOf x) (by simp [hx]) (by simpa using hk) hc
    simp only [List.length_nil, Nat.zero_add] at this
    obtain ⟨d, h1, h2, h3⟩ := hbi k this
    have h4 := hedge d h1 (by rw [binds_any]; exact h2)
    rcases h3 with rfl | h3
    · exact h4
    · exact hs.cl _ h4 k h3
  have after : ∀ k x, tr[k]? = some x → i < k → confl (fpOf e) (fpOf x) = true → listed.getD k false = false := by
    intro k x hx hk hc
    have := okAll_get hok k (fpOf x) (by simp [hx]) i (fpOf e) (by simp [he]) (by simpa using hk) hc
    simp only [List.length_nil, Nat.zero_add] at this
    cases hl : listed.getD k false with
    | false => rfl
    | true => rw [hs.cl k hl i this] at hif; cases hif
  obtain ⟨M, β, cp, s, h, hh, ht, hak, hS, hH, hlen, hβ⟩ := hs.ex
  -- what is read is what was read in the order of the text
  have readS : ∀ t, t ∈ e.rs → lk s t = lk si t := by
    intro t ht
    rw [hS, hSi, lastW_cut (m := i) (by omega) fun k h1 h2 hw => ?_]
    · refine lastW_congr fun k hk hw => ?_
      obtain ⟨x, hx, hd⟩ := wS_ne hw
      exact before k x hx hk (confl_of (.inl (inter_iff.2 ⟨t, by simp [hd, optL], by simp [ht]⟩)))
    · by_cases hki : k = i
      · subst hki; exact hif
      · obtain ⟨x, hx, hd⟩ := wS_ne hw
        exact after k x hx (by omega) (confl_of (.inr (.inl (inter_iff.2 ⟨t, by simp [hd, optL], ht⟩))))
  have readH : ∀ b, b ∈ e.rh → nth .dead h b = nth .dead hsi b := by
    intro b hb
    rw [hH, hHi, lastW_cut (m := i) (by omega) fun k h1 h2 hw => ?_]
    · refine lastW_congr fun k hk hw => ?_
      obtain ⟨x, hx, hd⟩ := wH_ne hw
      exact before k x hx hk (confl_of (.inr (.inr (.inl (inter_iff.2 ⟨b, wrL_mem hd, by simp [hb]⟩)))))
    · by_cases hki : k = i
      · subst hki; exact hif
      · obtain ⟨x, hx, hd⟩ := wH_ne hw
        exact after k x hx (by omega) (confl_of (.inr (.inr (.inr (inter_iff.2 ⟨b, wrL_mem hd, hb⟩)))))
  have hgs : ∀ t, t ∈ guardSlot (ops.toList.map (·.dst)) o → lk s t = lk si t := fun t ht => readS t (by rw [hent.rs]; simp [slotsOf, ht])
  -- the next state
  have X : (fun k => (listed.setIfInBounds i true).getD k false) = fun k => decide (k = i) || listed.getD k false := funext fun k => getD_true_set hisz
  have nextS : ∀ s2, put nt o.dst e.v s = some s2 → ∀ t, lk s2 t = lastW (lk sB t) (wS tr t) (fun k => (listed.setIfInBounds i true).getD k false) ops.size := by
    intro s2 hp t
    rw [lk_put hp, X]
    split
    · rename_i hd
      refine (lastW_at hilt (by simp [wS, he, hent.eo, hd]) (by simp) fun k h1 h2 hw => ?_).symm
      obtain ⟨x, hx, hd'⟩ := wS_ne hw
      rw [after k x hx h1 (confl_of (.inl (inter_iff.2 ⟨t, by simp [hent.eo, hd, optL], by simp [hd', optL]⟩)))]
      simp; omega
    · rename_i hd
      rw [hS]
      refine lastW_congr fun k hk hw => ?_
      by_cases hki : k = i
      · subst hki
        obtain ⟨x, hx, hd'⟩ := wS_ne hw
        rw [he] at hx; cases hx
        rw [hent.eo] at hd'
        exact absurd hd' hd
      · simp [hki]
  have hbwr : ∀ b, fwdO b (e.c.wr e.nid) ≠ none → b < h.length := by
    intro b hx
    have h1 := f6 i b (by simpa [wH, he] using hx)
    simp only [Array.length_toList] at f5
    omega
  have hnidl : ∀ x, e.c = .new x ∨ (∃ b, e.c = .mv b x) → e.nid < h.length := by
    rintro x (hc | ⟨b, hc⟩)
    · exact hbwr e.nid (by rw [hc]; simp only [Chg.wr]; rw [fwdO_one]; simp)
    · exact hbwr e.nid (by rw [hc]; simp only [Chg.wr]; rw [fwdO_two]; simp)
  have hupl : ∀ b x, e.c = .upd b x ∨ e.c = .mv b x → b < h.length := by
    rintro b x (hc | hc)
    · exact hbwr b (by rw [hc]; simp only [Chg.wr]; rw [fwdO_one]; simp)
    · exact hbwr b (by rw [hc]; simp only [Chg.wr]; rw [fwdO_two]; split <;> simp)
  have nextH : ∀ b, nth .dead (e.c.on e.nid h) b = lastW (nth .dead hB b) (wH tr b) (fun k => (listed.setIfInBounds i true).getD k false) ops.size := by
    intro b
    rw [on_nth (fun x q => Nat.le_of_lt (hnidl x (.inl q))) (fun c x q => hupl c x (.inl q)) (fun c x q => ⟨Nat.le_of_lt (hnidl x (.inr ⟨c, q⟩)), hupl c x (.inr q)⟩) b, X]
    cases hf : fwdO b (e.c.wr e.nid) with
    | none =>
      simp only [Option.getD_none]
      rw [hH]
      refine lastW_congr fun k hk hw => ?_
      by_cases hki : k = i
      · subst hki
        obtain ⟨x, hx, hd'⟩ := wH_ne hw
        rw [he] at hx; cases hx
        exact absurd hf hd'
      · simp [hki]
    | some x =>
      simp only [Option.getD_some]
      refine (lastW_at hilt (by simp [wH, he, hf]) (by simp) fun k h1 h2 hw => ?_).symm
      obtain ⟨y, hy, hd'⟩ := wH_ne hw
      rw [after k y hy h1 (confl_of (.inr (.inr (.inl (inter_iff.2 ⟨b, wrL_mem (by rw [hf]; simp), by simp [wrL_mem hd']⟩)))))]
      simp; omega
  have nextL : (e.c.on e.nid h).length = hB.length + ops.size := by
    rw [← hlen]
    cases hc : e.c with
    | no => rfl
    | new x =>
      have := hnidl x (.inl hc)
      simp [Chg.on, hput, len_eq, blt_iff.2 this]
    | upd b x => simp [Chg.on]
    | mv b x =>
      have := hnidl x (.inr ⟨b, hc⟩)
      simp [Chg.on, hput, len_eq, blt_iff.2 this]
  have cl' : ∀ j, (listed.setIfInBounds i true).getD j false = true → ∀ k, k ∈ nth [] bef j → (listed.setIfInBounds i true).getD k false = true := by
    intro j hj k hk
    rw [getD_true_set hisz] at hj ⊢
    simp only [Bool.or_eq_true, decide_eq_true_eq] at hj ⊢
    rcases hj with rfl | hj
    · obtain ⟨d, h1, h2, h3⟩ := hbi k hk
      have h4 := hedge d h1 (by rw [binds_any]; exact h2)
      rcases h3 with rfl | h3
      · exact .inr h4
      · exact .inr (hs.cl _ h4 k h3)
    · exact .inr (hs.cl _ hj k hk)
  have β' : ∀ b, β b ≠ none → b < hB.length ∨ ∃ k, (listed.setIfInBounds i true).getD k false = true ∧ wH tr b k ≠ none := fun b hb => (hβ b hb).imp id fun ⟨k, h1, h2⟩ => ⟨k, by rw [getD_true_set hisz, h1]; simp, h2⟩
  have hps : ∃ s2, put nt o.dst e.v s = some s2 := by
    unfold put at hpt ⊢
    split at hpt
    · exact ⟨_, rfl⟩
    · split at hpt
      · exact ⟨_, rfl⟩
      · cases hpt
  obtain ⟨s2, hs2⟩ := hps
  unfold wpOp
  simp only [hoi]
  rcases hent.run with ⟨hw, ⟨v0, hy, hfine⟩, hnid, hrh, hck⟩ | ⟨hw, hv, hc⟩
  · rw [want_sound ht (want_agree (fun t ht => hgs t ht) hw), if_pos rfl]
    refine .inl ?_
    have hev : ∀ x ∈ o.op.operands.toList, ev s x = ev si x := fun x hx => ev_agree fun t ht => by
      subst ht
      exact readS t (by rw [hent.rs]; simp [slotsOf, opSlots_mem hx])
    have hag : stepD E det o s h e.nid = stepD E det o si hsi e.nid := stepD_agreeR hev fun b hb => readH b (by rw [hrh]; exact hb)
    have hnl : e.nid ≤ h.length ∧ β e.nid = none := by
      rw [hnid]
      cases hn : isNewOp det o.op with
      | false => rw [nidOf_old hn, ← hlen]; exact ⟨Nat.le_refl _, hh.out _ (Nat.le_refl _)⟩
      | true =>
        rw [nidOf_new hn]
        refine ⟨by omega, ?_⟩
        cases hb : β hsi.length with
        | none => rfl
        | some g =>
          rcases hβ hsi.length (by rw [hb]; simp) with h1 | ⟨k, h1, h2⟩
          · omega
          · rcases Nat.lt_trichotomy k i with h3 | h3 | h3
            · have := hwr k _ h3 h2; omega
            · subst h3; rw [h1] at hif; cases hif
            · obtain ⟨y, hy', hd'⟩ := wH_ne h2
              have hwe : fwdO hsi.length (e.c.wr e.nid) ≠ none := by
                have e1 : e.nid = hsi.length := by rw [hnid, nidOf_new hn]
                revert hck
                cases e.c with
                | no => simp [chgOk, hn]
                | upd _ _ => simp [chgOk, hn]
                | new z => intro _; simp only [Chg.wr]; rw [fwdO_one, if_pos e1]; simp
                | mv _ z => intro _; simp only [Chg.wr]; rw [fwdO_two, if_pos e1]; simp
              rw [after k y hy' h3 (confl_of (.inr (.inr (.inl (inter_iff.2 ⟨hsi.length, wrL_mem hwe, by simp [wrL_mem hd']⟩)))))] at h1
              cases h1
    have hsd := stepD_sound (o := o) (a := a) hE hZ hD hh hnl.1 hnl.2 ht
    rw [hag, hnid] at hsd
    have hgood : GoodD P o a w M β cp h e.nid v0 e.c := by
      rw [hnid]
      cases hy with
      | ok h1 => rw [h1] at hsd; exact hsd
      | ob p h1 hp => rw [h1] at hsd; exact hsd hp
    refine hgood K Q fun v' w' M' β2 cp' haf hrep => hK _ _ ?_
    obtain ⟨p1, p2, p3⟩ := put_rep (a := a) hs2 hs.nt (fun t => (ht t).keep haf.keep haf.bk) (hfine _ _ _ _ _ hrep)
    refine ⟨by simp [hs.sz], cl', ⟨M', β2, cp', s2, e.c.on e.nid h, haf.heap, p1, by simpa using hak.trans (AK.of_after haf), nextS s2 hs2, nextH, nextL, fun b hb => ?_⟩, p2, p3.trans hs.df⟩
    cases hb0 : β b with
    | some g => exact β' b (by rw [hb0]; simp)
    | none =>
      obtain ⟨x, hx, hxl⟩ := haf.nn b hb0 hb
      have h1 : nth .dead (e.c.on e.nid h) b = x := by rw [nth_eq, List.getD_eq_getElem?_getD, hx]; rfl
      rw [nextH] at h1
      rcases lastW_some (base := nth .dead hB b) (W := wH tr b) (X := fun k => (listed.setIfInBounds i true).getD k false) (n := ops.size) with h2 | ⟨k, h2, h3, h4⟩
      · rw [h2] at h1
        refine .inl ?_
        rcases Nat.lt_or_ge b hB.length with h3 | h3
        · exact h3
        · rw [nth_eq, List.getD_eq_getElem?_getD, List.getElem?_eq_none h3] at h1
          simp only [Option.getD_none] at h1
          rw [← h1] at hxl; cases hxl
      · exact .inr ⟨k, h3, by rw [h4]; simp⟩
  · rw [want_sound ht (want_agree (fun t ht => hgs t ht) hw)]
    simp only [Bool.false_eq_true, if_false]
    refine hK _ _ ?_
    rw [hv] at hs2
    obtain ⟨p1, p2, p3⟩ := put_rep (a := a) (v' := undef) hs2 hs.nt ht (.tup [] #[] rfl fun j x hj => by simp at hj)
    rw [hc] at nextH
    exact ⟨by simp [hs.sz], cl', ⟨M, β, cp, s2, h, hh, p1, hak, nextS s2 (by rw [hv]; exact hs2), nextH, hlen, β'⟩, p2, p3.trans hs.df⟩

end
end Go.Abs
