/- A statement whose order is open: lemmas on lists and last writers. -/
import Derived.Test.YtadjemhbfaonbaaAbsDraw
set_option linter.all false
namespace Go.Abs
open Go

/-- The last write that has been done; else the base. -/
def lastW {α : Type} (base : α) (W : Nat → Option α) (X : Nat → Bool) : Nat → α
  | 0 => base
  | n + 1 => match W n with
    | some v => if X n = true then v else lastW base W X n
    | none => lastW base W X n

section
variable {α : Type} {base : α} {W : Nat → Option α} {X Y : Nat → Bool}

theorem lastW_congr : ∀ {n : Nat}, (∀ k, k < n → W k ≠ none → X k = Y k) → lastW base W X n = lastW base W Y n
  | 0, _ => rfl
  | n + 1, h => by
    have ih := lastW_congr (n := n) fun k hk => h k (by omega)
    simp only [lastW]
    split
    · rename_i v hv
      rw [ih, h n (by omega) (by rw [hv]; simp)]
    · exact ih

theorem lastW_cut {m : Nat} : ∀ {n : Nat}, m ≤ n → (∀ k, m ≤ k → k < n → W k ≠ none → X k = false) → lastW base W X n = lastW base W X m
  | 0, h, _ => by have : m = 0 := by omega
                  subst this; rfl
  | n + 1, h, hk => by
    by_cases he : m = n + 1
    · subst he; rfl
    · have ih := lastW_cut (n := n) (by omega) fun k h1 h2 => hk k h1 (by omega)
      simp only [lastW]
      split
      · rename_i v hv
        rw [hk n (by omega) (by omega) (by rw [hv]; simp)]
        simpa using ih
      · exact ih

theorem lastW_at {n i : Nat} {v : α} (hi : i < n) (hv : W i = some v) (hX : X i = true) (hk : ∀ k, i < k → k < n → W k ≠ none → X k = false) : lastW base W X n = v := by
  rw [lastW_cut (m := i + 1) (by omega) fun k h1 h2 => hk k (by omega) h2]
  simp [lastW, hv, hX]

theorem lastW_some {n : Nat} : lastW base W X n = base ∨ ∃ k, k < n ∧ X k = true ∧ W k = some (lastW base W X n) := by
  induction n with
  | zero => exact .inl rfl
  | succ n ih =>
    simp only [lastW]
    split
    · rename_i v hv
      split
      · rename_i hX; exact .inr ⟨n, by omega, hX, hv⟩
      · exact ih.imp id fun ⟨k, h1, h2⟩ => ⟨k, by omega, h2⟩
    · exact ih.imp id fun ⟨k, h1, h2⟩ => ⟨k, by omega, h2⟩

theorem lastW_shift : ∀ {n : Nat}, lastW base W (fun _ => true) (n + 1) = lastW (lastW base W (fun _ => true) 1) (fun k => W (k + 1)) (fun _ => true) n
  | 0 => rfl
  | n + 1 => by
    have ih := lastW_shift (n := n)
    rw [lastW, ih]
    rfl
end

inductive Res.Yields (r : Res) (v : AV) (c : Chg) : Prop where
  | ok (h : r = .ok v c)
  | ob (p : Th Prop) (h : r = .ob p v c) (hp : p ())

def Want (all : List (Option Tmp)) (s : Tm) (o : Oper) (ran : Bool) : Prop := match o.guard with
  | none => ran = true
  | some (j, b) => ∃ d, nth none all j = some d ∧ ((∃ x, lk s d = .bc x ∧ ran = (x == b)) ∨ (∃ x, lk s d = .b x ∧ ran = (x () == b)) ∨ (lk s d = .tup [] ∧ ran = false))

/-- Whatever the one stands for the other does. -/
def Fine (x y : AV) : Prop := ∀ (w : World) (M : Nat → Prop) (β : Nat → Option Nat) (cp : Nat → Nat) (v : Value), Rep w M β cp x v → Rep w M β cp y v

structure Ent (E : Env) (det : FuncId → Option Dt) (N : Nat) (all : List (Option Tmp)) (o : Oper) (s : Tm) (h : Hp) (e : TrE) : Prop where
  eo : e.o = o
  rs : e.rs = slotsOf all o
  run : (Want all s o true ∧ (∃ v0, (stepD E det o s h (nidOf det N o h)).Yields v0 e.c ∧ Fine v0 e.v) ∧ e.nid = nidOf det N o h ∧ e.rh = rhAt s o ∧ chgOk det o.op h e.c = true) ∨ (Want all s o false ∧ e.v = .tup [] ∧ e.c = .no)

inductive Run (E : Env) (det : FuncId → Option Dt) (nt N : Nat) (all : List (Option Tmp)) : List Oper → Tm → Hp → List TrE → Tm → Hp → Prop where
  | nil (s : Tm) (h : Hp) : Run E det nt N all [] s h [] s h
  | cons {o : Oper} {r : List Oper} {s s' s1 : Tm} {h h1 : Hp} {e : TrE} {tr : List TrE} (he : Ent E det N all o s h e) (hp : put nt o.dst e.v s = some s') (hr : Run E det nt N all r s' (e.c.on e.nid h) tr s1 h1) : Run E det nt N all (o :: r) s h (e :: tr) s1 h1

section
variable {P : Program} {E : Env} {det : FuncId → Option Dt} {nt N : Nat} {all : List (Option Tmp)} {K : Tm → Hp → List Fp → Prop}

def MOk (m : List (Nat × Bool)) (s : Tm) : Prop := ∀ d y x, fwdM d m = some y → lk s d = .b x → x () = y
theorem fwdM_drop {d d' : Nat} {y : Bool} : ∀ {m : List (Nat × Bool)}, fwdM d (dropM (some d') m) = some y → d ≠ d' ∧ fwdM d m = some y
  | [], h => by simp [dropM, fwdM] at h
  | (i, z) :: r, h => by
    simp only [dropM] at h
    split at h
    · rename_i q
      have q := beq_iff.1 q
      obtain ⟨h1, h2⟩ := fwdM_drop h
      refine ⟨h1, ?_⟩
      simp only [fwdM]
      split
      · rename_i q2
        have q2 := beq_iff.1 q2
        exact absurd (q2.symm.trans q) h1
      · exact h2
    · rename_i q
      simp only [fwdM] at h ⊢
      split at h
      · rename_i q2
        have q2 := beq_iff.1 q2
        subst q2
        exact ⟨fun e => (by subst e; rw [beq_iff.2 rfl] at q; cases q), h⟩
      · exact fwdM_drop h
theorem MOk.put {nt : Nat} {o : Option Tmp} {v : AV} {m : List (Nat × Bool)} {s s' : Tm} (hm : MOk m s) (hp : put nt o v s = some s') : MOk (dropM o m) s' := by
  unfold Abs.put at hp
  split at hp
  · cases hp
    intro d y x h1 h2
    refine hm d y x ?_ h2
    cases m <;> simpa [dropM] using h1
  · rename_i d'
    split at hp
    · cases hp
      intro d y x h1 h2
      obtain ⟨h3, h4⟩ := fwdM_drop h1
      refine hm d y x h4 ?_
      simp only [lk] at h2
      split at h2
      · rename_i q; exact absurd (beq_iff.1 q).symm h3
      · exact h2
    · cases hp
theorem MOk.cons {m : List (Nat × Bool)} {s : Tm} {d : Nat} {x : Th Bool} {y : Bool} (hm : MOk m s) (hl : lk s d = .b x) (hx : x () = y) : MOk ((d, y) :: m) s := by
  intro d2 y2 x2 h1 h2
  simp only [fwdM] at h1
  split at h1
  · rename_i q
    have q := beq_iff.1 q
    subst q
    cases h1
    rw [hl] at h2
    cases h2
    exact hx
  · exact hm d2 y2 x2 h1 h2

theorem pick_inv {w : World} {M : Nat → Prop} {β : Nat → Option Nat} {cp : Nat → Nat} {c : Th Bool} {v : Value} (X Y : AV) (hr : Rep w M β cp (AV.pick c X Y) v) : (c () = true → Rep w M β cp X v) ∧ (c () = false → Rep w M β cp Y v) := by
  unfold AV.pick at hr
  split at hr
  · rw [rep_i hr]; exact ⟨fun h => by rw [h]; exact .c (.i _ _), fun h => by rw [h]; exact .c (.i _ _)⟩
  · rw [rep_i hr]; exact ⟨fun h => by rw [h]; exact .c (.i _ _), fun h => by rw [h]; exact .c (.i _ _)⟩
  · rw [rep_i hr]; exact ⟨fun h => by rw [h]; exact .c (.i _ _), fun h => by rw [h]; exact .c (.i _ _)⟩
  · rw [rep_i hr]; exact ⟨fun h => by rw [h]; exact .c (.i _ _), fun h => by rw [h]; exact .c (.i _ _)⟩
  · rw [rep_i hr]; exact ⟨fun h => by rw [h]; exact .c (.i _ _), fun h => by rw [h]; exact .c (.i _ _)⟩
  · rw [rep_b hr]; exact ⟨fun h => by rw [h]; exact .c (.b _), fun h => by rw [h]; exact .c (.b _)⟩
  · rw [rep_b hr]; exact ⟨fun h => by rw [h]; exact .c (.bc _), fun h => by rw [h]; exact .c (.b _)⟩
  · rw [rep_b hr]; exact ⟨fun h => by rw [h]; exact .c (.b _), fun h => by rw [h]; exact .c (.bc _)⟩
  · rw [rep_b hr]; exact ⟨fun h => by rw [h]; exact .c (.bc _), fun h => by rw [h]; exact .c (.bc _)⟩
  · rw [rep_s hr]; exact ⟨fun h => by rw [h]; exact .c (.s _), fun h => by rw [h]; exact .c (.s _)⟩
  · cases hr with
    | c h => cases h with | ite _ _ _ _ h1 h2 => exact ⟨fun h => .c (h1 h), fun h => .c (h2 h)⟩
    | ite _ _ _ _ h1 h2 => exact ⟨h1, h2⟩
theorem refV_fine {m : List (Nat × Bool)} {s : Tm} {o : Oper} {h : Hp} {nid : Nat} {v : AV} {c : Chg} (hm : MOk m s) (hy : (stepD E det o s h nid).Yields v c) : Fine v (refV s m o.op v) := by
  unfold refV
  split
  · rename_i d x y ho
    split
    · rename_i b hl
      have hv : v = AV.pick b (ev s x) (ev s y) := by
        have e : stepD E det o s h nid = .ok (AV.pick b (ev s x) (ev s y)) .no := by simp [stepD, step, ho, ev, hl]
        cases hy with
        | ok h1 => rw [e] at h1; cases h1; rfl
        | ob p h1 => rw [e] at h1; cases h1
      subst hv
      split
      · rename_i hf; exact fun w M β cp u hr => (pick_inv _ _ hr).1 (hm _ _ _ hf hl)
      · rename_i hf; exact fun w M β cp u hr => (pick_inv _ _ hr).2 (hm _ _ _ hf hl)
      · exact fun _ _ _ _ _ hr => hr
    · exact fun _ _ _ _ _ hr => hr
  · exact fun _ _ _ _ _ hr => hr
theorem vcDraw_run : ∀ (ops : List Oper) (m : List (Nat × Bool)) (s : Tm) (h : Hp) (tr : List Fp), MOk m s → vcDraw E det nt N all ops m s h tr K → ∃ tr' s' h', Run E det nt N all ops s h tr' s' h' ∧ K s' h' (tr ++ tr'.map fpOf)
  | [], m, s, h, tr, _, hv => ⟨[], s, h, .nil s h, by rw [List.map_nil, List.append_nil]; exact hv⟩
  | o :: r, m, s, h, tr, hm, hv => by
    unfold vcDraw at hv
    dsimp only at hv
    have go : ∀ m v c, MOk m s → Want all s o true → (stepD E det o s h (nidOf det N o h)).Yields v c → (match chgOk det o.op h c, put nt o.dst (refV s m o.op v) s with
      | true, some s' => vcDraw E det nt N all r (dropM o.dst m) s' (c.on (nidOf det N o h) h) (tr ++ [⟨o.dst, slotsOf all o, fstL (c.wr (nidOf det N o h)), rhAt s o, mvOf (nidOf det N o h) c⟩]) K
      | _, _ => Bad 310) → ∃ tr' s' h', Run E det nt N all (o :: r) s h tr' s' h' ∧ K s' h' (tr ++ tr'.map fpOf) := by
      intro m v c hm hw hy hv
      split at hv
      · rename_i s' hc hp
        obtain ⟨tr', s1, h1, hr, hK⟩ := vcDraw_run r _ _ _ _ (hm.put hp) hv
        refine ⟨⟨o, refV s m o.op v, c, nidOf det N o h, slotsOf all o, rhAt s o⟩ :: tr', s1, h1, .cons ⟨rfl, rfl, .inl ⟨hw, ⟨v, hy, refV_fine hm hy⟩, rfl, rfl, hc⟩⟩ hp hr, ?_⟩
        rw [List.append_assoc] at hK
        exact hK
      · cases hv
    have run : ∀ m, MOk m s → Want all s o true → (match stepD E det o s h (nidOf det N o h) with
      | .ok v c => match chgOk det o.op h c, put nt o.dst (refV s m o.op v) s with
        | true, some s' => vcDraw E det nt N all r (dropM o.dst m) s' (c.on (nidOf det N o h) h) (tr ++ [⟨o.dst, slotsOf all o, fstL (c.wr (nidOf det N o h)), rhAt s o, mvOf (nidOf det N o h) c⟩]) K
        | _, _ => Bad 310
      | .ob p v c => Ob p (match chgOk det o.op h c, put nt o.dst (refV s m o.op v) s with
        | true, some s' => vcDraw E det nt N all r (dropM o.dst m) s' (c.on (nidOf det N o h) h) (tr ++ [⟨o.dst, slotsOf all o, fstL (c.wr (nidOf det N o h)), rhAt s o, mvOf (nidOf det N o h) c⟩]) K
        | _, _ => Bad 310)
      | .bad n => Bad n) → ∃ tr' s' h', Run E det nt N all (o :: r) s h tr' s' h' ∧ K s' h' (tr ++ tr'.map fpOf) := by
      intro m hm hw hv
      split at hv
      · rename_i v c hs; exact go m v c hm hw (.ok hs) hv
      · rename_i p v c hs
        cases hv with | mk h1 h2 => exact go m v c hm hw (.ob p hs h1) h2
      · cases hv
    have skip : ∀ m, MOk m s → Want all s o false → (match put nt o.dst (.tup []) s with
      | some s' => vcDraw E det nt N all r (dropM o.dst m) s' h (tr ++ [⟨o.dst, slotsOf all o, [], [], none⟩]) K
      | none => Bad 313) → ∃ tr' s' h', Run E det nt N all (o :: r) s h tr' s' h' ∧ K s' h' (tr ++ tr'.map fpOf) := by
      intro m hm hw hv
      split at hv
      · rename_i s' hp
        obtain ⟨tr', s1, h1, hr, hK⟩ := vcDraw_run r _ _ _ _ (hm.put hp) hv
        refine ⟨⟨o, .tup [], .no, N, slotsOf all o, []⟩ :: tr', s1, h1, .cons (e := ⟨o, .tup [], .no, N, slotsOf all o, []⟩) ⟨rfl, rfl, .inr ⟨hw, rfl, rfl⟩⟩ hp hr, ?_⟩
        rw [List.append_assoc] at hK
        exact hK
      · cases hv
    split at hv
    · rename_i hg; exact run m hm (by simp [Want, hg]) hv
    · rename_i j b hg
      split at hv
      · cases hv
      · rename_i d hd
        split at hv
        · rename_i x hl
          split at hv
          · exact run m hm (by simp only [Want, hg]; exact ⟨d, hd, .inl ⟨_, hl, rfl⟩⟩) hv
          · exact run m hm (by simp only [Want, hg]; exact ⟨d, hd, .inl ⟨_, hl, rfl⟩⟩) hv
          · rename_i n1 n2
            refine skip m hm ?_ hv
            simp only [Want, hg]
            refine ⟨d, hd, .inl ⟨_, hl, ?_⟩⟩
            cases x <;> cases b <;> first | rfl | exact (n1 rfl rfl).elim | exact (n2 rfl rfl).elim
        · rename_i x hl
          have wt : ∀ y, y = (x () == b) → Want all s o y := fun y hy => by simp only [Want, hg]; exact ⟨d, hd, .inr (.inl ⟨_, hl, hy⟩)⟩
          split at hv
          · rename_i y hy
            have hx := hm d y x hy hl
            split at hv
            · exact run m hm (wt _ (by rw [hx]; rfl)) hv
            · exact run m hm (wt _ (by rw [hx]; rfl)) hv
            · rename_i n1 n2
              refine skip m hm (wt _ ?_) hv
              rw [hx]
              cases y <;> cases b <;> first | rfl | exact (n1 rfl rfl).elim | exact (n2 rfl rfl).elim
          · split at hv
            · cases hv with
              | mk h1 h2 =>
                cases h1 with
                | mk h1 =>
                  cases h2 with
                  | mk h2 =>
                    cases hb : x () with
                    | true => exact run _ (hm.cons hl hb) (wt _ (by rw [hb]; rfl)) (h1 hb).out
                    | false => exact skip _ (hm.cons hl hb) (wt _ (by rw [hb]; rfl)) (h2 hb).out
            · cases hv with
              | mk h1 h2 =>
                cases h1 with
                | mk h1 =>
                  cases h2 with
                  | mk h2 =>
                    cases hb : x () with
                    | true => exact skip _ (hm.cons hl hb) (wt _ (by rw [hb]; rfl)) (h1 hb).out
                    | false => exact run _ (hm.cons hl hb) (wt _ (by rw [hb]; rfl)) (h2 hb).out
        · rename_i hl
          exact skip m hm (by simp only [Want, hg]; exact ⟨d, hd, .inr (.inr ⟨hl, by trivial⟩)⟩) hv
        · cases hv

def wS (tr : List TrE) (t k : Nat) : Option AV := match tr[k]? with
  | some e => if e.o.dst = some t then some e.v else none
  | none => none
def wH (tr : List TrE) (b k : Nat) : Option AObj := match tr[k]? with
  | some e => fwdO b (e.c.wr e.nid)
  | none => none

theorem lk_put {s s' : Tm} {d : Option Tmp} {v : AV} (hp : put nt d v s = some s') (t : Nat) : lk s' t = if d = some t then v else lk s t := by
  unfold put at hp
  split at hp
  · cases hp; simp
  · rename_i d
    split at hp
    · cases hp
      simp only [lk]
      split
      · rename_i q; simp [beq_iff.1 q]
      · rename_i q
        have q : d ≠ t := fun e => by rw [beq_iff.2 e] at q; cases q
        simp [q]
    · cases hp

theorem nth_dead_set {h : Hp} {b c : Nat} {o : AObj} (hb : b < h.length) : nth .dead (h.set b o) c = if b = c then o else nth .dead h c := by
  rw [nth_eq, nth_eq, List.getD_eq_getElem?_getD, List.getD_eq_getElem?_getD, List.getElem?_set]
  split
  · rename_i e; subst e; simp [hb]
  · rfl
theorem nth_dead_snoc {h : Hp} {c : Nat} {o : AObj} : nth .dead (h ++ [o]) c = if h.length = c then o else nth .dead h c := by
  rw [nth_eq, nth_eq, List.getD_eq_getElem?_getD, List.getD_eq_getElem?_getD]
  split
  · rename_i e; subst e; simp
  · rename_i e
    rcases Nat.lt_or_ge c h.length with h1 | h1
    · rw [List.getElem?_append_left h1]
    · rw [List.getElem?_eq_none (by simp; omega), List.getElem?_eq_none h1]

theorem nidOf_new {o : Oper} {h : Hp} (hn : isNewOp det o.op = true) : nidOf det N o h = h.length := by
  unfold nidOf; rw [hn]; exact len_eq h
theorem nidOf_old {o : Oper} {h : Hp} (hn : isNewOp det o.op = false) : nidOf det N o h = N := by
  unfold nidOf; rw [hn]

theorem nth_hput {h : Hp} {n c : Nat} {o : AObj} (hn : n ≤ h.length) : nth .dead (hput h n o) c = if n = c then o else nth .dead h c := by
  unfold hput
  rw [len_eq]
  split
  · rename_i q; exact nth_dead_set (blt_iff.1 q)
  · rename_i q
    have : n = h.length := by
      have : ¬ n < h.length := fun hlt => by rw [blt_iff.2 hlt] at q; cases q
      omega
    rw [this]; exact nth_dead_snoc
theorem fwdO_one {b c : Nat} {o : AObj} : fwdO b [(c, o)] = if c = b then some o else none := by
  simp only [fwdO]
  split
  · rename_i q; rw [if_pos (beq_iff.1 q)]
  · rename_i q; rw [if_neg fun e => by rw [beq_iff.2 e] at q; cases q]
theorem fwdO_two {b c d : Nat} {o x : AObj} : fwdO b [(c, o), (d, x)] = if c = b then some o else if d = b then some x else none := by
  simp only [fwdO]
  split
  · rename_i q; rw [if_pos (beq_iff.1 q)]
  · rename_i q
    rw [if_neg fun e => by rw [beq_iff.2 e] at q; cases q]
    exact fwdO_one
/-- What a change leaves at each place. -/
theorem on_nth {c : Chg} {nid : Nat} {h : Hp} (h1 : ∀ x, c = .new x → nid ≤ h.length) (h2 : ∀ b x, c = .upd b x → b < h.length) (h3 : ∀ b x, c = .mv b x → nid ≤ h.length ∧ b < h.length) (b : Nat) :
    nth .dead (c.on nid h) b = (fwdO b (c.wr nid)).getD (nth .dead h b) := by
  cases c with
  | no => rfl
  | new x => simp only [Chg.on, Chg.wr]; rw [nth_hput (h1 x rfl), fwdO_one]; split <;> rfl
  | upd c x => simp only [Chg.on, Chg.wr]; rw [nth_dead_set (h2 c x rfl), fwdO_one]; split <;> rfl
  | mv c x =>
    have := h3 c x rfl
    simp only [Chg.on, Chg.wr]
    rw [nth_hput (by simpa using this.1), fwdO_two, nth_dead_set this.2]
    split
    · rfl
    · split <;> rfl

/-- What a step in the order of the text does. -/
theorem Ent.on {o : Oper} {s : Tm} {h : Hp} {e : TrE} (he : Ent E det N all o s h e) :
    (∀ b, nth .dead (e.c.on e.nid h) b = (fwdO b (e.c.wr e.nid)).getD (nth .dead h b)) ∧
    h.length ≤ (e.c.on e.nid h).length ∧ (e.c.on e.nid h).length ≤ h.length + 1 ∧ (∀ b, fwdO b (e.c.wr e.nid) ≠ none → b < (e.c.on e.nid h).length) := by
  rcases he.run with ⟨_, _, h3, _, h5⟩ | ⟨_, _, h3⟩
  · have hp : ∀ (h : Hp) (x : AObj), (hput h h.length x).length = h.length + 1 := by
      intro h x
      unfold hput; rw [len_eq]
      split
      · rename_i q; have := blt_iff.1 q; omega
      · simp
    cases hc : e.c with
    | no => exact ⟨fun b => rfl, Nat.le_refl _, by show h.length ≤ _; omega, fun b hx => absurd rfl hx⟩
    | new x =>
      rw [hc] at h5
      have h5 : isNewOp det o.op = true := h5
      have e1 : e.nid = h.length := h3.trans (nidOf_new h5)
      refine ⟨on_nth (fun _ _ => by omega) (fun _ _ q => by cases q) (fun _ _ q => by cases q), by simp only [Chg.on, e1, hp]; omega, by simp only [Chg.on, e1, hp]; omega, fun b hy => ?_⟩
      simp only [Chg.wr] at hy
      rw [fwdO_one] at hy
      simp only [Chg.on, e1, hp]
      split at hy
      · omega
      · exact absurd rfl hy
    | upd b x =>
      rw [hc] at h5
      simp only [chgOk] at h5
      split at h5
      · cases h5
      · have hb := blt_iff.1 h5
        rw [len_eq] at hb
        refine ⟨on_nth (fun _ q => by cases q) (fun _ _ q => by cases q; exact hb) (fun _ _ q => by cases q), by simp [Chg.on], by simp [Chg.on], fun c hy => ?_⟩
        simp only [Chg.wr] at hy
        rw [fwdO_one] at hy
        simp only [Chg.on, List.length_set]
        split at hy
        · omega
        · exact absurd rfl hy
    | mv b x =>
      rw [hc] at h5
      simp only [chgOk] at h5
      split at h5
      · rename_i hnew
        have hb := blt_iff.1 h5
        rw [len_eq] at hb
        have e1 : e.nid = (h.set b .dead).length := by rw [List.length_set]; exact h3.trans (nidOf_new hnew)
        have hl : (Chg.on (.mv b x) e.nid h).length = h.length + 1 := by simp only [Chg.on]; rw [e1, hp]; simp
        refine ⟨on_nth (fun _ q => by cases q) (fun _ _ q => by cases q) (fun _ _ q => by cases q; simp at e1; exact ⟨by omega, hb⟩), by omega, by omega, fun c hy => ?_⟩
        simp only [Chg.wr] at hy
        rw [fwdO_two] at hy
        simp at e1
        rw [hl]
        split at hy
        · omega
        · split at hy
          · omega
          · exact absurd rfl hy
      · cases h5
  · rw [h3]; exact ⟨fun b => rfl, Nat.le_refl _, by show h.length ≤ _; omega, fun b hx => absurd rfl hx⟩

theorem wS_succ {e : TrE} {tr : List TrE} {t k : Nat} : wS (e :: tr) t (k + 1) = wS tr t k := by simp [wS]
theorem wH_succ {e : TrE} {tr : List TrE} {b k : Nat} : wH (e :: tr) b (k + 1) = wH tr b k := by simp [wH]

theorem first_S {o : Oper} {s s' : Tm} {h : Hp} {e : TrE} {tr : List TrE} (he : Ent E det N all o s h e) (hp : put nt o.dst e.v s = some s') (t : Nat) : lastW (lk s t) (wS (e :: tr) t) (fun _ => true) 1 = lk s' t := by
  rw [lk_put hp]
  simp only [lastW, wS, List.getElem?_cons_zero, he.eo]
  split <;> rename_i q <;> split at q <;> simp_all
theorem first_H {o : Oper} {s : Tm} {h : Hp} {e : TrE} {tr : List TrE} (he : Ent E det N all o s h e) (b : Nat) : lastW (nth .dead h b) (wH (e :: tr) b) (fun _ => true) 1 = nth .dead (e.c.on e.nid h) b := by
  rw [he.on.1 b]
  simp only [lastW, wH, List.getElem?_cons_zero]
  cases fwdO b (e.c.wr e.nid) with
  | none => rfl
  | some p => simp

theorem Run.get : ∀ {ops : List Oper} {s s1 : Tm} {h h1 : Hp} {tr : List TrE}, Run E det nt N all ops s h tr s1 h1 → ∀ i o, ops[i]? = some o →
    ∃ e s' h', tr[i]? = some e ∧ Ent E det N all o s' h' e ∧ (∀ t, lk s' t = lastW (lk s t) (wS tr t) (fun _ => true) i) ∧ (∀ b, nth .dead h' b = lastW (nth .dead h b) (wH tr b) (fun _ => true) i) ∧
      h.length ≤ h'.length ∧ h'.length ≤ h.length + i ∧ (∀ k b, k < i → wH tr b k ≠ none → b < h'.length) ∧ ∃ s'', put nt o.dst e.v s' = some s'' := by
  intro ops s s1 h h1 tr hr
  induction hr with
  | nil s h => intro i o hi; simp at hi
  | @cons o r s s' s1 h h1 e tr he hp hr ih =>
    intro i o' hi
    cases i with
    | zero =>
      simp only [List.getElem?_cons_zero, Option.some.injEq] at hi
      subst hi
      exact ⟨e, s, h, rfl, he, fun t => rfl, fun b => rfl, Nat.le_refl _, Nat.le_refl _, fun k b hk => by omega, s', hp⟩
    | succ i =>
      obtain ⟨e', s2, h2, r1, r2, r3, r4, r5, r6, r7, r8⟩ := ih i o' (by simpa using hi)
      obtain ⟨q1, q2, q3, q4⟩ := he.on
      refine ⟨e', s2, h2, by simpa using r1, r2, fun t => ?_, fun b => ?_, by omega, by omega, fun k b hk hw => ?_, r8⟩
      · rw [lastW_shift, first_S he hp, r3]
        simp only [wS_succ]
      · rw [lastW_shift, first_H he, r4]
        simp only [wH_succ]
      · cases k with
        | zero =>
          simp only [wH, List.getElem?_cons_zero] at hw
          have := q4 b hw
          omega
        | succ k => exact r7 k b (by omega) (by simpa [wH_succ] using hw)

theorem Run.fin : ∀ {ops : List Oper} {s s1 : Tm} {h h1 : Hp} {tr : List TrE}, Run E det nt N all ops s h tr s1 h1 →
    tr.length = ops.length ∧ (∀ t, lk s1 t = lastW (lk s t) (wS tr t) (fun _ => true) ops.length) ∧ (∀ b, nth .dead h1 b = lastW (nth .dead h b) (wH tr b) (fun _ => true) ops.length) ∧
      h.length ≤ h1.length ∧ h1.length ≤ h.length + ops.length ∧ (∀ k b, wH tr b k ≠ none → b < h1.length) := by
  intro ops s s1 h h1 tr hr
  induction hr with
  | nil s h => exact ⟨rfl, fun _ => rfl, fun _ => rfl, Nat.le_refl _, Nat.le_refl _, fun k b hk => by simp [wH] at hk⟩
  | @cons o r s s' s1 h h1 e tr he hp hr ih =>
    obtain ⟨r1, r3, r4, r5, r6, r7⟩ := ih
    obtain ⟨q1, q2, q3, q4⟩ := he.on
    refine ⟨by simpa using r1, fun t => ?_, fun b => ?_, by omega, by simp; omega, fun k b hw => ?_⟩
    · rw [List.length_cons, lastW_shift, first_S he hp, r3]
      simp only [wS_succ]
    · rw [List.length_cons, lastW_shift, first_H he, r4]
      simp only [wH_succ]
    · cases k with
      | zero =>
        simp only [wH, List.getElem?_cons_zero] at hw
        have := q4 b hw
        omega
      | succ k => exact r7 k b (by simpa [wH_succ] using hw)

end
end Go.Abs
