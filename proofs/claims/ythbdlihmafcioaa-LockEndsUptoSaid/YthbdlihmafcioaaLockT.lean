/- Locks, plain: ceilings, who is next, what a house keeps. -/
import Derived.Test.YthbdlihmafcioaaLockS
set_option linter.all false
namespace Go.Proofs.Ythbdlihmafcioaa
open Go Go.Abs

theorem rep_get {α : Type} (n q : Nat) (x d : α) (h : q < n) : (List.replicate n x).getD q d = x := by simp [List.getD_eq_getElem?_getD, List.getElem?_replicate, h]
theorem ceilA_keep {i : Int} : ∀ {A : List Act} {out : List Int} {p : Nat}, 0 ≤ out.getD p 0 → (ceilA i out A).getD p 0 = out.getD p 0
  | [], _, _, _ => rfl
  | a :: r, out, p, h => by
    rw [ceilA]
    split
    · rename_i q
      have e : (out.set a.n.toNat i).getD p 0 = out.getD p 0 := by
        by_cases hp : p = a.n.toNat
        · subst hp; omega
        · simp [List.getD_eq_getElem?_getD, List.getElem?_set, Ne.symm hp]
      rw [ceilA_keep (by rw [e]; exact h), e]
    · exact ceilA_keep h
theorem ceilA_le {i : Int} : ∀ {A : List Act} {out : List Int}, (∀ p, p < out.length → out.getD p 0 ≤ i) → ∀ p, p < out.length → (ceilA i out A).getD p 0 ≤ i
  | [], _, h => h
  | a :: r, out, h => by
    rw [ceilA]
    split
    · intro p hp
      refine ceilA_le (fun p' hp' => ?_) p (by rw [List.length_set]; exact hp)
      rw [List.length_set] at hp'
      by_cases hpa : p' = a.n.toNat
      · subst hpa; simp [List.getD_eq_getElem?_getD, hp']
      · have : (out.set a.n.toNat i).getD p' 0 = out.getD p' 0 := by simp [List.getD_eq_getElem?_getD, List.getElem?_set, Ne.symm hpa]
        rw [this]; exact h p' hp'
    · exact ceilA_le h
theorem ceilA_has {i : Int} (hi : 0 ≤ i) : ∀ {A : List Act} {out : List Int} {a : Act}, a ∈ A → a.kind = 2 → a.n.toNat < out.length → 0 ≤ (ceilA i out A).getD a.n.toNat 0
  | b :: r, out, a, ha, hk, hl => by
    rw [ceilA]
    rcases List.mem_cons.1 ha with rfl | ha
    · split
      · rw [ceilA_keep] <;> simp [List.getD_eq_getElem?_getD, hl, hi]
      · rename_i q
        have h0 : 0 ≤ out.getD a.n.toNat 0 := by
          rcases Int.lt_or_le (out.getD a.n.toNat 0) 0 with h | h
          · exact absurd ⟨hk, h⟩ q
          · exact h
        rw [ceilA_keep h0]; exact h0
    · split
      · exact ceilA_has hi ha hk (by rw [List.length_set]; exact hl)
      · exact ceilA_has hi ha hk hl
theorem ceilW_keep : ∀ {l : List Work} {i : Int} {out : List Int} {p : Nat}, 0 ≤ out.getD p 0 → (ceilW i out l).getD p 0 = out.getD p 0
  | [], _, _, _, _ => rfl
  | w :: r, i, out, p, h => by
    rw [ceilW, ceilW_keep (by rw [ceilA_keep h]; exact h), ceilA_keep h]
theorem ceilW_at : ∀ {l : List Work} {i : Int} {out : List Int}, 0 ≤ i → (∀ p, p < out.length → out.getD p 0 ≤ i) → ∀ q, q < l.length → ∀ a ∈ (l.getD q Dat.d0).acts, a.kind = 2 → a.n.toNat < out.length → 0 ≤ (ceilW i out l).getD a.n.toNat 0 ∧ (ceilW i out l).getD a.n.toNat 0 ≤ i + q
  | w :: r, i, out, hi, hle, 0, _, a, ha, hk, hl => by
    rw [ceilW]
    have h1 := ceilA_has hi ha hk hl
    have h2 := ceilA_le (A := w.acts) hle _ hl
    have h3 : 0 ≤ (ceilA i out w.acts).getD a.n.toNat 0 := h1
    rw [ceilW_keep h3]
    exact ⟨h3, by omega⟩
  | w :: r, i, out, hi, hle, q + 1, hq, a, ha, hk, hl => by
    rw [ceilW]
    have := ceilW_at (l := r) (i := i + 1) (out := ceilA i out w.acts) (by omega) (fun p hp => by rw [ceilA_len] at hp; have := ceilA_le (A := w.acts) hle p hp; omega) q (by simpa using hq) a ha hk (by rw [ceilA_len]; exact hl)
    exact ⟨this.1, by have := this.2; omega⟩
theorem lck_get {l : List Work} (h : lckV l = 0) {q : Nat} (hq : q < l.length) : (l.getD q Dat.d0).acts.length ≤ 30 ∧ rgtR [] false (l.getD q Dat.d0).acts = true ∧ 0 ≤ (l.getD q Dat.d0).came ∧ (l.getD q Dat.d0).came ≤ 1000 := by
  have hm : l.getD q Dat.d0 ∈ l := by rw [List.getD_eq_getElem?_getD, List.getElem?_eq_getElem hq]; exact List.getElem_mem hq
  obtain ⟨h1, h2⟩ := (lck_iff.1 h).2 _ hm
  unfold rgtV at h2
  rw [Bool.and_eq_true, Bool.and_eq_true] at h2
  exact ⟨h1, h2.2, of_decide_eq_true h2.1.1, of_decide_eq_true h2.1.2⟩
theorem ceil_at {l : List Work} (h : lckV l = 0) {q : Nat} (hq : q < l.length) {a : Act} (ha : a ∈ (l.getD q Dat.d0).acts) (hk : a.kind = 2) : 0 ≤ (ceilV l).getD a.n.toNat 0 ∧ (ceilV l).getD a.n.toNat 0 ≤ q := by
  have h8 := rgtR_take (lck_get h hq).2.1 a ha hk
  have := ceilW_at (l := l) (i := 0) (out := List.replicate 8 (-1)) (Int.le_refl 0) (fun p hp => by
    rw [List.length_replicate] at hp
    rw [rep_get _ _ _ _ hp]; decide) q hq a ha hk (by rw [List.length_replicate]; omega)
  exact ⟨this.1, by have := this.2; rw [ceilV]; omega⟩
theorem urg_le {cl : List Int} : ∀ {h : List Int} {u : Int}, urgR cl u h ≤ u
  | [], u => Int.le_refl u
  | n :: r, u => by
    rw [urgR]
    have := urg_le (cl := cl) (h := r) (u := min u (cl.getD n.toNat 0))
    omega
theorem urg_mem {cl : List Int} : ∀ {h : List Int} {u n : Int}, n ∈ h → urgR cl u h ≤ cl.getD n.toNat 0
  | m :: r, u, n, hn => by
    rw [urgR]
    rcases List.mem_cons.1 hn with rfl | hn
    · have := urg_le (cl := cl) (h := r) (u := min u (cl.getD n.toNat 0))
      omega
    · exact urg_mem hn
theorem urg_or {cl : List Int} : ∀ {h : List Int} {u : Int}, urgR cl u h = u ∨ ∃ n ∈ h, urgR cl u h = cl.getD n.toNat 0
  | [], u => .inl rfl
  | m :: r, u => by
    rw [urgR]
    rcases urg_or (cl := cl) (h := r) (u := min u (cl.getD m.toNat 0)) with e | ⟨n, hn, e⟩
    · rw [e]
      rcases Int.le_total u (cl.getD m.toNat 0) with h | h
      · exact .inl (by omega)
      · exact .inr ⟨m, List.mem_cons_self, by omega⟩
    · exact .inr ⟨n, List.mem_cons_of_mem _ hn, e⟩
def There (l : List Work) (ws : List Wk) (t : Int) (q : Nat) : Prop := (l.getD q Dat.d0).came ≤ t ∧ (ws.getD q wk0).at_ < (l.getD q Dat.d0).acts.length
def urg (cl : List Int) (ws : List Wk) (q : Nat) : Int := urgR cl q (ws.getD q wk0).h
theorem next_go {l : List Work} {ws : List Wk} {cl : List Int} {t : Int} : ∀ (n i : Nat) (b : Int), (b < 0 → ∀ q, q < i → ¬ There l ws t q) → (0 ≤ b → b < i ∧ There l ws t b.toNat ∧ ∀ q, q < i → There l ws t q → urg cl ws b.toNat ≤ urg cl ws q ∧ (urg cl ws q = urg cl ws b.toNat → (q : Int) ≤ b)) → -1 ≤ b →
    -1 ≤ nextR l ws cl t n i b ∧ (nextR l ws cl t n i b < 0 → ∀ q, q < i + n → ¬ There l ws t q) ∧ (0 ≤ nextR l ws cl t n i b → nextR l ws cl t n i b < ((i + n : Nat) : Int) ∧ There l ws t (nextR l ws cl t n i b).toNat ∧ ∀ q, q < i + n → There l ws t q → urg cl ws (nextR l ws cl t n i b).toNat ≤ urg cl ws q ∧ (urg cl ws q = urg cl ws (nextR l ws cl t n i b).toNat → (q : Int) ≤ nextR l ws cl t n i b))
  | 0, i, b, h1, h2, h3 => ⟨h3, h1, fun h => ⟨(h2 h).1, (h2 h).2⟩⟩
  | n + 1, i, b, h1, h2, h3 => by
    rw [nextR, show i + (n + 1) = i + 1 + n by omega]
    by_cases hc : (l.getD i Dat.d0).came ≤ t ∧ (ws.getD i wk0).at_ < (l.getD i Dat.d0).acts.length ∧ (b < 0 ∨ urgR cl i (ws.getD i wk0).h ≤ urgR cl b (ws.getD b.toNat wk0).h)
    · rw [if_pos hc]
      refine next_go n (i + 1) i (fun h => by omega) (fun _ => ⟨by omega, ⟨hc.1, hc.2.1⟩, fun q hq ht => ?_⟩) (by omega)
      have ei : ((i : Int)).toNat = i := Int.toNat_natCast i
      rw [ei]
      rcases Nat.lt_or_ge q i with hqi | hqi
      · rcases Int.lt_or_le b 0 with hb | hb
        · exact absurd ht (h1 hb q hqi)
        · have h4 := (h2 hb).2.2 q hqi ht
          have h5 : urg cl ws i ≤ urg cl ws b.toNat := by
            have := hc.2.2.resolve_left (by omega)
            unfold urg
            rw [show ((b.toNat : Nat) : Int) = b by omega]
            exact this
          exact ⟨by omega, fun _ => by omega⟩
      · have : q = i := by omega
        subst this
        exact ⟨Int.le_refl _, fun _ => Int.le_refl _⟩
    · rw [if_neg hc]
      refine next_go n (i + 1) b (fun h q hq ht => ?_) (fun h => ⟨by have := (h2 h).1; omega, (h2 h).2.1, fun q hq ht => ?_⟩) h3
      · rcases Nat.lt_or_ge q i with hqi | hqi
        · exact h1 h q hqi ht
        · have : q = i := by omega
          subst this
          exact hc ⟨ht.1, ht.2, .inl h⟩
      · rcases Nat.lt_or_ge q i with hqi | hqi
        · exact (h2 h).2.2 q hqi ht
        · have : q = i := by omega
          subst this
          have h5 : ¬ urg cl ws q ≤ urg cl ws b.toNat := fun h6 => hc ⟨ht.1, ht.2, .inr (by
            unfold urg at h6
            rw [show ((b.toNat : Nat) : Int) = b by omega] at h6
            exact h6)⟩
          exact ⟨by omega, fun h7 => by omega⟩
theorem next_spec (l : List Work) (ws : List Wk) (cl : List Int) (t : Int) : (nextR l ws cl t ws.length 0 (-1) = -1 ∧ ∀ q, q < ws.length → ¬ There l ws t q) ∨ ∃ b : Nat, nextR l ws cl t ws.length 0 (-1) = b ∧ b < ws.length ∧ There l ws t b ∧ ∀ q, q < ws.length → There l ws t q → urg cl ws b ≤ urg cl ws q ∧ (urg cl ws q = urg cl ws b → q ≤ b) := by
  obtain ⟨h0, h1, h2⟩ := next_go (l := l) (ws := ws) (cl := cl) (t := t) ws.length 0 (-1) (fun _ q hq => by omega) (fun h => by omega) (Int.le_refl _)
  rw [Nat.zero_add] at h1 h2
  generalize nextR l ws cl t ws.length 0 (-1) = b at h0 h1 h2
  rcases Int.lt_or_le b 0 with hb | hb
  · exact .inl ⟨by omega, h1 hb⟩
  · obtain ⟨a1, a2, a3⟩ := h2 hb
    exact .inr ⟨b.toNat, by omega, by omega, a2, fun q hq ht => ⟨(a3 q hq ht).1, fun e => by have := (a3 q hq ht).2 e; omega⟩⟩
structure Rest (A : List Act) (w : Wk) : Prop where
  ha : w.at_ ≤ A.length
  hh : w.h = hAt A w.at_
  hk : w.at_ < A.length → ¬ (A.getD w.at_ Dat.d0).kind = 3
  hr : 0 ≤ w.ran
  hn : 0 < w.ran → w.at_ < A.length ∧ (A.getD w.at_ Dat.d0).kind = 1 ∧ w.ran < (A.getD w.at_ Dat.d0).n
def Begun (w : Wk) : Prop := 0 < w.at_ ∨ 0 < w.ran
structure Inv (l : List Work) (cl : List Int) (t : Int) (x : HS) : Prop where
  ht : 0 ≤ t
  hw : x.ws.length = l.length
  ho : x.o.length = 8
  he : x.en.length = l.length
  hc : x.clash = 0
  rest : ∀ q, q < l.length → Rest (l.getD q Dat.d0).acts (x.ws.getD q wk0)
  own : ∀ q : Nat, q < l.length → OwH q x.o (x.ws.getD q wk0).h
  own2 : ∀ n : Nat, n < 8 → x.o.getD n 0 = 0 ∨ ∃ q : Nat, q < l.length ∧ x.o.getD n 0 = (q : Int) + 1
  came : ∀ q, q < l.length → Begun (x.ws.getD q wk0) → (l.getD q Dat.d0).came < t
  fst : ∀ q : Nat, q < l.length → Begun (x.ws.getD q wk0) → (x.ws.getD q wk0).at_ < (l.getD q Dat.d0).acts.length → ∀ j, q < j → j < l.length → (q : Int) < urg cl x.ws j
  ends : ∀ q, q < l.length → (0 < x.en.getD q 0 ↔ (x.ws.getD q wk0).at_ = (l.getD q Dat.d0).acts.length) ∧ 0 ≤ x.en.getD q 0 ∧ x.en.getD q 0 ≤ t
def h0 (l : List Work) : HS := ⟨List.replicate l.length wk0, List.replicate 8 0, List.replicate l.length 0, 0⟩
theorem acts_pos {A : List Act} (h : rgtR [] false A = true) : 0 < A.length ∧ ¬ (A.getD 0 Dat.d0).kind = 3 := by
  have h1 := rgt_some h
  refine ⟨h1, fun h3 => ?_⟩
  have hs := at_step h h1
  have := (rgt_drop h3 hs).1
  rw [hAt_0] at this
  exact absurd this (Nat.lt_irrefl _)
theorem inv0 {l : List Work} (h : lckV l = 0) : Inv l (ceilV l) 0 (h0 l) := by
  have hb : ∀ q, q < l.length → ¬ Begun ((h0 l).ws.getD q wk0) := fun q hq hb => by
    rw [h0] at hb; dsimp only at hb
    rw [rep_get _ _ _ _ hq] at hb
    rcases hb with hb | hb
    · exact absurd hb (Nat.lt_irrefl _)
    · exact absurd hb (Int.lt_irrefl _)
  refine ⟨Int.le_refl _, List.length_replicate, rfl, List.length_replicate, rfl, fun q hq => ?_, fun q hq n n0 n8 => ?_, fun n hn => .inl ?_, fun q hq hq2 => absurd hq2 (hb q hq), fun q hq hq2 => absurd hq2 (hb q hq), fun q hq => ?_⟩
  · obtain ⟨_, h2, _, _⟩ := lck_get h hq
    have h3 := acts_pos h2
    rw [h0]; dsimp only
    rw [rep_get _ _ _ _ hq]
    exact ⟨Nat.zero_le _, hAt_0.symm, fun _ => h3.2, Int.le_refl _, fun h => absurd h (Int.lt_irrefl _)⟩
  · rw [h0]; dsimp only
    rw [rep_get _ _ _ _ hq, rep_get _ _ _ _ (by omega)]
    exact ⟨fun e => by omega, fun e => (by cases e)⟩
  · rw [h0]; dsimp only
    rw [rep_get _ _ _ _ hn]
  · obtain ⟨_, h2, _, _⟩ := lck_get h hq
    have h3 := acts_pos h2
    rw [h0]; dsimp only
    rw [rep_get _ _ _ _ hq, rep_get _ _ _ _ hq]
    exact ⟨⟨fun e => absurd e (Int.lt_irrefl _), fun e => by have e : 0 = _ := e; omega⟩, Int.le_refl _, Int.le_refl _⟩
theorem key_less {l : List Work} (h : lckV l = 0) {t : Int} {x : HS} (I : Inv l (ceilV l) t x) {b : Nat} (hb : b < l.length) (ht : There l x.ws t b) (hs : ∀ q, q < x.ws.length → There l x.ws t q → urg (ceilV l) x.ws b ≤ urg (ceilV l) x.ws q ∧ (urg (ceilV l) x.ws q = urg (ceilV l) x.ws b → q ≤ b))
    {j : Nat} (hj : j < l.length) (hjb : j ≠ b) (hh : (x.ws.getD j wk0).h ≠ []) : (b : Int) < urg (ceilV l) x.ws j := by
  have hR := I.rest j hj
  have hbeg : Begun (x.ws.getD j wk0) := by
    refine .inl ?_
    rcases Nat.eq_zero_or_pos (x.ws.getD j wk0).at_ with h0 | h0
    · exact absurd (by rw [hR.hh, h0, hAt_0]) hh
    · exact h0
  have hat : (x.ws.getD j wk0).at_ < (l.getD j Dat.d0).acts.length := by
    rcases Nat.lt_or_ge (x.ws.getD j wk0).at_ (l.getD j Dat.d0).acts.length with h1 | h1
    · exact h1
    · exact absurd (by rw [hR.hh, hAt_end (lck_get h hj).2.1 h1]) hh
  have hth : There l x.ws t j := ⟨by have := I.came j hj hbeg; omega, hat⟩
  have h1 := hs j (by rw [I.hw]; exact hj) hth
  rcases Nat.lt_or_ge j b with hjb2 | hjb2
  · have := I.fst j hj hbeg hat b hjb2 hb
    have h2 : urg (ceilV l) x.ws j ≤ j := urg_le
    omega
  · by_cases hbb : Begun (x.ws.getD b wk0)
    · exact I.fst b hb hbb ht.2 j (by omega) hj
    · have hb0 : (x.ws.getD b wk0).h = [] := by
        rw [(I.rest b hb).hh]
        have : (x.ws.getD b wk0).at_ = 0 := by
          rcases Nat.eq_zero_or_pos (x.ws.getD b wk0).at_ with h0 | h0
          · exact h0
          · exact absurd (.inl h0) hbb
        rw [this, hAt_0]
      have h3 : urg (ceilV l) x.ws b = b := by unfold urg; rw [hb0]; rfl
      rcases Int.lt_or_eq_of_le h1.1 with h4 | h4
      · omega
      · have := h1.2 h4.symm; omega
theorem key_free {l : List Work} (h : lckV l = 0) {t : Int} {x : HS} (I : Inv l (ceilV l) t x) {b : Nat} (hb : b < l.length) (ht : There l x.ws t b) (hs : ∀ q, q < x.ws.length → There l x.ws t q → urg (ceilV l) x.ws b ≤ urg (ceilV l) x.ws q ∧ (urg (ceilV l) x.ws q = urg (ceilV l) x.ws b → q ≤ b)) :
    ∀ a ∈ (l.getD b Dat.d0).acts, a.kind = 2 → x.o.getD a.n.toNat 0 = 0 ∨ x.o.getD a.n.toNat 0 = b + 1 := fun a ha hk => by
  have h8 := rgtR_take (lck_get h hb).2.1 a ha hk
  rcases I.own2 a.n.toNat (by omega) with h0 | ⟨j, hj, h1⟩
  · exact .inl h0
  · by_cases hjb : j = b
    · subst hjb; exact .inr h1
    · have hm := (I.own j hj a.n h8.1 h8.2).1 h1
      have h2 := key_less h I hb ht hs hj hjb (List.ne_nil_of_mem hm)
      have h3 : urg (ceilV l) x.ws j ≤ _ := urg_mem (cl := ceilV l) (u := j) hm
      have h4 := (ceil_at h hb ha hk).2
      omega
def sumN : List Act → Int
  | [] => 0
  | a :: r => (if a.kind = 1 then a.n else 0) + sumN r
theorem sumN_app : ∀ {l m : List Act}, sumN (l ++ m) = sumN l + sumN m
  | [], m => (Int.zero_add _).symm
  | a :: l, m => by rw [List.cons_append, sumN, sumN, sumN_app]; omega
theorem sumN_s {A : List Act} {k : Nat} (hk : k < A.length) : sumN (A.take (k + 1)) = sumN (A.take k) + if (A.getD k Dat.d0).kind = 1 then (A.getD k Dat.d0).n else 0 := by
  rw [take_at hk, sumN_app]; simp [sumN]
theorem sumN_none {A : List Act} : ∀ {k k' : Nat}, k ≤ k' → k' ≤ A.length → (∀ j, k ≤ j → j < k' → ¬ (A.getD j Dat.d0).kind = 1) → sumN (A.take k') = sumN (A.take k)
  | k, 0, h1, _, _ => by rw [show k = 0 by omega]
  | k, k' + 1, h1, h2, h3 => by
    rcases Nat.eq_or_lt_of_le h1 with e | h1
    · rw [e]
    · rw [sumN_s (by omega), if_neg (h3 k' (by omega) (Nat.lt_succ_self _)), sumN_none (k := k) (k' := k') (by omega) (by omega) fun j a b => h3 j a (by omega)]
      omega
def doneN (A : List Act) (w : Wk) : Int := sumN (A.take w.at_) + w.ran
theorem setW' {ws : List Wk} {i q : Nat} {x : Wk} (hi : i < ws.length) : (ws.set q x).getD i wk0 = if i = q then x else ws.getD i wk0 := by
  by_cases h : i = q
  · subst h; rw [if_pos rfl]; simp [List.getD_eq_getElem?_getD, hi]
  · rw [if_neg h]; simp [List.getD_eq_getElem?_getD, List.getElem?_set, Ne.symm h]
theorem setE {o : List Int} {p i : Nat} {v : Int} (hp : i < o.length) : (o.set p v).getD i 0 = if i = p then v else o.getD i 0 := by
  by_cases hi : i = p
  · subst hi; rw [if_pos rfl]; simp [List.getD_eq_getElem?_getD, hp]
  · rw [if_neg hi]; simp [List.getD_eq_getElem?_getD, List.getElem?_set, Ne.symm hi]
structure Ran (l : List Work) (t : Int) (x : HS) (b : Nat) (w : Wk) (S : Int × HS) : Prop where
  hb : b < l.length
  hs : S.1 = b
  ht : There l x.ws t b
  hu : ∀ q, q < x.ws.length → There l x.ws t q → urg (ceilV l) x.ws b ≤ urg (ceilV l) x.ws q ∧ (urg (ceilV l) x.ws q = urg (ceilV l) x.ws b → q ≤ b)
  hw : S.2.ws = x.ws.set b w
  he : S.2.en = if w.at_ = (l.getD b Dat.d0).acts.length then x.en.set b (t + 1) else x.en
  hd : doneN (l.getD b Dat.d0).acts w = doneN (l.getD b Dat.d0).acts (x.ws.getD b wk0) + 1
  hg : Begun w
  hi : Inv l (ceilV l) (t + 1) S.2
theorem step_inv {l : List Work} (h : lckV l = 0) {t : Int} {x : HS} (I : Inv l (ceilV l) t x) : ((stepV l (ceilV l) t x = (-1, x) ∧ nextR l x.ws (ceilV l) t x.ws.length 0 (-1) = -1 ∧ ∀ q, q < l.length → ¬ There l x.ws t q) ∨ ∃ b w, nextR l x.ws (ceilV l) t x.ws.length 0 (-1) = (b : Nat) ∧ Ran l t x b w (stepV l (ceilV l) t x)) := by
  rcases next_spec l x.ws (ceilV l) t with ⟨h1, h2⟩ | ⟨b, h1, h2, h3, h4⟩
  · refine .inl ⟨?_, h1, fun q hq => h2 q (by rw [I.hw]; exact hq)⟩
    unfold stepV
    dsimp only
    rw [h1, if_pos (by decide)]
  · right
    have hb : b < l.length := by rw [← I.hw]; exact h2
    obtain ⟨g1, g2, g3, g4⟩ := lck_get h hb
    have R := I.rest b hb
    have hf := key_free h I hb h3 h4
    have how := I.own b hb
    rw [R.hh] at how
    obtain ⟨k', o', i1, i2, i3, i4, i5, i6, i7, i8, i9⟩ := free_take (q := b) (by omega) g2 _ (x.ws.getD b wk0).at_ x.o (Nat.le_refl _) h3.2 (.inr (R.hk h3.2)) how I.ho hf
    have hn1 := (rgt_run i4 (at_step g2 i3))
    -- what a new state of b brings
    have fin : ∀ (w : Wk) (o2 : List Int) (en : List Int), Rest (l.getD b Dat.d0).acts w → o2.length = 8 → OwH b o2 w.h → OwR b x.o o2 → Begun w → en = (if w.at_ = (l.getD b Dat.d0).acts.length then x.en.set b (t + 1) else x.en) → Inv l (ceilV l) (t + 1) ⟨x.ws.set b w, o2, en, x.clash⟩ := by
      intro w o2 en r1 r2 r3 r4 r5 r6
      have hW : ∀ q, q < l.length → (x.ws.set b w).getD q wk0 = if q = b then w else x.ws.getD q wk0 := fun q hq => setW' (by rw [I.hw]; exact hq)
      have hu : ∀ q, q < l.length → q ≠ b → urg (ceilV l) (x.ws.set b w) q = urg (ceilV l) x.ws q := fun q hq hqb => by unfold urg; rw [hW q hq, if_neg hqb]
      refine ⟨by have := I.ht; omega, by rw [List.length_set]; exact I.hw, r2, ?_, I.hc, fun q hq => ?_, fun q hq => ?_, fun n hn => ?_, fun q hq hg => ?_, fun q hq hg0 ha0 j hqj hj => ?_, fun q hq => ?_⟩
      · show en.length = _
        rw [r6]; split
        · rw [List.length_set]; exact I.he
        · exact I.he
      · show Rest _ ((x.ws.set b w).getD q wk0)
        rw [hW q hq]; split
        · rename_i e; subst e; exact r1
        · exact I.rest q hq
      · show OwH q o2 ((x.ws.set b w).getD q wk0).h
        rw [hW q hq]; split
        · rename_i e; subst e; exact r3
        · rename_i e
          intro n n0 n8
          rw [← I.own q hq n n0 n8]
          rcases r4 n.toNat with ⟨a1, a2⟩ | a
          · exact ⟨fun z => by omega, fun z => by omega⟩
          · rw [a]
      · show o2.getD n 0 = 0 ∨ _
        rcases r4 n with ⟨a1, a2⟩ | a
        · rcases a2 with a2 | a2
          · exact .inl a2
          · exact .inr ⟨b, hb, a2⟩
        · have := I.own2 n hn
          rw [← a] at this
          exact this
      · have hg : Begun ((x.ws.set b w).getD q wk0) := hg
        rw [hW q hq] at hg
        split at hg
        · rename_i e; subst e; have := h3.1; omega
        · have := I.came q hq hg; omega
      · have hg : Begun ((x.ws.set b w).getD q wk0) := hg0
        have ha : ((x.ws.set b w).getD q wk0).at_ < _ := ha0
        show (q : Int) < urg (ceilV l) (x.ws.set b w) j
        rw [hW q hq] at hg ha
        by_cases hqb : q = b
        · subst hqb
          rw [hu j hj (by omega)]
          by_cases hh : (x.ws.getD j wk0).h = []
          · unfold urg; rw [hh]; show (q : Int) < j; omega
          · exact key_less h I hq h3 h4 hj (by omega) hh
        · rw [if_neg hqb] at hg ha
          by_cases hjb : j = b
          · subst hjb
            have h5 := I.fst q hq hg ha j hqj hj
            have h6 := (h4 q (by rw [I.hw]; exact hq) ⟨by have := I.came q hq hg; omega, ha⟩).1
            have h7 : urg (ceilV l) x.ws q ≤ q := urg_le
            omega
          · rw [hu j hj hjb]; exact I.fst q hq hg ha j hqj hj
      · show (0 < en.getD q 0 ↔ ((x.ws.set b w).getD q wk0).at_ = _) ∧ 0 ≤ en.getD q 0 ∧ en.getD q 0 ≤ t + 1
        have h5 := I.ends q hq
        have h6 := I.ht
        rw [hW q hq, r6]
        by_cases hqb : q = b
        · subst hqb
          rw [if_pos rfl]
          by_cases hw : w.at_ = (l.getD q Dat.d0).acts.length
          · rw [if_pos hw, setE (by rw [I.he]; exact hq), if_pos rfl]
            exact ⟨⟨fun _ => hw, fun _ => by omega⟩, by omega, by omega⟩
          · rw [if_neg hw]
            refine ⟨⟨fun z => ?_, fun z => absurd z hw⟩, h5.2.1, by omega⟩
            have := h5.1.1 z
            have := h3.2
            omega
        · rw [if_neg hqb]
          split
          · rw [setE (by rw [I.he]; exact hq), if_neg hqb]; exact ⟨h5.1, h5.2.1, by omega⟩
          · exact ⟨h5.1, h5.2.1, by omega⟩
    by_cases hr : (x.ws.getD b wk0).ran + 1 = ((l.getD b Dat.d0).acts.getD k' Dat.d0).n
    · have how2 : OwH b o' (hAt (l.getD b Dat.d0).acts (k' + 1)) := by rw [hAt_s i3, if_neg (by omega), if_pos i4]; exact i6
      obtain ⟨k2, o2, j1, j2, j3, j4, j5, j6, j7, j8⟩ := free_drop (q := b) (by omega) g2 _ (k' + 1) o' (Nat.le_refl _) i3 how2 i5
      have es : stepV l (ceilV l) t x = ((b : Int), ⟨x.ws.set b ⟨k2, 0, hAt (l.getD b Dat.d0).acts k2⟩, o2, if k2 = (l.getD b Dat.d0).acts.length then x.en.set b (t + 1) else x.en, x.clash⟩) := by
        unfold stepV
        dsimp only
        rw [h1, if_neg (by omega), Int.toNat_natCast, R.hh, i1]
        dsimp only
        rw [if_neg (by decide), if_pos hr]
        have e1 : hAt (l.getD b Dat.d0).acts k' = hAt (l.getD b Dat.d0).acts (k' + 1) := by rw [hAt_s i3, if_neg (by omega), if_pos i4]
        rw [e1, j1]
      refine ⟨b, ⟨k2, 0, hAt (l.getD b Dat.d0).acts k2⟩, h1, ?_⟩
      have hbeg : Begun ⟨k2, 0, hAt (l.getD b Dat.d0).acts k2⟩ := .inl (show 0 < k2 by omega)
      rw [es]
      refine ⟨hb, rfl, h3, h4, rfl, rfl, ?_, hbeg, fin _ _ _ ⟨j3, rfl, j4, Int.le_refl _, fun z => absurd z (Int.lt_irrefl _)⟩ j5 j6 (i7.trans j7) hbeg rfl⟩
      unfold doneN
      dsimp only
      rw [sumN_none j2 j3 (fun j a1 a2 a3 => by have := j8 j a1 a2; omega), sumN_s i3, if_pos i4, sumN_none i2 (by omega) i8]
      omega
    · have es : stepV l (ceilV l) t x = ((b : Int), ⟨x.ws.set b ⟨k', (x.ws.getD b wk0).ran + 1, hAt (l.getD b Dat.d0).acts k'⟩, o', x.en, x.clash⟩) := by
        unfold stepV
        dsimp only
        rw [h1, if_neg (by omega), Int.toNat_natCast, R.hh, i1]
        dsimp only
        rw [if_neg (by decide), if_neg hr]
      refine ⟨b, ⟨k', (x.ws.getD b wk0).ran + 1, hAt (l.getD b Dat.d0).acts k'⟩, h1, ?_⟩
      have hr0 := R.hr
      have hbeg : Begun ⟨k', (x.ws.getD b wk0).ran + 1, hAt (l.getD b Dat.d0).acts k'⟩ := .inr (show 0 < (x.ws.getD b wk0).ran + 1 by omega)
      have hlt : (x.ws.getD b wk0).ran + 1 < ((l.getD b Dat.d0).acts.getD k' Dat.d0).n := by
        rcases Int.lt_or_le 0 (x.ws.getD b wk0).ran with hp | hp
        · obtain ⟨z1, z2, z3⟩ := R.hn hp
          rw [i9 z2] at hr ⊢
          omega
        · have := hn1.1; omega
      have he : x.en = if k' = (l.getD b Dat.d0).acts.length then x.en.set b (t + 1) else x.en := by rw [if_neg (by omega)]
      rw [es]
      refine ⟨hb, rfl, h3, h4, rfl, he, ?_, hbeg, fin _ _ _ ⟨by dsimp only; omega, rfl, fun _ => by dsimp only; omega, by dsimp only; omega, fun _ => ⟨i3, i4, hlt⟩⟩ i5 i6 i7 hbeg he⟩
      unfold doneN
      dsimp only
      rw [sumN_none i2 (by omega) i8]
      omega

end Go.Proofs.Ythbdlihmafcioaa
