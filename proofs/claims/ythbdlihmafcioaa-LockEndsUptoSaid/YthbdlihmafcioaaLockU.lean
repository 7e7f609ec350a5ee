/- Locks, plain: a play, and what it keeps. -/
import Derived.Test.YthbdlihmafcioaaLockT
set_option linter.all false
namespace Go.Proofs.Ythbdlihmafcioaa
open Go Go.Abs

def runV (l : List Work) : Nat → Int → HS → List Int × HS
  | 0, _, x => ([], x)
  | n + 1, t, x => ((stepV l (ceilV l) t x).1 :: (runV l n (t + 1) (stepV l (ceilV l) t x).2).1, (runV l n (t + 1) (stepV l (ceilV l) t x).2).2)
def playLk (l : List Work) (u : Int) : Locked × Int :=
  if ¬ lckV l = 0 then (⟨[], [], 0⟩, lckV l) else if u < 0 ∨ 20000 < u then (⟨[], [], 0⟩, 1) else (⟨(runV l u.toNat 0 (h0 l)).1, (runV l u.toNat 0 (h0 l)).2.en, (runV l u.toNat 0 (h0 l)).2.clash⟩, 0)
theorem playLk_ok {l : List Work} {u : Int} (h : (playLk l u).2 = 0) : lckV l = 0 ∧ 0 ≤ u ∧ u ≤ 20000 ∧ playLk l u = (⟨(runV l u.toNat 0 (h0 l)).1, (runV l u.toNat 0 (h0 l)).2.en, (runV l u.toNat 0 (h0 l)).2.clash⟩, 0) := by
  unfold playLk at h ⊢
  by_cases h1 : lckV l = 0
  · rw [if_neg (by omega)] at h ⊢
    by_cases h2 : u < 0 ∨ 20000 < u
    · rw [if_pos h2] at h; cases h
    · rw [if_neg h2]; exact ⟨h1, by omega, by omega, rfl⟩
  · rw [if_pos h1] at h; exact absurd h h1
theorem runV_len {l : List Work} : ∀ {n : Nat} {t : Int} {x : HS}, (runV l n t x).1.length = n
  | 0, _, _ => rfl
  | n + 1, t, x => by rw [runV, List.length_cons, runV_len]
theorem runV_app {l : List Work} : ∀ {n m : Nat} {t : Int} {x : HS}, runV l (n + m) t x = ((runV l n t x).1 ++ (runV l m (t + n) (runV l n t x).2).1, (runV l m (t + n) (runV l n t x).2).2)
  | 0, m, t, x => by rw [Nat.zero_add, runV]; simp
  | n + 1, m, t, x => by
    rw [show n + 1 + m = (n + m) + 1 by omega, runV, runV_app, runV]
    dsimp only
    rw [show t + 1 + (n : Int) = t + ((n + 1 : Nat) : Int) by omega]
    rfl
theorem step_I {l : List Work} (h : lckV l = 0) {t : Int} {x : HS} (I : Inv l (ceilV l) t x) : Inv l (ceilV l) (t + 1) (stepV l (ceilV l) t x).2 := by
  rcases step_inv h I with ⟨h1, _⟩ | ⟨b, w, _, R⟩
  · rw [h1]
    exact ⟨by have := I.ht; omega, I.hw, I.ho, I.he, I.hc, I.rest, I.own, I.own2, fun q hq hg => by have := I.came q hq hg; omega, I.fst, fun q hq => ⟨(I.ends q hq).1, (I.ends q hq).2.1, Int.le_trans (I.ends q hq).2.2 (by omega)⟩⟩
  · exact R.hi
theorem run_I {l : List Work} (h : lckV l = 0) : ∀ {n : Nat} {t : Int} {x : HS}, Inv l (ceilV l) t x → Inv l (ceilV l) (t + n) (runV l n t x).2
  | 0, t, x, I => by simpa [runV] using I
  | n + 1, t, x, I => by
    have := run_I h (n := n) (step_I h I)
    rw [runV, show t + ((n + 1 : Nat) : Int) = t + 1 + n by omega]
    exact this
theorem step_en {l : List Work} (h : lckV l = 0) {t : Int} {x : HS} (I : Inv l (ceilV l) t x) {i : Nat} (hi : i < l.length) : (0 < x.en.getD i 0 → (stepV l (ceilV l) t x).2.en.getD i 0 = x.en.getD i 0) ∧ (x.en.getD i 0 = 0 → (stepV l (ceilV l) t x).2.en.getD i 0 = 0 ∨ (stepV l (ceilV l) t x).2.en.getD i 0 = t + 1 ∧ (stepV l (ceilV l) t x).1 = i) := by
  rcases step_inv h I with ⟨h1, _⟩ | ⟨b, w, _, R⟩
  · rw [h1]; exact ⟨fun _ => rfl, fun z => .inl z⟩
  · rw [R.he, R.hs]
    by_cases hib : i = b
    · subst hib
      refine ⟨fun z => ?_, fun z => ?_⟩
      · have := (I.ends i hi).1.1 z
        have := R.ht.2
        omega
      · split
        · rw [setE (by rw [I.he]; exact hi), if_pos rfl]; exact .inr ⟨rfl, rfl⟩
        · exact .inl z
    · split
      · rw [setE (by rw [I.he]; exact hi), if_neg hib]; exact ⟨fun _ => rfl, fun z => .inl z⟩
      · exact ⟨fun _ => rfl, fun z => .inl z⟩
theorem run_en {l : List Work} (h : lckV l = 0) {i : Nat} (hi : i < l.length) : ∀ {n : Nat} {t : Int} {x : HS}, Inv l (ceilV l) t x →
    (0 < x.en.getD i 0 → (runV l n t x).2.en.getD i 0 = x.en.getD i 0) ∧ (x.en.getD i 0 = 0 → (runV l n t x).2.en.getD i 0 = 0 ∨ (t < (runV l n t x).2.en.getD i 0 ∧ (runV l n t x).2.en.getD i 0 ≤ t + n ∧ (runV l n t x).1.getD ((runV l n t x).2.en.getD i 0 - 1 - t).toNat 0 = i))
  | 0, t, x, I => ⟨fun _ => rfl, fun z => .inl z⟩
  | n + 1, t, x, I => by
    obtain ⟨s1, s2⟩ := step_en h I hi
    obtain ⟨r1, r2⟩ := run_en h hi (n := n) (step_I h I)
    rw [runV]
    dsimp only
    refine ⟨fun z => ?_, fun z => ?_⟩
    · rw [r1 (by rw [s1 z]; exact z), s1 z]
    · rcases s2 z with e | ⟨e, e2⟩
      · rcases r2 e with e3 | ⟨e3, e4, e5⟩
        · exact .inl e3
        · refine .inr ⟨by omega, by omega, ?_⟩
          generalize (runV l n (t + 1) (stepV l (ceilV l) t x).2).2.en.getD i 0 = E at e3 e4 e5 ⊢
          rw [show (E - 1 - t).toNat = (E - 1 - (t + 1)).toNat + 1 by omega, List.getD_cons_succ]
          exact e5
      · have := r1 (by have := I.ht; omega)
        rw [this, e]
        refine .inr ⟨by omega, by omega, ?_⟩
        rw [show (t + 1 - 1 - t).toNat = 0 by omega, List.getD_cons_zero, e2]
theorem run_at {l : List Work} (h : lckV l = 0) {u : Nat} {k : Nat} (hk : k < u) : ∃ x, Inv l (ceilV l) k x ∧ (runV l u 0 (h0 l)).1.getD k 0 = (stepV l (ceilV l) k x).1 ∧ x = (runV l k 0 (h0 l)).2 ∧ ∀ i, i < l.length →
    (0 < x.en.getD i 0 → (runV l u 0 (h0 l)).2.en.getD i 0 = x.en.getD i 0) ∧ (x.en.getD i 0 = 0 → (runV l u 0 (h0 l)).2.en.getD i 0 = 0 ∨ k < (runV l u 0 (h0 l)).2.en.getD i 0) := by
  have I0 := run_I h (n := k) (inv0 h)
  rw [Int.zero_add] at I0
  refine ⟨(runV l k 0 (h0 l)).2, I0, ?_, rfl, fun i hi => ?_⟩
  · rw [show u = k + ((u - k - 1) + 1) by omega, runV_app, runV]
    dsimp only
    rw [List.getD_eq_getElem?_getD, List.getElem?_append_right (by rw [runV_len]; exact Nat.le_refl _), runV_len, Nat.sub_self, Int.zero_add]
    rfl
  · have := run_en h hi (n := u - k) I0
    have e : (runV l u 0 (h0 l)).2 = (runV l (u - k) k (runV l k 0 (h0 l)).2).2 := by
      conv => lhs; rw [show u = k + (u - k) by omega, runV_app]
      rw [Int.zero_add]
    rw [e]
    exact ⟨this.1, fun z => (this.2 z).imp id fun q => by have := q.1; omega⟩
theorem there_iff {l : List Work} (h : lckV l = 0) {u k : Nat} (hk : k < u) {x : HS} (I : Inv l (ceilV l) k x) {i : Nat} (hi : i < l.length)
    (e : (0 < x.en.getD i 0 → (runV l u 0 (h0 l)).2.en.getD i 0 = x.en.getD i 0) ∧ (x.en.getD i 0 = 0 → (runV l u 0 (h0 l)).2.en.getD i 0 = 0 ∨ k < (runV l u 0 (h0 l)).2.en.getD i 0)) :
    There l x.ws k i ↔ (l.getD i Dat.d0).came ≤ k ∧ ((runV l u 0 (h0 l)).2.en.getD i 0 = 0 ∨ k < (runV l u 0 (h0 l)).2.en.getD i 0) := by
  have h1 := I.ends i hi
  have h2 := (I.rest i hi).ha
  unfold There
  generalize (runV l u 0 (h0 l)).2.en.getD i 0 = E at e ⊢
  constructor
  · rintro ⟨a, b⟩
    refine ⟨a, e.2 ?_⟩
    rcases Int.lt_or_le 0 (x.en.getD i 0) with z | z
    · have := h1.1.1 z; omega
    · omega
  · rintro ⟨a, b⟩
    refine ⟨a, ?_⟩
    rcases Int.lt_or_le 0 (x.en.getD i 0) with z | z
    · have := e.1 z
      omega
    · rcases Nat.lt_or_ge (x.ws.getD i wk0).at_ (l.getD i Dat.d0).acts.length with q | q
      · exact q
      · have := h1.1.2 (by omega); omega
theorem lk_never {l : List Work} {u : Int} (h : (playLk l u).2 = 0) : (playLk l u).1.clash = 0 := by
  obtain ⟨h1, h2, h3, e⟩ := playLk_ok h
  rw [e]
  exact (run_I h1 (n := u.toNat) (inv0 h1)).hc
theorem lk_len {l : List Work} {u : Int} (h : (playLk l u).2 = 0) : ((playLk l u).1.ran.length : Int) = u ∧ (playLk l u).1.ends.length = l.length := by
  obtain ⟨h1, h2, h3, e⟩ := playLk_ok h
  rw [e]
  refine ⟨?_, (run_I h1 (n := u.toNat) (inv0 h1)).he⟩
  show ((runV l u.toNat 0 (h0 l)).1.length : Int) = u
  rw [runV_len]; omega
theorem lk_on {l : List Work} {u v : Int} (h : (playLk l u).2 = 0) (g : (playLk l v).2 = 0) (huv : u ≤ v) : (∀ t : Nat, t < u → (playLk l u).1.ran.getD t 0 = (playLk l v).1.ran.getD t 0) ∧
    ∀ i, i < l.length → (0 < (playLk l u).1.ends.getD i 0 → (playLk l v).1.ends.getD i 0 = (playLk l u).1.ends.getD i 0) ∧ ((playLk l u).1.ends.getD i 0 = 0 → 0 < (playLk l v).1.ends.getD i 0 → u < (playLk l v).1.ends.getD i 0) := by
  obtain ⟨h1, h2, h3, e⟩ := playLk_ok h
  obtain ⟨_, g2, g3, e2⟩ := playLk_ok g
  rw [e, e2]
  dsimp only
  have I0 := run_I h1 (n := u.toNat) (inv0 h1)
  have ea := runV_app (l := l) (n := u.toNat) (m := v.toNat - u.toNat) (t := 0) (x := h0 l)
  rw [show u.toNat + (v.toNat - u.toNat) = v.toNat by omega] at ea
  rw [ea]
  dsimp only
  refine ⟨fun t ht => ?_, fun i hi => ?_⟩
  · rw [List.getD_eq_getElem?_getD, List.getD_eq_getElem?_getD, List.getElem?_append_left (by rw [runV_len]; omega)]
  · have := run_en h1 hi (n := v.toNat - u.toNat) I0
    refine ⟨this.1, fun z z2 => ?_⟩
    rcases this.2 z with q | q
    · omega
    · have := q.1; omega
theorem hAt_none {A : List Act} (h : ∀ a ∈ A, a.kind = 1) : ∀ k, k ≤ A.length → hAt A k = []
  | 0, _ => hAt_0
  | k + 1, hk => by rw [hAt_s (by omega), if_neg (by have := h _ (at_get (show k < A.length by omega)); omega), if_pos (h _ (at_get (by omega))), hAt_none h k (by omega)]
theorem lk_first {l : List Work} {u : Int} (h : (playLk l u).2 = 0) (hn : ∀ w ∈ l, ∀ a ∈ w.acts, a.kind = 1) {t i : Nat} (ht : (t : Int) < u) (hi : i < l.length) (hc : (l.getD i Dat.d0).came ≤ t) (he : (playLk l u).1.ends.getD i 0 = 0 ∨ t < (playLk l u).1.ends.getD i 0) :
    0 ≤ (playLk l u).1.ran.getD t 0 ∧ (playLk l u).1.ran.getD t 0 ≤ i := by
  obtain ⟨h1, h2, h3, e⟩ := playLk_ok h
  rw [e] at he ⊢
  dsimp only at he ⊢
  obtain ⟨x, I, hr, _, hen⟩ := run_at h1 (u := u.toNat) (k := t) (by omega)
  have hth := (there_iff h1 (by omega) I hi (hen i hi)).2 ⟨hc, he⟩
  rw [hr]
  rcases step_inv h1 I with ⟨_, _, s3⟩ | ⟨b, w, _, R⟩
  · exact absurd hth (s3 i hi)
  · rw [R.hs]
    have hu : ∀ q, q < l.length → urg (ceilV l) x.ws q = q := fun q hq => by
      have hR := I.rest q hq
      unfold urg
      rw [hR.hh, hAt_none (fun a ha => hn _ (by rw [List.getD_eq_getElem?_getD, List.getElem?_eq_getElem hq]; exact List.getElem_mem hq) a ha) _ hR.ha]
      rfl
    have := (R.hu i (by rw [I.hw]; exact hi) hth).1
    rw [hu b R.hb, hu i hi] at this
    omega
theorem rgt_sum : ∀ {A : List Act} {h : List Int} {b : Bool}, rgtR h b A = true → 0 ≤ sumN A ∧ (b = false → 0 < sumN A)
  | [], h, b, r => by
    rw [rgtR, Bool.and_eq_true] at r
    exact ⟨Int.le_refl _, fun q => by rw [q] at r; cases r.1⟩
  | a :: r, h, b, hr => by
    rw [sumN]
    rcases rgt_kind hr with k | k | k
    · obtain ⟨a1, a2, a3⟩ := rgt_run k hr
      have := (rgt_sum a3).1
      rw [if_pos k]
      exact ⟨by omega, fun _ => by omega⟩
    · have := (rgt_sum (rgt_take k hr).2.2).2 rfl
      rw [if_neg (by omega)]
      exact ⟨by omega, fun _ => by omega⟩
    · have := rgt_sum (rgt_drop k hr).2.2
      rw [if_neg (by omega)]
      exact ⟨by omega, fun q => by have := this.2 q; omega⟩
theorem done_lt {A : List Act} (h : rgtR [] false A = true) {w : Wk} (R : Rest A w) : doneN A w ≤ sumN A ∧ (w.at_ < A.length → doneN A w < sumN A) ∧ (w.at_ = A.length → doneN A w = sumN A) := by
  have e : sumN A = sumN (A.take w.at_) + sumN (A.drop w.at_) := by rw [← sumN_app, List.take_append_drop]
  have hr := rgt_at h w.at_
  have h1 := rgt_sum hr
  have h0 := R.hr
  unfold doneN
  have lt : w.at_ < A.length → sumN (A.take w.at_) + w.ran < sumN A := fun hl => by
    have hs := at_step h hl
    rcases rgt_kind hs with k | k | k
    · obtain ⟨a1, a2, a3⟩ := rgt_run k hs
      have := (rgt_sum a3).1
      rw [drop_at hl, sumN, if_pos k] at e
      rcases Int.lt_or_le 0 w.ran with z | z
      · have := (R.hn z).2.2; omega
      · omega
    · have := (rgt_sum (rgt_take k hs).2.2).2 rfl
      rw [drop_at hl, sumN, if_neg (by omega)] at e
      rcases Int.lt_or_le 0 w.ran with z | z
      · have := (R.hn z).2.1; omega
      · omega
    · exact absurd k (R.hk hl)
  have eq : w.at_ = A.length → sumN (A.take w.at_) + w.ran = sumN A := fun hl => by
    rw [hl, List.take_length]
    rcases Int.lt_or_le 0 w.ran with z | z
    · have := (R.hn z).1; omega
    · omega
  refine ⟨?_, lt, eq⟩
  rcases Nat.lt_or_ge w.at_ A.length with z | z
  · have := lt z; omega
  · have := eq (by have := R.ha; omega); omega
def cntI (i : Int) : List Int → Int
  | [] => 0
  | x :: r => (if x = i then 1 else 0) + cntI i r
theorem run_cnt {l : List Work} (h : lckV l = 0) {i : Nat} (hi : i < l.length) : ∀ {n : Nat} {t : Int} {x : HS}, Inv l (ceilV l) t x →
    doneN (l.getD i Dat.d0).acts ((runV l n t x).2.ws.getD i wk0) = doneN (l.getD i Dat.d0).acts (x.ws.getD i wk0) + cntI i (runV l n t x).1
  | 0, t, x, I => by simp [runV, cntI]
  | n + 1, t, x, I => by
    have ih := run_cnt h hi (n := n) (step_I h I)
    rw [runV]
    dsimp only
    rw [ih, cntI]
    rcases step_inv h I with ⟨h1, _⟩ | ⟨b, w, _, R⟩
    · rw [h1]; rw [if_neg (by omega)]; dsimp only; omega
    · rw [R.hs, R.hw, setW' (by rw [I.hw]; exact hi)]
      by_cases e : i = b
      · subst e; rw [if_pos rfl, if_pos rfl, R.hd]; omega
      · rw [if_neg e, if_neg (by omega)]; omega
def totD (l : List Work) (ws : List Wk) : Nat → Int
  | 0 => 0
  | n + 1 => totD l ws n + doneN (l.getD n Dat.d0).acts (ws.getD n wk0)
def totS (l : List Work) : Nat → Int
  | 0 => 0
  | n + 1 => totS l n + sumN (l.getD n Dat.d0).acts
theorem totD_le {l : List Work} {ws : List Wk} (h : ∀ q, q < l.length → doneN (l.getD q Dat.d0).acts (ws.getD q wk0) ≤ sumN (l.getD q Dat.d0).acts) : ∀ n, n ≤ l.length → totD l ws n ≤ totS l n ∧ ∀ i, i < n → doneN (l.getD i Dat.d0).acts (ws.getD i wk0) < sumN (l.getD i Dat.d0).acts → totD l ws n < totS l n
  | 0, _ => ⟨Int.le_refl _, fun i hi => absurd hi (Nat.not_lt_zero _)⟩
  | n + 1, hn => by
    obtain ⟨a, b⟩ := totD_le h n (by omega)
    have c := h n (by omega)
    rw [totD, totS]
    refine ⟨by omega, fun i hi hlt => ?_⟩
    rcases Nat.lt_or_ge i n with z | z
    · have := b i z hlt; omega
    · have : i = n := by omega
      subst this; omega
theorem totD_set {l : List Work} {ws : List Wk} {b : Nat} {w : Wk} (hd : doneN (l.getD b Dat.d0).acts w = doneN (l.getD b Dat.d0).acts (ws.getD b wk0) + 1) : ∀ n, n ≤ ws.length → totD l (ws.set b w) n = totD l ws n + if b < n then 1 else 0
  | 0, _ => by rw [if_neg (Nat.not_lt_zero _)]; rfl
  | n + 1, hn => by
    rw [totD, totD, totD_set hd n (by omega), setW' (by omega)]
    by_cases e : n = b
    · subst e; rw [if_pos rfl, if_neg (Nat.lt_irrefl _), if_pos (Nat.lt_succ_self _), hd]; omega
    · rw [if_neg e]
      by_cases z : b < n
      · rw [if_pos z, if_pos (by omega)]; omega
      · rw [if_neg z, if_neg (by omega)]; omega
theorem run_busy {l : List Work} (h : lckV l = 0) {i : Nat} (hi : i < l.length) : ∀ {n : Nat} {t : Int} {x : HS}, Inv l (ceilV l) t x → (l.getD i Dat.d0).came ≤ t → (runV l n t x).2.en.getD i 0 = 0 → totD l (runV l n t x).2.ws l.length = totD l x.ws l.length + n
  | 0, t, x, I, _, _ => by simp [runV]
  | n + 1, t, x, I, hc, he => by
    rw [runV] at he ⊢
    dsimp only at he ⊢
    rw [run_busy h hi (n := n) (step_I h I) (by omega) he]
    have hth : There l x.ws t i := by
      refine ⟨hc, ?_⟩
      have h1 := run_en h hi (n := n) (step_I h I)
      have h2 := step_en h I hi
      have h3 := (I.ends i hi)
      have h4 := (I.rest i hi).ha
      rcases Nat.lt_or_ge (x.ws.getD i wk0).at_ (l.getD i Dat.d0).acts.length with q | q
      · exact q
      · have h5 := h3.1.2 (by omega)
        have h6 := h2.1 h5
        have h7 := h1.1 (by omega)
        omega
    rcases step_inv h I with ⟨_, _, s3⟩ | ⟨b, w, _, R⟩
    · exact absurd hth (s3 i hi)
    · rw [R.hw, totD_set R.hd _ (by rw [I.hw]; exact Nat.le_refl _), if_pos R.hb]; omega
theorem totD_0 {l : List Work} (h : lckV l = 0) : ∀ n, n ≤ l.length → totD l (h0 l).ws n = 0
  | 0, _ => rfl
  | n + 1, hn => by
    rw [totD, totD_0 h n (by omega)]
    have : (h0 l).ws.getD n wk0 = wk0 := rep_get _ _ _ _ (by omega)
    rw [this]
    show 0 + (sumN (List.take 0 _) + 0) = 0
    rw [List.take_zero]; rfl
theorem totD_mono {l : List Work} (h : lckV l = 0) : ∀ {n : Nat} {t : Int} {x : HS}, Inv l (ceilV l) t x → totD l x.ws l.length ≤ totD l (runV l n t x).2.ws l.length
  | 0, t, x, I => Int.le_refl _
  | n + 1, t, x, I => by
    rw [runV]
    dsimp only
    refine Int.le_trans ?_ (totD_mono h (n := n) (step_I h I))
    rcases step_inv h I with ⟨h1, _⟩ | ⟨b, w, _, R⟩
    · rw [h1]; exact Int.le_refl _
    · rw [R.hw, totD_set R.hd _ (by rw [I.hw]; exact Nat.le_refl _), if_pos R.hb]; omega
theorem lk_done {l : List Work} {u last : Int} (h : (playLk l u).2 = 0) {i : Nat} (hi : i < l.length) (h0l : 0 ≤ last) (hc : (l.getD i Dat.d0).came ≤ last) (hu : last + totS l l.length ≤ u) : ¬ (playLk l u).1.ends.getD i 0 = 0 := by
  obtain ⟨h1, h2, h3, e⟩ := playLk_ok h
  rw [e]
  dsimp only
  intro he
  have hS : 0 ≤ totS l l.length := by
    have : ∀ n, n ≤ l.length → 0 ≤ totS l n := fun n => by
      induction n with
      | zero => exact fun _ => Int.le_refl _
      | succ n ih =>
        intro hn
        have a := ih (by omega)
        have b := (rgt_sum (lck_get h1 (show n < l.length by omega)).2.1).1
        rw [totS]; omega
    exact this _ (Nat.le_refl _)
  have ea := runV_app (l := l) (n := last.toNat) (m := u.toNat - last.toNat) (t := 0) (x := h0 l)
  rw [show last.toNat + (u.toNat - last.toNat) = u.toNat by omega] at ea
  have I0 := run_I h1 (n := last.toNat) (inv0 h1)
  have I1 := run_I h1 (n := u.toNat) (inv0 h1)
  have b1 := run_busy h1 hi (n := u.toNat - last.toNat) I0 (by omega) (by rw [ea] at he; exact he)
  have b2 := totD_mono h1 (n := last.toNat) (inv0 h1)
  rw [totD_0 h1 _ (Nat.le_refl _)] at b2
  have e2 : (runV l u.toNat 0 (h0 l)).2 = (runV l (u.toNat - last.toNat) (0 + last.toNat) (runV l last.toNat 0 (h0 l)).2).2 := by rw [ea]
  rw [← e2] at b1
  have b3 := (totD_le (l := l) (ws := (runV l u.toNat 0 (h0 l)).2.ws) (fun q hq => (done_lt (lck_get h1 hq).2.1 (I1.rest q hq)).1) _ (Nat.le_refl _)).2 i hi ((done_lt (lck_get h1 hi).2.1 (I1.rest i hi)).2.1 (by
    have h5 := I1.ends i hi
    have h6 := (I1.rest i hi).ha
    rcases Nat.lt_or_ge ((runV l u.toNat 0 (h0 l)).2.ws.getD i wk0).at_ (l.getD i Dat.d0).acts.length with q | q
    · exact q
    · have := h5.1.2 (by omega); omega))
  omega
theorem lk_ran {l : List Work} {u : Int} (h : (playLk l u).2 = 0) {t i : Nat} (ht : (t : Int) < u) (hi : i < l.length) :
    ((playLk l u).1.ran.getD t 0 = i → (l.getD i Dat.d0).came ≤ t ∧ ((playLk l u).1.ends.getD i 0 = 0 ∨ t < (playLk l u).1.ends.getD i 0)) ∧
    ((playLk l u).1.ran.getD t 0 < 0 → (l.getD i Dat.d0).came ≤ t → ¬ ((playLk l u).1.ends.getD i 0 = 0 ∨ t < (playLk l u).1.ends.getD i 0)) := by
  obtain ⟨h1, h2, h3, e⟩ := playLk_ok h
  rw [e]
  dsimp only
  obtain ⟨x, I, hr, _, hen⟩ := run_at h1 (u := u.toNat) (k := t) (by omega)
  have hth := there_iff h1 (by omega) I hi (hen i hi)
  rw [hr]
  rcases step_inv h1 I with ⟨s1, _, s3⟩ | ⟨b, w, _, R⟩
  · rw [s1]
    exact ⟨fun q => by omega, fun _ a b => s3 i hi (hth.2 ⟨a, b⟩)⟩
  · rw [R.hs]
    exact ⟨fun q => hth.1 (by have : b = i := by omega
                              rw [← this]; exact R.ht), fun q => by omega⟩
theorem lk_end {l : List Work} {u : Int} (h : (playLk l u).2 = 0) {i : Nat} (hi : i < l.length) (he : 0 < (playLk l u).1.ends.getD i 0) :
    cntI i (playLk l u).1.ran = sumN (l.getD i Dat.d0).acts ∧ (playLk l u).1.ends.getD i 0 ≤ u ∧ (playLk l u).1.ran.getD ((playLk l u).1.ends.getD i 0 - 1).toNat 0 = i := by
  obtain ⟨h1, h2, h3, e⟩ := playLk_ok h
  rw [e] at he ⊢
  dsimp only at he ⊢
  have I1 := run_I h1 (n := u.toNat) (inv0 h1)
  have c := run_cnt h1 hi (n := u.toNat) (inv0 h1)
  have e0 : (h0 l).ws.getD i wk0 = wk0 := rep_get _ _ _ _ hi
  have e1 : (h0 l).en.getD i 0 = 0 := rep_get _ _ _ _ hi
  rw [(done_lt (lck_get h1 hi).2.1 (I1.rest i hi)).2.2 ((I1.ends i hi).1.1 he), e0] at c
  have c0 : doneN (l.getD i Dat.d0).acts wk0 = 0 := by
    show sumN (List.take 0 _) + 0 = 0
    rw [List.take_zero]; rfl
  have r := ((run_en h1 hi (n := u.toNat) (inv0 h1)).2 e1).resolve_left (by omega)
  refine ⟨by omega, by have := r.2.1; omega, ?_⟩
  have := r.2.2
  rwa [Int.sub_zero] at this

end Go.Proofs.Ythbdlihmafcioaa
