/- Nobody whose reply is told takes longer, nor is late: plain. -/
import Derived.Test.YtcnfdohlgmipoaaPlayG
import Derived.Test.YtcnfdohlgmipoaaReplyP
set_option linter.all false
namespace Go.Proofs.Ytcnfdohlgmipoaa
open Go Go.Abs

def nd1 (t : Task) (n : Int) : Int := if 1 ≤ n then (n + t.every - 1).tdiv t.every * t.long else 0
theorem nd1_nn {t : Task} {n : Int} (h : okT t = true) : 0 ≤ nd1 t n := by
  have ho := okT_iff.1 h
  unfold nd1
  split
  · rw [Int.tdiv_eq_ediv_of_nonneg (by omega)]
    exact Int.mul_nonneg (Int.ediv_nonneg (by omega) (by omega)) (by omega)
  · exact Int.le_refl _
theorem nd1_add {t : Task} {n : Int} (h : okT t = true) (hn : 1 ≤ n) : nd1 t n = t.long + nd1 t (n - t.every) := by
  have ho := okT_iff.1 h
  unfold nd1
  rw [if_pos hn, Int.tdiv_eq_ediv_of_nonneg (by omega)]
  have e : n + t.every - 1 = (n - 1) + 1 * t.every := by omega
  rw [e, Int.add_mul_ediv_right _ _ (by omega), Int.add_mul]
  by_cases h2 : 1 ≤ n - t.every
  · rw [if_pos h2, Int.tdiv_eq_ediv_of_nonneg (by omega), show n - t.every + t.every - 1 = n - 1 by omega]
    omega
  · rw [if_neg h2, Int.ediv_eq_zero_of_lt (by omega) (by omega)]
    omega
theorem nd1_le {t : Task} {n m : Int} (h : okT t = true) (hm : n ≤ m) : nd1 t n ≤ nd1 t m := by
  have ho := okT_iff.1 h
  by_cases h0 : 1 ≤ n
  · unfold nd1
    rw [if_pos h0, if_pos (by omega), Int.tdiv_eq_ediv_of_nonneg (by omega), Int.tdiv_eq_ediv_of_nonneg (by omega)]
    have := Int.ediv_le_ediv (show 0 < t.every by omega) (show n + t.every - 1 ≤ m + t.every - 1 by omega)
    exact Int.mul_le_mul_of_nonneg_right (by omega) (by omega)
  · have e : nd1 t n = 0 := by unfold nd1; rw [if_neg h0]
    rw [e]; exact nd1_nn h
def hpW (i a b : Int) (d : Done) : Bool := decide (d.task < i) && (decide (a ≤ d.came) && decide (d.came < b))
theorem hpW_same (i a b : Int) : Same (hpW i a b) := fun d e h1 _ h3 => by unfold hpW; rw [h1, h3]
theorem sumH_le {l : List Task} {k : Nat} {t : Task} (h : okT t = true) (hk : l.getD k Dat.d0 = t) {i a b u : Int} : ∀ {f : Nat} {j c : Int}, sumPJ l (hpW i a b) (jobsF k t u f j c) ≤ nd1 t (b - max a c)
  | 0, j, c => nd1_nn h
  | f + 1, j, c => by
    have ho := okT_iff.1 h
    rw [jobsF]
    split
    · have ih := sumH_le (l := l) (i := i) (a := a) (b := b) (u := u) h hk (f := f) (j := j + 1) (c := c + t.every)
      rw [sumPJ, long_job hk]
      by_cases hp : hpW i a b ⟨(k : Int), j, c, 0⟩ = true
      · rw [if_pos hp]
        unfold hpW at hp
        rw [Bool.and_eq_true, Bool.and_eq_true, decide_eq_true_eq, decide_eq_true_eq, decide_eq_true_eq] at hp
        dsimp only at hp
        rw [show max a c = c by omega, nd1_add h (by omega)]
        rw [show max a (c + t.every) = c + t.every by omega, show b - (c + t.every) = b - c - t.every by omega] at ih
        omega
      · rw [if_neg hp]
        have := nd1_le h (show b - max a (c + t.every) ≤ b - max a c by omega)
        omega
    · exact nd1_nn h
theorem sumH_zero {l : List Task} {k : Nat} {t : Task} {i a b u : Int} (hi : i ≤ k) : ∀ {f : Nat} {j c : Int}, sumPJ l (hpW i a b) (jobsF k t u f j c) = 0
  | 0, j, c => rfl
  | f + 1, j, c => by
    rw [jobsF]
    split
    · rw [sumPJ, sumH_zero hi, if_neg]
      · rfl
      · unfold hpW
        rw [Bool.and_eq_true, decide_eq_true_eq]
        dsimp only
        omega
    · rfl
theorem needS_nd {n : Int} (hn : 1 ≤ n) : ∀ {t : Task} {m : List Task}, needS n (t :: m) = nd1 t n + needS n m := fun {t m} => by rw [needS, nd1, if_pos hn]
theorem sumHL_le {l : List Task} (hl : l.all okT = true) {a b u : Int} (hab : a < b) {i : Nat} : ∀ {m : List Task} {first : List Int} {k : Nat}, l.drop k = m → sumPJ l (hpW i a b) (jobsL u k m first) ≤ needS (b - a) (m.take (i - k))
  | [], first, k, _ => by simp [jobsL, needS, sumPJ]
  | t :: m, [], k, hm => by
    have e : jobsL u k (t :: m) [] = [] := by simp [jobsL]
    rw [e, sumPJ]
    refine needS_nn (by omega) ?_
    rw [List.all_eq_true]
    exact fun x hx => List.all_eq_true.1 hl x (List.mem_of_mem_drop (by rw [hm]; exact List.mem_of_mem_take hx))
  | t :: m, c :: r, k, hm => by
    have hk : k < l.length := by
      have := congrArg List.length hm
      rw [List.length_drop, List.length_cons] at this; omega
    have e1 := drop_cons Dat.d0 hk
    rw [hm] at e1
    have e2 := List.cons.inj e1
    have ht : okT t = true := by rw [e2.1]; exact tk_get hk hl
    rw [jobsL, sumPJ_app]
    have h2 := sumHL_le hl (a := a) (b := b) (u := u) hab (i := i) (m := m) (first := r) (k := k + 1) e2.2.symm
    unfold jobsN
    by_cases hki : k < i
    · have h1 := sumH_le (l := l) (k := k) (t := t) ht e2.1.symm (i := i) (a := a) (b := b) (u := u) (f := (u - c).toNat) (j := 0) (c := c)
      have h3 := nd1_le ht (show b - max a c ≤ b - a by omega)
      rw [show i - k = (i - (k + 1)) + 1 by omega, List.take_succ_cons, needS_nd (by omega)]
      omega
    · rw [sumH_zero (by omega)]
      rw [show i - (k + 1) = 0 by omega] at h2
      rw [show i - k = 0 by omega]
      rw [List.take_zero] at *
      omega

end Go.Proofs.Ytcnfdohlgmipoaa

namespace Go.Proofs.Ytcnfdohlgmipoaa
open Go Go.Abs

variable {l : List Task} {first : List Int} {s : Set}
def hpP (i : Int) (d : Done) : Bool := decide (d.task < i)
def hpA (i a : Int) (d : Done) : Bool := decide (d.task < i) && decide (a ≤ d.came)
theorem hpA_split {i a b : Int} (hab : a ≤ b) : ∀ {q : List job}, sumPJ l (hpA i a) q = sumPJ l (hpW i a b) q + sumPJ l (hpA i b) q
  | [] => rfl
  | y :: r => by
    rw [sumPJ, sumPJ, sumPJ, hpA_split hab]
    unfold hpA hpW
    by_cases h1 : y.done.task < i
    · by_cases h2 : a ≤ y.done.came
      · by_cases h3 : y.done.came < b
        · simp only [decide_eq_true h1, decide_eq_true h2, decide_eq_true h3, decide_eq_false (show ¬ b ≤ y.done.came by omega), Bool.true_and, if_true, Bool.false_eq_true, if_false]
          omega
        · simp only [decide_eq_true h1, decide_eq_true h2, decide_eq_false h3, decide_eq_true (show b ≤ y.done.came by omega), Bool.true_and, Bool.and_false, if_true, Bool.false_eq_true, if_false]
          omega
      · simp only [decide_eq_true h1, decide_eq_false h2, decide_eq_false (show ¬ b ≤ y.done.came by omega), Bool.and_false, Bool.false_and, Bool.false_eq_true, if_false]
        omega
    · simp only [decide_eq_false h1, Bool.false_and, Bool.false_eq_true, if_false]
      omega
theorem sumPJ_eq {P Q : Done → Bool} : ∀ {q : List job}, (∀ y ∈ q, P y.done = Q y.done) → sumPJ l P q = sumPJ l Q q
  | [], _ => rfl
  | y :: r, h => by
    rw [sumPJ, sumPJ, h y (List.mem_cons_self ..), sumPJ_eq fun z hz => h z (List.mem_cons_of_mem _ hz)]
structure Suf (C : List job) (t : Int) (td : List job) : Prop where
  pre : ∃ p, C = p ++ td ∧ ∀ y ∈ p, y.done.came < t
  cm : ∀ y ∈ td, t ≤ y.done.came
  srt : SrtJ td
theorem Suf.sum {C : List job} {i t : Int} {td : List job} (h : Suf C t td) : sumPJ l (hpP i) td = sumPJ l (hpA i t) C := by
  obtain ⟨p, e, hp⟩ := h.pre
  rw [e, sumPJ_app, sumPJ_zero (q := p) fun y hy hq => by
    have := hp y hy
    unfold hpA at hq
    rw [Bool.and_eq_true, decide_eq_true_eq, decide_eq_true_eq] at hq
    omega]
  rw [Int.zero_add]
  refine sumPJ_eq fun y hy => ?_
  unfold hpP hpA
  rw [decide_eq_true (h.cm y hy), Bool.and_true]
theorem pull_suf {fx : Bool} {t : Int} : ∀ {td q : List job}, ∃ p, td = p ++ (pullQ fx t td q).1 ∧ ∀ y ∈ p, y.done.came ≤ t
  | [], q => ⟨[], rfl, fun y hy => by cases hy⟩
  | x :: r, q => by
    rw [pullQ]
    split
    · rename_i hx
      obtain ⟨p, e, hp⟩ := pull_suf (fx := fx) (t := t) (td := r) (q := insQ fx x q)
      refine ⟨x :: p, by rw [List.cons_append, ← e], fun y hy => ?_⟩
      rcases List.mem_cons.1 hy with rfl | hy
      · exact hx
      · exact hp y hy
    · exact ⟨[], rfl, fun y hy => by cases hy⟩
theorem Suf.pull {fx : Bool} {C : List job} {t : Int} {td q : List job} (h : Suf C t td) : Suf C (t + 1) (pullQ fx t td q).1 := by
  obtain ⟨p, e, hp⟩ := h.pre
  obtain ⟨p2, e2, hp2⟩ := pull_suf (fx := fx) (t := t) (td := td) (q := q)
  refine ⟨⟨p ++ p2, by rw [List.append_assoc, ← e2, e], fun y hy => ?_⟩, fun y hy => ?_, pull_srt h.srt⟩
  · rcases List.mem_append.1 hy with hy | hy
    · have := hp y hy; omega
    · have := hp2 y hy; omega
  · have := pull_later h.srt y hy; omega
structure Fp (l : List Task) (s : Set) (C : List job) (i t : Int) (x : QS) : Prop where
  suf : Suf C t x.td
  bnd : ∃ a, 0 ≤ a ∧ a ≤ t ∧ sumLJ (hpP i) x.q ≤ sumPJ l (hpA i a) C - sumPJ l (hpA i t) C - (uptoV s t - uptoV s a) ∧ ∀ m, 1 ≤ m → m ≤ t - a → uptoV s (a + m) - uptoV s a < needV l i m
theorem Fp.step {i t : Int} {u : Int} {x : QS} (hi0 : 0 ≤ i) (hi : i < l.length) (ht : 0 ≤ t) (ht2 : t ≤ 1099511627776) (hR : Right s) (hl : l.all okT = true) (hfirst : ∀ k : Nat, 0 ≤ first.getD k Dat.d0)
    (hW : Work true l first s t x) (h : Fp l s (sortS (jobsL u 0 l first)) i t x) : Fp l s (sortS (jobsL u 0 l first)) i (t + 1) (stepQ true s t x) := by
  obtain ⟨a, a0, a1, h1, h2⟩ := h.bnd
  have hst := upto_step hR ht
  have hh := has_iff hR ht ht2
  have hsuf := h.suf.pull (fx := true) (q := x.q)
  have hsum := pull_sum (l := l) (fx := true) (P := hpP i) (t := t) (td := x.td) (q := x.q) fun y hy => (hW.jtd y hy).2
  rw [h.suf.sum, hsuf.sum] at hsum
  have hW2 : Work true l first s t ⟨(pullQ true t x.td x.q).1, (pullQ true t x.td x.q).2, x.out, x.idle⟩ := Work.pull hl ht hR hfirst (out := x.out) (idle := x.idle) hW
  have hfit := hW2.fit
  have hjq := hW2.jq
  have hsp := hpA_split (l := l) (i := i) (show a ≤ t + 1 by omega) (q := sortS (jobsL u 0 l first))
  have hwn : sumPJ l (hpW i a (t + 1)) (sortS (jobsL u 0 l first)) ≤ needS (t + 1 - a) (l.take i.toNat) := by
    rw [sumPJ_perm (sortS_perm _)]
    have := sumHL_le hl (a := a) (b := t + 1) (u := u) (by omega) (i := i.toNat) (m := l) (first := first) (k := 0) rfl
    rw [show ((i.toNat : Nat) : Int) = i by omega] at this
    exact this
  have hpo := okT_iff.1 (tk_get (show i.toNat < l.length by omega) hl)
  unfold stepQ tickQ
  dsimp only at hfit hjq ⊢
  revert hsum hfit hjq hsuf
  generalize (pullQ true t x.td x.q).1 = td
  generalize (pullQ true t x.td x.q).2 = q
  intro hsuf hsum hfit hjq
  have hnn := sumLJ_nonneg (P := hpP i) (q := q) fun y hy => (hjq y hy).2.1
  -- the bound of the times, where there is work of those ahead
  have more : 1 ≤ sumLJ (hpP i) q → ∀ m, 1 ≤ m → m ≤ t + 1 - a → uptoV s (a + m) - uptoV s a < needV l i m := fun h0 m m1 m2 => by
    by_cases hm : m ≤ t - a
    · exact h2 m m1 hm
    · have e : m = t + 1 - a := by omega
      subst e
      rw [show a + (t + 1 - a) = t + 1 by omega]
      unfold needV
      omega
  have none' : sumLJ (hpP i) q = 0 → ∀ q' out idle, (∀ y ∈ q', ¬ hpP i y.done = true) → Fp l s (sortS (jobsL u 0 l first)) i (t + 1) ⟨td, q', out, idle⟩ := fun h0 q' out idle hq' =>
    ⟨hsuf, t + 1, by omega, Int.le_refl _, by dsimp only; rw [sumLJ_zero hq']; omega, fun m m1 m2 => by omega⟩
  by_cases hz : sumLJ (hpP i) q = 0
  · have hno : ∀ y ∈ q, ¬ hpP i y.done = true := fun y hy hp => by
      have := sumLJ_pos (P := hpP i) (fun y hy => (hjq y hy).2.1) y hy hp
      omega
    split
    · cases q with
      | nil => exact none' hz _ _ _ hno
      | cons j r =>
        dsimp only
        split
        · exact none' hz _ _ _ fun y hy => hno y (List.mem_cons_of_mem _ hy)
        · refine none' hz _ _ _ fun y hy => ?_
          rcases List.mem_cons.1 hy with rfl | hy
          · exact hno j (List.mem_cons_self ..)
          · exact hno y (List.mem_cons_of_mem _ hy)
    · exact none' hz _ _ _ hno
  · by_cases hin : (hasV s t).1 = true
    · have hone : uptoV s (t + 1) - uptoV s t = 1 := by
        rw [hh] at hin
        exact of_decide_eq_true hin
      rw [if_pos hin]
      cases q with
      | nil => exact absurd rfl hz
      | cons j r =>
        dsimp only
        have hj : hpP i j.done = true := by
          by_cases hj : hpP i j.done = true
          · exact hj
          · exfalso
            apply hz
            refine sumLJ_zero fun y hy hp => ?_
            rcases List.mem_cons.1 hy with rfl | hy
            · exact hj hp
            · have hk := key_task ((List.pairwise_cons.1 hfit.srt).1 y hy)
              apply hj
              unfold hpP at hp ⊢
              rw [decide_eq_true_eq] at hp ⊢
              omega
        have hmo := more (by omega)
        rw [sumLJ, if_pos hj] at hsum
        split
        · exact ⟨hsuf, a, a0, by omega, by dsimp only; omega, hmo⟩
        · refine ⟨hsuf, a, a0, by omega, ?_, hmo⟩
          dsimp only
          rw [sumLJ, if_pos hj]
          dsimp only
          omega
    · have hone : uptoV s (t + 1) = uptoV s t := by
        rw [hh] at hin
        have : ¬ uptoV s (t + 1) - uptoV s t = 1 := fun q => hin (decide_eq_true q)
        omega
      rw [if_neg hin]
      exact ⟨hsuf, a, a0, by omega, by dsimp only; omega, more (by omega)⟩

end Go.Proofs.Ytcnfdohlgmipoaa

namespace Go.Proofs.Ytcnfdohlgmipoaa
open Go Go.Abs

variable {l : List Task} {first : List Int} {s : Set}
theorem run_succ {fx : Bool} {n : Nat} {x : QS} : runQ fx s (n + 1) 0 x = stepQ fx s n (runQ fx s n 0 x) := by
  rw [runQ_add, Int.zero_add]; rfl
theorem Fp.zero {u : Int} (G : Good0 l first s u) {i : Int} : Fp l s (sortS (jobsL u 0 l first)) i 0 (st0 u l first) := by
  refine ⟨⟨⟨[], rfl, fun y hy => by cases hy⟩, fun y hy => jb_came G.ok G.fst0 (jb_of hy).1, sortS_srt _⟩, 0, Int.le_refl _, Int.le_refl _, ?_, fun m m1 m2 => by omega⟩
  have e : sumLJ (hpP i) (st0 u l first).q = 0 := rfl
  rw [e]; omega
theorem Fp.all {u : Int} (G : Good0 l first s u) {i : Int} (hi0 : 0 ≤ i) (hi : i < l.length) (n : Nat) (hn : (n : Int) ≤ 1000000) : Fp l s (sortS (jobsL u 0 l first)) i n (runQ true s n 0 (st0 u l first)) := by
  induction n with
  | zero => exact Fp.zero G
  | succ n ih =>
    have hW := G.work (fx := true) n (by omega)
    rw [run_succ]
    exact Fp.step hi0 hi (by omega) (by omega) G.R G.ok G.fst0 hW (ih (by omega))
def isJ (i k : Int) (d : Done) : Bool := decide (d.task = i) && decide (d.job = k)
def qJ (i k : Int) (d : Done) : Bool := decide (d.task < i) || (decide (d.task = i) && decide (d.job = k))
theorem sumI_other {i : Nat} {k : Int} {kk : Nat} {t : Task} {u : Int} (h : kk ≠ i) : ∀ {f : Nat} {j c : Int}, sumPJ l (isJ i k) (jobsF kk t u f j c) = 0
  | 0, j, c => rfl
  | f + 1, j, c => by
    rw [jobsF]
    split
    · rw [sumPJ, sumI_other h, if_neg]
      · rfl
      · unfold isJ
        rw [Bool.and_eq_true, decide_eq_true_eq]
        dsimp only
        omega
    · rfl
theorem sumI_late {i : Nat} {k : Int} {t : Task} {u : Int} : ∀ {f : Nat} {j c : Int}, k < j → sumPJ l (isJ i k) (jobsF i t u f j c) = 0
  | 0, j, c, _ => rfl
  | f + 1, j, c, h => by
    rw [jobsF]
    split
    · rw [sumPJ, sumI_late (by omega), if_neg]
      · rfl
      · unfold isJ
        rw [Bool.and_eq_true, decide_eq_true_eq, decide_eq_true_eq]
        dsimp only
        omega
    · rfl
theorem sumI_le {i : Nat} {k : Int} {t : Task} (ht : okT t = true) (hi : l.getD i Dat.d0 = t) {u : Int} : ∀ {f : Nat} {j c : Int}, sumPJ l (isJ i k) (jobsF i t u f j c) ≤ t.long
  | 0, j, c => by have ho := okT_iff.1 ht; rw [jobsF, sumPJ]; omega
  | f + 1, j, c => by
    have ho := okT_iff.1 ht
    rw [jobsF]
    split
    · rw [sumPJ, long_job hi]
      by_cases hp : isJ i k ⟨(i : Int), j, c, 0⟩ = true
      · rw [if_pos hp]
        unfold isJ at hp
        rw [Bool.and_eq_true, decide_eq_true_eq, decide_eq_true_eq] at hp
        dsimp only at hp
        rw [sumI_late (by omega)]; omega
      · rw [if_neg hp]
        have := sumI_le ht hi (k := k) (u := u) (f := f) (j := j + 1) (c := c + t.every)
        omega
    · rw [sumPJ]; omega
theorem sumIL_le (hl : l.all okT = true) {i : Nat} (hi : i < l.length) {k u : Int} : ∀ {m : List Task} {r : List Int} {kk : Nat}, l.drop kk = m → sumPJ l (isJ i k) (jobsL u kk m r) ≤ if kk ≤ i then (l.getD i Dat.d0).long else 0
  | [], r, kk, hm => by
    have ho := okT_iff.1 (tk_get hi hl)
    have e : jobsL u kk [] r = [] := by simp [jobsL]
    rw [e, sumPJ]; split <;> omega
  | t :: m, [], kk, hm => by
    have ho := okT_iff.1 (tk_get hi hl)
    have e : jobsL u kk (t :: m) [] = [] := by simp [jobsL]
    rw [e, sumPJ]; split <;> omega
  | t :: m, c :: r, kk, hm => by
    have ho := okT_iff.1 (tk_get hi hl)
    have hk : kk < l.length := by
      have := congrArg List.length hm
      rw [List.length_drop, List.length_cons] at this; omega
    have e1 := drop_cons Dat.d0 hk
    rw [hm] at e1
    have e2 := List.cons.inj e1
    have ht : okT t = true := by rw [e2.1]; exact tk_get hk hl
    have h2 := sumIL_le hl hi (k := k) (u := u) (m := m) (r := r) (kk := kk + 1) e2.2.symm
    rw [jobsL, sumPJ_app]
    unfold jobsN
    by_cases hki : kk = i
    · subst hki
      have h1 := sumI_le (l := l) (i := kk) (k := k) ht e2.1.symm (u := u) (f := (u - c).toNat) (j := 0) (c := c)
      rw [if_neg (by omega)] at h2
      rw [if_pos (Nat.le_refl _), ← e2.1]
      omega
    · rw [sumI_other hki]
      by_cases h3 : kk ≤ i
      · rw [if_pos (by omega)] at h2
        rw [if_pos h3]; omega
      · rw [if_neg (by omega)] at h2
        rw [if_neg h3]; omega
theorem sumQ_split {i k : Int} : ∀ {q : List job}, sumPJ l (qJ i k) q = sumPJ l (hpP i) q + sumPJ l (isJ i k) q
  | [] => rfl
  | y :: r => by
    rw [sumPJ, sumPJ, sumPJ, sumQ_split]
    unfold qJ hpP isJ
    by_cases h1 : y.done.task < i
    · simp only [decide_eq_true h1, decide_eq_false (show ¬ y.done.task = i by omega), Bool.true_or, Bool.false_and, Bool.false_eq_true, if_true, if_false]
      omega
    · simp only [decide_eq_false h1, Bool.false_or, Bool.false_eq_true, if_false]
      omega
theorem sumPJ_sub1 {P : Done → Bool} {a b : List job} (h : List.Sublist a b) (hb : ∀ y ∈ b, 0 ≤ longD l y.done) : sumPJ l P a ≤ sumPJ l P b := sumPJ_sub h hb fun _ _ hp => hp
theorem jp_step {i k t K : Int} {C : List job} {J : job} {x : QS} (ht : 0 ≤ t) (ht2 : t ≤ 1099511627776) (hR : Right s) (hl : l.all okT = true) (hfirst : ∀ n : Nat, 0 ≤ first.getD n Dat.d0)
    (hW : Work true l first s t x) (hsuf : Suf C t x.td) (hcov : Cover C t x) (hJ : J ∈ C) (hJi : J.done.task = i) (hJk : J.done.job = k) (hJc : J.done.came ≤ t)
    (hold : ∀ y ∈ (pullQ true t x.td x.q).2, y.done.task = i → k ≤ y.done.job)
    (h : (∃ d ∈ x.out, d.task = i ∧ d.job = k) ∨ sumLJ (qJ i k) x.q + sumPJ l (qJ i k) x.td ≤ K - uptoV s t) :
    (∃ d ∈ (stepQ true s t x).out, d.task = i ∧ d.job = k) ∨ sumLJ (qJ i k) (stepQ true s t x).q + sumPJ l (qJ i k) (stepQ true s t x).td ≤ K - uptoV s (t + 1) := by
  obtain ⟨e, he⟩ := (stepQ_ext (fx := true) (s := s) (t := t) (x := x)).1
  have dn : (∃ d ∈ x.out, d.task = i ∧ d.job = k) → ∃ d ∈ (stepQ true s t x).out, d.task = i ∧ d.job = k := fun ⟨d, hd, h2⟩ => ⟨d, by rw [he]; exact List.mem_append_left _ hd, h2⟩
  rcases h with h | h
  · exact .inl (dn h)
  by_cases hd : ∃ d ∈ x.out, d.task = i ∧ d.job = k
  · exact .inl (dn hd)
  right
  have hst := upto_step hR ht
  have hh := has_iff hR ht ht2
  have hsum := pull_sum (l := l) (fx := true) (P := qJ i k) (t := t) (td := x.td) (q := x.q) fun y hy => (hW.jtd y hy).2
  have hW2 : Work true l first s t ⟨(pullQ true t x.td x.q).1, (pullQ true t x.td x.q).2, x.out, x.idle⟩ := Work.pull hl ht hR hfirst (out := x.out) (idle := x.idle) hW
  have hfit := hW2.fit
  have hjq := hW2.jq
  have hs2 := hsuf.pull (fx := true) (q := x.q)
  have hthere : ∃ y ∈ (pullQ true t x.td x.q).2, y.done = J.done := by
    have h1 : J ∈ (pullQ true t x.td x.q).1 ∨ ∃ y ∈ (pullQ true t x.td x.q).2, y.done = J.done ∧ y.due = J.due := by
      rcases hcov J hJ with h | h | ⟨d, hd1, h2, h3, h4⟩
      · exact pull_cover (.inl h)
      · exact pull_cover (.inr h)
      · exact absurd ⟨d, hd1, h2.trans hJi, h3.trans hJk⟩ hd
    rcases h1 with h1 | ⟨y, hy, h2, h3⟩
    · have := hs2.cm J h1; omega
    · exact ⟨y, hy, h2⟩
  unfold stepQ tickQ
  dsimp only at hfit hjq ⊢
  revert hsum hfit hjq hthere hold
  generalize (pullQ true t x.td x.q).1 = td
  generalize (pullQ true t x.td x.q).2 = q
  intro hold hsum hfit hjq hthere
  obtain ⟨y, hy, ey⟩ := hthere
  by_cases hin : (hasV s t).1 = true
  · have hone : uptoV s (t + 1) - uptoV s t = 1 := by
      rw [hh] at hin
      exact of_decide_eq_true hin
    rw [if_pos hin]
    cases q with
    | nil => cases hy
    | cons j r =>
      dsimp only
      have hj : qJ i k j.done = true := by
        unfold qJ
        rw [Bool.or_eq_true, Bool.and_eq_true, decide_eq_true_eq, decide_eq_true_eq, decide_eq_true_eq]
        rcases List.mem_cons.1 hy with rfl | hy
        · right; rw [ey]; exact ⟨hJi, hJk⟩
        · have hk := (List.pairwise_cons.1 hfit.srt).1 y hy
          have ho := hold j (List.mem_cons_self ..)
          unfold keyLt at hk
          rw [ey, hJi, hJk] at hk
          simp at hk
          omega
      rw [sumLJ, if_pos hj] at hsum
      split
      · dsimp only; omega
      · dsimp only
        rw [sumLJ, if_pos hj]
        dsimp only
        omega
  · have hone : uptoV s (t + 1) = uptoV s t := by
      rw [hh] at hin
      have : ¬ uptoV s (t + 1) - uptoV s t = 1 := fun q => hin (decide_eq_true q)
      omega
    rw [if_neg hin]
    dsimp only
    omega

end Go.Proofs.Ytcnfdohlgmipoaa

namespace Go.Proofs.Ytcnfdohlgmipoaa
open Go Go.Abs

variable {l : List Task} {first : List Int} {s : Set}
theorem sumLJ_eq {P Q : Done → Bool} : ∀ {q : List job}, (∀ y ∈ q, P y.done = Q y.done) → sumLJ P q = sumLJ Q q
  | [], _ => rfl
  | y :: r, h => by
    rw [sumLJ, sumLJ, h y (List.mem_cons_self ..), sumLJ_eq fun z hz => h z (List.mem_cons_of_mem _ hz)]
theorem early0 {u : Int} (n : Nat) : Early n (runQ true s n 0 (st0 u l first)) := by
  have := Early.run (fx := true) (s := s) (n := n) (t := 0) (x := st0 u l first) ⟨fun y hy => (by cases hy), fun d hd => (by cases hd)⟩
  rw [Int.zero_add] at this
  exact this
theorem from0 {u : Int} (n : Nat) : From (sortS (jobsL u 0 l first)) (runQ true s n 0 (st0 u l first)) := From.run ⟨fun y hy => hy, fun y hy => by cases hy⟩
theorem covr {u : Int} (n : Nat) : Cover (sortS (jobsL u 0 l first)) n (runQ true s n 0 (st0 u l first)) := by
  have := Cover.run (fx := true) (s := s) (n := n) (cover0 (u := u) (l := l) (first := first))
  rw [Int.zero_add] at this
  exact this
theorem fp_reply {u : Int} (G : Good0 l first s u) {i r : Int} (hi0 : 0 ≤ i) (hi : i < l.length) (hr1 : 1 ≤ r) (hrd : r ≤ (l.getD i.toNat Dat.d0).due) (hn : needV l i r ≤ leastV s r) (k : Nat) :
    ∀ J ∈ sortS (jobsL u 0 l first), J.done.task = i → J.done.job = k → ∃ d ∈ (runQ true s (J.done.came + r).toNat 0 (st0 u l first)).out, d.task = i ∧ d.job = k := by
  induction k using Nat.strongRecOn with
  | ind k IH =>
  intro J hJ hJi hJk
  have hok := okT_iff.1 (tk_get (show i.toNat < l.length by omega) G.ok)
  obtain ⟨hjb, -, hcu⟩ := jb_of hJ
  have hc0 := jb_came G.ok G.fst0 hjb
  have hu1 := G.u1
  have hcame := hjb.came
  rw [hJi, hJk] at hcame
  generalize hc : J.done.came = c at *
  have F := Fp.all G hi0 hi c.toNat (by omega)
  rw [show ((c.toNat : Nat) : Int) = c by omega] at F
  obtain ⟨a, a0, a1, h1, h2⟩ := F.bnd
  have hle := (leastV_spec G.R (n := r) (by omega)).1 a a0
  unfold win at hle
  have har : c - a < r := by
    rcases Int.lt_or_le (c - a) r with h | h
    · exact h
    · have := h2 r hr1 h; omega
  have hCl := c_long (u := u) (first := first) G.ok
  have hCn : ∀ y ∈ sortS (jobsL u 0 l first), 0 ≤ longD l y.done := fun y hy => by have := hCl y hy; omega
  have hI : sumPJ l (isJ i k) (sortS (jobsL u 0 l first)) ≤ (l.getD i.toNat Dat.d0).long := by
    rw [sumPJ_perm (sortS_perm _)]
    have := sumIL_le G.ok (show i.toNat < l.length by omega) (k := (k : Int)) (u := u) (m := l) (r := first) (kk := 0) rfl
    rw [if_pos (Nat.zero_le _), show ((i.toNat : Nat) : Int) = i by omega] at this
    exact this
  -- those of the task that came ahead of it are done
  have hold : ∀ n : Nat, c ≤ n → (n : Int) ≤ 1000000 → ∀ y ∈ (pullQ true n (runQ true s n 0 (st0 u l first)).td (runQ true s n 0 (st0 u l first)).q).2, y.done.task = i → (k : Int) ≤ y.done.job := fun n hcn hn6 y hy hyi => by
    rcases Int.lt_or_le y.done.job k with h | h
    · exfalso
      have hW := G.work (fx := true) n hn6
      have hW2 : Work true l first s n ⟨(pullQ true n (runQ true s n 0 (st0 u l first)).td (runQ true s n 0 (st0 u l first)).q).1, (pullQ true n (runQ true s n 0 (st0 u l first)).td (runQ true s n 0 (st0 u l first)).q).2, (runQ true s n 0 (st0 u l first)).out, (runQ true s n 0 (st0 u l first)).idle⟩ :=
        Work.pull G.ok (by omega) G.R G.fst0 (out := (runQ true s n 0 (st0 u l first)).out) (idle := (runQ true s n 0 (st0 u l first)).idle) hW
      have hyb := (hW2.jq y hy).1
      obtain ⟨-, f2⟩ := pull_from (fx := true) (t := n) (from0 (l := l) (first := first) (s := s) (u := u) n).1 (from0 (l := l) (first := first) (s := s) (u := u) n).2
      obtain ⟨j, hj, e1, e2⟩ := f2 y hy
      have hn0 := hyb.n0
      have hjc := (jb_of hj).1.came
      rw [e1, hyi] at hjc
      obtain ⟨d, hd, d1, d2⟩ := IH y.done.job.toNat (by omega) j hj (by rw [e1]; exact hyi) (by rw [e1]; omega)
      have hm : (y.done.job + 1) * (l.getD i.toNat Dat.d0).every ≤ (k : Int) * (l.getD i.toNat Dat.d0).every := Int.mul_le_mul_of_nonneg_right (by omega) (by omega)
      rw [Int.add_mul, Int.one_mul] at hm
      have hcj : j.done.came + r ≤ c := by rw [e1, hjc]; omega
      obtain ⟨e, he⟩ := run_pre (fx := true) (s := s) (show (j.done.came + r).toNat ≤ n by omega) (t := 0) (x := st0 u l first)
      obtain ⟨nn, hrow⟩ := hW2.row i
      rw [List.append_assoc] at hrow
      have hdm : d.job ∈ (ofD i (runQ true s n 0 (st0 u l first)).out).map fun z => z.job := List.mem_map.2 ⟨d, List.mem_filter.2 ⟨by rw [he]; exact List.mem_append_left _ hd, by simpa using d1⟩, rfl⟩
      have := rowI_lt (x := d.job) (y := y.done.job) hrow hdm (List.mem_append_left _ (mem_ofT hy hyi))
      omega
    · exact h
  -- the bound, when it comes
  have hstart : sumLJ (qJ i k) (runQ true s c.toNat 0 (st0 u l first)).q + sumPJ l (qJ i k) (runQ true s c.toNat 0 (st0 u l first)).td ≤ sumPJ l (hpA i a) (sortS (jobsL u 0 l first)) + (l.getD i.toNat Dat.d0).long + uptoV s a - uptoV s c := by
    have hW := G.work (fx := true) c.toNat (by omega)
    have hE := (early0 (l := l) (first := first) (s := s) (u := u) c.toNat).1
    have e1 : sumLJ (qJ i k) (runQ true s c.toNat 0 (st0 u l first)).q = sumLJ (hpP i) (runQ true s c.toNat 0 (st0 u l first)).q := sumLJ_eq fun y hy => by
      have hyb := (hW.jq y hy).1
      have hyc := hyb.came
      have hyE := hE y hy
      unfold qJ hpP
      by_cases h1 : y.done.task = i
      · by_cases h2 : y.done.job = k
        · rw [h1, h2] at hyc; omega
        · rw [decide_eq_false h2, Bool.and_false, Bool.or_false]
      · rw [decide_eq_false h1, Bool.false_and, Bool.or_false]
    have e2 := F.suf.sum (l := l) (i := i)
    have e3 : sumPJ l (isJ i k) (runQ true s c.toNat 0 (st0 u l first)).td ≤ sumPJ l (isJ i k) (sortS (jobsL u 0 l first)) := by
      obtain ⟨p, ep, -⟩ := F.suf.pre
      exact sumPJ_sub1 (by rw [ep]; exact List.sublist_append_right p _) hCn
    rw [e1, sumQ_split]
    omega
  have hrun : ∀ m : Nat, c + m ≤ 1000000 → (∃ d ∈ (runQ true s (c.toNat + m) 0 (st0 u l first)).out, d.task = i ∧ d.job = k) ∨
      sumLJ (qJ i k) (runQ true s (c.toNat + m) 0 (st0 u l first)).q + sumPJ l (qJ i k) (runQ true s (c.toNat + m) 0 (st0 u l first)).td ≤ sumPJ l (hpA i a) (sortS (jobsL u 0 l first)) + (l.getD i.toNat Dat.d0).long + uptoV s a - uptoV s (c + m) := by
    intro m
    induction m with
    | zero => intro _; right; rw [Nat.add_zero, show c + ((0 : Nat) : Int) = c by omega]; exact hstart
    | succ m ih =>
      intro hm
      have ec : (((c.toNat + m : Nat) : Nat) : Int) = c + m := by omega
      have hW := G.work (fx := true) (c.toNat + m) (by omega)
      have F2 := Fp.all G hi0 hi (c.toNat + m) (by omega)
      have hcv := covr (l := l) (first := first) (s := s) (u := u) (c.toNat + m)
      have hh := hold (c.toNat + m) (by omega) (by omega)
      rw [ec] at hW F2 hcv hh
      have := jp_step (K := sumPJ l (hpA i a) (sortS (jobsL u 0 l first)) + (l.getD i.toNat Dat.d0).long + uptoV s a) (show 0 ≤ c + (m : Int) by omega) (by omega) G.R G.ok G.fst0 hW F2.suf hcv hJ hJi hJk (by omega) hh (ih (by omega))
      rw [show c.toNat + (m + 1) = (c.toNat + m) + 1 by omega, run_succ, ec, show c + ((m + 1 : Nat) : Int) = c + m + 1 by omega]
      exact this
  -- the end
  have key := hrun (a + r - c).toNat (by omega)
  have en : c.toNat + (a + r - c).toNat = (a + r).toNat := by omega
  have en2 : c + (((a + r - c).toNat : Nat) : Int) = a + r := by omega
  rw [en, en2] at key
  have fin : (∃ d ∈ (runQ true s (a + r).toNat 0 (st0 u l first)).out, d.task = i ∧ d.job = k) → ∃ d ∈ (runQ true s (c + r).toNat 0 (st0 u l first)).out, d.task = i ∧ d.job = k := fun ⟨d, hd, h⟩ => by
    obtain ⟨e, he⟩ := run_pre (fx := true) (s := s) (show (a + r).toNat ≤ (c + r).toNat by omega) (t := 0) (x := st0 u l first)
    exact ⟨d, by rw [he]; exact List.mem_append_left _ hd, h⟩
  rcases key with key | key
  · exact fin key
  · have ea : (((a + r).toNat : Nat) : Int) = a + r := by omega
    have hW := G.work (fx := true) (a + r).toNat (by omega)
    have F2 := Fp.all G hi0 hi (a + r).toNat (by omega)
    have hcv := covr (l := l) (first := first) (s := s) (u := u) (a + r).toNat
    rw [ea] at hW F2 hcv
    rcases hcv J hJ with h | ⟨y, hy, h3, -⟩ | ⟨d, hd, h3, h4, -⟩
    · have := F2.suf.cm J h
      omega
    · exfalso
      have p1 := sumLJ_pos (P := qJ i k) (q := (runQ true s (a + r).toNat 0 (st0 u l first)).q) (fun y hy => (hW.jq y hy).2.1) y hy (by
        unfold qJ
        rw [h3, hJi, hJk, decide_eq_true rfl, decide_eq_true rfl, Bool.and_true, Bool.or_true])
      have p2 := F2.suf.sum (l := l) (i := i)
      have p3 : 0 ≤ sumPJ l (isJ i k) (runQ true s (a + r).toNat 0 (st0 u l first)).td := sumPJ_nonneg fun y hy => by
        obtain ⟨p, ep, -⟩ := F2.suf.pre
        exact hCn y (by rw [ep]; exact List.mem_append_right _ hy)
      have p4 := sumQ_split (l := l) (i := i) (k := (k : Int)) (q := (runQ true s (a + r).toNat 0 (st0 u l first)).td)
      have p5 := hpA_split (l := l) (i := i) (show a ≤ a + r by omega) (q := sortS (jobsL u 0 l first))
      have p6 : sumPJ l (hpW i a (a + r)) (sortS (jobsL u 0 l first)) ≤ needS r (l.take i.toNat) := by
        rw [sumPJ_perm (sortS_perm _)]
        have := sumHL_le G.ok (a := a) (b := a + r) (u := u) (by omega) (i := i.toNat) (m := l) (first := first) (k := 0) rfl
        rw [show ((i.toNat : Nat) : Int) = i by omega, show a + r - a = r by omega] at this
        exact this
      unfold needV at hn
      omega
    · exact fin ⟨d, hd, h3.trans hJi, h4.trans hJk⟩

end Go.Proofs.Ytcnfdohlgmipoaa

namespace Go.Proofs.Ytcnfdohlgmipoaa
open Go Go.Abs

variable {l : List Task} {first : List Int} {s : Set}
theorem out_from {u : Int} : ∀ n : Nat, ∀ d ∈ (runQ true s n 0 (st0 u l first)).out, ∃ j ∈ sortS (jobsL u 0 l first), j.done.task = d.task ∧ j.done.job = d.job ∧ j.done.came = d.came := fun n => by
  induction n with
  | zero => intro d hd; cases hd
  | succ n ih =>
    have hF := from0 (l := l) (first := first) (s := s) (u := u) n
    obtain ⟨-, f2⟩ := pull_from (fx := true) (t := n) hF.1 hF.2
    rw [run_succ]
    unfold stepQ tickQ
    dsimp only
    revert f2
    generalize (pullQ true n (runQ true s n 0 (st0 u l first)).td (runQ true s n 0 (st0 u l first)).q).2 = q
    intro f2
    split
    · cases q with
      | nil => exact ih
      | cons j r =>
        dsimp only
        split
        · intro d hd
          rcases List.mem_append.1 hd with hd | hd
          · exact ih d hd
          · rcases List.mem_singleton.1 hd with rfl
            obtain ⟨z, hz, e1, -⟩ := f2 j (List.mem_cons_self ..)
            exact ⟨z, hz, by rw [e1], by rw [e1], by rw [e1]⟩
        · exact ih
    · exact ih
structure Rep (l : List Task) (s : Set) (i r : Int) : Prop where
  i0 : 0 ≤ i
  il : i < l.length
  r1 : 1 ≤ r
  rd : r ≤ (l.getD i.toNat Dat.d0).due
  en : needV l i r ≤ leastV s r
theorem reply_at {u : Int} (G : Good0 l first s u) {i r : Int} (H : Rep l s i r) {x : Done} (hx : x ∈ (runQ true s u.toNat 0 (st0 u l first)).out) (hi : x.task = i) : x.at_ ≤ x.came + r := by
  obtain ⟨J, hJ, e1, e2, e3⟩ := out_from _ x hx
  have hu0 := G.u0
  have hu1 := G.u1
  have hW := G.work (fx := true) u.toNat (by omega)
  rw [show ((u.toNat : Nat) : Int) = u by omega] at hW
  have hd := hW.don x hx
  rcases Int.lt_or_le (x.came + r) x.at_ with h | h
  · exfalso
    have hjb := (jb_of hJ).1
    have hn0 := hjb.n0
    have h1 := H.r1
    obtain ⟨d, hd1, hd2, hd3⟩ := fp_reply G H.i0 H.il H.r1 H.rd H.en J.done.job.toNat J hJ (e1.trans hi) (by omega)
    rw [e3] at hd1
    obtain ⟨e, he, hea⟩ := run_at (fx := true) (s := s) (n := u.toNat - (x.came + r).toNat) (t := x.came + r) (x := runQ true s (x.came + r).toNat 0 (st0 u l first))
    have hrun : runQ true s u.toNat 0 (st0 u l first) = runQ true s (u.toNat - (x.came + r).toNat) (x.came + r) (runQ true s (x.came + r).toNat 0 (st0 u l first)) := by
      have e1 : u.toNat = (x.came + r).toNat + (u.toNat - (x.came + r).toNat) := by omega
      conv => lhs; rw [e1, runQ_add]
      rw [show (0 : Int) + ((x.came + r).toNat : Int) = x.came + r by omega]
    rw [hrun, he] at hx
    have hW3 := G.work (fx := true) (x.came + r).toNat (by omega)
    rcases List.mem_append.1 hx with hx | hx
    · have := (hW3.don x hx).2.2.2.2.2.1
      omega
    · obtain ⟨nn, hrow⟩ := hW.row i
      have hout : (runQ true s u.toNat 0 (st0 u l first)).out = (runQ true s (x.came + r).toNat 0 (st0 u l first)).out ++ e := by rw [hrun, he]
      rw [hout] at hrow
      unfold ofD at hrow
      rw [List.filter_append, List.map_append, List.append_assoc, List.append_assoc] at hrow
      have hdm : d.job ∈ ((runQ true s (x.came + r).toNat 0 (st0 u l first)).out.filter fun z => decide (z.task = i)).map fun z => z.job := List.mem_map.2 ⟨d, List.mem_filter.2 ⟨hd1, by simpa using hd2⟩, rfl⟩
      have hxm : x.job ∈ (e.filter fun z => decide (z.task = i)).map fun z => z.job := List.mem_map.2 ⟨x, List.mem_filter.2 ⟨hx, by simpa using hi⟩, rfl⟩
      have := rowI_lt (x := d.job) (y := x.job) hrow hdm (List.mem_append_left _ hxm)
      omega
  · exact h
theorem reply_due {u : Int} (G : Good0 l first s u) {i r : Int} (H : Rep l s i r) {J : job} (hJ : J ∈ sortS (jobsL u 0 l first)) (hi : J.done.task = i) (hu : J.due ≤ u) :
    ∃ d ∈ (runQ true s u.toNat 0 (st0 u l first)).out, d.task = J.done.task ∧ d.job = J.done.job ∧ d.at_ ≤ J.due := by
  have hjb := (jb_of hJ).1
  have hn0 := hjb.n0
  have hdue := hjb.due
  rw [hi] at hdue
  have h1 := H.r1
  have h2 := H.rd
  have hc0 := jb_came G.ok G.fst0 hjb
  have hu1 := G.u1
  obtain ⟨d, hd1, hd2, hd3⟩ := fp_reply G H.i0 H.il H.r1 H.rd H.en J.done.job.toNat J hJ hi (by omega)
  obtain ⟨e, he⟩ := run_pre (fx := true) (s := s) (show (J.done.came + r).toNat ≤ u.toNat by omega) (t := 0) (x := st0 u l first)
  have hW := G.work (fx := true) (J.done.came + r).toNat (by omega)
  have := (hW.don d hd1).2.2.2.2.2.1
  exact ⟨d, by rw [he]; exact List.mem_append_left _ hd1, hd2.trans hi.symm, by omega, by omega⟩
theorem rep_of {i : Int} (hR : Right s) (ho : l.all okT = true) (h0 : 0 ≤ i) (h1 : i < l.length) (h : (repV l i s).1 ≠ 0) : Rep l s i (repV l i s).1 := by
  rcases repV_spec hR ho h0 h1 with ⟨r, e, r1, r2, r3, -⟩ | ⟨e, -⟩
  · rw [e]; exact ⟨h0, h1, r1, r2, r3⟩
  · rw [e] at h; exact absurd rfl h
theorem reply_nolate {u : Int} (G : Good0 l first s u) (h : ∀ i : Int, 0 ≤ i → i < l.length → (repV l i s).1 ≠ 0) : NoLate (sortS (jobsL u 0 l first)) u (runQ true s u.toNat 0 (st0 u l first)).out := fun J hJ hu => by
  have hjb := (jb_of hJ).1
  exact reply_due G (rep_of G.R G.ok hjb.t0 hjb.t1 (h _ hjb.t0 hjb.t1)) hJ rfl hu
theorem reply_fits {u p : Int} (hp : p = 1 ∨ p = 2) (h : ∀ i : Int, 0 ≤ i → i < l.length → (repV l i s).1 ≠ 0) (hl : (lateV l s first p u).2 = true) : (lateV l s first p u).1 = 0 := by
  have hp2 : (playJ l s first p u).2.2 = 0 := by
    by_cases q : (playJ l s first p u).2.2 = 0
    · exact q
    · rw [late_err q] at hl; cases hl
  have G := good0_of hp2
  rcases hp with rfl | rfl
  · exact (late_ok hp2).2.2 (edf_best G (reply_nolate G h))
  · exact (late_ok hp2).2.2 (reply_nolate G h)

end Go.Proofs.Ytcnfdohlgmipoaa

namespace Go.Proofs.Ytcnfdohlgmipoaa
open Go Go.Abs

variable {l : List Task} {first : List Int} {s : Set}
theorem sumH_ge {k : Nat} {t : Task} (h : okT t = true) (hk : l.getD k Dat.d0 = t) {i b u : Int} (hki : k < i) (hb : b ≤ u) : ∀ {f : Nat} {j c : Int}, 0 ≤ c → (u - c).toNat ≤ f → nd1 t (b - c) ≤ sumPJ l (hpW i 0 b) (jobsF k t u f j c)
  | 0, j, c, h0, hf => by
    unfold nd1; rw [if_neg (by omega)]; exact Int.le_refl _
  | f + 1, j, c, h0, hf => by
    have ho := okT_iff.1 h
    by_cases h1 : 1 ≤ b - c
    · have hp : hpW i 0 b ⟨(k : Int), j, c, 0⟩ = true := by
        unfold hpW
        rw [Bool.and_eq_true, Bool.and_eq_true, decide_eq_true_eq, decide_eq_true_eq, decide_eq_true_eq]
        exact ⟨hki, h0, by show c < b; omega⟩
      rw [jobsF, if_pos (by omega), sumPJ, long_job hk, if_pos hp, nd1_add h h1]
      have ih := sumH_ge h hk hki hb (f := f) (j := j + 1) (c := c + t.every) (by omega) (by omega)
      rw [show b - (c + t.every) = b - c - t.every by omega] at ih
      omega
    · have e : nd1 t (b - c) = 0 := by unfold nd1; rw [if_neg h1]
      rw [e]
      exact sumPJ_nonneg (jobsF_long h hk)
theorem sumHL_ge (hl : l.all okT = true) {b u : Int} (hb1 : 1 ≤ b) (hb : b ≤ u) {i : Nat} : ∀ {m : List Task} {r : List Int} {k : Nat}, l.drop k = m → r.length = m.length → (∀ x ∈ r, x = 0) → needS b (m.take (i - k)) ≤ sumPJ l (hpW i 0 b) (jobsL u k m r)
  | [], r, k, _, _, _ => by simp [jobsL, needS, sumPJ]
  | t :: m, [], k, _, h, _ => by simp at h
  | t :: m, c :: r, k, hm, hlen, hc => by
    have hk : k < l.length := by
      have := congrArg List.length hm
      rw [List.length_drop, List.length_cons] at this; omega
    have e1 := drop_cons Dat.d0 hk
    rw [hm] at e1
    have e2 := List.cons.inj e1
    have ht : okT t = true := by rw [e2.1]; exact tk_get hk hl
    have ec := hc c (List.mem_cons_self ..)
    have h2 := sumHL_ge hl hb1 hb (i := i) (m := m) (r := r) (k := k + 1) e2.2.symm (by simpa using hlen) fun x hx => hc x (List.mem_cons_of_mem _ hx)
    rw [jobsL, sumPJ_app]
    unfold jobsN
    by_cases hki : k < i
    · have h1 := sumH_ge (l := l) (k := k) (t := t) ht e2.1.symm (i := i) (b := b) (u := u) (by omega) hb (f := (u - c).toNat) (j := 0) (c := c) (by omega) (Nat.le_refl _)
      rw [show i - k = (i - (k + 1)) + 1 by omega, List.take_succ_cons, needS_nd hb1]
      rw [show b - c = b by omega] at h1
      omega
    · rw [sumH_zero (by omega)]
      rw [show i - (k + 1) = 0 by omega] at h2
      rw [show i - k = 0 by omega]
      rw [List.take_zero] at *
      omega
theorem done_free {u : Int} (G : Good0 l first s u) : ∀ n : Nat, (n : Int) ≤ 1000000 → ∀ d ∈ (runQ true s n 0 (st0 u l first)).out, sumLJ (hpP d.task) (runQ true s d.at_.toNat 0 (st0 u l first)).q = 0 := fun n => by
  induction n with
  | zero => intro _ d hd; cases hd
  | succ n ih =>
    intro hn d hd
    have hW := G.work (fx := true) n (by omega)
    have hW2 : Work true l first s n ⟨(pullQ true n (runQ true s n 0 (st0 u l first)).td (runQ true s n 0 (st0 u l first)).q).1, (pullQ true n (runQ true s n 0 (st0 u l first)).td (runQ true s n 0 (st0 u l first)).q).2, (runQ true s n 0 (st0 u l first)).out, (runQ true s n 0 (st0 u l first)).idle⟩ :=
      Work.pull G.ok (by omega) G.R G.fst0 (out := (runQ true s n 0 (st0 u l first)).out) (idle := (runQ true s n 0 (st0 u l first)).idle) hW
    have hfit := hW2.fit
    have hst : runQ true s (n + 1) 0 (st0 u l first) = stepQ true s n (runQ true s n 0 (st0 u l first)) := run_succ
    by_cases hold : d ∈ (runQ true s n 0 (st0 u l first)).out
    · exact ih (by omega) d hold
    · have key : d.at_ = (n : Int) + 1 ∧ sumLJ (hpP d.task) (stepQ true s n (runQ true s n 0 (st0 u l first))).q = 0 := by
        rw [hst] at hd
        unfold stepQ tickQ at hd ⊢
        dsimp only at hd hfit ⊢
        revert hd hfit
        generalize (pullQ true n (runQ true s n 0 (st0 u l first)).td (runQ true s n 0 (st0 u l first)).q).2 = q
        intro hd hfit
        split at hd
        · rename_i hin
          rw [if_pos hin]
          cases q with
          | nil => exact absurd hd hold
          | cons j r =>
            dsimp only at hd ⊢
            split at hd
            · rename_i hl0
              rcases List.mem_append.1 hd with hd | hd
              · exact absurd hd hold
              · rcases List.mem_singleton.1 hd with rfl
                refine ⟨rfl, ?_⟩
                rw [if_pos hl0]
                refine sumLJ_zero fun y hy hp => ?_
                have hk := key_task ((List.pairwise_cons.1 hfit.srt).1 y hy)
                unfold hpP at hp
                rw [decide_eq_true_eq] at hp
                dsimp only at hp
                omega
            · exact absurd hd hold
        · exact absurd hd hold
      rw [show d.at_.toNat = n + 1 by omega, hst]
      exact key.2
theorem sumPJ_mem {P : Done → Bool} : ∀ {q : List job}, (∀ y ∈ q, 0 ≤ longD l y.done) → ∀ y ∈ q, P y.done = true → longD l y.done ≤ sumPJ l P q
  | [], _, y, hy, _ => by cases hy
  | z :: r, h, y, hy, hp => by
    have h1 := h z (List.mem_cons_self ..)
    have h2 := sumPJ_nonneg (l := l) (P := P) (q := r) fun w hw => h w (List.mem_cons_of_mem _ hw)
    rw [sumPJ]
    rcases List.mem_cons.1 hy with rfl | hy
    · rw [if_pos hp]; omega
    · have h3 := sumPJ_mem (fun w hw => h w (List.mem_cons_of_mem _ hw)) y hy hp
      split <;> omega

end Go.Proofs.Ytcnfdohlgmipoaa

namespace Go.Proofs.Ytcnfdohlgmipoaa
open Go Go.Abs

variable {l : List Task} {first : List Int} {s : Set}
theorem sumP_le {P : Done → Bool} : ∀ {q : List Done}, (∀ d ∈ q, 0 ≤ longD l d) → sumP l P q ≤ sumD l q
  | [], _ => Int.le_refl _
  | d :: r, h => by
    have h1 := h d (List.mem_cons_self ..)
    have h2 := sumP_le (P := P) fun z hz => h z (List.mem_cons_of_mem _ hz)
    rw [sumP, sumD]
    split <;> omega
theorem sumQ_nn : ∀ {q : List job}, (∀ y ∈ q, y.left ≤ longD l y.done) → 0 ≤ sumQ l q
  | [], _ => Int.le_refl _
  | y :: r, h => by
    have h1 := h y (List.mem_cons_self ..)
    have h2 := sumQ_nn fun z hz => h z (List.mem_cons_of_mem _ hz)
    rw [sumQ]
    unfold spent
    omega
theorem sumPJ_add {P Q R : Done → Bool} : ∀ {q : List job}, (∀ y ∈ q, (R y.done = true ↔ P y.done = true ∨ Q y.done = true) ∧ ¬ (P y.done = true ∧ Q y.done = true)) → sumPJ l R q = sumPJ l P q + sumPJ l Q q
  | [], _ => rfl
  | y :: r, h => by
    obtain ⟨h1, h2⟩ := h y (List.mem_cons_self ..)
    rw [sumPJ, sumPJ, sumPJ, sumPJ_add fun z hz => h z (List.mem_cons_of_mem _ hz)]
    by_cases hp : P y.done = true
    · have hq : ¬ Q y.done = true := fun hq => h2 ⟨hp, hq⟩
      rw [if_pos (h1.2 (.inl hp)), if_pos hp, if_neg hq]; omega
    · by_cases hq : Q y.done = true
      · rw [if_pos (h1.2 (.inr hq)), if_neg hp, if_pos hq]; omega
      · rw [if_neg (fun q => (h1.1 q).elim hp hq), if_neg hp, if_neg hq]; omega
theorem need_done {u : Int} (G : Good0 l first s u) (h0 : ∀ x ∈ first, x = 0) {d : Done} (hd : d ∈ (runQ true s u.toNat 0 (st0 u l first)).out) (hj : d.job = 0) :
    1 ≤ d.at_ ∧ d.at_ ≤ u ∧ d.came = 0 ∧ needV l d.task d.at_ ≤ uptoV s d.at_ := by
  have hu0 := G.u0
  have hu1 := G.u1
  have hWu := G.work (fx := true) u.toNat (by omega)
  rw [show ((u.toNat : Nat) : Int) = u by omega] at hWu
  obtain ⟨d1, d2, d3, d4, d5, d6, d7⟩ := hWu.don d hd
  have hok := okT_iff.1 (tk_get (show d.task.toNat < l.length by omega) G.ok)
  have hf0 : first.getD d.task.toNat Dat.d0 = 0 := by
    have hlt : d.task.toNat < first.length := by have := G.f1; omega
    rw [List.getD_eq_getElem?_getD, List.getElem?_eq_getElem hlt]
    exact h0 _ (List.getElem_mem hlt)
  have hc : d.came = 0 := by rw [d3, hf0, hj]; omega
  have hat1 : 1 ≤ d.at_ := by
    rcases Int.lt_or_le d.at_ 1 with h | h
    · have e : d.at_ = 0 := by omega
      rw [e, hc] at d7
      unfold longD at d7
      omega
    · exact h
  refine ⟨hat1, d6, hc, ?_⟩
  generalize hf : d.at_ = f at *
  have hfree := done_free G u.toNat (by omega) d hd
  rw [hf] at hfree
  have hW := G.work (fx := true) f.toNat (by omega)
  have F := Fp.all G d1 d2 f.toNat (by omega)
  rw [show ((f.toNat : Nat) : Int) = f by omega] at hW F
  -- it is in the list that is done by then
  obtain ⟨e, he, hea⟩ := run_at (fx := true) (s := s) (n := u.toNat - f.toNat) (t := f) (x := runQ true s f.toNat 0 (st0 u l first))
  have hrun : runQ true s u.toNat 0 (st0 u l first) = runQ true s (u.toNat - f.toNat) f (runQ true s f.toNat 0 (st0 u l first)) := by
    have e1 : u.toNat = f.toNat + (u.toNat - f.toNat) := by omega
    conv => lhs; rw [e1, runQ_add]
    rw [show (0 : Int) + (f.toNat : Int) = f by omega]
  have hdf : d ∈ (runQ true s f.toNat 0 (st0 u l first)).out := by
    rw [hrun, he] at hd
    rcases List.mem_append.1 hd with hd | hd
    · exact hd
    · have := hea d hd; omega
  have clash : ∀ (y : job), (y ∈ (runQ true s f.toNat 0 (st0 u l first)).q ∨ y ∈ (runQ true s f.toNat 0 (st0 u l first)).td) → y.done.task = d.task → y.done.job = 0 → False := fun y hy h1 h2 => by
    obtain ⟨n, hn⟩ := hW.row d.task
    have hdm : d.job ∈ (ofD d.task (runQ true s f.toNat 0 (st0 u l first)).out).map fun z => z.job := List.mem_map.2 ⟨d, List.mem_filter.2 ⟨hdf, by simp⟩, rfl⟩
    rw [List.append_assoc] at hn
    have := rowI_lt (x := d.job) (y := y.done.job) hn hdm (by
      rcases hy with hy | hy
      · exact List.mem_append_left _ (mem_ofT hy h1)
      · exact List.mem_append_right _ (mem_ofT hy h1))
    omega
  let P : Done → Bool := fun z => hpW d.task 0 f z || isJ d.task 0 z
  have hP : Same P := fun x y h1 h2 h3 => by show (hpW _ _ _ x || isJ _ _ x) = (hpW _ _ _ y || isJ _ _ y); unfold hpW isJ; rw [h1, h2, h3]
  have hPj : ∀ z, P z = true → hpW d.task 0 f z = true ∨ (z.task = d.task ∧ z.job = 0) := fun z hz => by
    rcases (show hpW d.task 0 f z = true ∨ isJ d.task 0 z = true by rw [← Bool.or_eq_true]; exact hz) with h | h
    · exact .inl h
    · right
      unfold isJ at h
      rw [Bool.and_eq_true, decide_eq_true_eq, decide_eq_true_eq] at h
      exact h
  have hpw : ∀ z, hpW d.task 0 f z = true → z.task < d.task ∧ z.came < f := fun z hz => by
    unfold hpW at hz
    rw [Bool.and_eq_true, Bool.and_eq_true, decide_eq_true_eq, decide_eq_true_eq, decide_eq_true_eq] at hz
    exact ⟨hz.1, hz.2.2⟩
  have hcons := cons_run (l := l) (fx := true) (s := s) hP (n := f.toNat) (t := 0) (x := st0 u l first)
  have z1 : sumPJ l P (runQ true s f.toNat 0 (st0 u l first)).q = 0 := sumPJ_zero fun y hy hp => by
    rcases hPj _ hp with h | ⟨h1, h2⟩
    · have := sumLJ_pos (P := hpP d.task) (fun y hy => (hW.jq y hy).2.1) y hy (by unfold hpP; rw [decide_eq_true (hpw _ h).1])
      omega
    · exact clash y (.inl hy) h1 h2
  have z2 : sumPJ l P (runQ true s f.toNat 0 (st0 u l first)).td = 0 := sumPJ_zero fun y hy hp => by
    rcases hPj _ hp with h | ⟨h1, h2⟩
    · have := F.suf.cm y hy
      have := (hpw _ h).2
      omega
    · exact clash y (.inr hy) h1 h2
  have hC : sumP l P (st0 u l first).out + sumPJ l P (st0 u l first).q + sumPJ l P (st0 u l first).td = sumPJ l P (sortS (jobsL u 0 l first)) := by
    show (0 : Int) + 0 + _ = _
    rw [Int.zero_add, Int.zero_add]; rfl
  have hsp : sumPJ l P (sortS (jobsL u 0 l first)) = sumPJ l (hpW d.task 0 f) (sortS (jobsL u 0 l first)) + sumPJ l (isJ d.task 0) (sortS (jobsL u 0 l first)) := sumPJ_add fun y hy => ⟨by show (hpW d.task 0 f y.done || isJ d.task 0 y.done) = true ↔ _; rw [Bool.or_eq_true], fun ⟨h1, h2⟩ => by
    have h3 := (hpw _ h1).1
    unfold isJ at h2
    rw [Bool.and_eq_true, decide_eq_true_eq] at h2
    omega⟩
  have hH : needS f (l.take d.task.toNat) ≤ sumPJ l (hpW d.task 0 f) (sortS (jobsL u 0 l first)) := by
    rw [sumPJ_perm (sortS_perm _)]
    have := sumHL_ge G.ok (b := f) (u := u) hat1 d6 (i := d.task.toNat) (m := l) (r := first) (k := 0) rfl G.f1 h0
    rw [show ((d.task.toNat : Nat) : Int) = d.task by omega] at this
    exact this
  obtain ⟨J, hJ, e1, e2, e3⟩ := out_from _ d hdf
  have hI := sumPJ_mem (l := l) (P := isJ d.task 0) (q := sortS (jobsL u 0 l first)) (fun y hy => by have := c_long (u := u) (first := first) G.ok y hy; omega) J hJ (by unfold isJ; rw [e1, e2, hj]; simp)
  have hlong : longD l J.done = (l.getD d.task.toNat Dat.d0).long := by unfold longD; rw [e1]
  have hb1 := sumP_le (l := l) (P := P) (q := (runQ true s f.toNat 0 (st0 u l first)).out) fun z hz => by
    obtain ⟨b1, b2, _⟩ := hW.don z hz
    have h4 := okT_iff.1 (tk_get (show z.task.toNat < l.length by omega) G.ok)
    unfold longD; omega
  have hb2 := sumQ_nn (l := l) (q := (runQ true s f.toNat 0 (st0 u l first)).q) fun y hy => (hW.jq y hy).2.2.1
  have hb3 : 0 ≤ (runQ true s f.toNat 0 (st0 u l first)).idle := (runQ_ext (fx := true) (s := s) (n := f.toNat) (t := 0) (x := st0 u l first)).2
  have hsum := hW.sum
  unfold needV
  omega

end Go.Proofs.Ytcnfdohlgmipoaa

namespace Go.Proofs.Ytcnfdohlgmipoaa
open Go Go.Abs

variable {l : List Task} {first : List Int}
def allS : Set := ⟨1, [⟨0, 1⟩]⟩
theorem allR : Right allS := check_iff.1 (by decide)
theorem all_nat (n : Nat) : uptoV allS n = n := by
  induction n with
  | zero => exact upto0 allR
  | succ n ih =>
    have h := win_frames allR (n := 1) (t := 0) (by decide) (by decide) n
    have e0 : win allS 1 0 = 1 := by decide
    rw [e0] at h
    unfold win at h
    rw [show (0 : Int) + (n : Int) * allS.size = (n : Int) by show (0 : Int) + (n : Int) * 1 = n; omega] at h
    rw [show (((n + 1 : Nat) : Nat) : Int) = (n : Int) + 1 by omega]
    omega
theorem all_upto {t : Int} (h : 0 ≤ t) : uptoV allS t = t := by
  have := all_nat t.toNat
  rwa [show ((t.toNat : Nat) : Int) = t by omega] at this
theorem all_least {n : Int} (h : 0 ≤ n) : leastV allS n = n := by
  obtain ⟨-, t, ht, e⟩ := leastV_spec allR h
  rw [e]
  unfold win
  rw [all_upto (by omega), all_upto ht]; omega
theorem job0_in (hl : l.all okT = true) {u : Int} (hu : 0 < u) {i : Nat} (hi : i < l.length) : ∀ {m : List Task} {r : List Int} {k : Nat}, l.drop k = m → r.length = m.length → (∀ x ∈ r, x = 0) → k ≤ i → ∃ J ∈ jobsL u k m r, J.done.task = i ∧ J.done.job = 0
  | [], r, k, hm, _, _, hk => by
    have := congrArg List.length hm
    rw [List.length_drop, List.length_nil] at this
    omega
  | t :: m, [], k, _, h, _, _ => by simp at h
  | t :: m, c :: r, k, hm, hlen, hc, hki => by
    have hk : k < l.length := by omega
    have e1 := drop_cons Dat.d0 hk
    rw [hm] at e1
    have e2 := List.cons.inj e1
    have ht : okT t = true := by rw [e2.1]; exact tk_get hk hl
    have ho := okT_iff.1 ht
    have ec := hc c (List.mem_cons_self ..)
    rw [jobsL]
    by_cases h : k = i
    · subst h
      rw [jobsN_lt ho.1 (by omega)]
      exact ⟨_, List.mem_append_left _ (List.mem_cons_self ..), rfl, rfl⟩
    · obtain ⟨J, hJ, h2⟩ := job0_in hl hu hi (m := m) (r := r) (k := k + 1) e2.2.symm (by simpa using hlen) (fun x hx => hc x (List.mem_cons_of_mem _ hx)) (by omega)
      exact ⟨J, List.mem_append_right _ hJ, h2⟩
theorem reply_exact {i : Int} (hi0 : 0 ≤ i) (hi : i < l.length) (G : Good0 l first allS (l.getD i.toNat Dat.d0).due) (h0 : ∀ x ∈ first, x = 0) :
    ((repV l i allS).2 = 0 ∧ 1 ≤ (repV l i allS).1 ∧ (repV l i allS).1 ≤ (l.getD i.toNat Dat.d0).due ∧
      (∃ d ∈ (runQ true allS (l.getD i.toNat Dat.d0).due.toNat 0 (st0 (l.getD i.toNat Dat.d0).due l first)).out, d.task = i ∧ d.job = 0) ∧
      ∀ d ∈ (runQ true allS (l.getD i.toNat Dat.d0).due.toNat 0 (st0 (l.getD i.toNat Dat.d0).due l first)).out, d.task = i → d.job = 0 → d.at_ = (repV l i allS).1) ∨
    (repV l i allS = (0, 11) ∧ ∀ d ∈ (runQ true allS (l.getD i.toNat Dat.d0).due.toNat 0 (st0 (l.getD i.toNat Dat.d0).due l first)).out, ¬ (d.task = i ∧ d.job = 0)) := by
  have hok := okT_iff.1 (tk_get (show i.toNat < l.length by omega) G.ok)
  rcases repV_spec allR G.ok hi0 hi with ⟨r, e, r1, r2, r3, r4⟩ | ⟨e, r4⟩
  · left
    rw [e]
    have H : Rep l allS i r := ⟨hi0, hi, r1, r2, r3⟩
    refine ⟨rfl, r1, r2, ?_, fun d hd d1 d2 => ?_⟩
    · obtain ⟨J, hJ, j1, j2⟩ := job0_in G.ok (show 0 < (l.getD i.toNat Dat.d0).due by omega) (show i.toNat < l.length by omega) (m := l) (r := first) (k := 0) rfl G.f1 h0 (Nat.zero_le _)
      have hJ2 := (sortS_perm _).mem_iff.2 hJ
      have hji : J.done.task = i := by omega
      obtain ⟨hjb, -, -⟩ := jb_of hJ2
      have hjc := hjb.came
      have hjd := hjb.due
      have hf0 : first.getD i.toNat Dat.d0 = 0 := by
        have hlt : i.toNat < first.length := by have := G.f1; omega
        rw [List.getD_eq_getElem?_getD, List.getElem?_eq_getElem hlt]
        exact h0 _ (List.getElem_mem hlt)
      rw [hji, hf0, j2] at hjc
      rw [hji] at hjd
      obtain ⟨d, hd, d1, d2, -⟩ := reply_due G H hJ2 hji (by omega)
      exact ⟨d, hd, d1.trans hji, d2.trans j2⟩
    · obtain ⟨n1, n2, n3, n4⟩ := need_done G h0 hd d2
      have n5 := reply_at G H hd d1
      rw [d1, all_upto (by omega)] at n4
      show d.at_ = r
      rcases Int.lt_or_le d.at_ r with h | h
      · have := r4 d.at_ n1 h
        rw [all_least (by omega)] at this
        omega
      · omega
  · right
    refine ⟨e, fun d hd ⟨d1, d2⟩ => ?_⟩
    obtain ⟨n1, n2, n3, n4⟩ := need_done G h0 hd d2
    rw [d1, all_upto (by omega)] at n4
    have := r4 d.at_ n1 n2
    rw [all_least (by omega)] at this
    omega

end Go.Proofs.Ytcnfdohlgmipoaa

namespace Go.Proofs.Ytcnfdohlgmipoaa
open Go Go.Abs

variable {l : List Task} {first : List Int} {s : Set}
theorem reply_holds {u : Int} (h : (playJ l s first 2 u).2.2 = 0) {x : Done} (hx : x ∈ (playJ l s first 2 u).1) (h0 : 0 ≤ x.task) (h1 : x.task < l.length) (hr : 0 < (repV l x.task s).1) : x.at_ - x.came ≤ (repV l x.task s).1 := by
  have G := good0_of h
  obtain ⟨_, _, _, _, _, _, e1⟩ := playJ_ok h
  rw [e1] at hx
  have := reply_at G (rep_of G.R G.ok h0 h1 (by omega)) hx rfl
  omega
theorem reply_late {u : Int} (h : (playJ l s first 2 u).2.2 = 0) : (latesV l first (playJ l s first 2 u).1 u).2 = 0 ∧ (latesV l first (playJ l s first 2 u).1 u).1.length ≤ 2000 ∧ ∀ x ∈ (latesV l first (playJ l s first 2 u).1 u).1, 0 ≤ x.task ∧ x.task < l.length ∧ ¬ 0 < (repV l x.task s).1 := by
  have G := good0_of h
  obtain ⟨⟨a0, a1⟩, a2, a3, a4, a5, a6, e1⟩ := playJ_ok h
  have hlen := play_len3 (l := l) (s := s) (first := first) (policy := 2) (u := u)
  have e2 : jobsV l first u = (jobsL u 0 l first, 0) := by unfold jobsV; rw [if_pos a6]
  have e3 : latesV l first (playJ l s first 2 u).1 u = (latesL (atM [] (playJ l s first 2 u).1) u (jobsL u 0 l first), 0) := by
    rw [latesV, if_neg (fun q => q (tchk_iff.2 ⟨a0, a1⟩)), if_neg (fun q => q a3), if_neg (by omega), e2, if_neg (fun q => q rfl), if_neg (by omega)]
  rw [e3]
  refine ⟨rfl, ?_, fun x hx => ?_⟩
  · dsimp only
    unfold latesL
    rw [List.length_map]
    exact Nat.le_trans (List.length_filter_le _ _) a6
  dsimp only at hx
  unfold latesL at hx
  obtain ⟨J, hJ, rfl⟩ := List.mem_map.1 hx
  obtain ⟨hJ1, hJ2⟩ := List.mem_filter.1 hJ
  have hJ3 := (sortS_perm _).mem_iff.2 hJ1
  have hjb := (jb_of hJ3).1
  refine ⟨hjb.t0, hjb.t1, fun hr => ?_⟩
  have hno : lateB (atM [] (playJ l s first 2 u).1) u J = false := by
    refine late_no.2 fun hu => ?_
    rw [e1]
    exact reply_due G (rep_of G.R G.ok hjb.t0 hjb.t1 (Int.ne_of_gt hr)) hJ3 rfl hu
  rw [hno] at hJ2
  cases hJ2

end Go.Proofs.Ytcnfdohlgmipoaa
