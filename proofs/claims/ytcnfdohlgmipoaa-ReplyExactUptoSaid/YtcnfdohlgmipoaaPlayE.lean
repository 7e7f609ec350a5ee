/- DERTOUZOS: what goes first that is due first is late no more than anything else: plain. -/
import Derived.Test.YtcnfdohlgmipoaaPlayW
import Derived.Test.YtcnfdohlgmipoaaLates
set_option linter.all false
namespace Go.Proofs.Ytcnfdohlgmipoaa
open Go Go.Abs

variable {fx : Bool} {l : List Task} {first : List Int} {s : Set}
def dueD (l : List Task) (d : Done) : Int := d.came + (l.getD d.task.toNat Dat.d0).due
def sumP (l : List Task) (P : Done → Bool) : List Done → Int
  | [] => 0
  | d :: r => (if P d = true then longD l d else 0) + sumP l P r
def sumPJ (l : List Task) (P : Done → Bool) : List job → Int
  | [] => 0
  | y :: r => (if P y.done = true then longD l y.done else 0) + sumPJ l P r
def sumLJ (P : Done → Bool) : List job → Int
  | [] => 0
  | y :: r => (if P y.done = true then y.left else 0) + sumLJ P r
def Same (P : Done → Bool) : Prop := ∀ d e : Done, d.task = e.task → d.job = e.job → d.came = e.came → P d = P e
theorem sumP_app (P : Done → Bool) : ∀ (a b : List Done), sumP l P (a ++ b) = sumP l P a + sumP l P b
  | [], b => by simp [sumP]
  | x :: a, b => by rw [List.cons_append, sumP, sumP, sumP_app]; omega
theorem sumPJ_ins (P : Done → Bool) {x : job} : ∀ {q : List job}, sumPJ l P (insQ fx x q) = (if P x.done = true then longD l x.done else 0) + sumPJ l P q
  | [] => rfl
  | y :: r => by
    rw [insQ]
    split
    · rfl
    · rw [sumPJ, sumPJ, sumPJ_ins]; omega
theorem sumLJ_ins (P : Done → Bool) {x : job} : ∀ {q : List job}, sumLJ P (insQ fx x q) = (if P x.done = true then x.left else 0) + sumLJ P q
  | [] => rfl
  | y :: r => by
    rw [insQ]
    split
    · rfl
    · rw [sumLJ, sumLJ, sumLJ_ins]; omega
theorem cons_step {P : Done → Bool} (hP : Same P) {t : Int} {x : QS} : sumP l P (stepQ fx s t x).out + sumPJ l P (stepQ fx s t x).q + sumPJ l P (stepQ fx s t x).td = sumP l P x.out + sumPJ l P x.q + sumPJ l P x.td := by
  have hpull : ∀ (td q : List job), sumPJ l P (pullQ fx t td q).2 + sumPJ l P (pullQ fx t td q).1 = sumPJ l P q + sumPJ l P td := by
    intro td
    induction td with
    | nil => intro q; rfl
    | cons y r ih =>
      intro q
      rw [pullQ]
      split
      · rw [ih, sumPJ_ins, sumPJ]; omega
      · rfl
  have h1 := hpull x.td x.q
  unfold stepQ tickQ
  dsimp only
  revert h1
  generalize (pullQ fx t x.td x.q).1 = td
  generalize (pullQ fx t x.td x.q).2 = q
  intro h1
  split
  · cases q with
    | nil => dsimp only; omega
    | cons j r =>
      dsimp only
      rw [sumPJ] at h1
      split
      · dsimp only
        rw [sumP_app]
        have e : P ⟨j.done.task, j.done.job, j.done.came, t + 1⟩ = P j.done := hP _ _ rfl rfl rfl
        have e2 : longD l ⟨j.done.task, j.done.job, j.done.came, t + 1⟩ = longD l j.done := rfl
        rw [sumP, sumP, e, e2]
        omega
      · dsimp only
        rw [sumPJ]
        dsimp only
        omega
  · dsimp only; omega
theorem cons_run {P : Done → Bool} (hP : Same P) : ∀ {n : Nat} {t : Int} {x : QS}, sumP l P (runQ fx s n t x).out + sumPJ l P (runQ fx s n t x).q + sumPJ l P (runQ fx s n t x).td = sumP l P x.out + sumPJ l P x.q + sumPJ l P x.td
  | 0, t, x => rfl
  | n + 1, t, x => by rw [runQ, cons_run hP, cons_step hP]
def st0 (u : Int) (l : List Task) (first : List Int) : QS := ⟨sortS (jobsL u 0 l first), [], [], 0⟩
structure Good0 (l : List Task) (first : List Int) (s : Set) (u : Int) : Prop where
  ok : l.all okT = true
  R : Right s
  f1 : first.length = l.length
  f2 : first.any badF = false
  u0 : 0 ≤ u
  u1 : u ≤ 20000
theorem Good0.fst0 {u : Int} (h : Good0 l first s u) (k : Nat) : 0 ≤ first.getD k Dat.d0 := by
  by_cases hk : k < first.length
  · exact (anyB_get h.f2 hk).1
  · rw [List.getD_eq_getElem?_getD, List.getElem?_eq_none (by omega)]; exact Int.le_refl _
theorem Good0.work {u : Int} (h : Good0 l first s u) (n : Nat) (hn : (n : Int) ≤ 1000000) : Work fx l first s n (runQ fx s n 0 (st0 u l first)) := by
  have hW0 : Work fx l first s 0 (st0 u l first) := by
    refine ⟨⟨sortS_apart, List.Pairwise.nil⟩, fun y hy => ⟨(jb_of hy).1, (jb_of hy).2.1⟩, fun y hy => (by cases hy), fun i => ?_, fun d hd => (by cases hd), List.Pairwise.nil, ?_⟩
    · obtain ⟨n, hn⟩ := ofT_row (b := u) (first := first) h.ok i
      exact ⟨n, hn⟩
    · rw [uptoW h.R]; rfl
  have hW := Work.run h.ok h.R h.fst0 (n := n) (Int.le_refl 0) (by omega) hW0
  rw [Int.zero_add] at hW
  exact hW
def Cover (C : List job) (t : Int) (x : QS) : Prop := ∀ j ∈ C, (j ∈ x.td) ∨ (∃ y ∈ x.q, y.done = j.done ∧ y.due = j.due) ∨ ∃ d ∈ x.out, d.task = j.done.task ∧ d.job = j.done.job ∧ d.at_ ≤ t
theorem pull_cover {t : Int} {j : job} : ∀ {td q : List job}, (j ∈ td ∨ ∃ y ∈ q, y.done = j.done ∧ y.due = j.due) → j ∈ (pullQ fx t td q).1 ∨ ∃ y ∈ (pullQ fx t td q).2, y.done = j.done ∧ y.due = j.due
  | [], q, h => h
  | x :: r, q, h => by
    rw [pullQ]
    split
    · refine pull_cover ?_
      rcases h with h | ⟨y, hy, h2⟩
      · rcases List.mem_cons.1 h with rfl | h
        · exact .inr ⟨j, insQ_perm.mem_iff.2 (List.mem_cons_self ..), rfl, rfl⟩
        · exact .inl h
      · exact .inr ⟨y, insQ_perm.mem_iff.2 (List.mem_cons_of_mem _ hy), h2⟩
    · exact h
theorem Cover.step {C : List job} {t : Int} {x : QS} (h : Cover C t x) : Cover C (t + 1) (stepQ fx s t x) := by
  intro j hj
  have h1 : (j ∈ (pullQ fx t x.td x.q).1 ∨ ∃ y ∈ (pullQ fx t x.td x.q).2, y.done = j.done ∧ y.due = j.due) ∨ ∃ d ∈ x.out, d.task = j.done.task ∧ d.job = j.done.job ∧ d.at_ ≤ t := by
    rcases h j hj with h | h | h
    · exact .inl (pull_cover (.inl h))
    · exact .inl (pull_cover (.inr h))
    · exact .inr h
  obtain ⟨e, he⟩ := (stepQ_ext (fx := fx) (s := s) (t := t) (x := x)).1
  rcases h1 with h1 | ⟨d, hd, h2, h3, h4⟩
  · unfold stepQ tickQ
    dsimp only
    revert h1
    generalize (pullQ fx t x.td x.q).1 = td
    generalize (pullQ fx t x.td x.q).2 = q
    intro h1
    rcases h1 with h1 | ⟨y, hy, h2⟩
    · exact .inl h1
    · split
      · cases q with
        | nil => cases hy
        | cons z r =>
          dsimp only
          rcases List.mem_cons.1 hy with rfl | hy
          · split
            · refine .inr (.inr ⟨⟨y.done.task, y.done.job, y.done.came, t + 1⟩, List.mem_append_right _ (List.mem_singleton.2 rfl), by rw [← h2.1], by rw [← h2.1], Int.le_refl _⟩)
            · exact .inr (.inl ⟨_, List.mem_cons_self .., h2⟩)
          · split
            · exact .inr (.inl ⟨y, hy, h2⟩)
            · exact .inr (.inl ⟨y, List.mem_cons_of_mem _ hy, h2⟩)
      · exact .inr (.inl ⟨y, hy, h2⟩)
  · exact .inr (.inr ⟨d, by rw [he]; exact List.mem_append_left _ hd, h2, h3, by omega⟩)
theorem Cover.run {C : List job} : ∀ {n : Nat} {t : Int} {x : QS}, Cover C t x → Cover C (t + n) (runQ fx s n t x)
  | 0, t, x, h => by simpa [runQ] using h
  | n + 1, t, x, h => by
    have := Cover.run (n := n) (Cover.step (fx := fx) (s := s) h)
    rw [runQ, show t + ((n + 1 : Nat) : Int) = t + 1 + (n : Int) by omega]
    exact this
theorem cover0 {u : Int} : Cover (sortS (jobsL u 0 l first)) 0 (st0 u l first) := fun j hj => .inl hj
theorem pull_later {t : Int} : ∀ {td q : List job}, SrtJ td → ∀ y ∈ (pullQ fx t td q).1, t < y.done.came
  | [], q, _, y, hy => by cases hy
  | x :: r, q, h, y, hy => by
    have h2 := List.pairwise_cons.1 h
    rw [pullQ] at hy
    split at hy
    · exact pull_later h2.2 y hy
    · rcases List.mem_cons.1 hy with rfl | hy
      · omega
      · have := h2.1 y hy; omega
theorem pull_sub {t : Int} : ∀ {td q : List job}, List.Sublist (pullQ fx t td q).1 td
  | [], q => List.Sublist.refl _
  | x :: r, q => by
    rw [pullQ]
    split
    · exact pull_sub.trans (List.sublist_cons_self x r)
    · exact List.Sublist.refl _
theorem sumPJ_nonneg {P : Done → Bool} : ∀ {q : List job}, (∀ y ∈ q, 0 ≤ longD l y.done) → 0 ≤ sumPJ l P q
  | [], _ => Int.le_refl _
  | y :: r, h => by
    have h1 := h y (List.mem_cons_self ..)
    have h2 := sumPJ_nonneg (P := P) fun z hz => h z (List.mem_cons_of_mem _ hz)
    rw [sumPJ]
    split <;> omega
theorem sumPJ_sub {P Q : Done → Bool} {a b : List job} (hs : List.Sublist a b) : (∀ y ∈ b, 0 ≤ longD l y.done) → (∀ y ∈ a, P y.done = true → Q y.done = true) → sumPJ l P a ≤ sumPJ l Q b := by
  induction hs with
  | slnil => intro _ _; exact Int.le_refl _
  | cons x h ih =>
    intro hb hpq
    have h1 := hb x (List.mem_cons_self ..)
    have h2 := ih (fun z hz => hb z (List.mem_cons_of_mem _ hz)) hpq
    rw [sumPJ]
    split <;> omega
  | cons_cons x h ih =>
    intro hb hpq
    have h1 := hb x (List.mem_cons_self ..)
    have h2 := ih (fun z hz => hb z (List.mem_cons_of_mem _ hz)) fun y hy => hpq y (List.mem_cons_of_mem _ hy)
    have h3 := hpq x (List.mem_cons_self ..)
    rw [sumPJ, sumPJ]
    by_cases hp : P x.done = true
    · rw [if_pos hp, if_pos (h3 hp)]; omega
    · rw [if_neg hp]
      split <;> omega
def inW (l : List Task) (a b : Int) (d : Done) : Bool := decide (a ≤ d.came) && decide (dueD l d ≤ b)
theorem inW_same (a b : Int) : Same (inW l a b) := fun d e h1 _ h3 => by unfold inW dueD; rw [h1, h3]
def Enough (l : List Task) (first : List Int) (s : Set) (u : Int) : Prop := ∀ a b, 0 ≤ a → a ≤ b → b ≤ u → sumPJ l (inW l a b) (sortS (jobsL u 0 l first)) ≤ uptoV s b - uptoV s a
structure Edf (l : List Task) (s : Set) (C : List job) (b t : Int) (x : QS) : Prop where
  srt : SrtJ x.td
  sub : List.Sublist x.td C
  bnd : ∃ a, 0 ≤ a ∧ a ≤ t ∧ sumLJ (inW l 0 b) x.q + sumPJ l (inW l 0 b) x.td ≤ sumPJ l (inW l a b) C - (uptoV s t - uptoV s a)
theorem sumLJ_nonneg {P : Done → Bool} : ∀ {q : List job}, (∀ y ∈ q, 1 ≤ y.left) → 0 ≤ sumLJ P q
  | [], _ => Int.le_refl _
  | y :: r, h => by
    have h1 := h y (List.mem_cons_self ..)
    have h2 := sumLJ_nonneg (P := P) fun z hz => h z (List.mem_cons_of_mem _ hz)
    rw [sumLJ]
    split <;> omega
theorem sumLJ_pos {P : Done → Bool} : ∀ {q : List job}, (∀ y ∈ q, 1 ≤ y.left) → ∀ y ∈ q, P y.done = true → 1 ≤ sumLJ P q
  | [], _, y, hy, _ => by cases hy
  | z :: r, h, y, hy, hp => by
    have h1 := h z (List.mem_cons_self ..)
    have h2 := sumLJ_nonneg (P := P) (q := r) fun w hw => h w (List.mem_cons_of_mem _ hw)
    rw [sumLJ]
    rcases List.mem_cons.1 hy with rfl | hy
    · rw [if_pos hp]; omega
    · have h3 := sumLJ_pos (fun w hw => h w (List.mem_cons_of_mem _ hw)) y hy hp
      split <;> omega
theorem sumPJ_pos {P : Done → Bool} : ∀ {q : List job}, (∀ y ∈ q, 1 ≤ longD l y.done) → ∀ y ∈ q, P y.done = true → 1 ≤ sumPJ l P q
  | [], _, y, hy, _ => by cases hy
  | z :: r, h, y, hy, hp => by
    have h1 := h z (List.mem_cons_self ..)
    have h2 := sumPJ_nonneg (l := l) (P := P) (q := r) fun w hw => by have := h w (List.mem_cons_of_mem _ hw); omega
    rw [sumPJ]
    rcases List.mem_cons.1 hy with rfl | hy
    · rw [if_pos hp]; omega
    · have h3 := sumPJ_pos (fun w hw => h w (List.mem_cons_of_mem _ hw)) y hy hp
      split <;> omega
theorem sumLJ_zero {P : Done → Bool} : ∀ {q : List job}, (∀ y ∈ q, ¬ P y.done = true) → sumLJ P q = 0
  | [], _ => rfl
  | y :: r, h => by rw [sumLJ, if_neg (h y (List.mem_cons_self ..)), sumLJ_zero fun z hz => h z (List.mem_cons_of_mem _ hz)]; rfl
theorem pull_sum {P : Done → Bool} {t : Int} : ∀ {td q : List job}, (∀ y ∈ td, y.left = longD l y.done) → sumLJ P (pullQ fx t td q).2 + sumPJ l P (pullQ fx t td q).1 = sumLJ P q + sumPJ l P td
  | [], q, _ => rfl
  | x :: r, q, h => by
    rw [pullQ]
    split
    · rw [pull_sum fun y hy => h y (List.mem_cons_of_mem _ hy), sumLJ_ins, sumPJ, h x (List.mem_cons_self ..)]; omega
    · rfl
theorem Edf.step {C : List job} {b t : Int} {x : QS} (ht : 0 ≤ t) (ht2 : t ≤ 1099511627776) (hR : Right s) (hl : l.all okT = true) (hfirst : ∀ k : Nat, 0 ≤ first.getD k Dat.d0) (hC : ∀ y ∈ C, 0 ≤ longD l y.done) (hCc : ∀ y ∈ C, 0 ≤ y.done.came) (hW : Work false l first s t x) (h : Edf l s C b t x) : Edf l s C b (t + 1) (stepQ false s t x) := by
  obtain ⟨a, a0, a1, h1⟩ := h.bnd
  have hst := upto_step hR ht
  have hh := has_iff hR ht ht2
  have hpl := pull_later (fx := false) (t := t) (q := x.q) h.srt
  have hps := pull_sub (fx := false) (t := t) (td := x.td) (q := x.q)
  have hsum := pull_sum (l := l) (fx := false) (P := inW l 0 b) (t := t) (td := x.td) (q := x.q) fun y hy => (hW.jtd y hy).2
  have hW2 : Work false l first s t ⟨(pullQ false t x.td x.q).1, (pullQ false t x.td x.q).2, x.out, x.idle⟩ := Work.pull hl ht hR hfirst (out := x.out) (idle := x.idle) hW
  have hfit := hW2.fit
  have hjq := hW2.jq
  have hsr := pull_srt (fx := false) (t := t) (q := x.q) h.srt
  have hsub := hps.trans h.sub
  unfold stepQ tickQ
  dsimp only at hfit hjq ⊢
  revert hpl hsum hfit hjq hsr hsub
  generalize (pullQ false t x.td x.q).1 = td
  generalize (pullQ false t x.td x.q).2 = q
  intro hpl hsum hfit hjq hsr hsub
  have later : sumPJ l (inW l 0 b) td ≤ sumPJ l (inW l (t + 1) b) C := sumPJ_sub hsub hC fun y hy hp => by
    have := hpl y hy
    unfold inW at hp ⊢
    rw [Bool.and_eq_true] at hp ⊢
    exact ⟨decide_eq_true (by omega), hp.2⟩
  have none' : sumLJ (inW l 0 b) q = 0 → Edf l s C b (t + 1) ⟨td, q, x.out, x.idle⟩ := fun h0 => ⟨hsr, hsub, t + 1, by omega, Int.le_refl _, by dsimp only; omega⟩
  by_cases hin : (hasV s t).1 = true
  · have hone : uptoV s (t + 1) - uptoV s t = 1 := by
      rw [hh] at hin
      exact of_decide_eq_true hin
    rw [if_pos hin]
    cases q with
    | nil =>
      have := none' rfl
      exact ⟨this.srt, this.sub, this.bnd⟩
    | cons j r =>
      dsimp only
      have hjj := hjq j (List.mem_cons_self ..)
      by_cases hj : inW l 0 b j.done = true
      · rw [sumLJ, if_pos hj] at hsum
        split
        · exact ⟨hsr, hsub, a, a0, by omega, by dsimp only; omega⟩
        · refine ⟨hsr, hsub, a, a0, by omega, ?_⟩
          dsimp only
          rw [sumLJ, if_pos hj]
          dsimp only
          omega
      · have hz : sumLJ (inW l 0 b) r = 0 := sumLJ_zero fun y hy hp => by
          have hk := (List.pairwise_cons.1 hfit.srt).1 y hy
          have hyy := hjq y (List.mem_cons_of_mem _ hy)
          have hdu : j.due ≤ y.due := by
            unfold keyLt at hk
            simp at hk
            omega
          apply hj
          unfold inW at hp ⊢
          rw [Bool.and_eq_true, decide_eq_true_eq, decide_eq_true_eq] at hp ⊢
          have e1 : dueD l j.done = j.due := hjj.1.due.symm
          have e2 : dueD l y.done = y.due := hyy.1.due.symm
          have hc0 : 0 ≤ j.done.came := by
            rw [hjj.1.came]
            have h3 := hfirst j.done.task.toNat
            have h4 := okT_iff.1 (tk_get (show j.done.task.toNat < l.length by have := hjj.1.t0; have := hjj.1.t1; omega) hl)
            have : 0 ≤ j.done.job * (l.getD j.done.task.toNat Dat.d0).every := Int.mul_nonneg hjj.1.n0 (by omega)
            omega
          omega
        have hz2 : sumLJ (inW l 0 b) (j :: r) = 0 := by rw [sumLJ, if_neg hj, hz]; rfl
        split
        · refine ⟨hsr, hsub, t + 1, by omega, Int.le_refl _, ?_⟩
          dsimp only
          omega
        · refine ⟨hsr, hsub, t + 1, by omega, Int.le_refl _, ?_⟩
          dsimp only
          rw [sumLJ, if_neg hj]
          omega
  · have hone : uptoV s (t + 1) = uptoV s t := by
      rw [hh] at hin
      have : ¬ uptoV s (t + 1) - uptoV s t = 1 := fun q => hin (decide_eq_true q)
      omega
    rw [if_neg hin]
    exact ⟨hsr, hsub, a, a0, by omega, by dsimp only; omega⟩
theorem Edf.run {C : List job} {b : Int} (hR : Right s) (hl : l.all okT = true) (hfirst : ∀ k : Nat, 0 ≤ first.getD k Dat.d0) (hC : ∀ y ∈ C, 0 ≤ longD l y.done) (hCc : ∀ y ∈ C, 0 ≤ y.done.came) :
    ∀ {n : Nat} {t : Int} {x : QS}, 0 ≤ t → t + n ≤ 1000000 → Work false l first s t x → Edf l s C b t x → Edf l s C b (t + n) (runQ false s n t x)
  | 0, t, x, _, _, _, h => by simpa [runQ] using h
  | n + 1, t, x, h0, h1, hW, h => by
    have hc : ∀ y, Jb l first y → 0 ≤ y.done.came := fun y hy => by
      have h3 := hfirst y.done.task.toNat
      have h4 := okT_iff.1 (tk_get (show y.done.task.toNat < l.length by have := hy.t0; have := hy.t1; omega) hl)
      have h5 : 0 ≤ y.done.job * (l.getD y.done.task.toNat Dat.d0).every := Int.mul_nonneg hy.n0 (by omega)
      rw [hy.came]; omega
    have hW2 : Work false l first s (t + 1) (stepQ false s t x) := (Work.pull hl h0 hR hfirst (td := x.td) (q := x.q) (out := x.out) (idle := x.idle) hW).tick h0 (by omega) hR hc
    have := Edf.run hR hl hfirst hC hCc (n := n) (t := t + 1) (x := stepQ false s t x) (by omega) (by omega) hW2 (h.step h0 (by omega) hR hl hfirst hC hCc hW)
    rw [runQ, show t + ((n + 1 : Nat) : Int) = t + 1 + (n : Int) by omega]
    exact this
def NoLate (C : List job) (u : Int) (out : List Done) : Prop := ∀ j ∈ C, j.due ≤ u → ∃ d ∈ out, d.task = j.done.task ∧ d.job = j.done.job ∧ d.at_ ≤ j.due
theorem run_pre {n m : Nat} (h : n ≤ m) {t : Int} {x : QS} : ∃ e, (runQ fx s m t x).out = (runQ fx s n t x).out ++ e := by
  have e : m = n + (m - n) := by omega
  rw [e, runQ_add]
  exact runQ_ext.1
theorem c_long {u : Int} (hl : l.all okT = true) : ∀ y ∈ sortS (jobsL u 0 l first), 1 ≤ longD l y.done := fun y hy => by
  obtain ⟨h1, h2, _⟩ := jb_of hy
  have h4 := okT_iff.1 (tk_get (show y.done.task.toNat < l.length by have := h1.t0; have := h1.t1; omega) hl)
  unfold longD
  omega
theorem jb_came (hl : l.all okT = true) (hfirst : ∀ k : Nat, 0 ≤ first.getD k Dat.d0) {y : job} (hy : Jb l first y) : 0 ≤ y.done.came := by
  have h3 := hfirst y.done.task.toNat
  have h4 := okT_iff.1 (tk_get (show y.done.task.toNat < l.length by have := hy.t0; have := hy.t1; omega) hl)
  have h5 : 0 ≤ y.done.job * (l.getD y.done.task.toNat Dat.d0).every := Int.mul_nonneg hy.n0 (by omega)
  rw [hy.came]; omega
theorem edf_ok {u : Int} (G : Good0 l first s u) (hE : Enough l first s u) : NoLate (sortS (jobsL u 0 l first)) u (runQ false s u.toNat 0 (st0 u l first)).out := by
  intro j hj hju
  have hjb := (jb_of hj).1
  have hc := jb_came G.ok G.fst0 hjb
  have hok := okT_iff.1 (tk_get (show j.done.task.toNat < l.length by have := hjb.t0; have := hjb.t1; omega) G.ok)
  have hdue : j.due = dueD l j.done := hjb.due
  have hd1 : j.done.came < j.due := by rw [hjb.due]; omega
  generalize hb : j.due.toNat = b
  have hbj : (b : Int) = j.due := by omega
  have hbu : b ≤ u.toNat := by omega
  have hb6 : (b : Int) ≤ 1000000 := by have := G.u1; omega
  have hW := G.work (fx := false) b hb6
  have hCl := c_long (u := u) (first := first) G.ok
  have hW0 := G.work (fx := false) 0 (by omega)
  have hA := Edf.run (l := l) (first := first) (s := s) (C := sortS (jobsL u 0 l first)) (b := b) G.R G.ok G.fst0 (fun y hy => by have := hCl y hy; omega) (fun y hy => jb_came G.ok G.fst0 (jb_of hy).1) (n := b) (t := 0) (x := st0 u l first) (Int.le_refl _) (by omega) hW0
    ⟨sortS_srt _, List.Sublist.refl _, 0, Int.le_refl _, Int.le_refl _, by show (0 : Int) + sumPJ l (inW l 0 b) (sortS (jobsL u 0 l first)) ≤ sumPJ l (inW l 0 b) (sortS (jobsL u 0 l first)) - (uptoV s 0 - uptoV s 0); omega⟩
  rw [Int.zero_add] at hA
  obtain ⟨a, a0, a1, hbnd⟩ := hA.bnd
  have hen := hE a b a0 a1 (by have := G.u0; omega)
  have hcov := Cover.run (fx := false) (s := s) (n := b) (cover0 (u := u) (l := l) (first := first)) j hj
  rw [Int.zero_add] at hcov
  have hz1 := sumLJ_nonneg (P := inW l 0 b) (q := (runQ false s b 0 (st0 u l first)).q) fun y hy => (hW.jq y hy).2.1
  have hz2 := sumPJ_nonneg (l := l) (P := inW l 0 b) (q := (runQ false s b 0 (st0 u l first)).td) fun y hy => by have := hCl y (hA.sub.subset hy); omega
  have hin : inW l 0 b j.done = true := by
    unfold inW
    rw [Bool.and_eq_true, decide_eq_true_eq, decide_eq_true_eq]
    omega
  rcases hcov with h | ⟨y, hy, h2, h3⟩ | ⟨d, hd, h2, h3, h4⟩
  · have := sumPJ_pos (l := l) (P := inW l 0 b) (q := (runQ false s b 0 (st0 u l first)).td) (fun y hy => hCl y (hA.sub.subset hy)) j h hin
    omega
  · have := sumLJ_pos (P := inW l 0 b) (q := (runQ false s b 0 (st0 u l first)).q) (fun y hy => (hW.jq y hy).2.1) y hy (by rw [h2]; exact hin)
    omega
  · obtain ⟨e, he⟩ := run_pre (fx := false) (s := s) hbu (t := 0) (x := st0 u l first)
    exact ⟨d, by rw [he]; exact List.mem_append_left _ hd, h2, h3, by omega⟩
/- And where nothing is late there is enough. -/
def wkQ (l : List Task) (a : Int) : List job → Int
  | [] => 0
  | y :: r => (if a ≤ y.done.came then spent l y else 0) + wkQ l a r
def wkD (l : List Task) (a : Int) : List Done → Int
  | [] => 0
  | d :: r => (if a ≤ d.came then longD l d else 0) + wkD l a r
theorem wkD_app {a : Int} : ∀ (x y : List Done), wkD l a (x ++ y) = wkD l a x + wkD l a y
  | [], y => by simp [wkD]
  | d :: x, y => by rw [List.cons_append, wkD, wkD, wkD_app]; omega
theorem wkQ_ins {a : Int} {x : job} : ∀ {q : List job}, wkQ l a (insQ fx x q) = (if a ≤ x.done.came then spent l x else 0) + wkQ l a q
  | [] => rfl
  | y :: r => by
    rw [insQ]
    split
    · rfl
    · rw [wkQ, wkQ, wkQ_ins]; omega
theorem pull_wk {a t : Int} : ∀ {td q : List job}, (∀ y ∈ td, y.left = longD l y.done) → wkQ l a (pullQ fx t td q).2 = wkQ l a q
  | [], q, _ => rfl
  | x :: r, q, h => by
    rw [pullQ]
    split
    · have e : spent l x = 0 := by unfold spent; rw [h x (List.mem_cons_self ..)]; omega
      rw [pull_wk fun y hy => h y (List.mem_cons_of_mem _ hy), wkQ_ins, e]
      split <;> omega
    · rfl
theorem wk_step {a t : Int} {x : QS} (ht : 0 ≤ t) (ht2 : t ≤ 1099511627776) (hR : Right s) (hW : Work fx l first s t x) : wkD l a (stepQ fx s t x).out + wkQ l a (stepQ fx s t x).q ≤ wkD l a x.out + wkQ l a x.q + (uptoV s (t + 1) - uptoV s t) := by
  have hp := pull_wk (l := l) (fx := fx) (a := a) (t := t) (td := x.td) (q := x.q) fun y hy => (hW.jtd y hy).2
  have hst := upto_step hR ht
  have hh := has_iff hR ht ht2
  unfold stepQ tickQ
  dsimp only
  revert hp
  generalize (pullQ fx t x.td x.q).2 = q
  intro hp
  by_cases hin : (hasV s t).1 = true
  · have hone : uptoV s (t + 1) - uptoV s t = 1 := by
      rw [hh] at hin
      exact of_decide_eq_true hin
    rw [if_pos hin]
    cases q with
    | nil => dsimp only; omega
    | cons j r =>
      dsimp only
      rw [wkQ] at hp
      split
      · dsimp only
        rw [wkD_app, wkD, wkD]
        have e2 : longD l ⟨j.done.task, j.done.job, j.done.came, t + 1⟩ = longD l j.done := rfl
        rw [e2]
        dsimp only
        have e3 : spent l j = longD l j.done - 1 := by unfold spent; omega
        rw [e3] at hp
        split at hp <;> omega
      · dsimp only
        rw [wkQ]
        have e3 : spent l ⟨j.done, j.due, j.left - 1⟩ = spent l j + 1 := by unfold spent; dsimp only; omega
        rw [e3]
        dsimp only
        split at hp <;> omega
  · rw [if_neg hin]
    dsimp only
    omega
theorem wkQ_zero {a : Int} : ∀ {q : List job}, (∀ y ∈ q, y.done.came < a) → wkQ l a q = 0
  | [], _ => rfl
  | y :: r, h => by
    have := h y (List.mem_cons_self ..)
    rw [wkQ, if_neg (by omega), wkQ_zero fun z hz => h z (List.mem_cons_of_mem _ hz)]; rfl
theorem wkD_zero {a : Int} : ∀ {q : List Done}, (∀ y ∈ q, y.came < a) → wkD l a q = 0
  | [], _ => rfl
  | y :: r, h => by
    have := h y (List.mem_cons_self ..)
    rw [wkD, if_neg (by omega), wkD_zero fun z hz => h z (List.mem_cons_of_mem _ hz)]; rfl
def Early (t : Int) (x : QS) : Prop := (∀ y ∈ x.q, y.done.came < t) ∧ ∀ d ∈ x.out, d.came < t
theorem pull_early {t : Int} : ∀ {td q : List job}, (∀ y ∈ q, y.done.came ≤ t) → ∀ y ∈ (pullQ fx t td q).2, y.done.came ≤ t
  | [], q, h => h
  | x :: r, q, h => by
    rw [pullQ]
    split
    · refine pull_early fun y hy => ?_
      rcases insQ_mem hy with rfl | hy
      · assumption
      · exact h y hy
    · exact h
theorem Early.step {t : Int} {x : QS} (h : Early t x) : Early (t + 1) (stepQ fx s t x) := by
  have h1 := pull_early (fx := fx) (t := t) (td := x.td) (q := x.q) fun y hy => by have := h.1 y hy; omega
  have h2 : ∀ d ∈ x.out, d.came < t + 1 := fun d hd => by have := h.2 d hd; omega
  unfold stepQ tickQ
  dsimp only
  revert h1
  generalize (pullQ fx t x.td x.q).2 = q
  intro h1
  split
  · cases q with
    | nil => exact ⟨fun y hy => by have := h1 y hy; omega, h2⟩
    | cons j r =>
      dsimp only
      have hj := h1 j (List.mem_cons_self ..)
      split
      · refine ⟨fun y hy => by have := h1 y (List.mem_cons_of_mem _ hy); omega, fun d hd => ?_⟩
        rcases List.mem_append.1 hd with hd | hd
        · exact h2 d hd
        · rcases List.mem_singleton.1 hd with rfl
          show j.done.came < t + 1
          omega
      · refine ⟨fun y hy => ?_, h2⟩
        rcases List.mem_cons.1 hy with rfl | hy
        · show j.done.came < t + 1
          omega
        · have := h1 y (List.mem_cons_of_mem _ hy); omega
  · exact ⟨fun y hy => by have := h1 y hy; omega, h2⟩
theorem Early.run : ∀ {n : Nat} {t : Int} {x : QS}, Early t x → Early (t + n) (runQ fx s n t x)
  | 0, t, x, h => by simpa [runQ] using h
  | n + 1, t, x, h => by
    have := Early.run (n := n) (Early.step (fx := fx) (s := s) h)
    rw [runQ, show t + ((n + 1 : Nat) : Int) = t + 1 + (n : Int) by omega]
    exact this
theorem wk_run {a : Int} (hR : Right s) (hl : l.all okT = true) (hfirst : ∀ k : Nat, 0 ≤ first.getD k Dat.d0) : ∀ {n : Nat} {t : Int} {x : QS}, 0 ≤ t → t + n ≤ 1000000 → Work fx l first s t x →
    wkD l a (runQ fx s n t x).out + wkQ l a (runQ fx s n t x).q ≤ wkD l a x.out + wkQ l a x.q + (uptoV s (t + n) - uptoV s t)
  | 0, t, x, _, _, _ => by simp [runQ]
  | n + 1, t, x, h0, h1, hW => by
    have hW2 : Work fx l first s (t + 1) (stepQ fx s t x) := (Work.pull hl h0 hR hfirst (td := x.td) (q := x.q) (out := x.out) (idle := x.idle) hW).tick h0 (by omega) hR fun y hy => jb_came hl hfirst hy
    have h2 := wk_step (a := a) h0 (by omega) hR hW
    have h3 := wk_run (a := a) hR hl hfirst (n := n) (t := t + 1) (x := stepQ fx s t x) (by omega) (by omega) hW2
    rw [runQ, show t + ((n + 1 : Nat) : Int) = t + 1 + (n : Int) by omega]
    omega
theorem step_at {t : Int} {x : QS} : ∃ e, (stepQ fx s t x).out = x.out ++ e ∧ ∀ d ∈ e, t < d.at_ := by
  unfold stepQ tickQ
  dsimp only
  split
  · split
    · exact ⟨[], by simp, fun d hd => by cases hd⟩
    · split
      · exact ⟨_, rfl, fun d hd => by rcases List.mem_singleton.1 hd with rfl; show t < t + 1; omega⟩
      · exact ⟨[], by simp, fun d hd => by cases hd⟩
  · exact ⟨[], by simp, fun d hd => by cases hd⟩
theorem run_at : ∀ {n : Nat} {t : Int} {x : QS}, ∃ e, (runQ fx s n t x).out = x.out ++ e ∧ ∀ d ∈ e, t < d.at_
  | 0, t, x => ⟨[], by simp [runQ], fun d hd => by cases hd⟩
  | n + 1, t, x => by
    obtain ⟨e, h1, h2⟩ := step_at (fx := fx) (s := s) (t := t) (x := x)
    obtain ⟨e', h3, h4⟩ := run_at (n := n) (t := t + 1) (x := stepQ fx s t x)
    refine ⟨e ++ e', by rw [runQ, h3, h1, List.append_assoc], fun d hd => ?_⟩
    rcases List.mem_append.1 hd with hd | hd
    · exact h2 d hd
    · have := h4 d hd; omega
def From (C : List job) (x : QS) : Prop := (∀ y ∈ x.td, y ∈ C) ∧ ∀ y ∈ x.q, ∃ j ∈ C, j.done = y.done ∧ j.due = y.due
theorem pull_from {C : List job} {t : Int} : ∀ {td q : List job}, (∀ y ∈ td, y ∈ C) → (∀ y ∈ q, ∃ j ∈ C, j.done = y.done ∧ j.due = y.due) → (∀ y ∈ (pullQ fx t td q).1, y ∈ C) ∧ ∀ y ∈ (pullQ fx t td q).2, ∃ j ∈ C, j.done = y.done ∧ j.due = y.due
  | [], q, h1, h2 => ⟨h1, h2⟩
  | x :: r, q, h1, h2 => by
    rw [pullQ]
    split
    · refine pull_from (fun y hy => h1 y (List.mem_cons_of_mem _ hy)) fun y hy => ?_
      rcases insQ_mem hy with rfl | hy
      · exact ⟨y, h1 y (List.mem_cons_self ..), rfl, rfl⟩
      · exact h2 y hy
    · exact ⟨h1, h2⟩
theorem From.step {C : List job} {t : Int} {x : QS} (h : From C x) : From C (stepQ fx s t x) := by
  obtain ⟨h1, h2⟩ := pull_from (fx := fx) (t := t) h.1 h.2
  unfold stepQ tickQ
  dsimp only
  revert h1 h2
  generalize (pullQ fx t x.td x.q).1 = td
  generalize (pullQ fx t x.td x.q).2 = q
  intro h1 h2
  split
  · cases q with
    | nil => exact ⟨h1, h2⟩
    | cons j r =>
      dsimp only
      split
      · exact ⟨h1, fun y hy => h2 y (List.mem_cons_of_mem _ hy)⟩
      · refine ⟨h1, fun y hy => ?_⟩
        rcases List.mem_cons.1 hy with rfl | hy
        · exact h2 j (List.mem_cons_self ..)
        · exact h2 y (List.mem_cons_of_mem _ hy)
  · exact ⟨h1, h2⟩
theorem From.run {C : List job} : ∀ {n : Nat} {t : Int} {x : QS}, From C x → From C (runQ fx s n t x)
  | 0, t, x, h => h
  | n + 1, t, x, h => by rw [runQ]; exact From.run (n := n) (From.step (fx := fx) (s := s) h)
theorem sumPJ_zero {P : Done → Bool} : ∀ {q : List job}, (∀ y ∈ q, ¬ P y.done = true) → sumPJ l P q = 0
  | [], _ => rfl
  | y :: r, h => by rw [sumPJ, if_neg (h y (List.mem_cons_self ..)), sumPJ_zero fun z hz => h z (List.mem_cons_of_mem _ hz)]; rfl
theorem sumP_wk {a b : Int} : ∀ {d : List Done}, (∀ x ∈ d, 0 ≤ longD l x) → sumP l (inW l a b) d ≤ wkD l a d
  | [], _ => Int.le_refl _
  | x :: r, h => by
    have h1 := h x (List.mem_cons_self ..)
    have h2 := sumP_wk (a := a) (b := b) fun z hz => h z (List.mem_cons_of_mem _ hz)
    rw [sumP, wkD]
    by_cases hp : inW l a b x = true
    · rw [if_pos hp]
      unfold inW at hp
      rw [Bool.and_eq_true, decide_eq_true_eq] at hp
      rw [if_pos hp.1]; omega
    · rw [if_neg hp]
      split <;> omega
theorem wkQ_nonneg {a : Int} : ∀ {q : List job}, (∀ y ∈ q, y.left ≤ longD l y.done) → 0 ≤ wkQ l a q
  | [], _ => Int.le_refl _
  | y :: r, h => by
    have h1 := h y (List.mem_cons_self ..)
    have h2 := wkQ_nonneg (a := a) fun z hz => h z (List.mem_cons_of_mem _ hz)
    rw [wkQ]
    unfold spent
    split <;> omega
theorem enough_of {u : Int} (G : Good0 l first s u) (hN : NoLate (sortS (jobsL u 0 l first)) u (runQ fx s u.toNat 0 (st0 u l first)).out) : Enough l first s u := by
  intro a b ha hab hbu
  have hu1 := G.u1
  have hu0 := G.u0
  have hW := G.work (fx := fx) b.toNat (by omega)
  rw [show ((b.toNat : Nat) : Int) = b by omega] at hW
  have hWa := G.work (fx := fx) a.toNat (by omega)
  rw [show ((a.toNat : Nat) : Int) = a by omega] at hWa
  have hCl := c_long (u := u) (first := first) G.ok
  have hcons := cons_run (l := l) (fx := fx) (s := s) (inW_same (l := l) a b) (n := b.toNat) (t := 0) (x := st0 u l first)
  have hfrom : From (sortS (jobsL u 0 l first)) (runQ fx s b.toNat 0 (st0 u l first)) := From.run ⟨fun y hy => hy, fun y hy => by cases hy⟩
  obtain ⟨e, he, hea⟩ := run_at (fx := fx) (s := s) (n := u.toNat - b.toNat) (t := b) (x := runQ fx s b.toNat 0 (st0 u l first))
  have hrun : runQ fx s u.toNat 0 (st0 u l first) = runQ fx s (u.toNat - b.toNat) b (runQ fx s b.toNat 0 (st0 u l first)) := by
    have e1 : u.toNat = b.toNat + (u.toNat - b.toNat) := by omega
    conv => lhs; rw [e1, runQ_add]
    rw [show (0 : Int) + (b.toNat : Int) = b by omega]
  rw [hrun, he] at hN
  -- who is due by then is done
  have gone : ∀ j ∈ sortS (jobsL u 0 l first), j.due ≤ b → ∃ d ∈ (runQ fx s b.toNat 0 (st0 u l first)).out, d.task = j.done.task ∧ d.job = j.done.job := fun j hj hjb => by
    obtain ⟨d, hd, h1, h2, h3⟩ := hN j hj (by omega)
    rcases List.mem_append.1 hd with hd | hd
    · exact ⟨d, hd, h1, h2⟩
    · have := hea d hd; omega
  have clash : ∀ (y : job), (y ∈ (runQ fx s b.toNat 0 (st0 u l first)).q ∨ y ∈ (runQ fx s b.toNat 0 (st0 u l first)).td) → (∃ d ∈ (runQ fx s b.toNat 0 (st0 u l first)).out, d.task = y.done.task ∧ d.job = y.done.job) → False := fun y hy ⟨d, hd, h1, h2⟩ => by
    obtain ⟨n, hn⟩ := hW.row y.done.task
    have hdm : d.job ∈ (ofD y.done.task (runQ fx s b.toNat 0 (st0 u l first)).out).map fun z => z.job := List.mem_map.2 ⟨d, List.mem_filter.2 ⟨hd, by simpa using h1⟩, rfl⟩
    rw [List.append_assoc] at hn
    have := rowI_lt (x := d.job) (y := y.done.job) hn hdm (by
      rcases hy with hy | hy
      · exact List.mem_append_left _ (mem_ofT hy rfl)
      · exact List.mem_append_right _ (mem_ofT hy rfl))
    omega
  have z1 : sumPJ l (inW l a b) (runQ fx s b.toNat 0 (st0 u l first)).q = 0 := sumPJ_zero fun y hy hp => by
    obtain ⟨j, hj, e1, e2⟩ := hfrom.2 y hy
    unfold inW at hp
    rw [Bool.and_eq_true, decide_eq_true_eq, decide_eq_true_eq] at hp
    have e3 : dueD l y.done = y.due := (hW.jq y hy).1.due.symm
    obtain ⟨d, hd, h1, h2⟩ := gone j hj (by omega)
    exact clash y (.inl hy) ⟨d, hd, by rw [h1, e1], by rw [h2, e1]⟩
  have z2 : sumPJ l (inW l a b) (runQ fx s b.toNat 0 (st0 u l first)).td = 0 := sumPJ_zero fun y hy hp => by
    unfold inW at hp
    rw [Bool.and_eq_true, decide_eq_true_eq, decide_eq_true_eq] at hp
    have e3 : dueD l y.done = y.due := (hW.jtd y hy).1.due.symm
    exact clash y (.inr hy) (gone y (hfrom.1 y hy) (by omega))
  have hearly : Early a (runQ fx s a.toNat 0 (st0 u l first)) := by
    have := Early.run (fx := fx) (s := s) (n := a.toNat) (t := 0) (x := st0 u l first) ⟨fun y hy => (by cases hy), fun d hd => (by cases hd)⟩
    rw [show (0 : Int) + (a.toNat : Int) = a by omega] at this
    exact this
  have hwk := wk_run (a := a) (fx := fx) G.R G.ok G.fst0 (n := b.toNat - a.toNat) (t := a) (x := runQ fx s a.toNat 0 (st0 u l first)) ha (by omega) hWa
  have hrun2 : runQ fx s b.toNat 0 (st0 u l first) = runQ fx s (b.toNat - a.toNat) a (runQ fx s a.toNat 0 (st0 u l first)) := by
    have e1 : b.toNat = a.toNat + (b.toNat - a.toNat) := by omega
    conv => lhs; rw [e1, runQ_add]
    rw [show (0 : Int) + (a.toNat : Int) = a by omega]
  rw [← hrun2, wkQ_zero hearly.1, wkD_zero hearly.2, show a + ((b.toNat - a.toNat : Nat) : Int) = b by omega] at hwk
  have h3 := sumP_wk (l := l) (a := a) (b := b) (d := (runQ fx s b.toNat 0 (st0 u l first)).out) fun d hd => by
    obtain ⟨b1, b2, _⟩ := hW.don d hd
    have h4 := okT_iff.1 (tk_get (show d.task.toNat < l.length by omega) G.ok)
    unfold longD; omega
  have h4 := wkQ_nonneg (l := l) (a := a) (q := (runQ fx s b.toNat 0 (st0 u l first)).q) fun y hy => (hW.jq y hy).2.2.1
  have h5 : sumP l (inW l a b) (st0 u l first).out + sumPJ l (inW l a b) (st0 u l first).q + sumPJ l (inW l a b) (st0 u l first).td = sumPJ l (inW l a b) (sortS (jobsL u 0 l first)) := by
    show (0 : Int) + 0 + _ = _
    rw [Int.zero_add, Int.zero_add]; rfl
  omega
theorem edf_best {u : Int} (G : Good0 l first s u) (hN : NoLate (sortS (jobsL u 0 l first)) u (runQ fx s u.toNat 0 (st0 u l first)).out) : NoLate (sortS (jobsL u 0 l first)) u (runQ false s u.toNat 0 (st0 u l first)).out := edf_ok G (enough_of G hN)

end Go.Proofs.Ytcnfdohlgmipoaa
