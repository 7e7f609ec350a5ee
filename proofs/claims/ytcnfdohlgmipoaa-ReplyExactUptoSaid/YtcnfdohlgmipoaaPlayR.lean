/- Plays: plain laws of what is done by some time, and of what stands behind. -/
import Derived.Test.YtcnfdohlgmipoaaPlayH
set_option linter.all false
namespace Go.Proofs.Ytcnfdohlgmipoaa
open Go Go.Abs

structure QS where
  td : List job
  q : List job
  out : List Done
  idle : Int
def stepQ (fx : Bool) (s : Set) (t : Int) (x : QS) : QS :=
  ⟨(pullQ fx t x.td x.q).1, (tickQ s t ((pullQ fx t x.td x.q).2, x.out, x.idle)).1, (tickQ s t ((pullQ fx t x.td x.q).2, x.out, x.idle)).2.1, (tickQ s t ((pullQ fx t x.td x.q).2, x.out, x.idle)).2.2⟩
def runQ (fx : Bool) (s : Set) : Nat → Int → QS → QS
  | 0, _, x => x
  | n + 1, t, x => runQ fx s n (t + 1) (stepQ fx s t x)
theorem runQ_eq {fx : Bool} {s : Set} : ∀ {n : Nat} {t : Int} {x : QS}, playR fx s n t x.td (x.q, x.out, x.idle) = ((runQ fx s n t x).out, (runQ fx s n t x).idle)
  | 0, t, x => rfl
  | n + 1, t, x => by
    rw [playR, runQ, ← runQ_eq]
    rfl
theorem runQ_add {fx : Bool} {s : Set} : ∀ {a b : Nat} {t : Int} {x : QS}, runQ fx s (a + b) t x = runQ fx s b (t + a) (runQ fx s a t x)
  | 0, b, t, x => by simp [runQ]
  | a + 1, b, t, x => by
    rw [show a + 1 + b = (a + b) + 1 by omega, runQ, runQ, runQ_add]
    congr 1
    omega
theorem stepQ_ext {fx : Bool} {s : Set} {t : Int} {x : QS} : (∃ e, (stepQ fx s t x).out = x.out ++ e) ∧ x.idle ≤ (stepQ fx s t x).idle := by
  unfold stepQ tickQ
  dsimp only
  split
  · split
    · exact ⟨⟨[], by simp⟩, by show x.idle ≤ x.idle + 1; omega⟩
    · split
      · exact ⟨⟨_, rfl⟩, Int.le_refl _⟩
      · exact ⟨⟨[], by simp⟩, Int.le_refl _⟩
  · exact ⟨⟨[], by simp⟩, Int.le_refl _⟩
theorem runQ_ext {fx : Bool} {s : Set} : ∀ {n : Nat} {t : Int} {x : QS}, (∃ e, (runQ fx s n t x).out = x.out ++ e) ∧ x.idle ≤ (runQ fx s n t x).idle
  | 0, t, x => ⟨⟨[], by simp [runQ]⟩, Int.le_refl _⟩
  | n + 1, t, x => by
    obtain ⟨⟨e, h1⟩, h2⟩ := stepQ_ext (fx := fx) (s := s) (t := t) (x := x)
    obtain ⟨⟨e', h3⟩, h4⟩ := runQ_ext (fx := fx) (s := s) (n := n) (t := t + 1) (x := stepQ fx s t x)
    rw [runQ]
    exact ⟨⟨e ++ e', by rw [h3, h1, List.append_assoc]⟩, by omega⟩
theorem pull_far {fx : Bool} {t : Int} : ∀ {td q R : List job}, (∀ r ∈ R, t < r.done.came) → pullQ fx t (td ++ R) q = ((pullQ fx t td q).1 ++ R, (pullQ fx t td q).2)
  | [], q, [], _ => rfl
  | [], q, r :: R, h => by
    have e : pullQ fx t (r :: R) q = (r :: R, q) := by rw [pullQ, if_neg (by have := h r (List.mem_cons_self ..); omega)]
    exact e
  | x :: td, q, R, h => by
    show pullQ fx t (x :: (td ++ R)) q = _
    rw [pullQ, pullQ]
    split
    · exact pull_far h
    · rfl
theorem runQ_far {fx : Bool} {s : Set} {R : List job} : ∀ {n : Nat} {t : Int} {x : QS}, (∀ r ∈ R, t + n ≤ r.done.came) → runQ fx s n t ⟨x.td ++ R, x.q, x.out, x.idle⟩ = ⟨(runQ fx s n t x).td ++ R, (runQ fx s n t x).q, (runQ fx s n t x).out, (runQ fx s n t x).idle⟩
  | 0, t, x, _ => rfl
  | n + 1, t, x, h => by
    rw [runQ, runQ, ← runQ_far (fun r hr => by have := h r hr; omega)]
    congr 1
    unfold stepQ
    dsimp only
    rw [pull_far (fun r hr => by have := h r hr; omega)]
/- Which jobs come. -/
theorem jobsF_cut {i : Int} {t : Task} (he : 1 ≤ t.every) {b c : Int} (hbc : b ≤ c) : ∀ {f : Nat} {k a : Int}, (c - a).toNat ≤ f → jobsN i t b k a = (jobsN i t c k a).filter fun x => decide (x.done.came < b)
  | 0, k, a, h => by rw [jobsN_ge (by omega), jobsN_ge (by omega)]; rfl
  | f + 1, k, a, h => by
    by_cases h1 : a < b
    · rw [jobsN_lt (b := b) he h1, jobsN_lt (b := c) he (show a < c by omega), List.filter_cons, if_pos (by simpa using h1), ← jobsF_cut (f := f) he hbc (by omega)]
    · rw [jobsN_ge h1]
      symm
      rw [List.filter_eq_nil_iff]
      have : ∀ (g : Nat) (k a : Int), ¬ a < b → ∀ y ∈ jobsF i t c g k a, ¬ y.done.came < b := by
        intro g
        induction g with
        | zero => intro k a _ y hy; cases hy
        | succ g ih =>
          intro k a ha y hy
          rw [jobsF] at hy
          split at hy
          · rcases List.mem_cons.1 hy with rfl | hy
            · exact ha
            · exact ih _ _ (by omega) y hy
          · cases hy
      intro y hy
      simpa using this _ _ _ h1 y hy
theorem jobsL_cut {b c : Int} (hbc : b ≤ c) : ∀ {l : List Task} {first : List Int} {i : Nat}, l.all okT = true → jobsL b i l first = (jobsL c i l first).filter fun x => decide (x.done.came < b)
  | [], _, i, _ => by simp [jobsL]
  | t :: l, [], i, _ => by simp [jobsL]
  | t :: l, n :: r, i, h => by
    rw [List.all_cons, Bool.and_eq_true] at h
    rw [jobsL, jobsL, List.filter_append, ← jobsL_cut hbc h.2, ← jobsF_cut (okT_iff.1 h.1).1 hbc (Nat.le_refl _)]
theorem sortS_filter (p : job → Bool) (l : List job) : sortS (l.filter p) = (sortS l).filter p := by
  refine sortS_uniq ((sortS_srt l).sublist List.filter_sublist) fun c => ?_
  have h := sortS_flt c l
  unfold fltJ at *
  rw [List.filter_filter, List.filter_filter]
  have e : ∀ m : List job, (m.filter fun a => decide (a.done.came = c) && p a) = (m.filter fun x => decide (x.done.came = c)).filter p := fun m => by
    rw [List.filter_filter]; congr 1; funext a; exact Bool.and_comm _ _
  rw [e, e, h]
theorem srt_cut {b : Int} : ∀ {l : List job}, SrtJ l → l = (l.filter fun x => decide (x.done.came < b)) ++ l.filter fun x => !decide (x.done.came < b)
  | [], _ => rfl
  | x :: l, h => by
    have h2 := List.pairwise_cons.1 h
    by_cases hx : x.done.came < b
    · rw [List.filter_cons, if_pos (by simpa using hx), List.filter_cons, if_neg (by simpa using hx), List.cons_append, ← srt_cut h2.2]
    · have e1 : l.filter (fun x => decide (x.done.came < b)) = [] := List.filter_eq_nil_iff.2 fun y hy => by have := h2.1 y hy; simp; omega
      have e2 : l.filter (fun x => !decide (x.done.came < b)) = l := List.filter_eq_self.2 fun y hy => by have := h2.1 y hy; simp; omega
      rw [List.filter_cons, if_neg (by simpa using hx), List.filter_cons, if_pos (by simpa using hx), e1, e2]
      rfl
theorem playJ_ok {l : List Task} {s : Set} {first : List Int} {policy u : Int} (h : (playJ l s first policy u).2.2 = 0) : (l.length ≤ 16 ∧ l.all okT = true) ∧ checkV s = 0 ∧ firstsV l first = 0 ∧ (policy = 1 ∨ policy = 2) ∧ (0 ≤ u ∧ u ≤ 20000) ∧ (jobsL u 0 l first).length ≤ 2000 ∧
    playJ l s first policy u = ((runQ (decide (policy = 2)) s u.toNat 0 ⟨sortS (jobsL u 0 l first), [], [], 0⟩).out, (runQ (decide (policy = 2)) s u.toNat 0 ⟨sortS (jobsL u 0 l first), [], [], 0⟩).idle, 0) := by
  unfold playJ at h ⊢
  by_cases h1 : tchkV l = 0
  · rw [if_neg (fun q => q h1)] at h ⊢
    by_cases h2 : checkV s = 0
    · rw [if_neg (fun q => q h2)] at h ⊢
      by_cases h3 : firstsV l first = 0
      · rw [if_neg (fun q => q h3)] at h ⊢
        by_cases h4 : (¬ policy = 1 ∧ ¬ policy = 2) ∨ u < 0 ∨ 20000 < u
        · rw [if_pos h4] at h; cases h
        · rw [if_neg h4] at h ⊢
          by_cases h5 : (jobsV l first u).2 = 0
          · rw [if_neg (fun q => q h5)]
            have h6 : (jobsL u 0 l first).length ≤ 2000 := by
              unfold jobsV at h5
              split at h5
              · assumption
              · cases h5
            have h7 : (jobsV l first u).1 = jobsL u 0 l first := by unfold jobsV; rw [if_pos h6]
            refine ⟨tchk_iff.1 h1, h2, h3, by omega, by omega, h6, ?_⟩
            rw [h7]
            have := runQ_eq (fx := decide (policy = 2)) (s := s) (n := u.toNat) (t := 0) (x := ⟨sortS (jobsL u 0 l first), [], [], 0⟩)
            dsimp only at this
            rw [this]
          · rw [if_pos h5] at h
            exact absurd h h5
      · rw [if_pos h3] at h; exact absurd h h3
    · rw [if_pos h2] at h; exact absurd h h2
  · rw [if_pos h1] at h; exact absurd h h1
theorem play_err {l : List Task} {s : Set} {first : List Int} {policy u : Int} (h : ¬ (playJ l s first policy u).2.2 = 0) : (playJ l s first policy u).1 = [] := by
  unfold playJ at h ⊢
  repeat' split at h
  all_goals first
    | (split <;> rfl)
    | skip
  all_goals first
    | rfl
    | (exfalso; exact h rfl)
    | (repeat' split
       all_goals first
         | rfl
         | (exfalso; exact h rfl)
         | (exfalso; simp_all; done))
theorem play_on {l : List Task} {s : Set} {first : List Int} {policy u v : Int} (h1 : (playJ l s first policy u).2.2 = 0) (h2 : (playJ l s first policy v).2.2 = 0) (huv : u ≤ v) :
    (playJ l s first policy u).1.length ≤ (playJ l s first policy v).1.length ∧ (playJ l s first policy v).1.take (playJ l s first policy u).1.length = (playJ l s first policy u).1 ∧ (playJ l s first policy u).2.1 ≤ (playJ l s first policy v).2.1 := by
  obtain ⟨⟨_, a1⟩, _, _, _, a5, _, e1⟩ := playJ_ok h1
  obtain ⟨_, _, _, _, b5, _, e2⟩ := playJ_ok h2
  rw [e1, e2]
  dsimp only
  have es : sortS (jobsL v 0 l first) = sortS (jobsL u 0 l first) ++ (sortS (jobsL v 0 l first)).filter fun x => !decide (x.done.came < u) := by
    rw [jobsL_cut huv a1, sortS_filter]
    exact srt_cut (sortS_srt _)
  have hR : ∀ r ∈ (sortS (jobsL v 0 l first)).filter (fun x => !decide (x.done.came < u)), (0 : Int) + u.toNat ≤ r.done.came := fun r hr => by
    have := (List.mem_filter.1 hr).2
    simp at this
    omega
  have hv : v.toNat = u.toNat + (v.toNat - u.toNat) := by omega
  rw [hv, es, runQ_add]
  have := runQ_far (fx := decide (policy = 2)) (s := s) (n := u.toNat) (t := 0) (x := ⟨sortS (jobsL u 0 l first), [], [], 0⟩) hR
  dsimp only at this
  rw [this]
  generalize runQ (decide (policy = 2)) s u.toNat 0 ⟨sortS (jobsL u 0 l first), [], [], 0⟩ = x
  obtain ⟨⟨e, h3⟩, h4⟩ := runQ_ext (fx := decide (policy = 2)) (s := s) (n := v.toNat - u.toNat) (t := 0 + (u.toNat : Int)) (x := ⟨x.td ++ (sortS (jobsL v 0 l first)).filter (fun x => !decide (x.done.came < u)), x.q, x.out, x.idle⟩)
  rw [h3]
  exact ⟨by simp, by simp, h4⟩
/- Who is apart. -/
theorem jobsF_mem {i : Int} {t : Task} {b : Int} : ∀ {g : Nat} {k a : Int}, ∀ y ∈ jobsF i t b g k a, y.done.task = i ∧ k ≤ y.done.job ∧ y.done.came = a + (y.done.job - k) * t.every ∧ y.due = y.done.came + t.due ∧ y.left = t.long ∧ y.done.came < b ∧ y.done.at_ = 0
  | 0, k, a, y, hy => by cases hy
  | g + 1, k, a, y, hy => by
    rw [jobsF] at hy
    split at hy
    · rename_i hab
      rcases List.mem_cons.1 hy with rfl | hy
      · exact ⟨rfl, Int.le_refl _, by dsimp only; rw [Int.sub_self, Int.zero_mul, Int.add_zero], rfl, rfl, hab, rfl⟩
      · obtain ⟨h1, h2, h3, h4⟩ := jobsF_mem y hy
        refine ⟨h1, by omega, ?_, h4⟩
        rw [h3, show y.done.job - k = (y.done.job - (k + 1)) + 1 by omega, Int.add_mul, Int.one_mul]
        omega
    · cases hy
theorem jobsF_apart {i : Int} {t : Task} {b : Int} : ∀ {g : Nat} {k a : Int}, (jobsF i t b g k a).Pairwise fun x y => x.done.job < y.done.job
  | 0, k, a => List.Pairwise.nil
  | g + 1, k, a => by
    rw [jobsF]
    split
    · refine List.pairwise_cons.2 ⟨fun y hy => ?_, jobsF_apart⟩
      have := (jobsF_mem y hy).2.1
      show k < _
      omega
    · exact List.Pairwise.nil
theorem jobsL_mem {b : Int} : ∀ {l : List Task} {first : List Int} {i : Nat} {y : job}, y ∈ jobsL b i l first → (i : Int) ≤ y.done.task ∧ y.done.task < i + l.length ∧ y ∈ jobsN y.done.task (l.getD (y.done.task.toNat - i) Dat.d0) b 0 (first.getD (y.done.task.toNat - i) Dat.d0)
  | [], _, i, y, h => by simp [jobsL] at h
  | t :: l, [], i, y, h => by simp [jobsL] at h
  | t :: l, n :: r, i, y, h => by
    rw [jobsL] at h
    rcases List.mem_append.1 h with h | h
    · have h1 := (jobsF_mem y h).1
      have e : y.done.task.toNat - i = 0 := by omega
      rw [e]
      refine ⟨by omega, by simp only [List.length_cons]; omega, ?_⟩
      rw [h1]; exact h
    · obtain ⟨h1, h2, h3⟩ := jobsL_mem h
      refine ⟨by omega, by simp only [List.length_cons]; omega, ?_⟩
      have e : y.done.task.toNat - i = (y.done.task.toNat - (i + 1)) + 1 := by omega
      rw [e]
      exact h3
theorem jobsL_apart {b : Int} : ∀ {l : List Task} {first : List Int} {i : Nat}, (jobsL b i l first).Pairwise apart
  | [], _, i => by simp [jobsL]
  | t :: l, [], i => by simp [jobsL]
  | t :: l, n :: r, i => by
    rw [jobsL, List.pairwise_append]
    refine ⟨jobsF_apart.imp fun h => .inr (by omega), jobsL_apart, fun x hx y hy => .inl ?_⟩
    have h1 := (jobsF_mem x hx).1
    have h2 := (jobsL_mem hy).1
    omega
theorem insS_perm {x : job} : ∀ {l : List job}, (insS x l).Perm (x :: l)
  | [] => List.Perm.refl _
  | y :: r => by
    rw [insS]
    split
    · exact List.Perm.refl _
    · exact ((insS_perm (l := r)).cons y).trans (List.Perm.swap x y r)
theorem sortJ_perm : ∀ {l acc : List job}, (sortJ acc l).Perm (acc ++ l)
  | [], acc => by rw [sortJ, List.append_nil]
  | x :: r, acc => by
    rw [sortJ]
    refine (sortJ_perm (l := r) (acc := insS x acc)).trans ?_
    exact (insS_perm.append_right r).trans (List.perm_middle.symm)
theorem sortS_perm (l : List job) : (sortS l).Perm l := sortJ_perm
theorem sortS_apart {b : Int} {l : List Task} {first : List Int} : Aprt (sortS (jobsL b 0 l first)) [] := by
  unfold Aprt
  rw [List.append_nil]
  exact ((sortS_perm _).pairwise_iff fun h => apart_sym h).2 jobsL_apart
structure Fit (fx : Bool) (td q : List job) : Prop where
  ap : Aprt td q
  srt : q.Pairwise (keyLt fx)
theorem Fit.pull {fx : Bool} {t : Int} : ∀ {td q : List job}, Fit fx td q → Fit fx (pullQ fx t td q).1 (pullQ fx t td q).2
  | [], q, h => h
  | x :: r, q, h => by
    have h2 := List.pairwise_cons.1 h.ap
    rw [pullQ]
    split
    · refine Fit.pull ⟨?_, insQ_srt (fun y hy => h2.1 y (List.mem_append_right _ hy)) h.srt⟩
      have hp : (r ++ insQ fx x q).Perm (x :: r ++ q) := ((insQ_perm (fx := fx) (x := x) (q := q)).append_left r).trans List.perm_middle
      exact (hp.pairwise_iff fun h => apart_sym h).2 h.ap
    · exact h
theorem Fit.same {fx : Bool} {td r : List job} {j : job} {n : Int} (h : Fit fx td (j :: r)) : Fit fx td (⟨j.done, j.due, n⟩ :: r) := by
  have h1 := h.ap
  unfold Aprt at h1
  rw [List.pairwise_append] at h1
  obtain ⟨b1, b2, b3⟩ := h1
  have b2 := List.pairwise_cons.1 b2
  have b4 := List.pairwise_cons.1 h.srt
  refine ⟨?_, List.pairwise_cons.2 ⟨fun y hy => b4.1 y hy, b4.2⟩⟩
  unfold Aprt
  rw [List.pairwise_append]
  refine ⟨b1, List.pairwise_cons.2 ⟨fun y hy => b2.1 y hy, b2.2⟩, fun x hx y hy => ?_⟩
  rcases List.mem_cons.1 hy with rfl | hy
  · exact b3 x hx j (List.mem_cons_self ..)
  · exact b3 x hx y (List.mem_cons_of_mem _ hy)
theorem Fit.tail {fx : Bool} {td r : List job} {j : job} (h : Fit fx td (j :: r)) : Fit fx td r := ⟨h.ap.sublist (List.Sublist.append_left (List.sublist_cons_self j r) td), (List.pairwise_cons.1 h.srt).2⟩
theorem Fit.step {fx : Bool} {s : Set} {t : Int} {x : QS} (h : Fit fx x.td x.q) : Fit fx (stepQ fx s t x).td (stepQ fx s t x).q := by
  have h1 := h.pull (t := t)
  unfold stepQ tickQ
  dsimp only
  revert h1
  generalize (pullQ fx t x.td x.q).1 = td
  generalize (pullQ fx t x.td x.q).2 = q
  intro h1
  split
  · split
    · exact h1
    · split
      · exact h1.tail
      · exact h1.same
  · exact h1

end Go.Proofs.Ytcnfdohlgmipoaa
