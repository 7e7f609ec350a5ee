/- How many are late: plain. -/
import Derived.Test.YtcnfdohlgmipoaaPlayE
set_option linter.all false
namespace Go.Proofs.Ytcnfdohlgmipoaa
open Go Go.Abs

theorem mget_put (k : List Int) (v : Int) : ∀ m : List (List Int × Int), mget k (mput k v m) = some v
  | [] => by simp [mput, mget]
  | (k', v') :: r => by
    rw [mput]
    split
    · rename_i h; subst h; simp [mget]
    · rename_i h; rw [mget, if_neg h]; exact mget_put k v r
theorem mget_other {k k' : List Int} (h : k ≠ k') (v : Int) : ∀ m : List (List Int × Int), mget k (mput k' v m) = mget k m
  | [] => by simp [mput, mget, h]
  | (k2, v2) :: r => by
    rw [mput]
    split
    · rename_i h2; subst h2; rw [mget, mget, if_neg h, if_neg h]
    · rw [mget, mget, mget_other h v r]
theorem stepM_le {m : List (List Int × Int)} {d : Done} {k : List Int} {n : Int} (h : mget k m = some n) : ∃ n', mget k (stepM m d) = some n' ∧ n' ≤ n := by
  unfold stepM
  split
  · rename_i hc
    by_cases hk : k = [d.task, d.job]
    · subst hk
      refine ⟨d.at_, mget_put _ _ _, ?_⟩
      rw [h] at hc
      simp at hc
      omega
    · exact ⟨n, by rw [mget_other hk]; exact h, Int.le_refl _⟩
  · exact ⟨n, h, Int.le_refl _⟩
theorem atM_le : ∀ {done : List Done} {m : List (List Int × Int)} {k : List Int} {n : Int}, mget k m = some n → ∃ n', mget k (atM m done) = some n' ∧ n' ≤ n
  | [], m, k, n, h => ⟨n, h, Int.le_refl _⟩
  | d :: r, m, k, n, h => by
    obtain ⟨n1, h1, h2⟩ := stepM_le (d := d) h
    obtain ⟨n2, h3, h4⟩ := atM_le (done := r) h1
    exact ⟨n2, h3, by omega⟩
theorem stepM_self {m : List (List Int × Int)} {d : Done} : ∃ n, mget [d.task, d.job] (stepM m d) = some n ∧ n ≤ d.at_ := by
  unfold stepM
  split
  · exact ⟨d.at_, mget_put _ _ _, Int.le_refl _⟩
  · rename_i hc
    cases hm : mget [d.task, d.job] m with
    | none => rw [hm] at hc; exact absurd (.inl rfl) hc
    | some n =>
      rw [hm] at hc
      refine ⟨n, rfl, ?_⟩
      have : ¬ d.at_ < n := fun h => hc (.inr h)
      omega
theorem atM_mem : ∀ {done : List Done} {m : List (List Int × Int)} {d : Done}, d ∈ done → ∃ n, mget [d.task, d.job] (atM m done) = some n ∧ n ≤ d.at_
  | [], m, d, h => by cases h
  | x :: r, m, d, h => by
    rcases List.mem_cons.1 h with rfl | h
    · obtain ⟨n1, h1, h2⟩ := stepM_self (m := m) (d := d)
      obtain ⟨n2, h3, h4⟩ := atM_le (done := r) h1
      exact ⟨n2, h3, by omega⟩
    · exact atM_mem (done := r) h
theorem atM_from : ∀ {done : List Done} {m : List (List Int × Int)} {k : List Int} {n : Int}, mget k (atM m done) = some n → mget k m = some n ∨ ∃ d ∈ done, [d.task, d.job] = k ∧ d.at_ = n
  | [], m, k, n, h => .inl h
  | x :: r, m, k, n, h => by
    rcases atM_from (done := r) h with h | ⟨d, hd, h1⟩
    · unfold stepM at h
      split at h
      · by_cases hk : k = [x.task, x.job]
        · subst hk
          rw [mget_put] at h
          cases h
          exact .inr ⟨x, List.mem_cons_self .., rfl, rfl⟩
        · rw [mget_other hk] at h; exact .inl h
      · exact .inl h
    · exact .inr ⟨d, List.mem_cons_of_mem _ hd, h1⟩
theorem late_no {done : List Done} {u : Int} {j : job} : lateB (atM [] done) u j = false ↔ (j.due ≤ u → ∃ d ∈ done, d.task = j.done.task ∧ d.job = j.done.job ∧ d.at_ ≤ j.due) := by
  unfold lateB
  constructor
  · intro h hu
    rw [decide_eq_true hu, Bool.true_and, Bool.or_eq_false_iff] at h
    cases hm : mget [j.done.task, j.done.job] (atM [] done) with
    | none => rw [hm] at h; exact Bool.noConfusion h.1
    | some n =>
      rw [hm] at h
      have h2 : ¬ j.due < n := of_decide_eq_false h.2
      rcases atM_from hm with h3 | ⟨d, hd, h3, h4⟩
      · cases h3
      · have h5 := List.cons.inj h3
        have h6 := List.cons.inj h5.2
        exact ⟨d, hd, h5.1, h6.1, by omega⟩
  · intro h
    by_cases hu : j.due ≤ u
    · obtain ⟨d, hd, h1, h2, h3⟩ := h hu
      obtain ⟨n, h4, h5⟩ := atM_mem (m := []) hd
      rw [h1, h2] at h4
      rw [h4, decide_eq_true hu, Bool.true_and, Bool.or_eq_false_iff]
      exact ⟨rfl, decide_eq_false (by show ¬ j.due < n; omega)⟩
    · rw [decide_eq_false hu]; rfl
theorem lates_nil {done : List Done} {u : Int} {all : List job} : latesL (atM [] done) u all = [] ↔ NoLate all u done := by
  unfold latesL NoLate
  rw [List.map_eq_nil_iff, List.filter_eq_nil_iff]
  constructor
  · intro h j hj
    exact late_no.1 (by simpa using h j hj)
  · intro h j hj hb
    rw [late_no.2 (h j hj)] at hb
    cases hb
variable {fx : Bool} {s : Set}
theorem len_step {t : Int} {x : QS} : (stepQ fx s t x).out.length + (stepQ fx s t x).q.length + (stepQ fx s t x).td.length = x.out.length + x.q.length + x.td.length := by
  have hpull : ∀ (td q : List job), (pullQ fx t td q).2.length + (pullQ fx t td q).1.length = q.length + td.length := by
    intro td
    induction td with
    | nil => intro q; rfl
    | cons y r ih =>
      intro q
      rw [pullQ]
      split
      · rw [ih, insQ_perm.length_eq]; simp only [List.length_cons]; omega
      · rfl
  have h1 := hpull x.td x.q
  unfold stepQ tickQ
  dsimp only
  revert h1
  generalize (pullQ fx t x.td x.q).1 = td
  generalize (pullQ fx t x.td x.q).2 = q
  intro h1
  split
  · cases q with
    | nil => dsimp only; omega
    | cons j r =>
      dsimp only
      rw [List.length_cons] at h1
      split
      · dsimp only
        rw [List.length_append, List.length_singleton]; omega
      · dsimp only
        rw [List.length_cons]; omega
  · dsimp only; omega
theorem len_run : ∀ {n : Nat} {t : Int} {x : QS}, (runQ fx s n t x).out.length + (runQ fx s n t x).q.length + (runQ fx s n t x).td.length = x.out.length + x.q.length + x.td.length
  | 0, t, x => rfl
  | n + 1, t, x => by rw [runQ, len_run, len_step]
theorem play_len3 {l : List Task} {s : Set} {first : List Int} {policy u : Int} : (playJ l s first policy u).1.length ≤ 2000 := by
  by_cases h : (playJ l s first policy u).2.2 = 0
  · obtain ⟨_, _, _, _, _, a6, e1⟩ := playJ_ok h
    rw [e1]
    have := len_run (fx := decide (policy = 2)) (s := s) (n := u.toNat) (t := 0) (x := ⟨sortS (jobsL u 0 l first), [], [], 0⟩)
    dsimp only at this ⊢
    rw [sortS_len] at this
    simp only [List.length_nil] at this
    omega
  · rw [play_err h]; exact Nat.zero_le _
def lateV (l : List Task) (s : Set) (first : List Int) (policy u : Int) : Int × Bool := (((latesV l first (playJ l s first policy u).1 u).1.length : Nat), decide ((playJ l s first policy u).2.2 = 0) && decide ((latesV l first (playJ l s first policy u).1 u).2 = 0))
theorem good0_of {l : List Task} {s : Set} {first : List Int} {policy u : Int} (h : (playJ l s first policy u).2.2 = 0) : Good0 l first s u := by
  obtain ⟨⟨_, a1⟩, a2, a3, _, a5, _, _⟩ := playJ_ok h
  have hf := firsts_iff'.1 a3
  exact ⟨a1, check_iff.1 a2, hf.1, hf.2, a5.1, a5.2⟩
theorem late_ok {l : List Task} {s : Set} {first : List Int} {policy u : Int} (h : (playJ l s first policy u).2.2 = 0) : (lateV l s first policy u).2 = true ∧
    ((lateV l s first policy u).1 = 0 ↔ NoLate (sortS (jobsL u 0 l first)) u (runQ (decide (policy = 2)) s u.toNat 0 (st0 u l first)).out) := by
  obtain ⟨⟨a0, a1⟩, a2, a3, a4, a5, a6, e1⟩ := playJ_ok h
  have hlen := play_len3 (l := l) (s := s) (first := first) (policy := policy) (u := u)
  have e2 : jobsV l first u = (jobsL u 0 l first, 0) := by unfold jobsV; rw [if_pos a6]
  have e3 : latesV l first (playJ l s first policy u).1 u = (latesL (atM [] (playJ l s first policy u).1) u (jobsL u 0 l first), 0) := by
    rw [latesV, if_neg (fun q => q (tchk_iff.2 ⟨a0, a1⟩)), if_neg (fun q => q a3), if_neg (by omega), e2, if_neg (fun q => q rfl), if_neg (by omega)]
  unfold lateV
  rw [e3]
  dsimp only
  refine ⟨by rw [h]; rfl, ?_⟩
  have e4 : ((latesL (atM [] (playJ l s first policy u).1) u (jobsL u 0 l first)).length : Int) = 0 ↔ latesL (atM [] (playJ l s first policy u).1) u (jobsL u 0 l first) = [] := by
    rw [← List.length_eq_zero_iff]; omega
  rw [e4, lates_nil, e1]
  have e5 : ∀ out, NoLate (jobsL u 0 l first) u out ↔ NoLate (sortS (jobsL u 0 l first)) u out := fun out =>
    ⟨fun q j hj => q j ((sortS_perm _).mem_iff.1 hj), fun q j hj => q j ((sortS_perm _).mem_iff.2 hj)⟩
  exact e5 _
theorem late_err {l : List Task} {s : Set} {first : List Int} {policy u : Int} (h : ¬ (playJ l s first policy u).2.2 = 0) : (lateV l s first policy u).2 = false := by
  unfold lateV
  rw [decide_eq_false h]; rfl
theorem play_pol {l : List Task} {s : Set} {first : List Int} {u p p' : Int} (hp : p' = 1 ∨ p' = 2) (h1 : (playJ l s first p u).2.2 = 0) : (playJ l s first p' u).2.2 = 0 := by
  obtain ⟨a1, a2, a3, a4, a5, a6, _⟩ := playJ_ok h1
  have e2 : (jobsV l first u).2 = 0 := by unfold jobsV; rw [if_pos a6]
  unfold playJ
  rw [if_neg (fun q => q (tchk_iff.2 a1)), if_neg (fun q => q a2), if_neg (fun q => q a3), if_neg (by omega), if_neg (fun q => q e2)]
theorem late_best {l : List Task} {s : Set} {first : List Int} {u : Int} : (lateV l s first 2 u).2 = (lateV l s first 1 u).2 ∧ ((lateV l s first 2 u).2 = true → (lateV l s first 2 u).1 = 0 → (lateV l s first 1 u).1 = 0) := by
  by_cases h : (playJ l s first 2 u).2.2 = 0
  · have h1 : (playJ l s first 1 u).2.2 = 0 := play_pol (.inl rfl) h
    obtain ⟨a1, a2⟩ := late_ok h
    obtain ⟨b1, b2⟩ := late_ok h1
    refine ⟨a1.trans b1.symm, fun _ h0 => b2.2 ?_⟩
    exact edf_best (good0_of h) (a2.1 h0)
  · have h1 : ¬ (playJ l s first 1 u).2.2 = 0 := fun q => h (play_pol (.inr rfl) q)
    have e := late_err h
    exact ⟨e.trans (late_err h1).symm, fun q => by rw [e] at q; cases q⟩
theorem lateV_nonneg {l : List Task} {s : Set} {first : List Int} {policy u : Int} : 0 ≤ (lateV l s first policy u).1 := Int.natCast_nonneg _

end Go.Proofs.Ytcnfdohlgmipoaa
