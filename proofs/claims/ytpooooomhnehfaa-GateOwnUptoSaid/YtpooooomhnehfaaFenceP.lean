/- The program's functions, walked: FenceP. -/
import Derived.Test.YtpooooomhnehfaaFence
set_option linter.all false
namespace Go.Proofs.Ytpooooomhnehfaa
open Go Go.Abs
/- The plain laws of fences. -/
def runF (fs : List Fence) : List Try → List Fence
  | [] => fs
  | t :: r => runF (stepF fs t) r
def runB (fs : List Fence) : List Try → List Bool
  | [] => []
  | t :: r => stepB fs t :: runB (stepF fs t) r
theorem stepF_len {fs : List Fence} {t : Try} : (stepF fs t).length = fs.length := by unfold stepF; split <;> simp
theorem valid_iff {n : Int} {t : Try} : valid n t = true ↔ (t.kind = 1 ∨ t.kind = 2) ∧ 0 ≤ t.fence ∧ t.fence < n ∧ whoB t.who = true ∧ epB t.epoch = true := by
  simp only [valid, Bool.and_eq_true, Bool.or_eq_true, beq_iff_eq, decide_eq_true_eq, and_assoc]
theorem runF_len : ∀ {l : List Try} {fs : List Fence}, (runF fs l).length = fs.length
  | [], _ => rfl
  | _ :: r, _ => by rw [runF, runF_len (l := r), stepF_len]
theorem runB_len : ∀ {l : List Try} {fs : List Fence}, (runB fs l).length = l.length
  | [], _ => rfl
  | _ :: r, _ => by rw [runB, List.length_cons, runB_len (l := r), List.length_cons]
theorem runF_app : ∀ {l m : List Try} {fs : List Fence}, runF fs (l ++ m) = runF (runF fs l) m
  | [], _, _ => rfl
  | _ :: r, m, _ => by rw [List.cons_append, runF, runF_app (l := r), runF]
theorem runB_app : ∀ {l m : List Try} {fs : List Fence}, runB fs (l ++ m) = runB fs l ++ runB (runF fs l) m
  | [], _, _ => rfl
  | _ :: r, m, _ => by rw [List.cons_append, runB, runB_app (l := r), runB, runF, List.cons_append]
theorem playL_eq {n : Int} : ∀ {l : List Try} {fs : List Fence} {out : List Bool}, (playL n l fs out).2.2 = 0 → (∀ t ∈ l, valid n t = true) ∧ playL n l fs out = (runF fs l, out ++ runB fs l, 0)
  | [], fs, out, _ => ⟨by simp, by simp [playL, runF, runB]⟩
  | t :: r, fs, out, h => by
    rw [playL] at h
    split at h
    · rename_i hv
      obtain ⟨h1, h2⟩ := playL_eq h
      exact ⟨by intro x hx; rcases List.mem_cons.1 hx with rfl | hx; exact hv; exact h1 x hx, by rw [playL, if_pos hv, h2, runF, runB]; simp⟩
    · cases h
theorem playL_of {n : Int} : ∀ {l : List Try} {fs : List Fence} {out : List Bool}, (∀ t ∈ l, valid n t = true) → playL n l fs out = (runF fs l, out ++ runB fs l, 0)
  | [], fs, out, _ => by simp [playL, runF, runB]
  | t :: r, fs, out, h => by
    rw [playL, if_pos (h t (by simp)), playL_of fun x hx => h x (by simp [hx]), runF, runB]; simp
abbrev fs0 (n : Int) : List Fence := List.replicate n.toNat ⟨0, 0⟩
theorem playV_ok {n : Int} {l : List Try} {r : List Fence × List Bool × Int} (h : r = playV n l) (h0 : r.2.2 = 0) :
    0 ≤ n ∧ n ≤ 8 ∧ l.length ≤ 500 ∧ (∀ t ∈ l, valid n t = true) ∧ r.1 = runF (fs0 n) l ∧ r.2.1 = runB (fs0 n) l ∧ r.1.length = n ∧ r.2.1.length = l.length := by
  rw [playV] at h
  split at h
  · subst h; cases h0
  · split at h
    · subst h; cases h0
    · rename_i h1 h2
      have h3 := h0
      rw [h] at h3
      obtain ⟨h4, h5⟩ := playL_eq h3
      rw [h5] at h
      subst h
      refine ⟨by omega, by omega, by omega, h4, rfl, by simp, ?_, by simp [runB_len]⟩
      dsimp only
      rw [runF_len, List.length_replicate]
      omega
theorem playV_of {n : Int} {l : List Try} (h0 : 0 ≤ n) (h1 : n ≤ 8) (h2 : l.length ≤ 500) (hv : ∀ t ∈ l, valid n t = true) : playV n l = (runF (fs0 n) l, runB (fs0 n) l, 0) := by
  rw [playV, if_neg (by omega), if_neg (by omega), playL_of hv]; simp

theorem may0 {f : Fence} {w n : Int} (h : chB f = true) (hw : whoB w = true) (hn : epB n = true) : mayV f w n = 0 := by simp [mayV, h, hw, hn]
def okF (fs : List Fence) : Prop := ∀ i, chB (fs.getD i Dat.d0) = true
theorem okF0 (n : Int) : okF (fs0 n) := fun i => by
  by_cases h : i < n.toNat
  · simp [h, chB]
  · simp [h]; rfl
/-- What a step makes of a fence. -/
theorem step_at {n : Int} {fs : List Fence} {t : Try} (hv : valid n t = true) (ho : okF fs) (i : Nat) :
    (stepF fs t).getD i Dat.d0 = if t.kind = 1 ∧ t.fence = (i : Int) ∧ i < fs.length ∧ (fs.getD i Dat.d0).epoch < t.epoch then ⟨t.epoch, t.who⟩ else fs.getD i Dat.d0 := by
  obtain ⟨h1, h2, h3, h4, h5⟩ := valid_iff.1 hv
  unfold stepF
  by_cases hk : t.kind = 1
  · rw [if_pos hk]
    by_cases hi : i < fs.length
    · rw [gd_set _ _ _ _ _ hi]
      by_cases he : i = t.fence.toNat
      · have h0 := may0 (ho t.fence.toNat) h4 h5
        subst he
        simp only [decide_true, cond_true, claimS, h0, if_true]
        by_cases hlt : (fs.getD t.fence.toNat Dat.d0).epoch < t.epoch
        · rw [if_pos hlt, if_pos ⟨hk, by omega, hi, hlt⟩]
        · rw [if_neg hlt, if_neg fun h => hlt h.2.2.2]
      · rw [if_neg (fun h => he (by omega))]
        simp [he]
    · rw [if_neg fun h => hi h.2.2.1]
      simp [hi]
  · rw [if_neg hk, if_neg fun h => hk h.1]
theorem step_ok {n : Int} {fs : List Fence} {t : Try} (hv : valid n t = true) (ho : okF fs) : okF (stepF fs t) := fun i => by
  rw [step_at hv ho]
  obtain ⟨h1, h2, h3, h4, h5⟩ := valid_iff.1 hv
  split
  · simp [chB, h4, h5]
  · exact ho i
theorem run_ok {n : Int} : ∀ {l : List Try} {fs : List Fence}, (∀ t ∈ l, valid n t = true) → okF fs → okF (runF fs l)
  | [], _, _, ho => ho
  | t :: r, fs, hv, ho => run_ok (l := r) (fun x hx => hv x (by simp [hx])) (step_ok (hv t (by simp)) ho)
theorem step_mono {n : Int} {fs : List Fence} {t : Try} (hv : valid n t = true) (ho : okF fs) (i : Nat) :
    (fs.getD i Dat.d0).epoch ≤ ((stepF fs t).getD i Dat.d0).epoch ∧ ((fs.getD i Dat.d0).epoch = ((stepF fs t).getD i Dat.d0).epoch → fs.getD i Dat.d0 = (stepF fs t).getD i Dat.d0) := by
  rw [step_at hv ho]
  split
  · rename_i h
    refine ⟨by have := h.2.2.2; dsimp only; omega, fun h' => ?_⟩
    have := h.2.2.2
    dsimp only at h'
    omega
  · exact ⟨Int.le_refl _, fun _ => rfl⟩
theorem run_mono {n : Int} : ∀ {l : List Try} {fs : List Fence}, (∀ t ∈ l, valid n t = true) → okF fs → ∀ i : Nat,
    (fs.getD i Dat.d0).epoch ≤ ((runF fs l).getD i Dat.d0).epoch ∧ ((fs.getD i Dat.d0).epoch = ((runF fs l).getD i Dat.d0).epoch → fs.getD i Dat.d0 = (runF fs l).getD i Dat.d0)
  | [], _, _, _, _ => ⟨Int.le_refl _, fun _ => rfl⟩
  | t :: r, fs, hv, ho, i => by
    obtain ⟨a1, a2⟩ := step_mono (hv t (by simp)) ho i
    obtain ⟨b1, b2⟩ := run_mono (l := r) (fs := stepF fs t) (fun x hx => hv x (by simp [hx])) (step_ok (hv t (by simp)) ho) i
    rw [runF]
    exact ⟨by omega, fun h => (a2 (by omega)).trans (b2 (by omega))⟩
theorem stepB_le {n : Int} {fs : List Fence} {t : Try} (hv : valid n t = true) (ho : okF fs) (h : stepB fs t = true) : (fs.getD t.fence.toNat Dat.d0).epoch ≤ t.epoch := by
  obtain ⟨h1, h2, h3, h4, h5⟩ := valid_iff.1 hv
  have h0 := may0 (ho t.fence.toNat) h4 h5
  unfold stepB at h
  split at h
  · simp only [claimS, h0, if_true] at h
    split at h
    · omega
    · simp only [Bool.and_eq_true, beq_iff_eq] at h; omega
  · simp only [passS, h0, if_true, Bool.and_eq_true, beq_iff_eq] at h; omega
theorem runB_le {n : Int} : ∀ {l : List Try} {fs : List Fence}, (∀ t ∈ l, valid n t = true) → okF fs → ∀ i : Nat, i < l.length → (runB fs l).getD i false = true → (fs.getD (l.getD i Dat.d0).fence.toNat Dat.d0).epoch ≤ (l.getD i Dat.d0).epoch
  | [], _, _, _, i, hi, _ => by simp at hi
  | t :: r, fs, hv, ho, 0, _, h => stepB_le (hv t (by simp)) ho (by simpa [runB] using h)
  | t :: r, fs, hv, ho, i + 1, hi, h => by
    have h1 := runB_le (l := r) (fs := stepF fs t) (fun x hx => hv x (by simp [hx])) (step_ok (hv t (by simp)) ho) i (by simpa using hi) (by simpa [runB] using h)
    have h2 := step_mono (hv t (by simp)) ho (r.getD i Dat.d0).fence.toNat
    simp only [List.getD_cons_succ]
    omega
/-- What is told true is so: behind it the fence is just that. -/
theorem runB_true {n : Int} {fs : List Fence} {t : Try} (hv : valid n t = true) (ho : okF fs) (hl : fs.length = n) (h : stepB fs t = true) : (stepF fs t).getD t.fence.toNat Dat.d0 = ⟨t.epoch, t.who⟩ := by
  obtain ⟨h1, h2, h3, h4, h5⟩ := valid_iff.1 hv
  have h0 := may0 (ho t.fence.toNat) h4 h5
  rw [step_at hv ho]
  unfold stepB at h
  split at h
  · rename_i hk
    simp only [claimS, h0, if_true] at h
    by_cases hlt : (fs.getD t.fence.toNat Dat.d0).epoch < t.epoch
    · rw [if_pos ⟨hk, by omega, by omega, hlt⟩]
    · rw [if_neg fun h => hlt h.2.2.2]
      rw [if_neg hlt] at h
      simp only [Bool.and_eq_true, beq_iff_eq] at h
      generalize fs.getD t.fence.toNat Dat.d0 = f at *
      cases f; simp_all
  · rename_i hk
    rw [if_neg fun h => hk h.1]
    simp only [passS, h0, if_true, Bool.and_eq_true, beq_iff_eq] at h
    generalize fs.getD t.fence.toNat Dat.d0 = f at *
    cases f; simp_all

end Go.Proofs.Ytpooooomhnehfaa
