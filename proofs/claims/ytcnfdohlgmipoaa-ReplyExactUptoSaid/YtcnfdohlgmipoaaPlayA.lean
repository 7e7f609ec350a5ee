/- What stands behind a task is no matter to it: plain. -/
import Derived.Test.YtcnfdohlgmipoaaPlayR
set_option linter.all false
namespace Go.Proofs.Ytcnfdohlgmipoaa
open Go Go.Abs

section
variable {P : job → Bool}
theorem insQ_neg {fx : Bool} {x : job} (hx : P x = false) : ∀ {q : List job}, (insQ fx x q).filter P = q.filter P
  | [] => by simp [insQ, hx]
  | y :: r => by
    rw [insQ]
    split
    · rw [List.filter_cons, if_neg (by simp [hx])]
    · rw [List.filter_cons, List.filter_cons, insQ_neg hx]
end
theorem key_task {x y : job} (h : keyLt true x y) : x.done.task ≤ y.done.task := by unfold keyLt at h; simp at h; omega
theorem srt_big {k : Int} {y : job} {r : List job} (hs : (y :: r).Pairwise (keyLt true)) (hy : ¬ y.done.task < k) : (r.filter fun x => decide (x.done.task < k)) = [] := by
  rw [List.filter_eq_nil_iff]
  intro z hz
  have := key_task ((List.pairwise_cons.1 hs).1 z hz)
  simp
  omega
theorem insQ_pos {k : Int} {x : job} (hx : x.done.task < k) : ∀ {q : List job}, q.Pairwise (keyLt true) → (insQ true x q).filter (fun x => decide (x.done.task < k)) = insQ true x (q.filter fun x => decide (x.done.task < k))
  | [], _ => by simp [insQ, hx]
  | y :: r, hs => by
    rw [insQ]
    split
    · rename_i hxy
      rw [List.filter_cons, if_pos (by simpa using hx)]
      by_cases hy : y.done.task < k
      · rw [List.filter_cons, if_pos (by simpa using hy), insQ, if_pos hxy]
      · rw [List.filter_cons, if_neg (by simpa using hy), srt_big hs hy]
        rfl
    · rename_i hxy
      have hy : y.done.task < k := by
        unfold keyLt at hxy
        simp at hxy
        omega
      rw [List.filter_cons, if_pos (by simpa using hy), List.filter_cons, if_pos (by simpa using hy), insQ, if_neg hxy, insQ_pos hx (List.pairwise_cons.1 hs).2]
theorem pull_ahead {k t : Int} : ∀ {td q : List job}, SrtJ td → Fit true td q →
    pullQ true t (td.filter fun x => decide (x.done.task < k)) (q.filter fun x => decide (x.done.task < k)) = ((pullQ true t td q).1.filter fun x => decide (x.done.task < k), (pullQ true t td q).2.filter fun x => decide (x.done.task < k))
  | [], q, _, _ => rfl
  | x :: r, q, hs, hf => by
    have hs2 := List.pairwise_cons.1 hs
    by_cases hc : x.done.came ≤ t
    · have hf2 : Fit true r (insQ true x q) := by
        have h2 := List.pairwise_cons.1 hf.ap
        refine ⟨?_, insQ_srt (fun y hy => h2.1 y (List.mem_append_right _ hy)) hf.srt⟩
        have hp : (r ++ insQ true x q).Perm (x :: r ++ q) := ((insQ_perm (fx := true) (x := x) (q := q)).append_left r).trans List.perm_middle
        exact (hp.pairwise_iff fun h => apart_sym h).2 hf.ap
      have ih := pull_ahead (k := k) (t := t) hs2.2 hf2
      have e : pullQ true t (x :: r) q = pullQ true t r (insQ true x q) := by rw [pullQ, if_pos hc]
      rw [e]
      by_cases hx : x.done.task < k
      · rw [List.filter_cons, if_pos (by simpa using hx), pullQ, if_pos hc, ← insQ_pos hx hf.srt]
        exact ih
      · rw [List.filter_cons, if_neg (by simpa using hx), ← insQ_neg (P := fun x => decide (x.done.task < k)) (fx := true) (x := x) (by simpa using hx) (q := q)]
        exact ih
    · have e : pullQ true t (x :: r) q = (x :: r, q) := by rw [pullQ, if_neg hc]
      rw [e]
      have h3 := pull_far (fx := true) (t := t) (td := []) (q := q.filter fun x => decide (x.done.task < k)) (R := (x :: r).filter fun x => decide (x.done.task < k)) (fun y hy => by
        rcases List.mem_cons.1 (List.mem_filter.1 hy).1 with rfl | h
        · omega
        · have := hs2.1 y h; omega)
      exact h3
theorem pull_srt {fx : Bool} {t : Int} : ∀ {td q : List job}, SrtJ td → SrtJ (pullQ fx t td q).1
  | [], q, h => h
  | x :: r, q, h => by
    rw [pullQ]
    split
    · exact pull_srt (List.pairwise_cons.1 h).2
    · exact h
structure Ahead (k : Int) (x y : QS) : Prop where
  td : y.td = x.td.filter fun z => decide (z.done.task < k)
  q : y.q = x.q.filter fun z => decide (z.done.task < k)
  out : y.out = x.out.filter fun z => decide (z.task < k)
theorem Ahead.step {k : Int} {s : Set} {t : Int} {x y : QS} (h : Ahead k x y) (hs : SrtJ x.td) (hf : Fit true x.td x.q) : Ahead k (stepQ true s t x) (stepQ true s t y) := by
  have hp := pull_ahead (k := k) (t := t) hs hf
  have hf1 := hf.pull (t := t)
  unfold stepQ tickQ
  dsimp only
  rw [h.td, h.q, hp, h.out]
  revert hf1
  dsimp only
  generalize (pullQ true t x.td x.q).1 = td
  generalize (pullQ true t x.td x.q).2 = q
  intro hf1
  by_cases hh : (hasV s t).1 = true
  · rw [if_pos hh, if_pos hh]
    cases q with
    | nil => exact ⟨rfl, rfl, rfl⟩
    | cons j r =>
      by_cases hj : j.done.task < k
      · rw [List.filter_cons, if_pos (by simpa using hj)]
        dsimp only
        by_cases hl : j.left - 1 = 0
        · rw [if_pos hl, if_pos hl]
          refine ⟨rfl, rfl, ?_⟩
          dsimp only
          rw [List.filter_append, List.filter_cons, if_pos (by simpa using hj)]
          rfl
        · rw [if_neg hl, if_neg hl]
          refine ⟨rfl, ?_, rfl⟩
          dsimp only
          rw [List.filter_cons, if_pos (by simpa using hj)]
      · rw [List.filter_cons, if_neg (by simpa using hj), srt_big hf1.srt hj]
        dsimp only
        by_cases hl : j.left - 1 = 0
        · rw [if_pos hl]
          refine ⟨rfl, (srt_big hf1.srt hj).symm, ?_⟩
          dsimp only
          rw [List.filter_append, List.filter_cons, if_neg (by simpa using hj)]
          simp
        · rw [if_neg hl]
          refine ⟨rfl, ?_, rfl⟩
          dsimp only
          rw [List.filter_cons, if_neg (by simpa using hj), srt_big hf1.srt hj]
  · rw [if_neg hh, if_neg hh]
    exact ⟨rfl, rfl, rfl⟩
theorem step_srt {fx : Bool} {s : Set} {t : Int} {x : QS} (h : SrtJ x.td) : SrtJ (stepQ fx s t x).td := pull_srt h
theorem Ahead.run {k : Int} {s : Set} : ∀ {n : Nat} {t : Int} {x y : QS}, Ahead k x y → SrtJ x.td → Fit true x.td x.q → Ahead k (runQ true s n t x) (runQ true s n t y)
  | 0, t, x, y, h, _, _ => h
  | n + 1, t, x, y, h, hs, hf => by
    rw [runQ, runQ]
    exact Ahead.run (h.step hs hf) (step_srt hs) hf.step
theorem jobsL_take {b : Int} : ∀ {l : List Task} {first : List Int} {i n : Nat}, jobsL b i (l.take n) (first.take n) = (jobsL b i l first).filter fun z => decide (z.done.task < ((i + n : Nat) : Int))
  | [], first, i, n => by simp [jobsL]
  | t :: l, [], i, n => by cases n <;> simp [jobsL]
  | t :: l, a :: r, i, 0 => by
    rw [List.take_zero, List.take_zero]
    symm
    show List.filter _ _ = []
    rw [List.filter_eq_nil_iff]
    intro y hy
    have := (jobsL_mem hy).1
    simp
    omega
  | t :: l, a :: r, i, n + 1 => by
    rw [List.take_succ_cons, List.take_succ_cons, jobsL, jobsL, List.filter_append, jobsL_take]
    congr 1
    · symm
      rw [List.filter_eq_self]
      intro y hy
      have := (jobsF_mem y hy).1
      simp
      omega
    · congr 1
      funext z
      rw [show i + 1 + n = i + (n + 1) by omega]
theorem play_ahead {l : List Task} {s : Set} {first : List Int} {u : Int} {n : Nat} (h : (playJ l s first 2 u).2.2 = 0) (hn : n ≤ l.length) :
    (playJ (l.take n) s (first.take n) 2 u).2.2 = 0 ∧ (playJ (l.take n) s (first.take n) 2 u).1 = (playJ l s first 2 u).1.filter fun z => decide (z.task < (n : Int)) := by
  obtain ⟨a1, a2, a3, _, a5, a6, e1⟩ := playJ_ok h
  have hd : decide ((2 : Int) = 2) = true := rfl
  rw [hd] at e1
  have b1 : tchkV (l.take n) = 0 := tchk_iff.2 ⟨by simp; omega, by
    rw [List.all_eq_true] at a1 ⊢
    intro x hx
    exact a1.2 x (List.mem_of_mem_take hx)⟩
  have hfl : first.length = l.length ∧ first.any badF = false := by
    unfold firstsV at a3
    split at a3
    · assumption
    · cases a3
  have b3 : firstsV (l.take n) (first.take n) = 0 := by
    unfold firstsV
    rw [if_pos]
    refine ⟨by simp; omega, ?_⟩
    rw [List.any_eq_false] at hfl ⊢
    intro x hx
    exact hfl.2 x (List.mem_of_mem_take hx)
  have hL := jobsL_take (b := u) (l := l) (first := first) (i := 0) (n := n)
  rw [Nat.zero_add] at hL
  have b6 : (jobsL u 0 (l.take n) (first.take n)).length ≤ 2000 := by
    rw [hL]; exact Nat.le_trans (List.length_filter_le _ _) a6
  have e2 : playJ (l.take n) s (first.take n) 2 u = ((runQ true s u.toNat 0 ⟨sortS (jobsL u 0 (l.take n) (first.take n)), [], [], 0⟩).out, (runQ true s u.toNat 0 ⟨sortS (jobsL u 0 (l.take n) (first.take n)), [], [], 0⟩).idle, 0) := by
    have h7 : jobsV (l.take n) (first.take n) u = (jobsL u 0 (l.take n) (first.take n), 0) := by unfold jobsV; rw [if_pos b6]
    rw [playJ, if_neg (fun q => q b1), if_neg (fun q => q a2), if_neg (fun q => q b3), if_neg (by omega), h7, if_neg (fun q => q rfl)]
    dsimp only
    rw [hd]
    have := runQ_eq (fx := true) (s := s) (n := u.toNat) (t := 0) (x := ⟨sortS (jobsL u 0 (l.take n) (first.take n)), [], [], 0⟩)
    dsimp only at this
    rw [this]
  rw [e1, e2]
  refine ⟨rfl, ?_⟩
  dsimp only
  have hA : Ahead (n : Int) ⟨sortS (jobsL u 0 l first), [], [], 0⟩ ⟨sortS (jobsL u 0 (l.take n) (first.take n)), [], [], 0⟩ := ⟨by dsimp only; rw [hL, sortS_filter], rfl, rfl⟩
  exact (hA.run (s := s) (n := u.toNat) (t := 0) (sortS_srt _) ⟨sortS_apart, List.Pairwise.nil⟩).out

end Go.Proofs.Ytcnfdohlgmipoaa
