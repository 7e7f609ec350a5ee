/- A stable sort of jobs by when they come: what tells it: plain. -/
import Derived.Test.YtcnfdohlgmipoaaStJ2
set_option linter.all false
namespace Go.Proofs.Ytcnfdohlgmipoaa
open Go Go.Abs

abbrev SrtJ (l : List job) : Prop := l.Pairwise fun a b => a.done.came ≤ b.done.came
def fltJ (c : Int) (l : List job) : List job := l.filter fun x => decide (x.done.came = c)
theorem fltJ_app (c : Int) (l m : List job) : fltJ c (l ++ m) = fltJ c l ++ fltJ c m := List.filter_append ..
theorem fltJ_cons (c : Int) (x : job) (l : List job) : fltJ c (x :: l) = if x.done.came = c then x :: fltJ c l else fltJ c l := by
  unfold fltJ
  rw [List.filter_cons]
  by_cases h : x.done.came = c <;> simp [h]
theorem fltJ_none {c : Int} {l : List job} (h : ∀ y ∈ l, ¬ y.done.came = c) : fltJ c l = [] := by
  unfold fltJ
  rw [List.filter_eq_nil_iff]
  intro y hy
  simpa using h y hy
def insS (x : job) : List job → List job
  | [] => [x]
  | y :: r => if x.done.came < y.done.came then x :: y :: r else y :: insS x r
def sortJ : List job → List job → List job
  | acc, [] => acc
  | acc, x :: r => sortJ (insS x acc) r
theorem insS_mem {x z : job} : ∀ {l : List job}, z ∈ insS x l ↔ z = x ∨ z ∈ l
  | [] => by simp [insS]
  | y :: r => by
    rw [insS]
    split
    · simp
    · rw [List.mem_cons, insS_mem, List.mem_cons]
      constructor
      · rintro (h | h | h)
        · exact .inr (.inl h)
        · exact .inl h
        · exact .inr (.inr h)
      · rintro (h | h | h)
        · exact .inr (.inl h)
        · exact .inl h
        · exact .inr (.inr h)
theorem insS_srt {x : job} : ∀ {l : List job}, SrtJ l → SrtJ (insS x l)
  | [], _ => by simp [insS]
  | y :: r, h => by
    replace h := List.pairwise_cons.1 h
    rw [insS]
    split
    · rename_i hxy
      refine List.pairwise_cons.2 ⟨fun z hz => ?_, List.pairwise_cons.2 h⟩
      rcases List.mem_cons.1 hz with rfl | hz
      · omega
      · have := h.1 z hz; omega
    · rename_i hxy
      refine List.pairwise_cons.2 ⟨fun z hz => ?_, insS_srt h.2⟩
      rcases insS_mem.1 hz with rfl | hz
      · omega
      · exact h.1 z hz
theorem insS_flt {x : job} (c : Int) : ∀ {l : List job}, SrtJ l → fltJ c (insS x l) = fltJ c l ++ fltJ c [x]
  | [], _ => by simp [insS, fltJ]
  | y :: r, h => by
    replace h := List.pairwise_cons.1 h
    rw [insS]
    split
    · rename_i hxy
      rw [fltJ_cons c x, fltJ_cons c x []]
      by_cases hc : x.done.came = c
      · rw [if_pos hc, if_pos hc]
        have : fltJ c (y :: r) = [] := fltJ_none fun z hz => by
          rcases List.mem_cons.1 hz with rfl | hz
          · omega
          · have := h.1 z hz; omega
        rw [this]; rfl
      · rw [if_neg hc, if_neg hc]
        simp [fltJ]
    · rw [fltJ_cons c y, fltJ_cons c y, insS_flt c h.2]
      split <;> rfl
theorem sortJ_srt : ∀ {l acc : List job}, SrtJ acc → SrtJ (sortJ acc l)
  | [], acc, h => h
  | x :: r, acc, h => by rw [sortJ]; exact sortJ_srt (insS_srt h)
theorem sortJ_flt (c : Int) : ∀ {l acc : List job}, SrtJ acc → fltJ c (sortJ acc l) = fltJ c (acc ++ l)
  | [], acc, _ => by rw [List.append_nil]; rfl
  | x :: r, acc, h => by
    rw [sortJ, sortJ_flt c (insS_srt h), fltJ_app, insS_flt c h, fltJ_app, fltJ_cons c x r, fltJ_cons c x []]
    split <;> simp [fltJ]
def sortS (l : List job) : List job := sortJ [] l
theorem sortS_srt (l : List job) : SrtJ (sortS l) := sortJ_srt List.Pairwise.nil
theorem sortS_flt (c : Int) (l : List job) : fltJ c (sortS l) = fltJ c l := sortJ_flt c List.Pairwise.nil
theorem flt_len : ∀ (l m : List job), (∀ c, fltJ c l = fltJ c m) → ∀ x, x ∈ l ↔ x ∈ m := by
  intro l m h x
  have e : ∀ k : List job, x ∈ k ↔ x ∈ fltJ x.done.came k := fun k => by unfold fltJ; rw [List.mem_filter]; simp
  rw [e l, e m, h]
theorem srt_uniq : ∀ {l m : List job}, SrtJ l → SrtJ m → (∀ c, fltJ c l = fltJ c m) → l = m
  | [], [], _, _, _ => rfl
  | [], y :: m, _, _, h => by
    have := (flt_len _ _ h y).2 (by simp)
    cases this
  | x :: l, [], _, _, h => by
    have := (flt_len _ _ h x).1 (by simp)
    cases this
  | x :: l, y :: m, h1, h2, h => by
    replace h1 := List.pairwise_cons.1 h1
    replace h2 := List.pairwise_cons.1 h2
    have hxy : x.done.came = y.done.came := by
      have a := (flt_len _ _ h x).1 (by simp)
      have b := (flt_len _ _ h y).2 (by simp)
      have a2 : y.done.came ≤ x.done.came := by
        rcases List.mem_cons.1 a with rfl | a
        · exact Int.le_refl _
        · exact h2.1 x a
      have b2 : x.done.came ≤ y.done.came := by
        rcases List.mem_cons.1 b with rfl | b
        · exact Int.le_refl _
        · exact h1.1 y b
      omega
    have h3 := h x.done.came
    rw [fltJ_cons, fltJ_cons, if_pos rfl, if_pos hxy.symm] at h3
    have e1 : x = y := (List.cons.inj h3).1
    subst e1
    rw [srt_uniq h1.2 h2.2 fun c => by
      have h4 := h c
      rw [fltJ_cons, fltJ_cons] at h4
      split at h4
      · exact (List.cons.inj h4).2
      · exact h4]
theorem sortS_uniq {l m : List job} (h1 : SrtJ m) (h2 : ∀ c, fltJ c m = fltJ c l) : sortS l = m := srt_uniq (sortS_srt l) h1 fun c => (sortS_flt c l).trans (h2 c).symm
theorem insS_len {x : job} : ∀ {l : List job}, (insS x l).length = l.length + 1
  | [] => rfl
  | y :: r => by
    rw [insS]
    split
    · rfl
    · rw [List.length_cons, insS_len]; rfl
theorem sortJ_len : ∀ {l acc : List job}, (sortJ acc l).length = acc.length + l.length
  | [], acc => rfl
  | x :: r, acc => by rw [sortJ, sortJ_len, insS_len, List.length_cons]; omega
theorem sortS_len (l : List job) : (sortS l).length = l.length := by rw [sortS, sortJ_len]; simp
theorem sortS_put {l S1 S2 : List job} {x : job} (h : sortS l = S1 ++ S2) (h1 : ∀ y ∈ S1, y.done.came ≤ x.done.came) (h2 : ∀ y ∈ S2, x.done.came < y.done.came) : sortS (l ++ [x]) = S1 ++ x :: S2 := by
  have hs := sortS_srt l
  rw [h, SrtJ, List.pairwise_append] at hs
  obtain ⟨p1, p2, p3⟩ := hs
  refine sortS_uniq ?_ fun c => ?_
  · rw [SrtJ, List.pairwise_append, List.pairwise_cons]
    refine ⟨p1, ⟨fun y hy => by have := h2 y hy; omega, p2⟩, fun a ha b hb => ?_⟩
    rcases List.mem_cons.1 hb with rfl | hb
    · exact h1 a ha
    · exact p3 a ha b hb
  · have h4 := sortS_flt c l
    rw [h, fltJ_app] at h4
    rw [fltJ_app, fltJ_cons, fltJ_app, fltJ_cons c x [], ← h4]
    by_cases hc : x.done.came = c
    · rw [if_pos hc, if_pos hc]
      have : fltJ c S2 = [] := fltJ_none fun y hy => by have := h2 y hy; omega
      rw [this]
      simp [fltJ]
    · rw [if_neg hc, if_neg hc]
      simp [fltJ]

end Go.Proofs.Ytcnfdohlgmipoaa
