/- The program's functions, walked: NotP. -/
import Derived.Test.YtmicojghbhhblaaNot
set_option linter.all false
namespace Go.Proofs.Ytmicojghbhhblaa
open Go Go.Abs
theorem notS_ok {size : Int} : ∀ {l : List Span} {p a q : Int}, okSp size p l = true → a - 1 ≤ p → q < a → okSp size q (notS size a l) = true
  | [], p, a, q, h, h1, h2 => by
    unfold notS; split
    · rw [okSp_iff]; exact ⟨h2, by assumption, Int.le_refl _, rfl⟩
    · rfl
  | x :: r, p, a, q, h, h1, h2 => by
    obtain ⟨g1, g2, g3, g4⟩ := okSp_iff.1 h
    unfold notS; split
    · rw [okSp_iff]; dsimp only; exact ⟨h2, by assumption, by omega, notS_ok g4 (by omega) g2⟩
    · exact notS_ok g4 (by omega) (by omega)
theorem notS_part {size t : Int} (ht : t ≤ size) : ∀ {l : List Span} {p a : Int}, okSp size p l = true → a - 1 ≤ p → a ≤ size → part t (notS size a l) + part t l = mx0 (t - a)
  | [], p, a, h, h1, h2 => by
    unfold notS; split
    · simp only [part]; unfold mx0 mn; repeat' split
      all_goals omega
    · unfold part mx0; split <;> omega
  | x :: r, p, a, h, h1, h2 => by
    obtain ⟨g1, g2, g3, g4⟩ := okSp_iff.1 h
    have ih := notS_part ht g4 (a := x.to) (by omega) g3
    rw [part]
    unfold notS; split
    · rw [part]
      revert ih
      unfold mx0 mn; dsimp only; repeat' split
      all_goals omega
    · revert ih
      unfold mx0 mn; repeat' split
      all_goals omega
theorem notS_long {size : Int} : ∀ {l : List Span} {p a : Int}, okSp size p l = true → a - 1 ≤ p → a ≤ size → long (notS size a l) + long l = size - a
  | [], p, a, h, h1, h2 => by
    unfold notS; split
    · simp only [long]; omega
    · unfold long; omega
  | x :: r, p, a, h, h1, h2 => by
    obtain ⟨g1, g2, g3, g4⟩ := okSp_iff.1 h
    have ih := notS_long g4 (a := x.to) (by omega) g3
    rw [long]
    unfold notS; split
    · rw [long]; dsimp only; omega
    · omega
theorem not_right {s : Set} (h : Right s) (hl : (notV s).spans.length ≤ 200) : Right (notV s) := ⟨h.s1, h.s2, hl, notS_ok h.ok (by omega) (by omega)⟩
theorem not_upto {s : Set} (h : Right s) {t : Int} (h0 : 0 ≤ t) : uptoV (notV s) t + uptoV s t = t := by
  obtain ⟨e1, e2, e3, e4, e5⟩ := divmod h h0
  have hp := notS_part (t := t % s.size) (by omega) h.ok (a := 0) (by omega) (by have := h.s1; omega)
  have hl := notS_long h.ok (a := 0) (by omega) (by have := h.s1; omega)
  unfold uptoV
  show t.tdiv s.size * long (notS s.size 0 s.spans) + part (t.tmod s.size) (notS s.size 0 s.spans) + _ = t
  rw [e1, e2]
  have h2 : t / s.size * long (notS s.size 0 s.spans) + t / s.size * long s.spans = t / s.size * s.size := by
    rw [← Int.mul_add, hl, Int.sub_zero]
  have h3 : mx0 (t % s.size - 0) = t % s.size := by unfold mx0; split <;> omega
  omega
theorem notP_ok {s : Set} (h : (notP s).2 = 0) : Right s ∧ Right (notV s) ∧ (notP s).1 = notV s := by
  unfold notP at *
  split at h
  · rename_i hc
    have hR := check_iff.1 hc
    split at h
    · cases h
    · rename_i h1
      rw [if_pos hc, if_neg h1]
      exact ⟨hR, not_right hR (by omega), rfl⟩
  · rename_i hc; exact absurd h hc
theorem notP_len (s : Set) : (notP s).1.spans.length ≤ 200 := by
  unfold notP; split
  · split
    · simp
    · dsimp only; omega
  · simp

end Go.Proofs.Ytmicojghbhhblaa
