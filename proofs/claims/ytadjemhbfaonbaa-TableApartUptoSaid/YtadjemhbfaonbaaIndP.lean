/- Counting, by what is in a set. -/
import Derived.Test.YtadjemhbfaonbaaOfP
import Derived.Test.YtadjemhbfaonbaaSpanR
set_option linter.all false
namespace Go.Proofs.Ytadjemhbfaonbaa
open Go Go.Abs

theorem part_ind {size m : Int} {l : List Span} {last : Int} (h : okSp size last l = true) : part (m + 1) l = part m l + if inB l m = true then 1 else 0 := by
  by_cases hi : inB l m = true
  · rw [if_pos hi]
    obtain ⟨x, hx, h1, h2⟩ := inB_iff.1 hi
    exact part_oneR h hx h1 h2
  · rw [if_neg hi, Int.add_zero]
    refine part_gap (by omega) (fun x hx => ((okSp_bd h).2.2 x hx).2.1) fun x hx => ?_
    by_cases h1 : x.to ≤ m
    · exact .inl h1
    · by_cases h2 : x.frm ≤ m
      · exact absurd (inB_iff.2 ⟨x, hx, h2, by omega⟩) hi
      · exact .inr (by omega)
theorem upto_ind {s : Set} (h : Right s) {t : Int} (h0 : 0 ≤ t) : uptoV s (t + 1) = uptoV s t + if inB s.spans (t % s.size) = true then 1 else 0 := by
  obtain ⟨e1, e2, e3, e4, e5⟩ := divmod h h0
  have hq : 0 ≤ t / s.size := Int.ediv_nonneg h0 (by have := h.s1; omega)
  have a := upto_at h hq e3 (by omega)
  have b := upto_at h hq (show 0 ≤ t % s.size + 1 by omega) (by omega)
  rw [← e5] at a
  rw [← Int.add_assoc, ← e5] at b
  have := part_ind (m := t % s.size) h.ok
  omega
theorem upto_zero {s : Set} (h : Right s) : uptoV s 0 = 0 := by
  have a := upto_at h (q := 0) (m := 0) (Int.le_refl _) (Int.le_refl _) (by have := h.s1; omega)
  rw [part0 fun x hx => by have := (okSp_bd h.ok).2.2 x hx; omega] at a
  simpa using a

end Go.Proofs.Ytadjemhbfaonbaa
