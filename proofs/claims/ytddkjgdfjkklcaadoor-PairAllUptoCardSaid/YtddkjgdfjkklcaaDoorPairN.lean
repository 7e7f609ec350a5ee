/- A pair's laws, plain: what stays. -/
import Derived.Test.YtddkjgdfjkklcaaDoorPairM
set_option linter.all false
namespace Go.Proofs.YtddkjgdfjkklcaaDoor
open Go Go.Abs

theorem stays_law {code : List Ins} {n : Int} {l more : List PairAct} (h : (playA code n l).2.2 = 0) (g : (playA code n (l ++ more)).2.2 = 0) :
    (playA code n l).1.gate.out <+: (playA code n (l ++ more)).1.gate.out ∧ (playA code n l).1.log <+: (playA code n (l ++ more)).1.log ∧ (playA code n l).1.fence.epoch ≤ (playA code n (l ++ more)).1.fence.epoch ∧ (playA code n l).1.gate.fence.epoch ≤ (playA code n (l ++ more)).1.gate.fence.epoch := by
  have P := play_st h
  have Q := play_st g
  obtain ⟨h1, h2, h3, h4, h5⟩ := play_ok h
  obtain ⟨g1, g2, g3, g4, g5⟩ := play_ok g
  rw [List.length_append] at g4
  have R := run_prok h1 h3 (l := more) P (by omega)
  have e : (playA code n (l ++ more)).1 = runA code (playA code n l).1 more := by rw [g5, h5]; exact runA_app
  rw [← e] at R
  refine ⟨R.2.1, R.2.2.2, R.2.2.1, ?_⟩
  rw [P.fg, Q.fg]; exact R.2.2.1

end Go.Proofs.YtddkjgdfjkklcaaDoor
