/- The program's functions, walked: Wait. -/
import Derived.Test.YthgmnejlhljlaaaSupply2
import Derived.Test.YthgmnejlhljlaaaBs
set_option linter.all false
namespace Go.Proofs.Ythgmnejlhljlaaa
open Go Go.Abs
def fewV (s : Set) (need : Int) (have_ : Int → Int) : Int × Int :=
  if need = 0 then (0, 0) else if s.spans.length = 0 then (0, 7) else (bsN (fun n => decide (need ≤ have_ n)) 0 (s.size * (need + 2)), 0)
def waitV (s : Set) (need : Int) : Int × Int :=
  if checkV s = 0 then (if need < 0 ∨ 1000000 < need then (0, 1) else fewV s need (leastV s)) else (0, checkV s)
theorem nbd {s : Set} (h : Right s) {n : Int} (h0 : 0 ≤ n) (h1 : n ≤ 1000000) : 0 ≤ s.size * (n + 2) ∧ s.size * (n + 2) ≤ 1000002000000 := by
  have a := h.s1
  have b := h.s2
  refine ⟨Int.mul_nonneg (by omega) (by omega), ?_⟩
  have := Int.mul_le_mul b (show n + 2 ≤ 1000002 by omega) (by omega) (by omega)
  omega

end Go.Proofs.Ythgmnejlhljlaaa
