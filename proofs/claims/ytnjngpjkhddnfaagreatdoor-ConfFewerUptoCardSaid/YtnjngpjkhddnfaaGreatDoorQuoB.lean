/- Bounds of a quotient: plain. -/
import Derived.Test.YtnjngpjkhddnfaaGreatDoorTChk
set_option linter.all false
namespace Go.Proofs.YtnjngpjkhddnfaaGreatDoor
open Go Go.Abs

theorem quo_bd {n e g : Int} (h0 : 0 ≤ n) (h1 : n ≤ 1099511627776) (e1 : 1 ≤ e) (g0 : 1 ≤ g) (g1 : g ≤ 10000) : 0 ≤ n.tdiv e ∧ n.tdiv e ≤ n ∧ 0 ≤ n.tdiv e * g ∧ n.tdiv e * g ≤ 10995116277760000 := by
 rw [Int.tdiv_eq_ediv_of_nonneg h0]
 have a := Int.ediv_nonneg h0 (show 0 ≤ e by omega)
 have b := Int.ediv_le_self e h0
 have c := Int.mul_nonneg a (show 0 ≤ g by omega)
 have d := Int.mul_le_mul (show n / e ≤ 1099511627776 by omega) g1 (by omega) (by omega)
 exact ⟨a, b, c, by omega⟩

end Go.Proofs.YtnjngpjkhddnfaaGreatDoor
