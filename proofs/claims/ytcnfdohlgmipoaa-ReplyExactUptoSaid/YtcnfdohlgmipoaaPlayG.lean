/- What jobs need, put together: plain. -/
import Derived.Test.YtcnfdohlgmipoaaPlayN
set_option linter.all false
namespace Go.Proofs.Ytcnfdohlgmipoaa
open Go Go.Abs

theorem sumPJ_app {l : List Task} {P : Done → Bool} : ∀ (a b : List job), sumPJ l P (a ++ b) = sumPJ l P a + sumPJ l P b
  | [], b => by simp [sumPJ]
  | x :: a, b => by rw [List.cons_append, sumPJ, sumPJ, sumPJ_app]; omega
theorem sumPJ_perm {l : List Task} {P : Done → Bool} {a b : List job} (h : a.Perm b) : sumPJ l P a = sumPJ l P b := by
  induction h with
  | nil => rfl
  | cons x _ ih => rw [sumPJ, sumPJ, ih]
  | swap x y l => rw [sumPJ, sumPJ, sumPJ, sumPJ]; omega
  | trans _ _ i1 i2 => rw [i1, i2]
theorem long_job {l : List Task} {i : Nat} {t : Task} (hi : l.getD i Dat.d0 = t) {k c : Int} : longD l ⟨(i : Int), k, c, 0⟩ = t.long := by
  unfold longD
  dsimp only
  rw [Int.toNat_natCast, hi]
theorem jobsF_long {l : List Task} {i : Nat} {t : Task} (h : okT t = true) (hi : l.getD i Dat.d0 = t) {u : Int} : ∀ {f : Nat} {k c : Int}, ∀ y ∈ jobsF i t u f k c, 0 ≤ longD l y.done
  | 0, k, c, y, hy => by cases hy
  | f + 1, k, c, y, hy => by
    rw [jobsF] at hy
    split at hy
    · rcases List.mem_cons.1 hy with rfl | hy
      · have ho := okT_iff.1 h
        rw [long_job hi]; omega
      · exact jobsF_long h hi y hy
    · cases hy

end Go.Proofs.Ytcnfdohlgmipoaa
