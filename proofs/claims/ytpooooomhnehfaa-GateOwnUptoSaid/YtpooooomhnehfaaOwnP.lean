/- Rows and what stands behind them; sizes: plain. -/
import Derived.Test.YtpooooomhnehfaaTy
set_option linter.all false
namespace Go.Proofs.Ytpooooomhnehfaa
open Go Go.Abs

structure PwX (n : Nat) where
  k : Nat
  hk : k ≤ n
  l : List ByteArray
  hl : l.length = n
  hs : ∀ i, k ≤ i → i < n → (l.getD i Dat.d0).size ≤ 1048576
theorem le_sum_mem {l : List Nat} {a : Nat} (h : a ∈ l) : a ≤ l.sum := by
  induction l with
  | nil => cases h
  | cons x r ih =>
    rw [List.sum_cons]
    rcases List.mem_cons.1 h with rfl | h
    · omega
    · have := ih h; omega
theorem bulk_el {l : List ByteArray} {b : Nat} (h : Siz.bulk l ≤ b) (i : Nat) : (l.getD i Dat.d0).size ≤ b := by
  rw [List.getD_eq_getElem?_getD]
  cases hi : l[i]? with
  | none => exact Nat.zero_le _
  | some s =>
    have h1 : Siz.bulk s ∈ l.map Siz.bulk := List.mem_map.2 ⟨s, List.mem_of_getElem? hi, rfl⟩
    have h2 := le_sum_mem h1
    have h3 : Siz.bulk l = (l.map Siz.bulk).sum + 1 := rfl
    have h4 : Siz.bulk s = s.size + 1 := rfl
    show s.size ≤ b
    omega
theorem padS {l : List ByteArray} {m : Nat} (h : ∀ i, (l.getD i Dat.d0).size ≤ 1048576) (i : Nat) : ((l ++ List.replicate m ByteArray.empty).getD i Dat.d0).size ≤ 1048576 := by
  rw [gd_app]
  cases decide (i < l.length)
  · show ((List.replicate m ByteArray.empty).getD (i - l.length) Dat.d0).size ≤ 1048576
    rw [List.getD_eq_getElem?_getD, List.getElem?_replicate]
    split <;> exact Nat.zero_le _
  · exact h i
theorem padG {l : List ByteArray} {m : Nat} (i : Nat) : (bif decide (i < l.length) then l.getD i Dat.d0 else ByteArray.empty) = (l ++ List.replicate m ByteArray.empty).getD i Dat.d0 := by
  rw [gd_app]
  cases decide (i < l.length)
  · show ByteArray.empty = (List.replicate m ByteArray.empty).getD (i - l.length) Dat.d0
    rw [List.getD_eq_getElem?_getD, List.getElem?_replicate]
    split <;> rfl
  · rfl

end Go.Proofs.Ytpooooomhnehfaa
