/- What the numbers are; plain. -/
import Derived.Test.YtobonmoinjkfbaaNum4
set_option linter.all false
namespace Go.Proofs.Ytobonmoinjkfbaa
open Go Go.Abs

theorem down_ok {a b : Int} (h : (downV a b).2 = 0) : -1099511627776 ≤ a ∧ a ≤ 1099511627776 ∧ 1 ≤ b ∧ b ≤ 1099511627776 ∧ (downV a b).1 = a / b := by
  unfold downV at h ⊢
  split at h
  · rename_i hc
    rw [if_pos hc]
    exact ⟨hc.1, hc.2.1, hc.2.2.1, hc.2.2.2, rfl⟩
  · cases h
theorem wrap_neg {a : Int} (h : -9223372036854775808 < a) (h2 : a ≤ 9223372036854775807) : IntKind.i64.wrap (0 - a) = 0 - a := by
  unfold IntKind.wrap
  simp [IntKind.signed, IntKind.bits]
  omega
theorem up_err {a b : Int} (h0 : -9223372036854775808 ≤ a) (h2 : a ≤ 9223372036854775807) : (upV a b).2 = (downV a b).2 := by
  unfold upV
  show (downV (IntKind.i64.wrap (0 - a)) b).2 = _
  by_cases hm : a = -9223372036854775808
  · subst hm
    rw [show IntKind.i64.wrap (0 - -9223372036854775808) = -9223372036854775808 by decide]
  · rw [wrap_neg (by omega) h2]
    unfold downV
    by_cases hc : -1099511627776 ≤ a ∧ a ≤ 1099511627776 ∧ 1 ≤ b ∧ b ≤ 1099511627776
    · rw [if_pos hc, if_pos (by omega)]
    · rw [if_neg hc, if_neg (by omega)]
theorem up_ok {a b : Int} (h : (downV a b).2 = 0) : (upV a b).1 = (if a % b = 0 then a / b else a / b + 1) ∧ a - a / b * b = a % b ∧ 0 ≤ a % b ∧ a % b < b := by
  obtain ⟨h1, h2, h3, h4, h5⟩ := down_ok h
  have e1 : a - a / b * b = a % b := by rw [Int.emod_def, Int.mul_comm]
  have m0 := Int.emod_nonneg a (show b ≠ 0 by omega)
  have m1 := Int.emod_lt_of_pos a (show 0 < b by omega)
  refine ⟨?_, e1, m0, m1⟩
  unfold upV
  show 0 - (downV (IntKind.i64.wrap (0 - a)) b).1 = _
  rw [wrap_neg (by omega) (by omega)]
  have hd : (downV (0 - a) b).1 = (0 - a) / b := by
    unfold downV
    rw [if_pos (by omega)]
  rw [hd]
  split
  · rename_i hz
    have : (0 - a) / b = -(a / b) := by
      rw [Int.ediv_eq_iff_of_pos (by omega), Int.neg_mul]; omega
    omega
  · rename_i hz
    have : (0 - a) / b = -(a / b) - 1 := by
      rw [Int.ediv_eq_iff_of_pos (by omega), Int.sub_mul, Int.neg_mul]; omega
    omega
theorem g_dvd (a b : Int) : gcdV a b ∣ a ∧ gcdV a b ∣ b := ⟨Int.gcd_dvd_left .., Int.gcd_dvd_right ..⟩
theorem g_max {a b d : Int} (h1 : d ∣ a) (h2 : d ∣ b) : d ∣ gcdV a b := Int.dvd_coe_gcd h1 h2
theorem g_nn (a b : Int) : 0 ≤ gcdV a b := by unfold gcdV; omega
theorem g_comm (a b : Int) : gcdV a b = gcdV b a := by unfold gcdV; rw [Int.gcd_comm]
theorem g_sub (a b : Int) : gcdV (a - b) b = gcdV a b := by
  have h1 := g_dvd (a - b) b
  have h2 := g_dvd a b
  refine Int.dvd_antisymm (g_nn _ _) (g_nn _ _) (g_max ?_ h1.2) (g_max (Int.dvd_sub h2.1 h2.2) h2.2)
  have := Int.dvd_add h1.1 h1.2
  rwa [show a - b + b = a by omega] at this
theorem G_ok {a b : Int} (h : (GcdV a b).2 = 0) : 0 ≤ a ∧ a ≤ 1099511627776 ∧ 0 ≤ b ∧ b ≤ 1099511627776 ∧ (GcdV a b).1 = gcdV a b := by
  unfold GcdV at h ⊢
  split at h
  · rename_i hc
    rw [if_pos hc]
    exact ⟨hc.1, hc.2.1, hc.2.2.1, hc.2.2.2, rfl⟩
  · cases h
theorem G_eq {a b : Int} (h1 : 0 ≤ a) (h2 : a ≤ 1099511627776) (h3 : 0 ≤ b) (h4 : b ≤ 1099511627776) : GcdV a b = (gcdV a b, 0) := by
  rw [GcdV, if_pos ⟨h1, h2, h3, h4⟩]
theorem G_comm (a b : Int) : GcdV a b = GcdV b a := by
  unfold GcdV
  by_cases hc : 0 ≤ a ∧ a ≤ 1099511627776 ∧ 0 ≤ b ∧ b ≤ 1099511627776
  · rw [if_pos hc, if_pos (by omega), g_comm]
  · rw [if_neg hc, if_neg (by omega)]
theorem g_pos {a b : Int} (h1 : 0 ≤ a) (h3 : 0 ≤ b) (h : 0 < a + b) : 1 ≤ gcdV a b := by
  have hn := g_nn a b
  have hd := g_dvd a b
  rcases Int.lt_or_le 0 (gcdV a b) with h5 | h5
  · omega
  · have e : gcdV a b = 0 := by omega
    rw [e] at hd
    have := Int.zero_dvd.1 hd.1
    have := Int.zero_dvd.1 hd.2
    omega
theorem tm {a b : Int} : a.tmod b = 0 ↔ b ∣ a := ⟨Int.dvd_of_tmod_eq_zero, Int.tmod_eq_zero_of_dvd⟩
theorem P_ok {a b : Int} : ((partsV a b).2.2 = 0 → 1 ≤ a ∧ a ≤ 1099511627776 ∧ 1 ≤ b ∧ b ≤ 1099511627776) ∧ (¬ (partsV a b).2.2 = 0 → (partsV a b).1 = 0 ∧ (partsV a b).2.1 = 0) := by
  unfold partsV
  split
  · refine ⟨fun _ => by assumption, fun h => ?_⟩
    split at h <;> exact absurd rfl h
  · exact ⟨fun h => (by cases h), fun _ => ⟨rfl, rfl⟩⟩
/-- What both take makes what they share. -/
theorem bez {a b : Int} (h1 : 1 ≤ a) (h2 : a ≤ 1000000) (h3 : 1 ≤ b) (h4 : b ≤ 1000000) : 0 ≤ (partsV a b).1 ∧ (partsV a b).1 = xOf a b ∧ (partsV a b).1 * a + (partsV a b).2.1 * b = gcdV a b ∧ xOf a b ≤ 1000000 ∧ -1000000000000 ≤ (partsV a b).2.1 * b ∧ (partsV a b).2.1 * b ≤ 1000000000000 := by
  have hx := x_facts (a := a) (b := b) h1 (by omega) h3 (by omega)
  have hg := gcd_facts h1 h3
  have ex := parts_x h1 h2 h3 h4
  have key : (partsV a b).2.1 * b = gcdV a b - xOf a b * a := by
    rw [partsV, if_pos ⟨h1, by omega, h3, by omega⟩]
    obtain ⟨u, hu⟩ := hx.2.2.2.2.2.2
    split
    · rename_i h0
      rw [h0] at hu ⊢
      rw [Int.zero_mul] at hu ⊢
      show 1 * b = _
      have hd : b ∣ gcdV a b := ⟨-u, by rw [Int.mul_neg]; omega⟩
      have := Int.le_of_dvd (by omega) hd
      omega
    · rename_i h0
      have hm := small_mul (x := xOf a b) (y := a) (by omega) (by omega) (by omega) (by omega)
      have k1 : 1 * a ≤ xOf a b * a := Int.mul_le_mul_of_nonneg_right (by omega) (by omega)
      have em : mulV (xOf a b) a = (0, xOf a b * a) := by
        unfold mulV
        rw [Int.ediv_eq_zero_of_lt hm.1 (by omega), Int.emod_eq_of_lt hm.1 (by omega)]
      rw [em]
      show IntKind.i64.wrap (0 - IntKind.i64.wrap (divV (IntKind.u64.wrap (0 - if xOf a b * a < gcdV a b then 1 else 0)) ((xOf a b * a + 18446744073709551616 - gcdV a b) % 18446744073709551616) b).1) * b = _
      rw [if_neg (by omega), show IntKind.u64.wrap (0 - 0) = 0 by decide, divV, if_pos rfl]
      have el : (xOf a b * a + 18446744073709551616 - gcdV a b) % 18446744073709551616 = xOf a b * a - gcdV a b := by omega
      rw [el, hu]
      show IntKind.i64.wrap (0 - IntKind.i64.wrap (b * u / b)) * b = _
      rw [Int.mul_ediv_cancel_left _ (by omega)]
      have u0 : 0 ≤ u ∧ u ≤ 1000000000000 := by
        have k2 : 0 ≤ b * u := by omega
        have k3 : 0 ≤ u := by
          rcases Int.lt_or_le u 0 with h5 | h5
          · have := Int.mul_neg_of_pos_of_neg (show 0 < b by omega) h5; omega
          · exact h5
        have k4 : 1 * u ≤ b * u := Int.mul_le_mul_of_nonneg_right h3 k3
        omega
      have w : ∀ n : Int, -1000000000000 ≤ n → n ≤ 1000000000000 → IntKind.i64.wrap n = n := fun n q1 q2 => by
        unfold IntKind.wrap
        simp [IntKind.signed, IntKind.bits]
        omega
      rw [w u (by omega) (by omega), w (0 - u) (by omega) (by omega), Int.sub_mul, Int.zero_mul, Int.mul_comm u b]
      omega
  have hm := small_mul (x := xOf a b) (y := a) (by omega) (by omega) (by omega) (by omega)
  rw [ex]
  exact ⟨by omega, rfl, by omega, by omega, by omega, by omega⟩
theorem cop {a b z : Int} (h1 : 1 ≤ a) (h3 : 1 ≤ b) (h : b ∣ z * a) : b / gcdV a b ∣ z := by
  obtain ⟨A, rfl⟩ := Int.eq_ofNat_of_zero_le (show 0 ≤ a by omega)
  obtain ⟨B, rfl⟩ := Int.eq_ofNat_of_zero_le (show 0 ≤ b by omega)
  have hg : gcdV (A : Int) B = ((Nat.gcd A B : Nat) : Int) := rfl
  rw [hg, ← Int.natCast_ediv]
  have hp : 0 < Nat.gcd A B := Nat.gcd_pos_of_pos_left _ (by omega)
  have hc : Nat.Coprime (B / Nat.gcd A B) (A / Nat.gcd A B) := by
    have := Nat.coprime_div_gcd_div_gcd hp
    exact this.symm
  have hn : B ∣ z.natAbs * A := by
    have := Int.natAbs_dvd_natAbs.2 h
    rwa [Int.natAbs_mul] at this
  have e1 : A = Nat.gcd A B * (A / Nat.gcd A B) := (Nat.mul_div_cancel' (Nat.gcd_dvd_left A B)).symm
  have e2 : B = Nat.gcd A B * (B / Nat.gcd A B) := (Nat.mul_div_cancel' (Nat.gcd_dvd_right A B)).symm
  have h5 : B / Nat.gcd A B ∣ z.natAbs * (A / Nat.gcd A B) := by
    have h6 : Nat.gcd A B * (B / Nat.gcd A B) ∣ Nat.gcd A B * (z.natAbs * (A / Nat.gcd A B)) := by
      rw [← e2, Nat.mul_left_comm, ← e1]; exact hn
    exact Nat.dvd_of_mul_dvd_mul_left hp h6
  exact Int.ofNat_dvd_left.2 (hc.dvd_of_dvd_mul_right h5)
theorem bez_least {a b less : Int} (h1 : 1 ≤ a) (h2 : a ≤ 1000000) (h3 : 1 ≤ b) (h4 : b ≤ 1000000) (h5 : 0 ≤ less) (h6 : less < xOf a b) : ¬ (gcdV a b - less * a).tmod b = 0 := by
  intro h
  have hx := x_facts (a := a) (b := b) h1 (by omega) h3 (by omega)
  have hd := tm.1 h
  have h7 : b ∣ (xOf a b - less) * a := by
    have := Int.dvd_add hx.2.2.2.2.2.2 hd
    rwa [show xOf a b * a - gcdV a b + (gcdV a b - less * a) = (xOf a b - less) * a by rw [Int.sub_mul]; omega] at this
  have h8 := Int.le_of_dvd (by omega) (cop h1 h3 h7)
  omega

end Go.Proofs.Ytobonmoinjkfbaa
