/- Facts of what all divide: plain. -/
import Derived.Test.YthgmnejlhljlaaaLcm
set_option linter.all false
namespace Go.Proofs.Ythgmnejlhljlaaa
open Go Go.Abs

theorem g_dvd (a b : Int) : gcdV a b ∣ a ∧ gcdV a b ∣ b := ⟨Int.gcd_dvd_left .., Int.gcd_dvd_right ..⟩
theorem g_max {a b d : Int} (h1 : d ∣ a) (h2 : d ∣ b) : d ∣ gcdV a b := Int.dvd_coe_gcd h1 h2
theorem g_nn (a b : Int) : 0 ≤ gcdV a b := by unfold gcdV; omega
theorem g_comm (a b : Int) : gcdV a b = gcdV b a := by unfold gcdV; rw [Int.gcd_comm]
theorem g_sub (a b : Int) : gcdV (a - b) b = gcdV a b := by
  have h1 := g_dvd (a - b) b
  have h2 := g_dvd a b
  refine Int.dvd_antisymm (g_nn _ _) (g_nn _ _) (g_max ?_ h1.2) (g_max (Int.dvd_sub h2.1 h2.2) h2.2)
  have := Int.dvd_add h1.1 h1.2
  rwa [show a - b + b = a by omega] at this
theorem g_pos {a b : Int} (h1 : 0 ≤ a) (h3 : 0 ≤ b) (h : 0 < a + b) : 1 ≤ gcdV a b := by
  have hn := g_nn a b
  have hd := g_dvd a b
  rcases Int.lt_or_le 0 (gcdV a b) with h5 | h5
  · omega
  · have e : gcdV a b = 0 := by omega
    rw [e] at hd
    have := Int.zero_dvd.1 hd.1
    have := Int.zero_dvd.1 hd.2
    omega
theorem tm {a b : Int} : a.tmod b = 0 ↔ b ∣ a := ⟨Int.dvd_of_tmod_eq_zero, Int.tmod_eq_zero_of_dvd⟩
def lcmL : List Int → Nat
  | [] => 1
  | x :: l => Nat.lcm x.natAbs (lcmL l)
theorem lcmL_mem : ∀ {l : List Int} {x : Int}, x ∈ l → x.natAbs ∣ lcmL l
  | y :: l, x, h => by
    rcases List.mem_cons.1 h with rfl | h1
    · exact Nat.dvd_lcm_left _ _
    · exact Nat.dvd_trans (lcmL_mem h1) (Nat.dvd_lcm_right _ _)
theorem lcmL_max : ∀ {l : List Int} {n : Nat}, (∀ x ∈ l, x.natAbs ∣ n) → lcmL l ∣ n
  | [], n, _ => Nat.one_dvd n
  | x :: l, n, h => Nat.lcm_dvd (h x (List.mem_cons_self ..)) (lcmL_max fun y hy => h y (List.mem_cons_of_mem _ hy))
theorem lcmL_set {l m : List Int} (h : ∀ x, x ∈ l ↔ x ∈ m) : lcmL l = lcmL m :=
  Nat.dvd_antisymm (lcmL_max fun x hx => lcmL_mem ((h x).1 hx)) (lcmL_max fun x hx => lcmL_mem ((h x).2 hx))
theorem lcmL_pos : ∀ {l : List Int}, l.all okN = true → 0 < lcmL l
  | [], _ => Nat.one_pos
  | x :: l, h => by
    rw [List.all_cons, Bool.and_eq_true] at h
    have h1 : 1 ≤ x ∧ x ≤ 1099511627776 := by simpa [okN] using h.1
    exact Nat.lcm_pos (by omega) (lcmL_pos h.2)
theorem lcm_step {c x : Int} (hc : 1 ≤ c) (hx : 1 ≤ x) : c * (x / gcdV c x) = ((Nat.lcm c.natAbs x.natAbs : Nat) : Int) := by
  obtain ⟨C, rfl⟩ := Int.eq_ofNat_of_zero_le (show 0 ≤ c by omega)
  obtain ⟨X, rfl⟩ := Int.eq_ofNat_of_zero_le (show 0 ≤ x by omega)
  have hg : gcdV (C : Int) X = ((Nat.gcd C X : Nat) : Int) := rfl
  rw [hg, ← Int.natCast_ediv, ← Int.natCast_mul]
  show ((C * (X / Nat.gcd C X) : Nat) : Int) = ((Nat.lcm C X : Nat) : Int)
  rw [Nat.lcm, Nat.mul_div_assoc _ (Nat.gcd_dvd_right C X)]
theorem lcmR_eq : ∀ (l : List Int) (c : Int), 1 ≤ c → c ≤ 1099511627776 → l.all okN = true →
    lcmR l c = if Nat.lcm c.natAbs (lcmL l) ≤ 1099511627776 then (((Nat.lcm c.natAbs (lcmL l) : Nat) : Int), 0) else (0, 6)
  | [], c, h1, h2, _ => by
    have e : Nat.lcm c.natAbs (lcmL []) = c.natAbs := Nat.lcm_one_right _
    rw [e, if_pos (by omega), lcmR]
    congr 1; omega
  | x :: l, c, h1, h2, h => by
    rw [List.all_cons, Bool.and_eq_true] at h
    have hx : 1 ≤ x ∧ x ≤ 1099511627776 := by simpa [okN] using h.1
    have es := lcm_step h1 hx.1
    have hp := lcmL_pos h.2
    have hl : 0 < Nat.lcm c.natAbs x.natAbs := Nat.lcm_pos (by omega) (by omega)
    have ea : Nat.lcm c.natAbs (lcmL (x :: l)) = Nat.lcm (Nat.lcm c.natAbs x.natAbs) (lcmL l) := by
      show Nat.lcm c.natAbs (Nat.lcm x.natAbs (lcmL l)) = _
      rw [Nat.lcm_assoc]
    have hle : Nat.lcm c.natAbs x.natAbs ≤ Nat.lcm (Nat.lcm c.natAbs x.natAbs) (lcmL l) := Nat.le_of_dvd (Nat.lcm_pos hl hp) (Nat.dvd_lcm_left _ _)
    have hcmp : (1099511627776 / c < x / gcdV c x) ↔ 1099511627776 < (Nat.lcm c.natAbs x.natAbs : Int) := by
      rw [← es, Int.ediv_lt_iff_lt_mul (by omega), Int.mul_comm]
    rw [lcmR, ea]
    by_cases hb : 1099511627776 / c < x / gcdV c x
    · have := hcmp.1 hb
      rw [if_pos hb, if_neg (by omega)]
    · have hb2 : ¬ 1099511627776 < (Nat.lcm c.natAbs x.natAbs : Int) := fun q => hb (hcmp.2 q)
      rw [if_neg hb, es, lcmR_eq l _ (by omega) (by omega) h.2, Int.natAbs_natCast]
theorem lcmV_ok {l : List Int} (h : (lcmV l).2 = 0) : l.length ≤ 100 ∧ l.all okN = true ∧ (lcmV l).1 = lcmL l ∧ 1 ≤ lcmL l ∧ lcmL l ≤ 1099511627776 := by
  unfold lcmV at h ⊢
  split at h
  · cases h
  · rename_i hn
    rw [if_neg hn]
    split at h
    · rename_i ha
      rw [if_pos ha]
      rw [lcmR_eq l 1 (by decide) (by decide) ha, show (1 : Int).natAbs = 1 from rfl, Nat.lcm_one_left] at h ⊢
      split at h
      · rename_i hm
        rw [if_pos hm]
        exact ⟨by omega, ha, rfl, lcmL_pos ha, hm⟩
      · cases h
    · cases h
theorem lcmV_no {l : List Int} (h : ¬ (lcmV l).2 = 0) : (lcmV l).1 = 0 := by
  unfold lcmV at h ⊢
  split
  · rfl
  · rename_i hn
    rw [if_neg hn] at h
    split
    · rename_i ha
      rw [if_pos ha] at h
      rw [lcmR_eq l 1 (by decide) (by decide) ha] at h ⊢
      split
      · rename_i hm; rw [if_pos hm] at h; exact absurd rfl h
      · rfl
    · rfl
theorem lcmV_set {l r : List Int} (h : (lcmV l).2 = 0) (hr : r.length ≤ 100) (hs : ∀ x, x ∈ r ↔ x ∈ l) : lcmV r = lcmV l := by
  obtain ⟨h1, h2, h3, h4, h5⟩ := lcmV_ok h
  have ha : r.all okN = true := List.all_eq_true.2 fun x hx => List.all_eq_true.1 h2 x ((hs x).1 hx)
  have e : ∀ s : List Int, s.length ≤ 100 → s.all okN = true → lcmL s = lcmL l → lcmV s = (((lcmL l : Nat) : Int), 0) := fun s q1 q2 q3 => by
    rw [lcmV, if_neg (by omega), if_pos q2, lcmR_eq s 1 (by decide) (by decide) q2, show (1 : Int).natAbs = 1 from rfl, Nat.lcm_one_left, q3, if_pos h5]
  rw [e r hr ha (lcmL_set hs), e l h1 h2 rfl]
theorem lcm_two {l : List Int} (h : l.length = 2) (ha : l.all okN = true) : ((lcmL l : Nat) : Int) * gcdV (l.getD 0 Dat.d0) (l.getD 1 Dat.d0) = l.getD 0 Dat.d0 * l.getD 1 Dat.d0 := by
  match l, h with
  | [a, b], _ =>
    have h1 : 1 ≤ a ∧ a ≤ 1099511627776 := by simpa [okN] using List.all_eq_true.1 ha a (by simp)
    have h2 : 1 ≤ b ∧ b ≤ 1099511627776 := by simpa [okN] using List.all_eq_true.1 ha b (by simp)
    show ((Nat.lcm a.natAbs (Nat.lcm b.natAbs 1) : Nat) : Int) * ((Nat.gcd a.natAbs b.natAbs : Nat) : Int) = a * b
    rw [Nat.lcm_one_right, ← Int.natCast_mul, Nat.mul_comm, Nat.gcd_mul_lcm]
    rw [Int.natCast_mul]
    congr 1 <;> omega

end Go.Proofs.Ythgmnejlhljlaaa
