/- Facts of what all divide: plain. -/
import Derived.Test.YtnjngpjkhddnfaaGreatDoorLcm
set_option linter.all false
namespace Go.Proofs.YtnjngpjkhddnfaaGreatDoor
open Go Go.Abs

def lcmL : List Int → Nat
 | [] => 1
 | x :: l => Nat.lcm x.natAbs (lcmL l)
theorem lcmL_mem : ∀ {l : List Int} {x : Int}, x ∈ l → x.natAbs ∣ lcmL l
 | y :: l, x, h => by
   rcases List.mem_cons.1 h with rfl | h1
   · exact Nat.dvd_lcm_left _ _
   · exact Nat.dvd_trans (lcmL_mem h1) (Nat.dvd_lcm_right _ _)
theorem lcmL_max : ∀ {l : List Int} {n : Nat}, (∀ x ∈ l, x.natAbs ∣ n) → lcmL l ∣ n
 | [], n, _ => Nat.one_dvd n
 | x :: l, n, h => Nat.lcm_dvd (h x (List.mem_cons_self ..)) (lcmL_max fun y hy => h y (List.mem_cons_of_mem _ hy))
theorem lcmL_pos : ∀ {l : List Int}, l.all okN = true → 0 < lcmL l
 | [], _ => Nat.one_pos
 | x :: l, h => by
   rw [List.all_cons, Bool.and_eq_true] at h
   have h1 : 1 ≤ x ∧ x ≤ 1099511627776 := by simpa [okN] using h.1
   exact Nat.lcm_pos (by omega) (lcmL_pos h.2)
theorem lcm_step {c x : Int} (hc : 1 ≤ c) (hx : 1 ≤ x) : c * (x / gcdV c x) = ((Nat.lcm c.natAbs x.natAbs : Nat) : Int) := by
 obtain ⟨C, rfl⟩ := Int.eq_ofNat_of_zero_le (show 0 ≤ c by omega)
 obtain ⟨X, rfl⟩ := Int.eq_ofNat_of_zero_le (show 0 ≤ x by omega)
 have hg : gcdV (C : Int) X = ((Nat.gcd C X : Nat) : Int) := rfl
 rw [hg, ← Int.natCast_ediv, ← Int.natCast_mul]
 show ((C * (X / Nat.gcd C X) : Nat) : Int) = ((Nat.lcm C X : Nat) : Int)
 rw [Nat.lcm, Nat.mul_div_assoc _ (Nat.gcd_dvd_right C X)]
theorem lcmR_eq : ∀ (l : List Int) (c : Int), 1 ≤ c → c ≤ 1099511627776 → l.all okN = true →
   lcmR l c = if Nat.lcm c.natAbs (lcmL l) ≤ 1099511627776 then (((Nat.lcm c.natAbs (lcmL l) : Nat) : Int), 0) else (0, 6)
 | [], c, h1, h2, _ => by
   have e : Nat.lcm c.natAbs (lcmL []) = c.natAbs := Nat.lcm_one_right _
   rw [e, if_pos (by omega), lcmR]
   congr 1; omega
 | x :: l, c, h1, h2, h => by
   rw [List.all_cons, Bool.and_eq_true] at h
   have hx : 1 ≤ x ∧ x ≤ 1099511627776 := by simpa [okN] using h.1
   have es := lcm_step h1 hx.1
   have hp := lcmL_pos h.2
   have hl : 0 < Nat.lcm c.natAbs x.natAbs := Nat.lcm_pos (by omega) (by omega)
   have ea : Nat.lcm c.natAbs (lcmL (x :: l)) = Nat.lcm (Nat.lcm c.natAbs x.natAbs) (lcmL l) := by
     show Nat.lcm c.natAbs (Nat.lcm x.natAbs (lcmL l)) = _
     rw [Nat.lcm_assoc]
   have hle : Nat.lcm c.natAbs x.natAbs ≤ Nat.lcm (Nat.lcm c.natAbs x.natAbs) (lcmL l) := Nat.le_of_dvd (Nat.lcm_pos hl hp) (Nat.dvd_lcm_left _ _)
   have hcmp : (1099511627776 / c < x / gcdV c x) ↔ 1099511627776 < (Nat.lcm c.natAbs x.natAbs : Int) := by
     rw [← es, Int.ediv_lt_iff_lt_mul (by omega), Int.mul_comm]
   rw [lcmR, ea]
   by_cases hb : 1099511627776 / c < x / gcdV c x
   · have := hcmp.1 hb
     rw [if_pos hb, if_neg (by omega)]
   · have hb2 : ¬ 1099511627776 < (Nat.lcm c.natAbs x.natAbs : Int) := fun q => hb (hcmp.2 q)
     rw [if_neg hb, es, lcmR_eq l _ (by omega) (by omega) h.2, Int.natAbs_natCast]
theorem lcmV_ok {l : List Int} (h : (lcmV l).2 = 0) : l.length ≤ 100 ∧ l.all okN = true ∧ (lcmV l).1 = lcmL l ∧ 1 ≤ lcmL l ∧ lcmL l ≤ 1099511627776 := by
 unfold lcmV at h ⊢
 split at h
 · cases h
 · rename_i hn
   rw [if_neg hn]
   split at h
   · rename_i ha
     rw [if_pos ha]
     rw [lcmR_eq l 1 (by decide) (by decide) ha, show (1 : Int).natAbs = 1 from rfl, Nat.lcm_one_left] at h ⊢
     split at h
     · rename_i hm
       rw [if_pos hm]
       exact ⟨by omega, ha, rfl, lcmL_pos ha, hm⟩
     · cases h
   · cases h

end Go.Proofs.YtnjngpjkhddnfaaGreatDoor
