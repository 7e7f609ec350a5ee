/- Euclid's way, with what is taken of both; plain. -/
import Derived.Test.YtobonmoinjkfbaaNum
set_option linter.all false
namespace Go.Proofs.Ytobonmoinjkfbaa
open Go Go.Abs

structure ExI (a b r x t s : Int) : Prop where
  r1 : 1 ≤ r
  t0 : 0 ≤ t
  rb : r ≤ 1099511627776
  tb : t ≤ 1099511627776
  g : gcdV a b = gcdV r t
  x1 : b ∣ x * a - r
  s1 : b ∣ s * a - t
  sg : (0 ≤ x ∧ s ≤ 0 ∧ x * t - s * r = b) ∨ (x ≤ 0 ∧ 0 ≤ s ∧ s * r - x * t = b)
theorem ExI.start {a b : Int} (ha : 1 ≤ a) (ha2 : a ≤ 1099511627776) (hb : 1 ≤ b) (hb2 : b ≤ 1099511627776) : ExI a b a 1 b 0 :=
  ⟨ha, by omega, ha2, hb2, rfl, ⟨0, by omega⟩, ⟨-1, by omega⟩, .inl ⟨by omega, by omega, by omega⟩⟩
theorem ExI.bd {a b r x t s : Int} (h : ExI a b r x t s) (hb : 1 ≤ b) (hb2 : b ≤ 1099511627776) : -b ≤ s ∧ s ≤ b ∧ (0 < t → -b ≤ x ∧ x ≤ b) := by
  have h1 := h.r1
  have h2 := h.t0
  rcases h.sg with ⟨p, q, e⟩ | ⟨p, q, e⟩
  · have k1 : 0 ≤ x * t := Int.mul_nonneg p h2
    have k2 : (-s) * 1 ≤ (-s) * r := Int.mul_le_mul_of_nonneg_left h1 (by omega)
    rw [Int.neg_mul, Int.neg_mul] at k2
    refine ⟨by omega, by omega, fun ht => ?_⟩
    have k3 : x * 1 ≤ x * t := Int.mul_le_mul_of_nonneg_left ht p
    have k4 : 0 ≤ (-s) * r := Int.mul_nonneg (by omega) (by omega)
    rw [Int.neg_mul] at k4
    exact ⟨by omega, by omega⟩
  · have k1 : 0 ≤ (-x) * t := Int.mul_nonneg (by omega) h2
    have k2 : s * 1 ≤ s * r := Int.mul_le_mul_of_nonneg_left h1 (by omega)
    rw [Int.neg_mul] at k1
    refine ⟨by omega, by omega, fun ht => ?_⟩
    have k3 : (-x) * 1 ≤ (-x) * t := Int.mul_le_mul_of_nonneg_left ht (by omega)
    have k4 : 0 ≤ s * r := Int.mul_nonneg (by omega) (by omega)
    rw [Int.neg_mul, Int.neg_mul] at k3
    exact ⟨by omega, by omega⟩
theorem ExI.next {a b r x t s : Int} (h : ExI a b r x t s) (ht : 0 < t) (hb : 1 ≤ b) (hb2 : b ≤ 1099511627776) :
    ExI a b t s (r - r / t * t) (x - r / t * s) ∧ 0 ≤ r / t ∧ r / t ≤ 1099511627776 ∧ 0 ≤ r / t * t ∧ r / t * t ≤ r ∧ r - r / t * t < t ∧ -b ≤ r / t * s ∧ r / t * s ≤ b := by
  have h1 := h.r1
  have e1 : r - r / t * t = r % t := by rw [Int.emod_def, Int.mul_comm]
  have q0 : 0 ≤ r / t := Int.ediv_nonneg (by omega) (by omega)
  have m0 := Int.emod_nonneg r (show t ≠ 0 by omega)
  have m1 := Int.emod_lt_of_pos r ht
  have qr : r / t ≤ r := Int.ediv_le_self _ (by omega)
  have key : ExI a b t s (r - r / t * t) (x - r / t * s) := by
    refine ⟨ht, by omega, h.tb, by have := h.tb; omega, ?_, h.s1, ?_, ?_⟩
    · rw [h.g, e1]; exact gcd_step' (by omega) ht
    · obtain ⟨u, hu⟩ := h.x1
      obtain ⟨v, hv⟩ := h.s1
      refine ⟨u - r / t * v, ?_⟩
      generalize r / t = q at *
      grind
    · have e2 : s * (r - r / t * t) - (x - r / t * s) * t = s * r - x * t := by
        generalize r / t = q; grind
      rcases h.sg with ⟨p, p2, e⟩ | ⟨p, p2, e⟩
      · refine .inr ⟨p2, ?_, by omega⟩
        have := Int.mul_nonneg q0 (show 0 ≤ -s by omega)
        rw [Int.mul_neg] at this; omega
      · refine .inl ⟨p2, ?_, by omega⟩
        have := Int.mul_nonneg q0 p2
        omega
  have hb3 := key.bd hb hb2
  have hb4 := h.bd hb hb2
  refine ⟨key, q0, by have := h.rb; omega, Int.mul_nonneg q0 (by omega), by omega, by omega, ?_, ?_⟩
  · rcases h.sg with ⟨p, p2, e⟩ | ⟨p, p2, e⟩
    · have := (hb4.2.2 ht); omega
    · have := Int.mul_nonneg q0 p2; omega
  · rcases h.sg with ⟨p, p2, e⟩ | ⟨p, p2, e⟩
    · have := Int.mul_nonneg q0 (show 0 ≤ -s by omega)
      rw [Int.mul_neg] at this; omega
    · have := (hb4.2.2 ht); omega
def exR : Nat → Int → Int → Int → Int → Int × Int
  | 0, r, x, _, _ => (r, x)
  | f + 1, r, x, t, s => if 0 < t then exR f t s (r - r / t * t) (x - r / t * s) else (r, x)
/-- Where Euclid's way ends. -/
theorem exR_spec {a b : Int} (hb : 1 ≤ b) (hb2 : b ≤ 1099511627776) : ∀ (f : Nat) (r x t s : Int), ExI a b r x t s → t.toNat < f → 1 ≤ (exR f r x t s).1 ∧ (exR f r x t s).1 ≤ 1099511627776 ∧ gcdV a b = (exR f r x t s).1 ∧ b ∣ (exR f r x t s).2 * a - (exR f r x t s).1
  | 0, _, _, _, _, _, h => by omega
  | f + 1, r, x, t, s, h, hf => by
    rw [exR]
    split
    · rename_i ht
      have hn := h.next ht hb hb2
      exact exR_spec hb hb2 f _ _ _ _ hn.1 (by omega)
    · rename_i ht
      have h0 := h.t0
      have : t = 0 := by omega
      subst this
      refine ⟨h.r1, h.rb, ?_, h.x1⟩
      rw [h.g]; unfold gcdV; rw [Int.gcd_zero_right]; have := h.r1; show ((r.natAbs : Nat) : Int) = r; omega

end Go.Proofs.Ytobonmoinjkfbaa
