/- The program's functions, walked: Bs. -/
import Derived.Test.YtcnfdohlgmipoaaTy
set_option linter.all false
namespace Go.Proofs.Ytcnfdohlgmipoaa
open Go Go.Abs
def bs (p : Int → Bool) : Nat → Int → Int → Int
  | 0, lo, _ => lo
  | f + 1, lo, hi => if lo < hi then (if p ((lo + hi) / 2) = true then bs p f lo ((lo + hi) / 2) else bs p f ((lo + hi) / 2 + 1) hi) else lo
theorem bs_fuel {p : Int → Bool} : ∀ {f g : Nat} {lo hi : Int}, (hi - lo).toNat ≤ f → (hi - lo).toNat ≤ g → bs p f lo hi = bs p g lo hi
  | 0, 0, _, _, _, _ => rfl
  | 0, g + 1, lo, hi, h1, _ => by rw [bs, bs, if_neg (by omega)]
  | f + 1, 0, lo, hi, _, h2 => by rw [bs, bs, if_neg (by omega)]
  | f + 1, g + 1, lo, hi, h1, h2 => by
    rw [bs, bs]
    split
    · split
      · exact bs_fuel (by omega) (by omega)
      · exact bs_fuel (by omega) (by omega)
    · rfl
def bsN (p : Int → Bool) (lo hi : Int) : Int := bs p (hi - lo).toNat lo hi
theorem bsN_lt {p : Int → Bool} {lo hi : Int} (h : lo < hi) : bsN p lo hi = if p ((lo + hi) / 2) = true then bsN p lo ((lo + hi) / 2) else bsN p ((lo + hi) / 2 + 1) hi := by
  obtain ⟨f, hf⟩ : ∃ f, (hi - lo).toNat = f + 1 := ⟨(hi - lo).toNat - 1, by omega⟩
  unfold bsN
  rw [hf, bs, if_pos h]
  split
  · exact bs_fuel (by omega) (by omega)
  · exact bs_fuel (by omega) (by omega)
theorem bsN_ge {p : Int → Bool} {lo hi : Int} (h : ¬ lo < hi) : bsN p lo hi = lo := by
  unfold bsN
  rw [show (hi - lo).toNat = 0 by omega, bs]
theorem bsN_spec {p : Int → Bool} (hp : ∀ a b, a ≤ b → p a = true → p b = true) : ∀ (f : Nat) (lo hi : Int), (hi - lo).toNat ≤ f → lo ≤ hi → lo ≤ bsN p lo hi ∧ bsN p lo hi ≤ hi ∧ (∀ m, lo ≤ m → m < bsN p lo hi → p m = false) ∧ (bsN p lo hi < hi → p (bsN p lo hi) = true)
  | 0, lo, hi, h, hl => by rw [bsN_ge (by omega)]; exact ⟨by omega, hl, fun m _ _ => by omega, fun _ => by omega⟩
  | f + 1, lo, hi, h, hl => by
    by_cases hlt : lo < hi
    · rw [bsN_lt hlt]
      by_cases hm : p ((lo + hi) / 2) = true
      · rw [if_pos hm]
        obtain ⟨i1, i2, i3, i4⟩ := bsN_spec hp f lo ((lo + hi) / 2) (by omega) (by omega)
        refine ⟨i1, by omega, i3, fun _ => ?_⟩
        by_cases he : bsN p lo ((lo + hi) / 2) < (lo + hi) / 2
        · exact i4 he
        · rw [show bsN p lo ((lo + hi) / 2) = (lo + hi) / 2 by omega]; exact hm
      · rw [if_neg hm]
        obtain ⟨i1, i2, i3, i4⟩ := bsN_spec hp f ((lo + hi) / 2 + 1) hi (by omega) (by omega)
        refine ⟨by omega, i2, fun m h1 h2 => ?_, i4⟩
        by_cases hmm : (lo + hi) / 2 + 1 ≤ m
        · exact i3 m hmm h2
        · cases hpm : p m with
          | false => rfl
          | true => exact absurd (hp m _ (by omega) hpm) hm
    · rw [bsN_ge hlt]; exact ⟨by omega, hl, fun m _ _ => by omega, fun _ => by omega⟩
theorem mid_eq {a b : Int} (h0 : 0 ≤ a) (h1 : a ≤ b) (h2 : b ≤ 4611686018427387903) : IntKind.i64.wrap (bShr .u64 (IntKind.u64.wrap (a + b)) 1) = (a + b) / 2 := by
  have e1 : IntKind.u64.wrap (a + b) = a + b := by
    simp only [IntKind.wrap, IntKind.bits, IntKind.signed]
    simp
    omega
  rw [e1]
  have e2 : bShr .u64 (a + b) 1 = (a + b) / 2 := by
    unfold bShr
    simp [IntKind.bits]
    rw [Int.fdiv_eq_ediv_of_nonneg _ (by omega)]
  rw [e2]
  exact wrap64_in (by unfold InR; omega)
structure BsX (p : Int → Bool) (N : Int) where
  i : Int
  j : Int
  h0 : 0 ≤ i
  h1 : i ≤ j
  h2 : j ≤ N
  hr : bsN p 0 N = bsN p i j
theorem bsN_congr {p q : Int → Bool} : ∀ (f : Nat) (lo hi : Int), (hi - lo).toNat ≤ f → (∀ m, lo ≤ m → m < hi → p m = q m) → bsN p lo hi = bsN q lo hi
  | 0, lo, hi, h, _ => by rw [bsN_ge (by omega), bsN_ge (by omega)]
  | f + 1, lo, hi, h, hpq => by
    by_cases hlt : lo < hi
    · rw [bsN_lt hlt, bsN_lt hlt, hpq _ (show lo ≤ (lo + hi) / 2 by omega) (by omega), bsN_congr f lo ((lo + hi) / 2) (by omega) fun m a b => hpq m a (by omega), bsN_congr f ((lo + hi) / 2 + 1) hi (by omega) fun m a b => hpq m (by omega) b]
    · rw [bsN_ge hlt, bsN_ge hlt]
theorem bsN_bd {p : Int → Bool} : ∀ (f : Nat) (lo hi : Int), (hi - lo).toNat ≤ f → lo ≤ hi → lo ≤ bsN p lo hi ∧ bsN p lo hi ≤ hi
  | 0, lo, hi, h, hl => by rw [bsN_ge (by omega)]; exact ⟨by omega, hl⟩
  | f + 1, lo, hi, h, hl => by
    by_cases hlt : lo < hi
    · rw [bsN_lt hlt]
      split
      · have := @bsN_bd p f lo ((lo + hi) / 2) (by omega) (by omega); omega
      · have := @bsN_bd p f ((lo + hi) / 2 + 1) hi (by omega) (by omega); omega
    · rw [bsN_ge hlt]; omega

end Go.Proofs.Ytcnfdohlgmipoaa
