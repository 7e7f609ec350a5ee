/- The sum of bytes, by numbers of 32 bits: plain. -/
import Derived.Test.YtjgobknjnjdphaaBurstP
set_option linter.all false
namespace Go.Proofs.Ytjgobknjnjdphaa
open Go Go.Abs

def iv (x : BitVec 32) : Int := (x.toNat : Nat)
theorem iv_bd (x : BitVec 32) : 0 ≤ iv x ∧ iv x < 4294967296 := by
  have := x.isLt
  unfold iv
  omega
theorem iv_inj {x y : BitVec 32} (h : iv x = iv y) : x = y := by
  unfold iv at h
  exact BitVec.eq_of_toNat_eq (by omega)
theorem iv_of {n : Int} (h0 : 0 ≤ n) (h1 : n < 4294967296) : ∃ x, n = iv x := ⟨BitVec.ofNat 32 n.toNat, by
  unfold iv
  rw [BitVec.toNat_ofNat, Nat.mod_eq_of_lt (by omega)]
  omega⟩
theorem ofInt_iv (x : BitVec 32) : BitVec.ofInt IntKind.u32.bits (iv x) = x := by
  show BitVec.ofInt 32 ((x.toNat : Nat) : Int) = x
  rw [BitVec.ofInt_natCast, BitVec.ofNat_toNat, BitVec.setWidth_eq]
theorem iv_xor (x y : BitVec 32) : bXor .u32 (iv x) (iv y) = iv (x ^^^ y) := by
  unfold bXor
  rw [ofInt_iv, ofInt_iv]
  exact wrap_u32 (iv_bd _).1 (iv_bd _).2
theorem iv_and (x y : BitVec 32) : bAnd .u32 (iv x) (iv y) = iv (x &&& y) := by
  unfold bAnd
  rw [ofInt_iv, ofInt_iv]
  exact wrap_u32 (iv_bd _).1 (iv_bd _).2
theorem iv_shr (x : BitVec 32) (k : Nat) (hk : k ≤ 32) : bShr .u32 (iv x) k = iv (x >>> k) := by
  unfold bShr iv
  rw [show min (k : Int).toNat IntKind.u32.bits = k by show min (k : Int).toNat 32 = k; omega]
  rw [fdiv_pos _ _ (Int.le_of_lt (Int.pow_pos (by decide))), BitVec.toNat_ushiftRight, Nat.shiftRight_eq_div_pow, Int.natCast_ediv, Int.natCast_pow]
  rfl
theorem and_one (x : BitVec 32) : x &&& 1#32 = one1 (x.getLsbD 0) := by
  apply BitVec.eq_of_getLsbD_eq
  intro i hi
  rw [BitVec.getLsbD_and]
  unfold one1
  cases i with
  | zero => cases x.getLsbD 0 <;> simp
  | succ i => cases x.getLsbD 0 <;> simp [BitVec.getLsbD_one]
theorem iv_low (x : BitVec 32) : bAnd .u32 (iv x) 1 = if x.getLsbD 0 = true then 1 else 0 := by
  rw [show (1 : Int) = iv 1#32 from rfl, iv_and, and_one]
  unfold one1
  cases x.getLsbD 0 <;> rfl
theorem iv_bit (x : BitVec 32) : bitB (iv x) = iv (bitV x) := by
  unfold bitB bitV
  rw [iv_low]
  have e1 : bShr .u32 (iv x) 1 = iv (x >>> 1) := iv_shr x 1 (by decide)
  rw [e1]
  cases x.getLsbD 0
  · exact iv_xor _ 0#32
  · exact iv_xor _ P32
theorem bitN_snoc : ∀ (n : Nat) (x : Int), bitN (n + 1) x = bitB (bitN n x)
  | 0, _ => rfl
  | n + 1, x => by
    show bitN (n + 1) (bitB x) = bitB (bitN n (bitB x))
    exact bitN_snoc n (bitB x)
theorem iv_bits (x : BitVec 32) : ∀ n, bitN n (iv x) = iv (bitVN n x)
  | 0 => rfl
  | n + 1 => by rw [bitN_snoc, iv_bits x n, iv_bit]; rfl
def bvB (s : ByteArray) (k : Nat) : BitVec 32 := BitVec.ofNat 32 (byteAt s (k : Nat)).toNat
theorem iv_bvB (s : ByteArray) (k : Nat) : byteAt s (k : Nat) = iv (bvB s k) := by
  have := byte_bd s k
  unfold iv bvB
  rw [BitVec.toNat_ofNat, Nat.mod_eq_of_lt (by omega)]
  omega
theorem iv_sum (s : ByteArray) : ∀ (n k : Nat) (x : BitVec 32), sumR (fun k => byteAt s k) n k (iv x) = iv (regV (bvB s) n k x)
  | 0, _, _ => rfl
  | n + 1, k, x => by
    simp only [sumR, regV]
    rw [iv_bvB s k, iv_xor, iv_bits, iv_sum s n]
def ones : BitVec 32 := 4294967295#32
def regS (s : ByteArray) (n : Nat) : BitVec 32 := regV (bvB s) n 0 ones
theorem wsum_reg (s : ByteArray) : wsumK s = iv (ones ^^^ regS s s.size) := by
  unfold wsumK sumV
  rw [show (4294967295 : Int) = iv ones from rfl, iv_sum, iv_xor]
  rfl
theorem bvB_bits (s : ByteArray) (k j : Nat) (hj : 8 ≤ j) : (bvB s k).getLsbD j = false := by
  have hb := byte_bd s k
  have : (bvB s k).toNat < 2 ^ 8 := by
    unfold bvB
    rw [BitVec.toNat_ofNat, Nat.mod_eq_of_lt (by omega)]
    omega
  exact Nat.testBit_lt_two_pow (Nat.lt_of_lt_of_le this (Nat.pow_le_pow_right (by decide) hj))

end Go.Proofs.Ytjgobknjnjdphaa
