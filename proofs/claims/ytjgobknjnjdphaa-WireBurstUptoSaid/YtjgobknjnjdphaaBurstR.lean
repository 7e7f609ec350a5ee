/- Bits turned in a row of bytes: which bytes these are, and what it is read as: plain. -/
import Derived.Test.YtjgobknjnjdphaaBurstQ
set_option linter.all false
namespace Go.Proofs.Ytjgobknjnjdphaa
open Go Go.Abs

def flipV (s : ByteArray) (a bits : Int) : Nat → Nat → Int
  | 0, i => byteAt s (i : Nat)
  | k + 1, i => if bAnd .u32 (bShr .u32 bits (k : Nat)) 1 = 1 ∧ i = ((a + (k : Nat)).tdiv 8).toNat then bXor .u8 (flipV s a bits k i) (bShl .u8 1 ((a + (k : Nat)).tmod 8)) else flipV s a bits k i
def dkV (a : Nat) (B : BitVec 32) : Nat → Nat → BitVec 32
  | 0, _ => 0#32
  | k + 1, i => if B.getLsbD k = true ∧ i = (a + k) / 8 then dkV a B k i ^^^ (1#32 <<< ((a + k) % 8)) else dkV a B k i
theorem one_shl (c j : Nat) (hc : c < 8) : (1#32 <<< c).getLsbD j = decide (j = c) := by
  rw [BitVec.getLsbD_shiftLeft, BitVec.getLsbD_one]
  by_cases h : j = c
  · subst h
    simp; omega
  · rw [decide_eq_false h]
    by_cases h2 : j < c
    · simp [h2]
    · simp [show ¬ j - c = 0 by omega]
theorem dk_bits (a : Nat) (B : BitVec 32) (i j : Nat) : ∀ k, (dkV a B k i).getLsbD j = (decide (j < 8 ∧ a ≤ 8 * i + j ∧ 8 * i + j < a + k) && B.getLsbD (8 * i + j - a))
  | 0 => by
    rw [dkV, decide_eq_false (by omega)]
    simp
  | k + 1 => by
    have ih := dk_bits a B i j k
    have e : 8 * ((a + k) / 8) + (a + k) % 8 = a + k := Nat.div_add_mod _ _
    have hc : (a + k) % 8 < 8 := Nat.mod_lt _ (by decide)
    rw [dkV]
    split
    · rename_i h
      obtain ⟨h1, h2⟩ := h
      rw [BitVec.getLsbD_xor, ih, one_shl _ _ hc]
      by_cases hj : j = (a + k) % 8
      · rw [decide_eq_true hj, decide_eq_false (by omega), decide_eq_true (show j < 8 ∧ a ≤ 8 * i + j ∧ 8 * i + j < a + (k + 1) by omega), show 8 * i + j - a = k by omega, h1]; rfl
      · rw [decide_eq_false hj, Bool.xor_false]
        congr 1
        exact decide_eq_decide.2 (by omega)
    · rename_i h
      rw [ih]
      by_cases hj : j < 8 ∧ 8 * i + j = a + k
      · have : B.getLsbD k = false := by
          cases hb : B.getLsbD k with
          | false => rfl
          | true => exact absurd ⟨hb, by omega⟩ h
        rw [show 8 * i + j - a = k by omega, this, Bool.and_false, Bool.and_false]
      · congr 1
        exact decide_eq_decide.2 (by omega)
theorem dk_lt (a : Nat) (B : BitVec 32) (k i : Nat) : (dkV a B k i).toNat < 256 := by
  apply Nat.lt_pow_two_of_testBit (n := 8)
  intro j hj
  show (dkV a B k i).getLsbD j = false
  rw [dk_bits, decide_eq_false (by omega)]; rfl
theorem bvB_lt (s : ByteArray) (k : Nat) : (bvB s k).toNat < 256 := by
  have hb := byte_bd s k
  unfold bvB
  rw [BitVec.toNat_ofNat, Nat.mod_eq_of_lt (by omega)]
  omega
theorem xor8 {X : BitVec 32} (hX : X.toNat < 256) {c : Nat} (hc : c < 8) : bXor .u8 (iv X) (bShl .u8 1 (c : Nat)) = iv (X ^^^ (1#32 <<< c)) := by
  have e1 : bShl .u8 1 (c : Nat) = ((2 ^ c : Nat) : Int) := by
    have : c = 0 ∨ c = 1 ∨ c = 2 ∨ c = 3 ∨ c = 4 ∨ c = 5 ∨ c = 6 ∨ c = 7 := by omega
    rcases this with rfl | rfl | rfl | rfl | rfl | rfl | rfl | rfl <;> decide
  have h2 : 2 ^ c < 2 ^ 8 := Nat.pow_lt_pow_right (by decide) hc
  have t : ∀ m : Nat, m < 256 → (BitVec.ofInt IntKind.u8.bits (m : Int)).toNat = m := fun m hm => by
    show (BitVec.ofInt 8 (m : Int)).toNat = m
    rw [BitVec.toNat_ofInt]
    omega
  rw [e1]
  unfold bXor iv
  rw [BitVec.toNat_xor, t _ hX, t _ h2, BitVec.toNat_xor, BitVec.toNat_shiftLeft]
  have h3 : X.toNat ^^^ 2 ^ c < 2 ^ 8 := Nat.xor_lt_two_pow hX h2
  rw [wrap_u8 (by omega) (by omega)]
  have e2 : (1#32).toNat <<< c % 2 ^ 32 = 2 ^ c := by
    rw [show (1#32).toNat = 1 from rfl, Nat.shiftLeft_eq, Nat.one_mul, Nat.mod_eq_of_lt (by omega)]
  rw [e2]
theorem bit_of {b : Bool} (h : (if b = true then (1 : Int) else 0) = 1) : b = true := by
  cases b with
  | true => rfl
  | false => cases h
theorem flip_eq (s : ByteArray) (a : Nat) (B : BitVec 32) (i : Nat) : ∀ k, k ≤ 32 → flipV s (a : Nat) (iv B) k i = iv (bvB s i ^^^ dkV a B k i)
  | 0, _ => by
    rw [flipV, dkV, BitVec.xor_zero]
    exact iv_bvB s i
  | k + 1, hk => by
    have ih := flip_eq s a B i k (by omega)
    rw [flipV, dkV, iv_shr _ _ (by omega), iv_low, BitVec.getLsbD_ushiftRight, Nat.add_zero]
    have e1 : (((a : Nat) : Int) + (k : Nat)).tdiv 8 = (((a + k) / 8 : Nat) : Int) := by
      rw [Int.tdiv_eq_ediv_of_nonneg (by omega)]; omega
    have e2 : (((a : Nat) : Int) + (k : Nat)).tmod 8 = (((a + k) % 8 : Nat) : Int) := by
      rw [Int.tmod_eq_emod_of_nonneg (by omega)]; omega
    rw [e1, e2, Int.toNat_natCast]
    by_cases h : B.getLsbD k = true ∧ i = (a + k) / 8
    · rw [if_pos h, if_pos ⟨by rw [if_pos h.1], h.2⟩, ih]
      have hx : (bvB s i ^^^ dkV a B k i).toNat < 256 := by
        rw [BitVec.toNat_xor]
        exact Nat.xor_lt_two_pow (n := 8) (bvB_lt s i) (dk_lt a B k i)
      rw [xor8 hx (Nat.mod_lt _ (by decide)), BitVec.xor_assoc]
    · rw [if_neg h, if_neg (fun q => h ⟨bit_of q.1, q.2⟩), ih]
def turnT (s : ByteArray) (a bits : Int) : ByteArray := sOf s.size fun i => flipV s a bits 32 i
theorem byteAt_sOf (n : Nat) (f : Nat → Int) (i : Nat) (hi : i < n) (h0 : 0 ≤ f i) (h1 : f i < 256) : byteAt (sOf n f) (i : Nat) = f i := by
  have hs : i < (sOf n f).data.size := by simp [sOf, hi]
  rw [byteAt_get _ _ hs]
  have : (sOf n f).data[i] = UInt8.ofNat (f i).toNat := by simp [sOf]
  rw [this, UInt8.toNat_ofNat']
  omega
theorem turn_bytes {s : ByteArray} {a : Nat} {B : BitVec 32} {i : Nat} (hi : i < s.size) : bvB (turnT s (a : Nat) (iv B)) i = bvB s i ^^^ dkV a B 32 i := by
  have hx : (bvB s i ^^^ dkV a B 32 i).toNat < 256 := by
    rw [BitVec.toNat_xor]
    exact Nat.xor_lt_two_pow (n := 8) (bvB_lt s i) (dk_lt a B 32 i)
  have e := flip_eq s a B i 32 (Nat.le_refl _)
  apply iv_inj
  rw [← iv_bvB]
  unfold turnT
  rw [byteAt_sOf _ _ _ hi (by rw [e]; exact (iv_bd _).1) (by rw [e]; unfold iv; omega), e]
theorem dk_byte (a : Nat) (B : BitVec 32) (i : Nat) : ByteOf (winW a B) i (dkV a B 32 i) := by
  intro j
  rw [dk_bits]
  unfold winW
  by_cases h1 : j < 8
  · by_cases h2 : a ≤ 8 * i + j
    · by_cases h3 : 8 * i + j < a + 32
      · simp [h1, h2, h3]
      · rw [decide_eq_false (by omega), BitVec.getLsbD_of_ge B _ (by omega)]; simp
    · rw [decide_eq_false (by omega), decide_eq_false h2]; simp
  · rw [decide_eq_false (by omega), decide_eq_false h1]; simp
/-- How far the two are apart. -/
theorem turn_reg {s : ByteArray} {a : Nat} {B : BitVec 32} {n : Nat} (hn : n ≤ s.size) : regS s n ^^^ regS (turnT s (a : Nat) (iv B)) n = bitH 0#32 (winW a B) (8 * n) := by
  unfold regS
  rw [regV_xor, BitVec.xor_self]
  have := regV_bits (x0 := 0#32) (u := winW a B) (f := fun i => dkV a B 32 i) n 0 (fun i _ _ => dk_byte a B i)
  rw [Nat.zero_add] at this
  rw [← this]
  exact regV_congr n 0 _ fun i _ hi => by
    rw [turn_bytes (by omega), ← BitVec.xor_assoc, BitVec.xor_self, BitVec.zero_xor]
theorem turn_size (s : ByteArray) (a bits : Int) : (turnT s a bits).size = s.size := sOf_size _ _
theorem bvB_ext (s : ByteArray) (n i : Nat) (hn : n ≤ s.size) (hi : i < n) : bvB (s.extract 0 n) i = bvB s i := by
  unfold bvB
  rw [byteAt_ext s 0 n i (by omega) hn, Nat.zero_add]
theorem regS_ext (s : ByteArray) (n : Nat) (hn : n ≤ s.size) : regS (s.extract 0 n) (s.extract 0 n).size = regS s n := by
  rw [extract_size, show min n s.size - 0 = n by omega]
  exact regV_congr n 0 _ fun i _ hi => bvB_ext s n i hn (by omega)
/-- Equal sums: equal texts. -/
theorem burst_sum {s : ByteArray} {a n : Nat} {B : BitVec 32} (hn : n ≤ s.size) (h : wsumK (s.extract 0 n) = wsumK ((turnT s (a : Nat) (iv B)).extract 0 n)) : s.extract 0 n = (turnT s (a : Nat) (iv B)).extract 0 n := by
  have hT := turn_size s (a : Nat) (iv B)
  rw [wsum_reg, wsum_reg, regS_ext s n hn, regS_ext _ n (by omega)] at h
  have h2 := iv_inj h
  have h3 : regS s n = regS (turnT s (a : Nat) (iv B)) n := by
    have := congrArg (fun z => ones ^^^ z) h2
    simpa [← BitVec.xor_assoc] using this
  have h4 := turn_reg (s := s) (a := a) (B := B) hn
  rw [h3, BitVec.xor_self] at h4
  have hw : ∀ p, p < 8 * n → winW a B p = false := by
    intro p hp
    unfold winW
    by_cases hap : a ≤ p
    · have h5 : a + (8 * n - a) = 8 * n := by omega
      rw [← h5] at h4
      rw [win_part h4.symm (p - a) (by omega), Bool.and_false]
    · rw [decide_eq_false hap]; rfl
  apply ba_ext
  · rw [extract_size, extract_size, hT]
  · intro i hi
    rw [extract_size] at hi
    have hin : i < n := by omega
    rw [byteAt_ext s 0 n i (by omega) hn, byteAt_ext _ 0 n i (by omega) (by omega), Nat.zero_add]
    rw [iv_bvB, iv_bvB, turn_bytes (by omega)]
    have : dkV a B 32 i = 0#32 := by
      apply BitVec.eq_of_getLsbD_eq
      intro j hj
      rw [dk_byte a B i j]
      by_cases h8 : j < 8
      · rw [hw (8 * i + j) (by omega)]; simp
      · rw [decide_eq_false h8]; simp
    rw [this, BitVec.xor_zero]
theorem wrap8_iv (V : BitVec 32) (c : Nat) (hc : c ≤ 32) : IntKind.u8.wrap (bShr .u32 (iv V) (c : Nat)) = iv ((V >>> c) &&& 255#32) := by
  rw [iv_shr _ _ hc, wrap_u8']
  unfold iv
  rw [BitVec.toNat_and, show (255#32).toNat = 2 ^ 8 - 1 from rfl, Nat.and_two_pow_sub_one_eq_mod]
  omega
theorem seal_byte (b : ByteArray) (i : Nat) (hi : i < 4) : bvB (sealV b) i = ((ones ^^^ regS b b.size) >>> (8 * i)) &&& 255#32 := by
  have key : ∀ x : Int, 0 ≤ x ∧ x < 256 → (u8At (rowN 1 [.i .u8 fun _ => IntKind.u8.wrap (wsumK b), .i .u8 fun _ => IntKind.u8.wrap (bShr .u32 (wsumK b) 8), .i .u8 fun _ => IntKind.u8.wrap (bShr .u32 (wsumK b) 16), .i .u8 fun _ => IntKind.u8.wrap (bShr .u32 (wsumK b) 24)] fun _ => i)) = x → byteAt (sealV b) (i : Nat) = x := by
    intro x hx he
    unfold sealV
    rw [byteAt_sOf _ _ _ hi (by rw [he]; exact hx.1) (by rw [he]; exact hx.2), he]
  have hb : ∀ V : BitVec 32, 0 ≤ iv (V &&& 255#32) ∧ iv (V &&& 255#32) < 256 := by
    intro V
    unfold iv
    rw [BitVec.toNat_and, show (255#32).toNat = 2 ^ 8 - 1 from rfl, Nat.and_two_pow_sub_one_eq_mod]
    omega
  apply iv_inj
  rw [← iv_bvB]
  refine key _ (hb _) ?_
  have hw := wsum_reg b
  rcases (show i = 0 ∨ i = 1 ∨ i = 2 ∨ i = 3 by omega) with rfl | rfl | rfl | rfl
  · show IntKind.u8.wrap (wsumK b) = _
    rw [hw, wrap_u8']
    unfold iv
    rw [BitVec.toNat_and, show (255#32).toNat = 2 ^ 8 - 1 from rfl, Nat.and_two_pow_sub_one_eq_mod]
    simp
  · show IntKind.u8.wrap (bShr .u32 (wsumK b) ((8 : Nat) : Int)) = _
    rw [hw, wrap8_iv _ 8 (by decide)]
  · show IntKind.u8.wrap (bShr .u32 (wsumK b) ((16 : Nat) : Int)) = _
    rw [hw, wrap8_iv _ 16 (by decide)]
  · show IntKind.u8.wrap (bShr .u32 (wsumK b) ((24 : Nat) : Int)) = _
    rw [hw, wrap8_iv _ 24 (by decide)]
/-- Behind a right seal the register is always the same. -/
theorem seal_reg {s : ByteArray} (h4 : 4 ≤ s.size) (h : s.extract (s.size - 4) s.size = sealV (s.extract 0 (s.size - 4))) : regS s s.size = bitVN 32 ones := by
  generalize hn : s.size - 4 = n at h
  have hsn : s.size = n + 4 := by omega
  have e1 : regS s s.size = regV (bvB s) 4 n (regS s n) := by
    rw [hsn]
    unfold regS
    rw [regV_split, Nat.zero_add]
  have hX := regS_ext s n (by omega)
  generalize hV : ones ^^^ regS s n = V
  have hbytes : ∀ i, i < 4 → bvB s (n + i) = (V >>> (8 * i)) &&& 255#32 := by
    intro i hi
    have h5 := seal_byte (s.extract 0 n) i hi
    rw [hX, hV, ← h] at h5
    rw [← h5]
    unfold bvB
    rw [byteAt_ext s n s.size i (by omega) (Nat.le_refl _)]
  have e2 : regV (bvB s) 4 n (regS s n) = regV (fun i => (V >>> (8 * i)) &&& 255#32) 4 0 (regS s n) := by
    have := regV_shift (bvB s) n 4 0 (regS s n)
    rw [Nat.add_zero] at this
    rw [this]
    exact regV_congr 4 0 _ fun i _ hi => hbytes i (by omega)
  have hby : ∀ i, 0 ≤ i → i < 0 + 4 → ByteOf (fun p => V.getLsbD p) i ((V >>> (8 * i)) &&& 255#32) := by
    intro i _ hi j
    rw [BitVec.getLsbD_and, BitVec.getLsbD_ushiftRight]
    have : (255#32).getLsbD j = decide (j < 8) := by
      show (255 : Nat).testBit j = _
      rw [show (255 : Nat) = 2 ^ 8 - 1 from rfl, Nat.testBit_two_pow_sub_one]
    rw [this, Bool.and_comm]
  have e3 := regV_bits (x0 := regS s n) (u := fun p => V.getLsbD p) (f := fun i => (V >>> (8 * i)) &&& 255#32) 4 0 hby
  have e4 := bitH_run (x0 := regS s n) (u := fun p => V.getLsbD p) (p0 := 0) (m := 32) (d := V) (fun j _ => by rw [Nat.zero_add]) 32 (Nat.le_refl _)
  have e5 : V >>> 32 = 0#32 := by
    apply BitVec.eq_of_getLsbD_eq
    intro j hj
    rw [BitVec.getLsbD_ushiftRight, BitVec.getLsbD_of_ge V _ (by omega)]; simp
  rw [e1, e2]
  have e6 : bitH (regS s n) (fun p => V.getLsbD p) (8 * 0) = regS s n := rfl
  rw [e6] at e3
  rw [e3]
  rw [Nat.zero_add] at e4
  show bitH (regS s n) (fun p => V.getLsbD p) 32 = _
  rw [e4, e5, BitVec.xor_zero]
  show bitVN 32 (regS s n ^^^ V) = _
  rw [← hV, BitVec.xor_comm ones, ← BitVec.xor_assoc, BitVec.xor_self, BitVec.zero_xor]
theorem burst_seal {s : ByteArray} {a : Nat} {B : BitVec 32} (h4 : 4 ≤ s.size) (hs : s.extract (s.size - 4) s.size = sealV (s.extract 0 (s.size - 4))) (hB : B ≠ 0#32) (ha : a + 32 ≤ 8 * s.size) :
    ¬ (turnT s (a : Nat) (iv B)).extract (s.size - 4) s.size = sealV ((turnT s (a : Nat) (iv B)).extract 0 (s.size - 4)) := by
  intro h
  have hT := turn_size s (a : Nat) (iv B)
  have h1 := seal_reg h4 hs
  have h2 := seal_reg (s := turnT s (a : Nat) (iv B)) (by omega) (by rw [hT]; exact h)
  rw [hT] at h2
  have h3 := turn_reg (s := s) (a := a) (B := B) (Nat.le_refl _)
  rw [h1, h2, BitVec.xor_self] at h3
  refine win_full (a := a) (m := 8 * s.size - a) hB (by omega) ?_
  rw [show a + (8 * s.size - a) = 8 * s.size by omega]
  exact h3.symm
theorem burst_read {m : Msg} (hc : checkM m = 0) {a : Nat} {B : BitVec 32} (hB : B ≠ 0#32) (ha : a + 32 ≤ 8 * (writeV m).1.size) : ¬ (readV (turnT (writeV m).1 (a : Nat) (iv B))).2 = 0 := by
  intro h
  have hT := turn_size (writeV m).1 (a : Nat) (iv B)
  obtain ⟨q1, q2, q3, q4, q5⟩ := read_ok (s := (writeV m).1) (by rw [read_write hc])
  obtain ⟨t1, t2, t3, t4, t5⟩ := read_ok h
  have hsz := write_size hc
  rw [hT] at t4
  exact burst_seal (by omega) q4 hB ha t4
theorem burst_err {m : Msg} (hc : checkM m = 0) {a : Nat} {B : BitVec 32} (hB : B ≠ 0#32) (ha : a + 32 ≤ 8 * (writeV m).1.size) (h16 : 16 ≤ a) : (readV (turnT (writeV m).1 (a : Nat) (iv B))).2 = 5 := by
  have hT := turn_size (writeV m).1 (a : Nat) (iv B)
  obtain ⟨q1, q2, q3, q4, q5⟩ := read_ok (s := (writeV m).1) (by rw [read_write hc])
  have hsz := write_size hc
  have hb : ∀ i : Nat, i < 2 → byteAt (turnT (writeV m).1 (a : Nat) (iv B)) (i : Nat) = byteAt (writeV m).1 (i : Nat) := by
    intro i hi
    rw [iv_bvB, iv_bvB, turn_bytes (by omega)]
    have : dkV a B 32 i = 0#32 := by
      apply BitVec.eq_of_getLsbD_eq
      intro j hj
      rw [dk_bits, decide_eq_false (by omega)]; simp
    rw [this, BitVec.xor_zero]
  have hn : numR (turnT (writeV m).1 (a : Nat) (iv B)) 2 = numR (writeV m).1 2 := by
    rw [numR2, numR2, hb 0 (by decide), hb 1 (by decide)]
  have hl : longV (turnT (writeV m).1 (a : Nat) (iv B)) = longV (writeV m).1 := by
    unfold longV
    rw [hT, hn]
  have h5 := burst_seal (by omega) q4 hB ha
  rw [read_c (by rw [hl]; exact q1) (by rw [hl, hT]; exact q2) (by rw [hl]; exact q3) (by rw [hT]; exact h5)]

end Go.Proofs.Ytjgobknjnjdphaa
