/- Bits turned in a row of bytes, and their sum: plain. -/
import Derived.Test.YtjgobknjnjdphaaWireP
set_option linter.all false
namespace Go.Proofs.Ytjgobknjnjdphaa
open Go Go.Abs

def P32 : BitVec 32 := 2197175160#32
def bitV (x : BitVec 32) : BitVec 32 := (x >>> 1) ^^^ (if x.getLsbD 0 = true then P32 else 0#32)
def bitVN : Nat → BitVec 32 → BitVec 32
  | 0, x => x
  | n + 1, x => bitV (bitVN n x)
def one1 (b : Bool) : BitVec 32 := if b = true then 1#32 else 0#32
theorem bitV_xor (x y : BitVec 32) : bitV (x ^^^ y) = bitV x ^^^ bitV y := by
  unfold bitV
  rw [BitVec.getLsbD_xor]
  apply BitVec.eq_of_getLsbD_eq
  intro i hi
  cases x.getLsbD 0 <;> cases y.getLsbD 0 <;> simp [BitVec.getLsbD_xor, BitVec.getLsbD_ushiftRight, Bool.xor_assoc, Bool.xor_comm, Bool.xor_left_comm]
theorem bitVN_xor (x y : BitVec 32) : ∀ n, bitVN n (x ^^^ y) = bitVN n x ^^^ bitVN n y
  | 0 => rfl
  | n + 1 => by simp only [bitVN]; rw [bitVN_xor x y n, bitV_xor]
theorem bitVN_add (x : BitVec 32) (m : Nat) : ∀ n, bitVN (m + n) x = bitVN n (bitVN m x)
  | 0 => rfl
  | n + 1 => by
    show bitV (bitVN (m + n) x) = bitV (bitVN n (bitVN m x))
    rw [bitVN_add x m n]
theorem bitV_zero : bitV 0#32 = 0#32 := by decide
theorem bitVN_zero : ∀ n, bitVN n 0#32 = 0#32
  | 0 => rfl
  | n + 1 => by show bitV (bitVN n 0#32) = _; rw [bitVN_zero n, bitV_zero]
theorem bitV_inj {x : BitVec 32} (h : bitV x = 0#32) : x = 0#32 := by
  have h31 : (bitV x).getLsbD 31 = false := by rw [h]; simp
  have hp : P32.getLsbD 31 = true := by decide
  have h0 : x.getLsbD 0 = false := by
    unfold bitV at h31
    rw [BitVec.getLsbD_xor, BitVec.getLsbD_ushiftRight, BitVec.getLsbD_of_ge x (1 + 31) (by decide)] at h31
    cases hx : x.getLsbD 0 with
    | false => rfl
    | true => rw [hx, if_pos rfl, hp] at h31; cases h31
  unfold bitV at h
  rw [h0, if_neg (by decide), BitVec.xor_zero] at h
  apply BitVec.eq_of_getLsbD_eq
  intro i hi
  rw [BitVec.getLsbD_zero]
  cases i with
  | zero => exact h0
  | succ i =>
    have := congrArg (fun z => z.getLsbD i) h
    simp only [BitVec.getLsbD_ushiftRight, BitVec.getLsbD_zero] at this
    rwa [Nat.add_comm] at this
theorem bitVN_inj {x : BitVec 32} : ∀ {n}, bitVN n x = 0#32 → x = 0#32
  | 0, h => h
  | n + 1, h => bitVN_inj (n := n) (bitV_inj h)
theorem bitV_clear (y : BitVec 32) : bitV (y ^^^ one1 (y.getLsbD 0)) = y >>> 1 := by
  have h0 : (y ^^^ one1 (y.getLsbD 0)).getLsbD 0 = false := by
    rw [BitVec.getLsbD_xor]; unfold one1
    cases y.getLsbD 0 <;> decide
  unfold bitV
  rw [h0, if_neg (by decide), BitVec.xor_zero]
  apply BitVec.eq_of_getLsbD_eq
  intro i hi
  rw [BitVec.getLsbD_ushiftRight, BitVec.getLsbD_ushiftRight, BitVec.getLsbD_xor]
  have : (one1 (y.getLsbD 0)).getLsbD (1 + i) = false := by
    unfold one1
    cases y.getLsbD 0
    · simp
    · rw [if_pos rfl]
      simp [BitVec.getLsbD_one]
  rw [this, Bool.xor_false]
/-- Bit by bit. -/
def bitH (x0 : BitVec 32) (u : Nat → Bool) : Nat → BitVec 32
  | 0 => x0
  | p + 1 => bitV (bitH x0 u p ^^^ one1 (u p))
theorem bitH_run {x0 : BitVec 32} {u : Nat → Bool} {p0 m : Nat} {d : BitVec 32} (hd : ∀ j, j < m → u (p0 + j) = d.getLsbD j) : ∀ j, j ≤ m → bitH x0 u (p0 + j) = bitVN j (bitH x0 u p0 ^^^ d) ^^^ (d >>> j)
  | 0, _ => by
    show bitH x0 u p0 = (bitH x0 u p0 ^^^ d) ^^^ (d >>> 0)
    rw [BitVec.ushiftRight_zero, BitVec.xor_assoc, BitVec.xor_self, BitVec.xor_zero]
  | j + 1, hj => by
    show bitV (bitH x0 u (p0 + j) ^^^ one1 (u (p0 + j))) = bitV (bitVN j (bitH x0 u p0 ^^^ d)) ^^^ (d >>> (j + 1))
    rw [bitH_run hd j (by omega), hd j (by omega), BitVec.xor_assoc, bitV_xor]
    have e : d.getLsbD j = (d >>> j).getLsbD 0 := by rw [BitVec.getLsbD_ushiftRight, Nat.add_zero]
    rw [e, bitV_clear, BitVec.shiftRight_add]
def regV (f : Nat → BitVec 32) : Nat → Nat → BitVec 32 → BitVec 32
  | 0, _, x => x
  | n + 1, k, x => regV f n (k + 1) (bitVN 8 (x ^^^ f k))
theorem regV_xor (f g : Nat → BitVec 32) : ∀ (n k : Nat) (x y : BitVec 32), regV f n k x ^^^ regV g n k y = regV (fun i => f i ^^^ g i) n k (x ^^^ y)
  | 0, _, _, _ => rfl
  | n + 1, k, x, y => by
    simp only [regV]
    rw [regV_xor f g n, ← bitVN_xor]
    congr 2
    rw [BitVec.xor_assoc, BitVec.xor_assoc, ← BitVec.xor_assoc (f k) y (g k), BitVec.xor_comm (f k) y, BitVec.xor_assoc y]
theorem regV_congr {f g : Nat → BitVec 32} : ∀ (n k : Nat) (x : BitVec 32), (∀ i, k ≤ i → i < k + n → f i = g i) → regV f n k x = regV g n k x
  | 0, _, _, _ => rfl
  | n + 1, k, x, h => by
    simp only [regV]
    rw [h k (Nat.le_refl _) (by omega)]
    exact regV_congr n (k + 1) _ fun i h1 h2 => h i (by omega) (by omega)
theorem regV_split (f : Nat → BitVec 32) (m : Nat) : ∀ (n k : Nat) (x : BitVec 32), regV f (n + m) k x = regV f m (k + n) (regV f n k x)
  | 0, k, x => by simp [regV]
  | n + 1, k, x => by
    rw [show n + 1 + m = (n + m) + 1 by omega]
    simp only [regV]
    rw [regV_split f m n (k + 1)]
    congr 1
    omega
theorem regV_shift (f : Nat → BitVec 32) (c : Nat) : ∀ (n k : Nat) (x : BitVec 32), regV f n (c + k) x = regV (fun i => f (c + i)) n k x
  | 0, _, _ => rfl
  | n + 1, k, x => by
    simp only [regV]
    rw [show c + k + 1 = c + (k + 1) by omega, regV_shift f c n (k + 1)]
/-- A byte of a row of bits. -/
def ByteOf (u : Nat → Bool) (i : Nat) (d : BitVec 32) : Prop := ∀ j, d.getLsbD j = (decide (j < 8) && u (8 * i + j))
theorem bitH_byte {x0 : BitVec 32} {u : Nat → Bool} {i : Nat} {d : BitVec 32} (h : ByteOf u i d) : bitH x0 u (8 * (i + 1)) = bitVN 8 (bitH x0 u (8 * i) ^^^ d) := by
  have e := bitH_run (x0 := x0) (u := u) (p0 := 8 * i) (m := 8) (d := d) (fun j hj => by rw [h j]; simp [hj]) 8 (Nat.le_refl _)
  rw [show 8 * (i + 1) = 8 * i + 8 by omega, e]
  have : d >>> 8 = 0#32 := by
    apply BitVec.eq_of_getLsbD_eq
    intro j hj
    rw [BitVec.getLsbD_ushiftRight, h, decide_eq_false (by omega)]
    simp
  rw [this, BitVec.xor_zero]
theorem regV_bits {x0 : BitVec 32} {u : Nat → Bool} {f : Nat → BitVec 32} : ∀ (n k : Nat), (∀ i, k ≤ i → i < k + n → ByteOf u i (f i)) → regV f n k (bitH x0 u (8 * k)) = bitH x0 u (8 * (k + n))
  | 0, _, _ => rfl
  | n + 1, k, h => by
    simp only [regV]
    rw [← bitH_byte (h k (Nat.le_refl _) (by omega)), regV_bits n (k + 1) fun i h1 h2 => h i (by omega) (by omega)]
    congr 1
    omega
/-- The bits of a number, from a place on. -/
def winW (a : Nat) (B : BitVec 32) (p : Nat) : Bool := decide (a ≤ p) && B.getLsbD (p - a)
theorem win_before {a : Nat} {B : BitVec 32} : ∀ p, p ≤ a → bitH 0#32 (winW a B) p = 0#32
  | 0, _ => rfl
  | p + 1, h => by
    show bitV (bitH 0#32 (winW a B) p ^^^ one1 (winW a B p)) = 0#32
    rw [win_before p (by omega)]
    have : winW a B p = false := by unfold winW; rw [decide_eq_false (by omega)]; rfl
    rw [this]
    decide
theorem win_after {a : Nat} {B : BitVec 32} (m : Nat) : bitH 0#32 (winW a B) (a + m) = bitVN m B ^^^ (B >>> m) := by
  have := bitH_run (x0 := 0#32) (u := winW a B) (p0 := a) (m := m) (d := B) (fun j _ => by unfold winW; rw [decide_eq_true (by omega), Bool.true_and, Nat.add_sub_cancel_left]) m (Nat.le_refl _)
  rw [this, win_before a (Nat.le_refl _), BitVec.zero_xor]
theorem win_full {a m : Nat} {B : BitVec 32} (hB : B ≠ 0#32) (hm : 32 ≤ m) : bitH 0#32 (winW a B) (a + m) ≠ 0#32 := by
  rw [win_after]
  have : B >>> m = 0#32 := by
    apply BitVec.eq_of_getLsbD_eq
    intro j hj
    rw [BitVec.getLsbD_ushiftRight, BitVec.getLsbD_of_ge B (m + j) (by omega)]; simp
  rw [this, BitVec.xor_zero]
  exact fun h => hB (bitVN_inj h)
theorem shl_run (y : BitVec 32) : ∀ m, (∀ j, 32 - m ≤ j → y.getLsbD j = false) → m ≤ 32 → bitVN m (y <<< m) = y
  | 0, _, _ => by show y <<< 0 = y; simp
  | m + 1, h, hm => by
    have e : bitVN (m + 1) (y <<< (m + 1)) = bitVN m (bitV (y <<< (m + 1))) := by rw [Nat.add_comm, bitVN_add]; rfl
    have e2 : bitV (y <<< (m + 1)) = y <<< m := by
      unfold bitV
      have : (y <<< (m + 1)).getLsbD 0 = false := by rw [BitVec.getLsbD_shiftLeft]; simp
      rw [this, if_neg (by decide), BitVec.xor_zero]
      apply BitVec.eq_of_getLsbD_eq
      intro j hj
      rw [BitVec.getLsbD_ushiftRight, BitVec.getLsbD_shiftLeft, BitVec.getLsbD_shiftLeft]
      by_cases hj2 : j < m
      · simp [hj2, show 1 + j < m + 1 by omega]
      · by_cases hj3 : j = 31
        · subst hj3
          rw [h (31 - m) (by omega)]; simp
        · simp [hj2, show 1 + j < 32 by omega, show ¬ 1 + j < m + 1 by omega, hj, show 1 + j - (m + 1) = j - m by omega]
    rw [e, e2]
    exact shl_run y m (fun j hj => h j (by omega)) (by omega)
/-- Nothing told: nothing turned. -/
theorem win_part {a m : Nat} {B : BitVec 32} (h : bitH 0#32 (winW a B) (a + m) = 0#32) : ∀ j, j < m → B.getLsbD j = false := by
  rcases Nat.lt_or_ge m 32 with hm | hm
  · rw [win_after] at h
    have h1 : bitVN m ((B >>> m) <<< m) = B >>> m := shl_run _ m (fun j hj => by rw [BitVec.getLsbD_ushiftRight, BitVec.getLsbD_of_ge B _ (by omega)]) (by omega)
    rw [← h1, ← bitVN_xor] at h
    have h2 := bitVN_inj h
    intro j hj
    have h3 := congrArg (fun z => z.getLsbD j) h2
    simp only [BitVec.getLsbD_xor, BitVec.getLsbD_shiftLeft, BitVec.getLsbD_zero] at h3
    simpa [hj] using h3
  · intro j _
    have : B = 0#32 := Classical.byContradiction fun hB => win_full hB hm h
    rw [this]; simp

end Go.Proofs.Ytjgobknjnjdphaa
