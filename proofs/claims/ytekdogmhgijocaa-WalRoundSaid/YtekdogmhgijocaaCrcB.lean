/- CRC: the model's words of 32 bits. -/
import Derived.Test.YtekdogmhgijocaaCrcL
import Derived.Laws.BitsAllLaws
import Derived.WalkKit
namespace Go.Proofs.Ytekdogmhgijocaa
set_option linter.unusedVariables false
set_option linter.unusedSimpArgs false

theorem ofInt_u32 (a : Nat) (ha : a < 4294967296) : (BitVec.ofInt 32 (a : Int)).toNat = a := by
  rw [BitVec.ofInt_natCast, BitVec.toNat_ofNat]; exact Nat.mod_eq_of_lt (by omega)
theorem wrap32_nat (x : Nat) (h : x < 4294967296) : IntKind.u32.wrap (x : Int) = (x : Int) := by
  rw [show IntKind.u32.wrap (x : Int) = (x : Int) % 4294967296 from rfl]; omega
theorem u32_and_nat (a b : Nat) (ha : a < 4294967296) (hb : b < 4294967296) : bits .and .u32 (a : Int) (b : Int) = ((a &&& b : Nat) : Int) := by
  have hx : a &&& b < 2 ^ 32 := Nat.and_lt_two_pow _ (by omega)
  show IntKind.u32.wrap ((BitVec.ofInt 32 (a : Int) &&& BitVec.ofInt 32 (b : Int)).toNat : Int) = _
  rw [BitVec.toNat_and, ofInt_u32 a ha, ofInt_u32 b hb, wrap32_nat _ (by omega)]
theorem u32_xor_nat (a b : Nat) (ha : a < 4294967296) (hb : b < 4294967296) : bits .xor .u32 (a : Int) (b : Int) = ((a ^^^ b : Nat) : Int) := by
  have hx : a ^^^ b < 2 ^ 32 := Nat.xor_lt_two_pow (by omega) (by omega)
  show IntKind.u32.wrap ((BitVec.ofInt 32 (a : Int) ^^^ BitVec.ofInt 32 (b : Int)).toNat : Int) = _
  rw [BitVec.toNat_xor, ofInt_u32 a ha, ofInt_u32 b hb, wrap32_nat _ (by omega)]
theorem and_one (x : Nat) (h : x < 4294967296) : bits .and .u32 (x : Int) 1 = ((x % 2 : Nat) : Int) := by
  rw [show (1 : Int) = ((1 : Nat) : Int) from rfl, u32_and_nat x 1 h (by omega), Nat.and_one_is_mod]
theorem and_15 (x : Nat) (h : x < 4294967296) : bits .and .u32 (x : Int) 15 = ((x % 16 : Nat) : Int) := by
  rw [show (15 : Int) = ((15 : Nat) : Int) from rfl, u32_and_nat x 15 h (by omega), show (15 : Nat) = 2 ^ 4 - 1 from rfl, Nat.and_two_pow_sub_one_eq_mod]
/-- x>>1 ^ poly&-(x&1). -/
theorem bit_mask (x : Nat) (h : x < 4294967296) : bits .xor .u32 ((x : Int) / 2) (bits .and .u32 2197175160 (-((x % 2 : Nat) : Int) % 4294967296)) = (cBit x : Nat) := by
  have hd : (x : Int) / 2 = ((x / 2 : Nat) : Int) := by omega
  unfold cBit
  rcases Nat.mod_two_eq_zero_or_one x with h1 | h1
  · rw [h1, if_neg (by decide), hd, show bits .and .u32 2197175160 (-((0 : Nat) : Int) % 4294967296) = ((0 : Nat) : Int) by decide, u32_xor_nat _ _ (by omega) (by omega), Nat.xor_zero]
  · rw [h1, if_pos rfl, hd, show bits .and .u32 2197175160 (-((1 : Nat) : Int) % 4294967296) = ((cPoly : Nat) : Int) by decide, u32_xor_nat _ _ (by omega) (by decide)]
theorem bit_if (x : Nat) (h : x < 4294967296) (h1 : x % 2 = 1) : bits .xor .u32 ((x : Int) / 2) 2197175160 = (cBit x : Nat) := by
  have hd : (x : Int) / 2 = ((x / 2 : Nat) : Int) := by omega
  unfold cBit
  rw [if_pos h1, hd, show (2197175160 : Int) = ((cPoly : Nat) : Int) from rfl, u32_xor_nat _ _ (by omega) (by decide)]
theorem bit_else (x : Nat) (h1 : x % 2 = 0) : (x : Int) / 2 = (cBit x : Nat) := by
  unfold cBit
  rw [if_neg (by omega)]; omega
/-- x>>4 ^ table[x&15]. -/
theorem four_table (x : Nat) (h : x < 4294967296) : bits .xor .u32 ((x : Int) / 16) ((cFour (x % 16) : Nat) : Int) = (cFour x : Nat) := by
  have hd : (x : Int) / 16 = ((x / 16 : Nat) : Int) := by omega
  rw [hd, u32_xor_nat _ _ (by omega) (cFour_lt (by omega)), ← cFour_table]
theorem not_u32 (x : Nat) (h : x < 4294967296) : bits .xor .u32 4294967295 (x : Int) = ((4294967295 - x : Nat) : Int) := by
  rw [show (4294967295 : Int) = ((4294967295 : Nat) : Int) from rfl, u32_xor_nat _ _ (by omega) h]
  congr 1
  have h1 : (BitVec.allOnes 32 ^^^ BitVec.ofNat 32 x).toNat = (~~~ BitVec.ofNat 32 x).toNat := by rw [BitVec.allOnes_xor]
  rw [BitVec.toNat_xor, BitVec.toNat_not, BitVec.toNat_allOnes, BitVec.toNat_ofNat, Nat.mod_eq_of_lt (by omega)] at h1
  exact h1
end Go.Proofs.Ytekdogmhgijocaa
