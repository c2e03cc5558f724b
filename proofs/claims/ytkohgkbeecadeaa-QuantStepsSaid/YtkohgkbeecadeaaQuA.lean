/- Floats of 64 bits by their fields: plain facts on the words, no program in sight. -/
import Ieee.Arith
namespace Go.Proofs.Ytkohgkbeecadeaa.Fl
open Ieee

def fld (x : Nat) : Nat := x / 4503599627370496 % 2048
def frc (x : Nat) : Nat := x % 4503599627370496
def sg (x : Nat) : Bool := decide (9223372036854775808 ≤ x)
def mk (s : Bool) (e m : Nat) : Nat := (if s then 9223372036854775808 else 0) + e * 4503599627370496 + m

theorem sw : Ieee.double.signWeight = 9223372036854775808 := by decide
theorem bin : Ieee.double.binade = 4503599627370496 := by decide
theorem infr : Ieee.double.infRung = 9218868437227405312 := by decide
theorem lp : Ieee.double.leastPlace = -1074 := by decide
theorem frb : Ieee.double.fractionBits = 52 := rfl

theorem read_eq (x : Nat) (hx : x < 18446744073709551616) :
    Ieee.double.read x = if fld x = 2047 then (if frc x = 0 then .infinity (sg x) else .nan (sg x) (frc x)) else if fld x = 0 then .number (sg x) (frc x) (-1074) else .number (sg x) (4503599627370496 + frc x) ((fld x : Int) - 1075) := by
  unfold Ieee.Format.read
  rw [sw, bin, infr, lp]
  have hs : (x / 9223372036854775808 % 2 == 1) = sg x := by
    unfold sg
    by_cases h : 9223372036854775808 ≤ x
    · rw [decide_eq_true h, beq_iff_eq]; omega
    · rw [decide_eq_false h, beq_eq_false_iff_ne]; omega
  rw [hs]
  unfold fld frc
  simp only []
  by_cases h0 : x % 9223372036854775808 < 4503599627370496
  · rw [if_pos h0, if_neg (by omega), if_pos (by omega)]
    congr 1; omega
  · rw [if_neg h0]
    by_cases h1 : x % 9223372036854775808 < 9218868437227405312
    · rw [if_pos h1, if_neg (by omega), if_neg (by omega)]
      congr 1 <;> omega
    · rw [if_neg h1]
      by_cases h2 : x % 9223372036854775808 = 9218868437227405312
      · rw [if_pos h2, if_pos (show x / 4503599627370496 % 2048 = 2047 by omega), if_pos (show x % 4503599627370496 = 0 by omega)]
      · rw [if_neg h2, if_pos (show x / 4503599627370496 % 2048 = 2047 by omega), if_neg (show ¬ x % 4503599627370496 = 0 by omega), show x % 9223372036854775808 - 9218868437227405312 = x % 4503599627370496 by omega]

theorem mk_fields (s : Bool) (e m : Nat) (he : e < 2048) (hm : m < 4503599627370496) : fld (mk s e m) = e ∧ frc (mk s e m) = m ∧ sg (mk s e m) = s ∧ mk s e m < 18446744073709551616 := by
  cases s <;> simp only [mk, fld, frc, sg, Bool.false_eq_true, if_false, if_true] <;> refine ⟨by omega, by omega, ?_, by omega⟩
  · rw [decide_eq_false_iff_not]; omega
  · rw [decide_eq_true_eq]; omega
theorem mk_of (x : Nat) (hx : x < 18446744073709551616) : x = mk (sg x) (fld x) (frc x) := by
  unfold mk fld frc sg
  by_cases h : 9223372036854775808 ≤ x
  · simp only [h, decide_true, if_true]; omega
  · simp only [h, decide_false, Bool.false_eq_true, if_false]; omega
theorem word_eq (s : Bool) (r : Nat) : Ieee.double.word s r = (if s then 9223372036854775808 else 0) + r := by
  unfold Ieee.Format.word
  rw [sw]
  cases s <;> simp
theorem word_mk (s : Bool) (e m r : Nat) (h : r = e * 4503599627370496 + m) : Ieee.double.word s r = mk s e m := by
  rw [word_eq, mk, h, Nat.add_assoc]

/-- The whole number nearest to m / 2^d, between two the even one. -/
def cut (m d : Nat) : Nat := m / 2 ^ d + (decide (2 ^ d < 2 * (m % 2 ^ d)) || (2 ^ d == 2 * (m % 2 ^ d) && m / 2 ^ d % 2 == 1)).toNat
theorem even_cut (s : Bool) (m d : Nat) : Ieee.Toward.even.cut s m d = cut m d := by
  unfold Ieee.Toward.cut cut
  simp only [Nat.one_shiftLeft]
  by_cases h : d ≤ m.log2 + 2
  · rw [Nat.min_eq_left h]
  · rw [Nat.min_eq_right (by omega)]
    have hm : m < 2 ^ (m.log2 + 1) := Nat.lt_log2_self
    have h1 : 2 ^ (m.log2 + 2) = 2 * 2 ^ (m.log2 + 1) := by rw [Nat.pow_succ]; omega
    have h2 : 2 ^ (m.log2 + 2) ≤ 2 ^ d := Nat.pow_le_pow_right (by omega) (by omega)
    rw [Nat.div_eq_of_lt (a := m) (b := 2 ^ (m.log2 + 2)) (by omega), Nat.div_eq_of_lt (a := m) (b := 2 ^ d) (by omega), Nat.mod_eq_of_lt (a := m) (b := 2 ^ (m.log2 + 2)) (by omega), Nat.mod_eq_of_lt (a := m) (b := 2 ^ d) (by omega)]
    have e1 : decide (2 ^ (m.log2 + 2) < 2 * m) = false := by rw [decide_eq_false_iff_not]; omega
    have e2 : decide (2 ^ d < 2 * m) = false := by rw [decide_eq_false_iff_not]; omega
    have e3 : (2 ^ (m.log2 + 2) == 2 * m) = false := by rw [beq_eq_false_iff_ne]; omega
    have e4 : (2 ^ d == 2 * m) = false := by rw [beq_eq_false_iff_ne]; omega
    simp [e1, e2, e3, e4]
theorem cut_zero (m : Nat) : cut m 0 = m := by simp [cut, Nat.mod_one]
theorem cut_le (m d : Nat) : cut m d ≤ m / 2 ^ d + 1 := by
  unfold cut
  have := Bool.toNat_le (decide (2 ^ d < 2 * (m % 2 ^ d)) || (2 ^ d == 2 * (m % 2 ^ d) && m / 2 ^ d % 2 == 1))
  omega
theorem cut_exact (m d : Nat) (h : m % 2 ^ d = 0) : cut m d = m / 2 ^ d := by
  unfold cut
  have h0 : 0 < 2 ^ d := Nat.pow_pos (by omega)
  rw [h]
  have e2 : (2 ^ d == 2 * 0) = false := by rw [beq_eq_false_iff_ne]; omega
  simp [e2]

/-- The word of a whole number of at most 53 digits: exact. -/
theorem nearest_whole (s : Bool) (n : Nat) (h0 : 0 < n) (h1 : n.log2 ≤ 52) : Ieee.double.nearest s n 0 = mk s (n.log2 + 1023) (n * 2 ^ (52 - n.log2) - 4503599627370496) ∧ 4503599627370496 ≤ n * 2 ^ (52 - n.log2) ∧ n * 2 ^ (52 - n.log2) < 9007199254740992 := by
  have hl : 2 ^ n.log2 ≤ n := Nat.log2_self_le (by omega)
  have hu : n < 2 ^ (n.log2 + 1) := Nat.lt_log2_self
  have hp : 2 ^ n.log2 * 2 ^ (52 - n.log2) = 4503599627370496 := by rw [← Nat.pow_add, show n.log2 + (52 - n.log2) = 52 by omega]
  have hp2 : 2 ^ (n.log2 + 1) * 2 ^ (52 - n.log2) = 9007199254740992 := by rw [← Nat.pow_add, show n.log2 + 1 + (52 - n.log2) = 53 by omega]
  have b1 : 4503599627370496 ≤ n * 2 ^ (52 - n.log2) := by rw [← hp]; exact Nat.mul_le_mul_right _ hl
  have b2 : n * 2 ^ (52 - n.log2) < 9007199254740992 := by rw [← hp2]; exact Nat.mul_lt_mul_of_pos_right hu (Nat.pow_pos (by omega))
  refine ⟨?_, b1, b2⟩
  unfold Ieee.Format.nearest
  rw [if_neg (by omega), frb, lp, bin, infr]
  have hlast : max (0 + (n.log2 : Int) - (52 : Nat)) (-1074) = (n.log2 : Int) - 52 := by omega
  simp only [hlast]
  rw [show (0 - ((n.log2 : Int) - 52)).toNat = 52 - n.log2 by omega, show ((n.log2 : Int) - 52 - 0).toNat = 0 by omega, show ((n.log2 : Int) - 52 - -1074).toNat = n.log2 + 1022 by omega, even_cut, cut_zero, Nat.shiftLeft_eq]
  rw [Nat.min_eq_left (by omega)]
  exact word_mk _ _ _ _ (by omega)
end Go.Proofs.Ytkohgkbeecadeaa.Fl
