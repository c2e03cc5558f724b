/- Plain: rounding of small floats; whole floats as integers. -/
import Derived.Test.YtkohgkbeecadeaaQuA3
namespace Go.Proofs.Ytkohgkbeecadeaa
open Go.RowKit Go.ChangeShapes Go.WideShapes Go.ChangeAt
set_option linter.unusedVariables false

theorem Fl.rte_small (y : Nat) (hy : y < 18446744073709551616) (h : Fl.rg y < 4602678819172646912) : Fl.rteF y = if Fl.sg y then 9223372036854775808 else 0 := by
  have hm := Fl.mk_of y hy
  have a : Fl.rg y = Fl.fld y * 4503599627370496 + Fl.frc y := by unfold Fl.rg Fl.fld Fl.frc; omega
  have b : Fl.frc y < 4503599627370496 := by unfold Fl.frc; omega
  by_cases h0 : Fl.fld y = 0
  · unfold Fl.rteF
    rw [Fl.read_eq y hy, if_neg (by omega), if_pos h0]
    unfold Ieee.Datum.integral
    dsimp only
    rw [Fl.even_cut]
    have hc : Fl.cut (Fl.frc y <<< (-1074 : Int).toNat) (- (-1074 : Int)).toNat = 0 := by
      have hp : ∀ d : Nat, 54 ≤ d → 2 * Fl.frc y < 2 ^ d := fun d hd => by
        have : 2 ^ 54 ≤ 2 ^ d := Nat.pow_le_pow_right (by omega) hd
        omega
      refine Fl.cut_small _ _ ?_
      rw [show (-1074 : Int).toNat = 0 by omega, Nat.shiftLeft_zero]
      exact hp _ (by omega)
    rw [hc]
    unfold Ieee.Format.write
    dsimp only
    unfold Ieee.Format.nearest
    rw [if_pos rfl, Fl.word_eq, Nat.add_zero]
  · generalize Fl.sg y = s at *
    generalize Fl.fld y = e at *
    generalize Fl.frc y = m at *
    rw [hm, Fl.rte_mk s e m (by omega) (by omega) b, if_neg (by omega)]
    have hc : Fl.cut (4503599627370496 + m) (1075 - e) = 0 := by
      refine Fl.cut_small _ _ ?_
      have : 2 ^ 54 ≤ 2 ^ (1075 - e) := Nat.pow_le_pow_right (by omega) (by omega)
      omega
    rw [hc]
    rfl
theorem Fl.rte_inf (s : Bool) : Fl.rteF (Fl.mk s 2047 0) = Fl.mk s 2047 0 := by cases s <;> decide +kernel
theorem Fl.log31 {c : Nat} (h : c ≤ 2147483648) : c.log2 ≤ 52 := Nat.le_trans (Fl.log2_le (k := 31) (by omega)) (by omega)
/-- The float of a whole number as an int32. -/
theorem Fl.toint (s : Bool) (c : Nat) (hc : if s then c ≤ 2147483648 else c ≤ 2147483647) : floatToIntVal .f64 ((if s then 9223372036854775808 else 0) + Fl.rgN c) .i32 = some (if s then -(c : Int) else c) := by
  have hc' : c ≤ 2147483648 := by cases s <;> simp at hc <;> omega
  have hl := Fl.log31 hc'
  have key : (Ieee.double.read ((if s then 9223372036854775808 else 0) + Fl.rgN c)).toInt .zero = some (if s then -(c : Int) else c) := by
    by_cases h0 : c = 0
    · subst h0
      cases s <;> decide +kernel
    · have e1 : (if s then 9223372036854775808 else 0) + Fl.rgN c = Fl.mk s (c.log2 + 1023) (c * 2 ^ (52 - c.log2) - 4503599627370496) := by
        rw [← Fl.nearest_nat s c hl, (Fl.nearest_whole s c (by omega) hl).1]
      obtain ⟨b1, b2⟩ := Fl.norm_bounds h0 hl
      rw [e1, Fl.read_mk s _ _ (by omega) (by omega) (by omega)]
      unfold Ieee.Datum.toInt Ieee.Datum.integral
      dsimp only
      unfold Ieee.Toward.cut Ieee.signed
      dsimp only
      rw [show ((c.log2 + 1023 : Nat) : Int) - 1075 = -((52 - c.log2 : Nat) : Int) by omega, show (-((52 - c.log2 : Nat) : Int)).toNat = 0 by omega, show (-(-((52 - c.log2 : Nat) : Int))).toNat = 52 - c.log2 by omega, Nat.add_sub_cancel' b1]
      simp only [Nat.shiftLeft_zero]
      have l52 : (c * 2 ^ (52 - c.log2)).log2 = 52 := Fl.log2_eq (by omega) (by omega)
      rw [l52, Nat.min_eq_left (by omega), Nat.one_shiftLeft, Nat.mul_div_cancel _ (Nat.pow_pos (by omega))]
      simp
  unfold floatToIntVal
  rw [show FloatKind.f64.decode ((if s then 9223372036854775808 else 0) + Fl.rgN c) = Ieee.double.read ((if s then 9223372036854775808 else 0) + Fl.rgN c) from rfl, key]
  dsimp only
  rw [if_pos]
  cases s
  · simp only [Bool.false_eq_true, if_false] at hc ⊢
    exact ⟨by show (-2147483648 : Int) ≤ _; omega, by show _ ≤ (2147483647 : Int); omega⟩
  · simp only [if_true] at hc ⊢
    exact ⟨by show (-2147483648 : Int) ≤ _; omega, by show _ ≤ (2147483647 : Int); omega⟩
end Go.Proofs.Ytkohgkbeecadeaa
