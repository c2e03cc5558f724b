/- CRC: a register through a bit, through four, through eight: the table's way and the bits' way are one. -/
import Derived.Test.YtekdogmhgijocaaRows
namespace Go.Proofs.Ytekdogmhgijocaa
set_option linter.unusedVariables false
set_option linter.unusedSimpArgs false

def cPoly : Nat := 0x82F63B78
/-- A register through one bit. -/
def cBit (x : Nat) : Nat := if x % 2 = 1 then x / 2 ^^^ cPoly else x / 2
theorem xor_mod2 (a b : Nat) : (a ^^^ b) % 2 = (a % 2 + b % 2) % 2 := by
  have h := Nat.testBit_xor (x := a) (y := b) (i := 0)
  simp only [Nat.testBit_zero] at h
  rcases Nat.mod_two_eq_zero_or_one a with h1 | h1 <;> rcases Nat.mod_two_eq_zero_or_one b with h2 | h2 <;> rcases Nat.mod_two_eq_zero_or_one (a ^^^ b) with h3 | h3 <;> simp [h1, h2, h3] at h ⊢
theorem xor_div2 (a b : Nat) : (a ^^^ b) / 2 = a / 2 ^^^ b / 2 := by
  refine Nat.eq_of_testBit_eq fun i => ?_
  rw [Nat.testBit_xor, ← Nat.testBit_succ, ← Nat.testBit_succ, ← Nat.testBit_succ, Nat.testBit_xor]
theorem cBit_xor (a b : Nat) : cBit (a ^^^ b) = cBit a ^^^ cBit b := by
  unfold cBit
  rw [xor_mod2, xor_div2]
  rcases Nat.mod_two_eq_zero_or_one a with h1 | h1 <;> rcases Nat.mod_two_eq_zero_or_one b with h2 | h2 <;> rw [h1, h2]
  · simp
  · simp [Nat.xor_assoc]
  · simp only [Nat.reduceAdd, Nat.reduceMod, if_true]
    rw [if_neg (by decide), Nat.xor_assoc, Nat.xor_assoc, Nat.xor_comm cPoly]
  · simp only [Nat.reduceAdd, Nat.reduceMod, if_true]
    rw [if_neg (by decide)]
    rw [Nat.xor_assoc, Nat.xor_comm cPoly, Nat.xor_assoc, Nat.xor_self, Nat.xor_zero]
def cFour (x : Nat) : Nat := cBit (cBit (cBit (cBit x)))
theorem cFour_xor (a b : Nat) : cFour (a ^^^ b) = cFour a ^^^ cFour b := by simp only [cFour, cBit_xor]
theorem cBit_even (x : Nat) : cBit (2 * x) = x := by
  unfold cBit
  rw [if_neg (by omega)]; omega
theorem cFour_16 (x : Nat) : cFour (16 * x) = x := by
  unfold cFour
  rw [show 16 * x = 2 * (2 * (2 * (2 * x))) by omega, cBit_even, cBit_even, cBit_even, cBit_even]
theorem split16 (x : Nat) : x = 16 * (x / 16) ^^^ x % 16 := by
  have h1 : 16 * (x / 16) ^^^ x % 16 = 16 * (x / 16) + x % 16 := by
    have := Nat.two_pow_add_eq_or_of_lt (i := 4) (b := x % 16) (by omega) (x / 16)
    have e : 2 ^ 4 * (x / 16) ^^^ x % 16 = 2 ^ 4 * (x / 16) ||| x % 16 := by
      refine Nat.eq_of_testBit_eq fun i => ?_
      rw [Nat.testBit_xor, Nat.testBit_or]
      by_cases hi : i < 4
      · rw [Nat.testBit_two_pow_mul]
        simp [show ¬ i ≥ 4 by omega]
      · have : (x % 16).testBit i = false := Nat.testBit_lt_two_pow (Nat.lt_of_lt_of_le (show x % 16 < 2 ^ 4 by omega) (Nat.pow_le_pow_right (by omega) (by omega)))
        rw [this]; simp
    rw [show (16 : Nat) = 2 ^ 4 from rfl] at this ⊢
    rw [e, ← this]
  rw [h1]; omega
/-- The table's way through four bits. -/
theorem cFour_table (x : Nat) : cFour x = x / 16 ^^^ cFour (x % 16) := by
  have h := congrArg cFour (split16 x)
  rw [cFour_xor, cFour_16] at h
  exact h
def cEight (x : Nat) : Nat := cFour (cFour x)
theorem cBit_lt {x : Nat} (h : x < 2 ^ 32) : cBit x < 2 ^ 32 := by
  unfold cBit
  split
  · exact Nat.xor_lt_two_pow (by omega) (by decide)
  · omega
theorem cFour_lt {x : Nat} (h : x < 2 ^ 32) : cFour x < 2 ^ 32 := cBit_lt (cBit_lt (cBit_lt (cBit_lt h)))
theorem cEight_lt {x : Nat} (h : x < 2 ^ 32) : cEight x < 2 ^ 32 := cFour_lt (cFour_lt h)
/-- The register behind bytes. -/
def cReg (x : Nat) (b : List Nat) : Nat := b.foldl (fun y c => cEight (y ^^^ c)) x
theorem cReg_nil (x : Nat) : cReg x [] = x := by unfold cReg; rw [List.foldl_nil]
theorem cReg_cons (x c : Nat) (b : List Nat) : cReg x (c :: b) = cReg (cEight (x ^^^ c)) b := by unfold cReg; rw [List.foldl_cons]
theorem cReg_append (a b : List Nat) (x : Nat) : cReg x (a ++ b) = cReg (cReg x a) b := by unfold cReg; rw [List.foldl_append]
def cSum (b : List Nat) : Nat := 0xFFFFFFFF - cReg 0xFFFFFFFF b
end Go.Proofs.Ytekdogmhgijocaa
