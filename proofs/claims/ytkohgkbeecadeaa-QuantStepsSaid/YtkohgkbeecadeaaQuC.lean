/- Floats of 64 bits: their order is that of their rungs, with the sign. -/
import Derived.Test.YtkohgkbeecadeaaQuA
namespace Go.Proofs.Ytkohgkbeecadeaa.Fl
open Ieee

def rg (x : Nat) : Nat := x % 9223372036854775808
def rk (x : Nat) : Int := if sg x then -(rg x : Int) else (rg x : Int)
def mE (x : Nat) : Nat := if fld x = 0 then 1 else fld x
def mM (x : Nat) : Nat := if fld x = 0 then frc x else 4503599627370496 + frc x
theorem read_fin (x : Nat) (hx : x < 18446744073709551616) (h : fld x < 2047) : Ieee.double.read x = .number (sg x) (mM x) ((mE x : Int) - 1075) := by
  rw [read_eq x hx, if_neg (by omega)]
  unfold mM mE
  by_cases h0 : fld x = 0
  · rw [if_pos h0, if_pos h0, if_pos h0]; rfl
  · rw [if_neg h0, if_neg h0, if_neg h0]
theorem rung_eq (x : Nat) : rg x + 4503599627370496 = mM x + mE x * 4503599627370496 ∧ mM x < 9007199254740992 ∧ 1 ≤ mE x ∧ (1 < mE x → 4503599627370496 ≤ mM x) ∧ mE x ≤ 2047 ∧ (fld x < 2047 → mE x < 2047) := by
  unfold rg mM mE fld frc
  split <;> refine ⟨by omega, by omega, by omega, by omega, by omega, by omega⟩
theorem cmp_iff (a b c d : Int) (h1 : a < b ↔ c < d) (h2 : a = b ↔ c = d) : compare a b = compare c d := by
  simp only [compare, compareOfLessAndEq]
  by_cases h : a < b
  · rw [if_pos h, if_pos (h1.1 h)]
  · rw [if_neg h, if_neg (fun x => h (h1.2 x))]
    by_cases g : a = b
    · rw [if_pos g, if_pos (h2.1 g)]
    · rw [if_neg g, if_neg (fun x => g (h2.2 x))]
theorem order_fin (x y : Nat) (hx : x < 18446744073709551616) (hy : y < 18446744073709551616) (h : fld x < 2047) (h' : fld y < 2047) : Ieee.double.order x y = some (compare (rk x) (rk y)) := by
  unfold Ieee.Format.order
  rw [read_fin x hx h, read_fin y hy h']
  unfold Ieee.Datum.order
  dsimp only
  obtain ⟨r1, r2, r3, r4, _, _⟩ := rung_eq x
  obtain ⟨q1, q2, q3, q4, _, _⟩ := rung_eq y
  have key : ∀ A B : Nat, (A < B ↔ rg x < rg y) → (A = B ↔ rg x = rg y) → (A = 0 ↔ rg x = 0) → (B = 0 ↔ rg y = 0) → compare (if sg x = true then -(A : Int) else A) (if sg y = true then -(B : Int) else B) = compare (rk x) (rk y) := by
    intro A B k1 k2 k3 k4
    unfold rk
    refine cmp_iff _ _ _ _ ?_ ?_ <;> (split <;> split <;> omega)
  unfold signed
  have e2 : ∀ (m k : Nat), m <<< k = m * 2 ^ k := Nat.shiftLeft_eq
  simp only [e2]
  congr 1
  have big : ∀ n d : Nat, 4503599627370496 ≤ n → 1 ≤ d → 9007199254740992 ≤ n * 2 ^ d := by
    intro n d h1 h2
    obtain ⟨k, rfl⟩ : ∃ k, d = k + 1 := ⟨d - 1, by omega⟩
    have : 1 ≤ 2 ^ k := Nat.one_le_two_pow
    calc 9007199254740992 = 4503599627370496 * 2 := rfl
      _ ≤ n * 2 ^ (k + 1) := Nat.mul_le_mul h1 (by rw [Nat.pow_succ]; omega)
  rcases Nat.lt_trichotomy (mE x) (mE y) with hlt | heq | hgt
  · rw [show ((mE x : Int) - 1075 - min ((mE x : Int) - 1075) ((mE y : Int) - 1075)).toNat = 0 by omega, show ((mE y : Int) - 1075 - min ((mE x : Int) - 1075) ((mE y : Int) - 1075)).toNat = mE y - mE x by omega]
    have hB := big (mM y) (mE y - mE x) (q4 (by omega)) (by omega)
    generalize mM y * 2 ^ (mE y - mE x) = B at hB ⊢
    have q5 := q4 (by omega)
    refine key _ _ ?_ ?_ ?_ ?_ <;> (try simp only [Nat.pow_zero, Nat.mul_one]) <;> omega
  · rw [show ((mE x : Int) - 1075 - min ((mE x : Int) - 1075) ((mE y : Int) - 1075)).toNat = 0 by omega, show ((mE y : Int) - 1075 - min ((mE x : Int) - 1075) ((mE y : Int) - 1075)).toNat = 0 by omega]
    refine key _ _ ?_ ?_ ?_ ?_ <;> (try simp only [Nat.pow_zero, Nat.mul_one])
    · omega
    · omega
    · by_cases h1 : 1 < mE x
      · have := r4 h1; omega
      · omega
    · by_cases h1 : 1 < mE y
      · have := q4 h1; omega
      · omega
  · rw [show ((mE x : Int) - 1075 - min ((mE x : Int) - 1075) ((mE y : Int) - 1075)).toNat = mE x - mE y by omega, show ((mE y : Int) - 1075 - min ((mE x : Int) - 1075) ((mE y : Int) - 1075)).toNat = 0 by omega]
    have hB := big (mM x) (mE x - mE y) (r4 (by omega)) (by omega)
    generalize mM x * 2 ^ (mE x - mE y) = B at hB ⊢
    have q5 := r4 (by omega)
    refine key _ _ ?_ ?_ ?_ ?_ <;> (try simp only [Nat.pow_zero, Nat.mul_one])
    · omega
    · omega
    · omega
    · by_cases h1 : 1 < mE y
      · have := q4 h1; omega
      · omega

theorem read_inf (x : Nat) (hx : x < 18446744073709551616) (h : rg x = 9218868437227405312) : Ieee.double.read x = .infinity (sg x) := by
  have h1 : fld x = 2047 := by unfold rg fld at *; omega
  have h2 : frc x = 0 := by unfold rg frc at *; omega
  rw [read_eq x hx, if_pos h1, if_pos h2]
theorem fld_rg (x : Nat) : fld x < 2047 ↔ rg x < 9218868437227405312 := by unfold rg fld; omega
/-- The order of what is no NaN. -/
theorem order_any (x y : Nat) (hx : x < 18446744073709551616) (hy : y < 18446744073709551616) (h : rg x ≤ 9218868437227405312) (h' : rg y ≤ 9218868437227405312) : Ieee.double.order x y = some (compare (rk x) (rk y)) := by
  by_cases a : rg x = 9218868437227405312 <;> by_cases b : rg y = 9218868437227405312
  · unfold Ieee.Format.order
    rw [read_inf x hx a, read_inf y hy b]
    unfold Ieee.Datum.order rk
    rw [a, b]
    cases sg x <;> cases sg y <;> rfl
  · unfold Ieee.Format.order
    rw [read_inf x hx a, read_fin y hy ((fld_rg y).2 (by omega))]
    unfold Ieee.Datum.order rk
    rw [a]
    dsimp only
    congr 1
    have : rg y < 9218868437227405312 := by omega
    simp only [compare, compareOfLessAndEq]
    cases sg x <;> cases sg y <;> simp <;> (repeat' split) <;> first | rfl | omega
  · unfold Ieee.Format.order
    rw [read_inf y hy b, read_fin x hx ((fld_rg x).2 (by omega))]
    unfold Ieee.Datum.order rk
    rw [b]
    dsimp only
    congr 1
    have : rg x < 9218868437227405312 := by omega
    simp only [compare, compareOfLessAndEq]
    cases sg x <;> cases sg y <;> simp <;> (repeat' split) <;> first | rfl | omega
  · exact order_fin x y hx hy ((fld_rg x).2 (by omega)) ((fld_rg y).2 (by omega))
/-- Where one is a NaN. -/
theorem order_nan (x y : Nat) (hx : x < 18446744073709551616) (h : 9218868437227405312 < rg x) : Ieee.double.order x y = none := by
  have h1 : fld x = 2047 := by unfold rg fld at *; omega
  have h2 : ¬ frc x = 0 := by unfold rg frc at *; omega
  unfold Ieee.Format.order
  rw [read_eq x hx, if_pos h1, if_neg h2]
  rfl
end Go.Proofs.Ytkohgkbeecadeaa.Fl
