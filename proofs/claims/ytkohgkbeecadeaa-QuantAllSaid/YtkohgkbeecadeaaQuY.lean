/- The reference's near in one contract. -/
import Derived.Test.YtkohgkbeecadeaaQuX
namespace Go.Proofs.Ytkohgkbeecadeaa
open Go.RowKit Go.ChangeShapes Go.WideShapes Go.ChangeAt
set_option linter.unusedVariables false

def nearG (m : Nat) (p : Int) : Nat × Bool := if m = 0 then (0, true) else Fl.nearF m p
def NearC (m : Nat) (p : Int) (N : Nat) (ex : Bool) : Prop := ∀ w, Calls Try.prog 30 #[.int .u64 m, .int .i64 p] w fun e w' => e = .returned (.tuple #[.int .u64 N, .bool ex]) ∧ w' = w
theorem wrap_pow (d : Nat) (hd : d ≤ 60) : IntKind.u64.wrap ((2 : Int) ^ d) = ((2 ^ d : Nat) : Int) ∧ 1 ≤ 2 ^ d ∧ 2 ^ d ≤ 1152921504606846976 := by
  have h1 : 2 ^ d ≤ 2 ^ 60 := Nat.pow_le_pow_right (by omega) hd
  have h2 : 1 ≤ 2 ^ d := Nat.one_le_two_pow
  have e : ((2 : Int) ^ d) = ((2 ^ d : Nat) : Int) := by rw [Int.natCast_pow]; rfl
  rw [e]
  generalize 2 ^ d = D at h1 h2
  refine ⟨?_, h2, h1⟩
  simp only [IntKind.wrap, IntKind.bits, IntKind.signed]
  simp
  omega
theorem near_dn (m d : Nat) (h0 : 0 < m) (hm : m < 9007199254740992) (hd : d ≤ 60) : NearC m (-(d : Int)) (Fl.cut m d) (decide (m % 2 ^ d = 0)) := by
  intro w
  obtain ⟨e1, D1, D2⟩ := wrap_pow d hd
  have hr := Nat.mod_lt m D1
  have hq : m / 2 ^ d < 9007199254740992 := Nat.lt_of_le_of_lt (Nat.div_le_self _ _) hm
  have e2 : (m : Int) / ((2 ^ d : Nat) : Int) = ((m / 2 ^ d : Nat) : Int) := by rw [Int.natCast_ediv]
  have e3 : (m : Int) % ((2 ^ d : Nat) : Int) = ((m % 2 ^ d : Nat) : Int) := by rw [Int.natCast_emod]
  unfold Fl.cut
  generalize m / 2 ^ d = q at *
  generalize m % 2 ^ d = r at *
  generalize 2 ^ d = D at *
  rcases Nat.lt_trichotomy D (2 * r) with h | h | h
  · rw [decide_eq_true h, decide_eq_false (show ¬ r = 0 by omega)]
    exact near_up1 m d D q r w h0 hm hd e1 D1 D2 e2 e3 hq hr (by omega)
  · have hz : ((r : Int) == 0) = false := by simpa using (by omega : ¬ r = 0)
    rw [decide_eq_false (show ¬ D < 2 * r by omega), decide_eq_false (show ¬ r = 0 by omega), show (D == 2 * r) = true by simpa using h]
    by_cases g : q % 2 = 1
    · rw [show (q % 2 == 1) = true by simpa using g]
      exact near_up2 m d D q r w h0 hm hd e1 D1 D2 e2 e3 hq hr (by omega) (by omega)
    · rw [show (q % 2 == 1) = false by simpa using g]
      exact near_dn2 m d D q r w h0 hm hd e1 D1 D2 e2 e3 hq hr (by omega) (by omega) hz
  · rw [decide_eq_false (show ¬ D < 2 * r by omega), show (D == 2 * r) = false by simpa using (by omega : ¬ D = 2 * r)]
    by_cases g : r = 0
    · rw [decide_eq_true g]
      exact near_ex m d D q r w h0 hm hd e1 D1 D2 e2 e3 hq hr (by omega) g
    · have hz : ((r : Int) == 0) = false := by simpa using g
      rw [decide_eq_false g]
      exact near_dn1 m d D q r w h0 hm hd e1 D1 D2 e2 e3 hq hr (by omega) hz
/-- What near tells: as nearG, or both are beyond 2^40. -/
def NearOk (m : Nat) (p : Int) (N : Nat) (ex : Bool) : Prop := ex = (nearG m p).2 ∧ N < 9007199254740993 ∧ (N = (nearG m p).1 ∨ (N = 1099511627776 ∧ 1099511627776 ≤ (nearG m p).1))
theorem near_any (m : Nat) (p : Int) (hm : m < 9007199254740992) (hp : p ≤ 3000) : ∃ N ex, NearC m p N ex ∧ NearOk m p N ex := by
  unfold NearOk nearG
  by_cases h0 : m = 0
  · subst h0
    exact ⟨0, true, fun w => near_zero p w, rfl, by omega, .inl rfl⟩
  · rw [if_neg h0]
    unfold Fl.nearF
    by_cases h1 : 0 ≤ p
    · rw [if_pos h1]
      obtain ⟨q, rfl⟩ := Int.eq_ofNat_of_zero_le h1
      obtain ⟨a, b⟩ := satN_spec q m hm
      refine ⟨satN m q, true, fun w => near_pos m q w (by omega) hm (by omega), rfl, by omega, ?_⟩
      rw [Int.toNat_natCast]
      exact b
    · rw [if_neg h1]
      by_cases h2 : p < -60
      · have hc : 2 * m < 2 ^ (-p).toNat := by
          have : 2 ^ 61 ≤ 2 ^ (-p).toNat := Nat.pow_le_pow_right (by omega) (by omega)
          omega
        refine ⟨0, false, fun w => near_far m p w (by omega) h2, ?_, by omega, .inl (Fl.cut_small _ _ hc).symm⟩
        rw [decide_eq_false]
        rw [Nat.mod_eq_of_lt (by omega)]
        exact h0
      · obtain ⟨d, rfl⟩ : ∃ d : Nat, p = -(d : Int) := ⟨(-p).toNat, by omega⟩
        refine ⟨_, _, near_dn m d (by omega) hm (by omega), ?_, ?_, .inl ?_⟩
        · rw [show (- -(d : Int)).toNat = d by omega]
        · have := Fl.cut_le m d
          have : m / 2 ^ d ≤ m := Nat.div_le_self _ _
          omega
        · rw [show (- -(d : Int)).toNat = d by omega]
end Go.Proofs.Ytkohgkbeecadeaa
