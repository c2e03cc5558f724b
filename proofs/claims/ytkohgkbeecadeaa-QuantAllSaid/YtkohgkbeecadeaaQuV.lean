/- The reference's near: nought, far below, upwards; all together. -/
import Derived.Test.YtkohgkbeecadeaaQuU
namespace Go.Proofs.Ytkohgkbeecadeaa
open Go.RowKit Go.ChangeShapes Go.WideShapes Go.ChangeAt
set_option linter.unusedVariables false

set_option maxHeartbeats 1000000 in
theorem near_zero (p : Int) (w : World) : Calls Try.prog 30 #[.int .u64 0, .int .i64 p] w fun e w' => e = .returned (.tuple #[.int .u64 0, .bool true]) ∧ w' = w := by
  go_enter Try.func30, Try.ntmps30
  go_wp2
  go_ret2
  exact ⟨rfl, rfl⟩
set_option maxHeartbeats 1000000 in
theorem near_far (m : Nat) (p : Int) (w : World) (h0 : 0 < m) (hp : p < -60) : Calls Try.prog 30 #[.int .u64 m, .int .i64 p] w fun e w' => e = .returned (.tuple #[.int .u64 0, .bool false]) ∧ w' = w := by
  have m0 : ((m : Int) == 0) = false := by simpa using (by omega : ¬ m = 0)
  have m1 : ¬ (m : Int) = 0 := by omega
  go_enter Try.func30, Try.ntmps30
  go_wp2_with fail
  refine wp_loop_once ?_
  go_wp2_with fail
  go_ret2
  exact ⟨rfl, rfl⟩
/-- What the loop upwards makes. -/
def satN : Nat → Nat → Nat
  | m, 0 => m
  | m, j + 1 => if 1099511627776 ≤ m then 1099511627776 else satN (m * 2) j
theorem satN_spec : ∀ (p m : Nat), m < 9007199254740992 → satN m p < 9007199254740992 ∧ (satN m p = m * 2 ^ p ∨ (satN m p = 1099511627776 ∧ 1099511627776 ≤ m * 2 ^ p))
  | 0, m, h => by simp [satN]; exact h
  | j + 1, m, h => by
    unfold satN
    by_cases hk : 1099511627776 ≤ m
    · rw [if_pos hk]
      exact ⟨by omega, .inr ⟨rfl, Nat.le_trans hk (Nat.le_mul_of_pos_right _ (Nat.pow_pos (by omega)))⟩⟩
    · rw [if_neg hk]
      have ih := satN_spec j (m * 2) (by omega)
      rw [Nat.mul_assoc, ← Nat.pow_succ'] at ih
      exact ih
set_option maxRecDepth 100000 in
set_option maxHeartbeats 1000000 in
theorem near_pos (m p : Nat) (w : World) (h0 : 0 < m) (hm : m < 9007199254740992) (hp : p ≤ 3000) : Calls Try.prog 30 #[.int .u64 m, .int .i64 p] w fun e w' => e = .returned (.tuple #[.int .u64 (satN m p : Nat), .bool true]) ∧ w' = w := by
  have m0 : ((m : Int) == 0) = false := by simpa using (by omega : ¬ m = 0)
  have m1 : ¬ (m : Int) = 0 := by omega
  go_enter Try.func30, Try.ntmps30
  go_wp2_with fail
  go_loop [0, 1] (fun a b => ∃ k j : Nat, j ≤ p ∧ a = .int .u64 k ∧ b = .int .i64 j ∧ 0 < k ∧ k < 9007199254740992 ∧ Hid (satN k j = satN m p)) (fun _ b => (intOf b).toNat)
  case atStart => exact ⟨m, p, Nat.le_refl _, rfl, rfl, h0, hm, Lib.hid rfl⟩
  case round =>
    obtain ⟨k, j, hj, rfl, rfl, hk0, hk1, HK⟩ := hrel
    by_cases hj0 : j = 0
    · subst hj0
      have e1 : IntKind.u64.wrap ((2 : Int) ^ 0) = 1 := by decide
      go_wp2_with fail
      go_ret2
      exact ⟨by rw [← HK.out]; rfl, rfl⟩
    · by_cases hk : (1099511627776 : Int) ≤ (k : Int)
      · have H2 := Lib.hid (show 1099511627776 ≤ k by omega)
        go_wp2_with fail
        go_ret2
        refine ⟨?_, rfl⟩
        rw [← HK.out]
        obtain ⟨j', rfl⟩ : ∃ j', j = j' + 1 := ⟨j - 1, by omega⟩
        unfold satN
        rw [if_pos H2.out]
        rfl
      · have hk' := Lib.hid (show (k : Int) < 1099511627776 by omega)
        have hd : decide ((1099511627776 : Int) ≤ (k : Int)) = false := decide_eq_false hk
        have hj1 : (0 : Int) < (j : Int) := by omega
        have kA : (k : Int) * 2 ≤ 18446744073709551615 := by omega
        have kB : (0 : Int) ≤ (k : Int) * 2 := by omega
        have HK0 := Lib.hid hk0
        clear hk1 hk hm h0 m0 m1 hk0
        generalize hkk : (k : Int) = kk at *
        have HKK := Lib.hid hkk
        clear hkk
        go_wp2_with fail
        go_round
        case rel =>
          refine ⟨k * 2, j - 1, by omega, by rw [Int.natCast_mul, HKK.out]; rfl, by go_num, by have := HK0.out; omega, by have := hk'.out; have := HKK.out; omega, Lib.hid ?_⟩
          rw [← HK.out]
          obtain ⟨j', rfl⟩ : ∃ j', j = j' + 1 := ⟨j - 1, by omega⟩
          conv => rhs; unfold satN
          rw [if_neg (by have := hk'.out; have := HKK.out; omega)]
          rfl
        case measure => simp [intOf]; omega
end Go.Proofs.Ytkohgkbeecadeaa
