/- Total, the order of floats, and sorted lists of them; lent, kept, count. -/
import Derived.Test.YtkohgkbeecadeaaGen
import Derived.Test.YtkohgkbeecadeaaQuBits
namespace Go.Proofs.Ytkohgkbeecadeaa
open Go.RowKit Go.ChangeShapes Go.WideShapes Go.ChangeAt
set_option linter.unusedVariables false

def cmpF (a b : Int) : Int := if a < b then -1 else if b < a then 1 else 0
def placeF (x : Int) : Int := if x < 9223372036854775808 then x else 9223372036854775807 - x
def totF (a b : Int) : Int := cmpF (placeF a) (placeF b)

set_option maxHeartbeats 400000 in
theorem cmp64_any (a b : Int) (w : World) : Calls Try.prog 34 #[.int .i64 a, .int .i64 b] w fun e w' => e = .returned (.int .i64 (cmpF a b)) ∧ w' = w := by
  go_enter Try.func34, Try.ntmps34
  go_wp2
  all_goals go_ret
  all_goals refine ⟨ret_int ?_, rfl⟩
  all_goals (unfold cmpF; repeat' split)
  all_goals first | rfl | omega

set_option maxHeartbeats 400000 in
theorem place_lo (x : Int) (w : World) (h0 : 0 ≤ x) (h1 : x < 9223372036854775808) : Calls Try.prog 35 #[.int .u64 x] w fun e w' => e = .returned (.int .i64 (placeF x)) ∧ w' = w := by
  have e : placeF x = x := by unfold placeF; rw [if_pos h1]
  rw [e]
  clear e
  go_enter Try.func35, Try.ntmps35
  go_wp2
  go_ret
  exact ⟨rfl, rfl⟩
set_option maxHeartbeats 400000 in
theorem place_hi (x : Int) (w : World) (h0 : 9223372036854775808 ≤ x) (h1 : x < 18446744073709551616) : Calls Try.prog 35 #[.int .u64 x] w fun e w' => e = .returned (.int .i64 (placeF x)) ∧ w' = w := by
  have e : placeF x = 9223372036854775807 - x := by unfold placeF; rw [if_neg (by omega)]
  rw [e]
  clear e
  have e0 : wrap64 x = x - 18446744073709551616 := by unfold wrap64; omega
  have e1 : bits .andNot .u64 x 9223372036854775808 = x - 9223372036854775808 := by rw [offtop x (by omega) (by omega)]; omega
  have e2 : wrap64 (x - 9223372036854775808) = x - 9223372036854775808 := by unfold wrap64; omega
  have e3 : bits .xor .i64 (-1) (x - 9223372036854775808) = 9223372036854775807 - x := by rw [flip64 _ (by omega) (by omega)]; omega
  go_enter Try.func35, Try.ntmps35
  go_wp2
  all_goals first | (exfalso; omega) | skip
  go_ret
  exact ⟨ret_int (by first | rfl | omega), rfl⟩
theorem place_any (x : Int) (w : World) (h0 : 0 ≤ x) (h1 : x < 18446744073709551616) : Calls Try.prog 35 #[.int .u64 x] w fun e w' => e = .returned (.int .i64 (placeF x)) ∧ w' = w := by
  by_cases h : x < 9223372036854775808
  · exact place_lo x w h0 h
  · exact place_hi x w (by omega) h1
set_option maxHeartbeats 400000 in
theorem total_any (a b : Int) (w : World) (h0 : 0 ≤ a) (h1 : a < 18446744073709551616) (h2 : 0 ≤ b) (h3 : b < 18446744073709551616) : Calls Try.prog 20 #[.int .u64 a, .int .u64 b] w fun e w' => e = .returned (.int .i64 (totF a b)) ∧ w' = w := by
  go_enter Try.func20, Try.ntmps20
  go_wp2_with fail
  refine (place_any a _ h0 h1).mono ?_
  rintro e w' ⟨rfl, rfl⟩
  go_wp2_with fail
  refine (place_any b _ h2 h3).mono ?_
  rintro e w' ⟨rfl, rfl⟩
  go_wp2_with fail
  refine (cmp64_any _ _ _).mono ?_
  rintro e w' ⟨rfl, rfl⟩
  go_wp2_with fail
  go_ret
  exact ⟨rfl, rfl⟩

set_option maxHeartbeats 400000 in
theorem rtotal_ll (a b : Int) (w : World) (h0 : 0 ≤ a) (h1 : a < 9223372036854775808) (h2 : 0 ≤ b) (h3 : b < 9223372036854775808) : Calls Try.prog 21 #[.int .u64 a, .int .u64 b] w fun e w' => e = .returned (.int .i64 (totF a b)) ∧ w' = w := by
  have x1a : bits .xor .u64 a 9223372036854775808 = a + 9223372036854775808 := by rw [xortop a (by omega) (by omega), if_pos (by omega)]
  have x2a : bits .and .u64 a 9223372036854775808 = 0 := hiand_lo a (by omega) (by omega)
  have x1b : bits .xor .u64 b 9223372036854775808 = b + 9223372036854775808 := by rw [xortop b (by omega) (by omega), if_pos (by omega)]
  have x2b : bits .and .u64 b 9223372036854775808 = 0 := hiand_lo b (by omega) (by omega)
  go_enter Try.func21, Try.ntmps21
  go_wp2
  all_goals go_ret
  all_goals refine ⟨ret_int ?_, rfl⟩
  all_goals (unfold totF cmpF placeF; repeat' split)
  all_goals first | rfl | omega

set_option maxHeartbeats 400000 in
theorem rtotal_lh (a b : Int) (w : World) (h0 : 0 ≤ a) (h1 : a < 9223372036854775808) (h2 : 9223372036854775808 ≤ b) (h3 : b < 18446744073709551616) : Calls Try.prog 21 #[.int .u64 a, .int .u64 b] w fun e w' => e = .returned (.int .i64 (totF a b)) ∧ w' = w := by
  have x1a : bits .xor .u64 a 9223372036854775808 = a + 9223372036854775808 := by rw [xortop a (by omega) (by omega), if_pos (by omega)]
  have x2a : bits .and .u64 a 9223372036854775808 = 0 := hiand_lo a (by omega) (by omega)
  have x1b : bits .xor .u64 b 9223372036854775808 = b - 9223372036854775808 := by rw [xortop b (by omega) (by omega), if_neg (by omega)]
  have x2b : bits .and .u64 b 9223372036854775808 = 9223372036854775808 := hiand_hi b (by omega) (by omega)
  have x3b : bits .and .u64 b 9223372036854775807 = b - 9223372036854775808 := by rw [lowand b (by omega) (by omega)]; omega
  go_enter Try.func21, Try.ntmps21
  go_wp2
  all_goals go_ret
  all_goals refine ⟨ret_int ?_, rfl⟩
  all_goals (unfold totF cmpF placeF; repeat' split)
  all_goals first | rfl | omega

set_option maxHeartbeats 400000 in
theorem rtotal_hl (a b : Int) (w : World) (h0 : 9223372036854775808 ≤ a) (h1 : a < 18446744073709551616) (h2 : 0 ≤ b) (h3 : b < 9223372036854775808) : Calls Try.prog 21 #[.int .u64 a, .int .u64 b] w fun e w' => e = .returned (.int .i64 (totF a b)) ∧ w' = w := by
  have x1a : bits .xor .u64 a 9223372036854775808 = a - 9223372036854775808 := by rw [xortop a (by omega) (by omega), if_neg (by omega)]
  have x2a : bits .and .u64 a 9223372036854775808 = 9223372036854775808 := hiand_hi a (by omega) (by omega)
  have x3a : bits .and .u64 a 9223372036854775807 = a - 9223372036854775808 := by rw [lowand a (by omega) (by omega)]; omega
  have x1b : bits .xor .u64 b 9223372036854775808 = b + 9223372036854775808 := by rw [xortop b (by omega) (by omega), if_pos (by omega)]
  have x2b : bits .and .u64 b 9223372036854775808 = 0 := hiand_lo b (by omega) (by omega)
  go_enter Try.func21, Try.ntmps21
  go_wp2
  all_goals go_ret
  all_goals refine ⟨ret_int ?_, rfl⟩
  all_goals (unfold totF cmpF placeF; repeat' split)
  all_goals first | rfl | omega

set_option maxHeartbeats 400000 in
theorem rtotal_hh (a b : Int) (w : World) (h0 : 9223372036854775808 ≤ a) (h1 : a < 18446744073709551616) (h2 : 9223372036854775808 ≤ b) (h3 : b < 18446744073709551616) : Calls Try.prog 21 #[.int .u64 a, .int .u64 b] w fun e w' => e = .returned (.int .i64 (totF a b)) ∧ w' = w := by
  have x1a : bits .xor .u64 a 9223372036854775808 = a - 9223372036854775808 := by rw [xortop a (by omega) (by omega), if_neg (by omega)]
  have x2a : bits .and .u64 a 9223372036854775808 = 9223372036854775808 := hiand_hi a (by omega) (by omega)
  have x3a : bits .and .u64 a 9223372036854775807 = a - 9223372036854775808 := by rw [lowand a (by omega) (by omega)]; omega
  have x1b : bits .xor .u64 b 9223372036854775808 = b - 9223372036854775808 := by rw [xortop b (by omega) (by omega), if_neg (by omega)]
  have x2b : bits .and .u64 b 9223372036854775808 = 9223372036854775808 := hiand_hi b (by omega) (by omega)
  have x3b : bits .and .u64 b 9223372036854775807 = b - 9223372036854775808 := by rw [lowand b (by omega) (by omega)]; omega
  go_enter Try.func21, Try.ntmps21
  go_wp2
  all_goals go_ret
  all_goals refine ⟨ret_int ?_, rfl⟩
  all_goals (unfold totF cmpF placeF; repeat' split)
  all_goals first | rfl | omega

theorem rtotal_any (a b : Int) (w : World) (h0 : 0 ≤ a) (h1 : a < 18446744073709551616) (h2 : 0 ≤ b) (h3 : b < 18446744073709551616) : Calls Try.prog 21 #[.int .u64 a, .int .u64 b] w fun e w' => e = .returned (.int .i64 (totF a b)) ∧ w' = w := by
  by_cases x : a < 9223372036854775808 <;> by_cases y : b < 9223372036854775808
  · exact rtotal_ll a b w h0 x h2 y
  · exact rtotal_lh a b w h0 x (by omega) h3
  · exact rtotal_hl a b w (by omega) h1 h2 y
  · exact rtotal_hh a b w (by omega) h1 (by omega) h3
end Go.Proofs.Ytkohgkbeecadeaa
