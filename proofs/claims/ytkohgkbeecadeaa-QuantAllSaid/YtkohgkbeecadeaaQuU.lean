/- The reference's near. -/
import Derived.Test.YtkohgkbeecadeaaQuT
import Derived.Test.YtkohgkbeecadeaaQuF
namespace Go.Proofs.Ytkohgkbeecadeaa
open Go.RowKit Go.ChangeShapes Go.WideShapes Go.ChangeAt
set_option linter.unusedVariables false


set_option maxHeartbeats 1000000 in
theorem near_up1 (m d D q r : Nat) (w : World) (h0 : 0 < m) (hm : m < 9007199254740992) (hd : d ≤ 60) (e1 : IntKind.u64.wrap ((2 : Int) ^ d) = (D : Int)) (D1 : 1 ≤ D) (D2 : D ≤ 1152921504606846976) (e2 : (m : Int) / (D : Int) = (q : Int)) (e3 : (m : Int) % (D : Int) = (r : Int)) (hq : q < 9007199254740992) (hr : r < D) (c : (D : Int) < 2 * (r : Int)) :
    Calls Try.prog 30 #[.int .u64 m, .int .i64 (-(d : Int))] w fun e w' => e = .returned (.tuple #[.int .u64 ((q : Int) + 1), .bool false]) ∧ w' = w := by
  have m0 : ((m : Int) == 0) = false := by simpa using (by omega : ¬ m = 0)
  have m1 : ¬ (m : Int) = 0 := by omega
  go_enter Try.func30, Try.ntmps30
  go_wp2_with fail
  refine wp_loop_once ?_
  go_wp2_with fail
  go_ret2
  exact ⟨by first | rfl | (congr 3 <;> first | rfl | omega), rfl⟩

set_option maxHeartbeats 1000000 in
theorem near_up2 (m d D q r : Nat) (w : World) (h0 : 0 < m) (hm : m < 9007199254740992) (hd : d ≤ 60) (e1 : IntKind.u64.wrap ((2 : Int) ^ d) = (D : Int)) (D1 : 1 ≤ D) (D2 : D ≤ 1152921504606846976) (e2 : (m : Int) / (D : Int) = (q : Int)) (e3 : (m : Int) % (D : Int) = (r : Int)) (hq : q < 9007199254740992) (hr : r < D) (c : 2 * (r : Int) = (D : Int)) (c' : (q : Int) % 2 = 1) :
    Calls Try.prog 30 #[.int .u64 m, .int .i64 (-(d : Int))] w fun e w' => e = .returned (.tuple #[.int .u64 ((q : Int) + 1), .bool false]) ∧ w' = w := by
  have m0 : ((m : Int) == 0) = false := by simpa using (by omega : ¬ m = 0)
  have m1 : ¬ (m : Int) = 0 := by omega
  go_enter Try.func30, Try.ntmps30
  go_wp2_with fail
  refine wp_loop_once ?_
  go_wp2_with fail
  go_ret2
  exact ⟨by first | rfl | (congr 3 <;> first | rfl | omega), rfl⟩

set_option maxHeartbeats 1000000 in
theorem near_dn2 (m d D q r : Nat) (w : World) (h0 : 0 < m) (hm : m < 9007199254740992) (hd : d ≤ 60) (e1 : IntKind.u64.wrap ((2 : Int) ^ d) = (D : Int)) (D1 : 1 ≤ D) (D2 : D ≤ 1152921504606846976) (e2 : (m : Int) / (D : Int) = (q : Int)) (e3 : (m : Int) % (D : Int) = (r : Int)) (hq : q < 9007199254740992) (hr : r < D) (c : 2 * (r : Int) = (D : Int)) (c' : (q : Int) % 2 = 0) (z : ((r : Int) == 0) = false) :
    Calls Try.prog 30 #[.int .u64 m, .int .i64 (-(d : Int))] w fun e w' => e = .returned (.tuple #[.int .u64 (q : Int), .bool false]) ∧ w' = w := by
  have m0 : ((m : Int) == 0) = false := by simpa using (by omega : ¬ m = 0)
  have m1 : ¬ (m : Int) = 0 := by omega
  go_enter Try.func30, Try.ntmps30
  go_wp2_with fail
  refine wp_loop_once ?_
  go_wp2_with fail
  go_ret2
  exact ⟨by first | rfl | (congr 3 <;> first | rfl | omega), rfl⟩

set_option maxHeartbeats 1000000 in
theorem near_dn1 (m d D q r : Nat) (w : World) (h0 : 0 < m) (hm : m < 9007199254740992) (hd : d ≤ 60) (e1 : IntKind.u64.wrap ((2 : Int) ^ d) = (D : Int)) (D1 : 1 ≤ D) (D2 : D ≤ 1152921504606846976) (e2 : (m : Int) / (D : Int) = (q : Int)) (e3 : (m : Int) % (D : Int) = (r : Int)) (hq : q < 9007199254740992) (hr : r < D) (c : 2 * (r : Int) < (D : Int)) (z : ((r : Int) == 0) = false) :
    Calls Try.prog 30 #[.int .u64 m, .int .i64 (-(d : Int))] w fun e w' => e = .returned (.tuple #[.int .u64 (q : Int), .bool false]) ∧ w' = w := by
  have m0 : ((m : Int) == 0) = false := by simpa using (by omega : ¬ m = 0)
  have m1 : ¬ (m : Int) = 0 := by omega
  go_enter Try.func30, Try.ntmps30
  go_wp2_with fail
  refine wp_loop_once ?_
  go_wp2_with fail
  go_ret2
  exact ⟨by first | rfl | (congr 3 <;> first | rfl | omega), rfl⟩

set_option maxHeartbeats 1000000 in
theorem near_ex (m d D q r : Nat) (w : World) (h0 : 0 < m) (hm : m < 9007199254740992) (hd : d ≤ 60) (e1 : IntKind.u64.wrap ((2 : Int) ^ d) = (D : Int)) (D1 : 1 ≤ D) (D2 : D ≤ 1152921504606846976) (e2 : (m : Int) / (D : Int) = (q : Int)) (e3 : (m : Int) % (D : Int) = (r : Int)) (hq : q < 9007199254740992) (hr : r < D) (c : 2 * (r : Int) < (D : Int)) (z : r = 0) :
    Calls Try.prog 30 #[.int .u64 m, .int .i64 (-(d : Int))] w fun e w' => e = .returned (.tuple #[.int .u64 (q : Int), .bool true]) ∧ w' = w := by
  subst z
  have m0 : ((m : Int) == 0) = false := by simpa using (by omega : ¬ m = 0)
  have m1 : ¬ (m : Int) = 0 := by omega
  go_enter Try.func30, Try.ntmps30
  go_wp2_with fail
  refine wp_loop_once ?_
  go_wp2_with fail
  go_ret2
  exact ⟨by first | rfl | (congr 3 <;> first | rfl | omega), rfl⟩

end Go.Proofs.Ytkohgkbeecadeaa
