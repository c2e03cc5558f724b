/- The reference's Quant, by cases. -/
import Derived.Test.YtkohgkbeecadeaaQuV
namespace Go.Proofs.Ytkohgkbeecadeaa
open Go.RowKit Go.ChangeShapes Go.WideShapes Go.ChangeAt
set_option linter.unusedVariables false

theorem ret_q {a b c a' b' c' : Int} (h1 : a = a') (h2 : b = b') (h3 : c = c') : Ending.returned (.tuple #[.int .i32 a, .int .i64 b, .int .i64 c]) = .returned (.tuple #[.int .i32 a', .int .i64 b', .int .i64 c']) := by rw [h1, h2, h3]
def QR (x k v m e : Int) (w : World) : Prop := Calls Try.prog 10 #[.int .u64 x, .int .i64 k] w fun e' w' => e' = .returned (.tuple #[.int .i32 v, .int .i64 m, .int .i64 e]) ∧ w' = w

set_option maxRecDepth 100000 in
set_option maxHeartbeats 1000000 in
theorem rq_lop (x k kd : Int) (w : World) (HK : Hid (∀ w, Calls Try.prog 12 #[.int .u64 x] w fun e w' => e = .returned (.int .i64 kd) ∧ w' = w)) (s : bits .and .u64 x 9223372036854775808 = 0) (h : k < -64) : QR x k 0 0 2 w := by
  unfold QR
  go_enter Try.func10, Try.ntmps10
  go_wp2_with fail
  refine (HK.out _).mono ?_
  rintro _ w' ⟨rfl, rfl⟩
  go_wp2_with fail
  go_ret3
  exact ⟨ret_q (by first | rfl | omega) (by first | rfl | omega) rfl, rfl⟩

set_option maxRecDepth 100000 in
set_option maxHeartbeats 1000000 in
theorem rq_hip (x k kd : Int) (w : World) (HK : Hid (∀ w, Calls Try.prog 12 #[.int .u64 x] w fun e w' => e = .returned (.int .i64 kd) ∧ w' = w)) (s : bits .and .u64 x 9223372036854775808 = 0) (h : 64 < k) : QR x k 0 0 2 w := by
  unfold QR
  go_enter Try.func10, Try.ntmps10
  go_wp2_with fail
  refine (HK.out _).mono ?_
  rintro _ w' ⟨rfl, rfl⟩
  go_wp2_with fail
  go_ret3
  exact ⟨ret_q (by first | rfl | omega) (by first | rfl | omega) rfl, rfl⟩

set_option maxRecDepth 100000 in
set_option maxHeartbeats 1000000 in
theorem rq_nanp (x k kd : Int) (w : World) (HK : Hid (∀ w, Calls Try.prog 12 #[.int .u64 x] w fun e w' => e = .returned (.int .i64 kd) ∧ w' = w)) (s : bits .and .u64 x 9223372036854775808 = 0) (h5 : kd = 5) (h1 : -64 ≤ k) (h2 : k ≤ 64) : QR x k 0 0 10 w := by
  unfold QR
  subst h5
  go_enter Try.func10, Try.ntmps10
  go_wp2_with fail
  refine (HK.out _).mono ?_
  rintro _ w' ⟨rfl, rfl⟩
  go_wp2_with fail
  go_ret3
  exact ⟨ret_q (by first | rfl | omega) (by first | rfl | omega) rfl, rfl⟩

set_option maxRecDepth 100000 in
set_option maxHeartbeats 1000000 in
theorem rq_infp (x k kd : Int) (w : World) (HK : Hid (∀ w, Calls Try.prog 12 #[.int .u64 x] w fun e w' => e = .returned (.int .i64 kd) ∧ w' = w)) (s : bits .and .u64 x 9223372036854775808 = 0) (h5 : kd = 4) (h1 : -64 ≤ k) (h2 : k ≤ 64) : QR x k 2147483647 2 0 w := by
  unfold QR
  subst h5
  go_enter Try.func10, Try.ntmps10
  go_wp2_with fail
  refine (HK.out _).mono ?_
  rintro _ w' ⟨rfl, rfl⟩
  go_wp2_with fail
  go_ret3
  exact ⟨ret_q (by first | rfl | omega) (by first | rfl | omega) rfl, rfl⟩

set_option maxRecDepth 100000 in
set_option maxHeartbeats 1000000 in
theorem rq_lon (x k kd : Int) (w : World) (HK : Hid (∀ w, Calls Try.prog 12 #[.int .u64 x] w fun e w' => e = .returned (.int .i64 kd) ∧ w' = w)) (s : bits .and .u64 x 9223372036854775808 = 9223372036854775808) (h : k < -64) : QR x k 0 0 2 w := by
  unfold QR
  go_enter Try.func10, Try.ntmps10
  go_wp2_with fail
  refine (HK.out _).mono ?_
  rintro _ w' ⟨rfl, rfl⟩
  go_wp2_with fail
  go_ret3
  exact ⟨ret_q (by first | rfl | omega) (by first | rfl | omega) rfl, rfl⟩

set_option maxRecDepth 100000 in
set_option maxHeartbeats 1000000 in
theorem rq_hin (x k kd : Int) (w : World) (HK : Hid (∀ w, Calls Try.prog 12 #[.int .u64 x] w fun e w' => e = .returned (.int .i64 kd) ∧ w' = w)) (s : bits .and .u64 x 9223372036854775808 = 9223372036854775808) (h : 64 < k) : QR x k 0 0 2 w := by
  unfold QR
  go_enter Try.func10, Try.ntmps10
  go_wp2_with fail
  refine (HK.out _).mono ?_
  rintro _ w' ⟨rfl, rfl⟩
  go_wp2_with fail
  go_ret3
  exact ⟨ret_q (by first | rfl | omega) (by first | rfl | omega) rfl, rfl⟩

set_option maxRecDepth 100000 in
set_option maxHeartbeats 1000000 in
theorem rq_nann (x k kd : Int) (w : World) (HK : Hid (∀ w, Calls Try.prog 12 #[.int .u64 x] w fun e w' => e = .returned (.int .i64 kd) ∧ w' = w)) (s : bits .and .u64 x 9223372036854775808 = 9223372036854775808) (h5 : kd = 5) (h1 : -64 ≤ k) (h2 : k ≤ 64) : QR x k 0 0 10 w := by
  unfold QR
  subst h5
  go_enter Try.func10, Try.ntmps10
  go_wp2_with fail
  refine (HK.out _).mono ?_
  rintro _ w' ⟨rfl, rfl⟩
  go_wp2_with fail
  go_ret3
  exact ⟨ret_q (by first | rfl | omega) (by first | rfl | omega) rfl, rfl⟩

set_option maxRecDepth 100000 in
set_option maxHeartbeats 1000000 in
theorem rq_infn (x k kd : Int) (w : World) (HK : Hid (∀ w, Calls Try.prog 12 #[.int .u64 x] w fun e w' => e = .returned (.int .i64 kd) ∧ w' = w)) (s : bits .and .u64 x 9223372036854775808 = 9223372036854775808) (h5 : kd = 4) (h1 : -64 ≤ k) (h2 : k ≤ 64) : QR x k (-2147483648) 2 0 w := by
  unfold QR
  subst h5
  go_enter Try.func10, Try.ntmps10
  go_wp2_with fail
  refine (HK.out _).mono ?_
  rintro _ w' ⟨rfl, rfl⟩
  go_wp2_with fail
  go_ret3
  exact ⟨ret_q (by first | rfl | omega) (by first | rfl | omega) rfl, rfl⟩

set_option maxRecDepth 100000 in
set_option maxHeartbeats 1000000 in
theorem rq_fpc0 (x k kd m e N : Int) (w : World) (HK : Hid (∀ w, Calls Try.prog 12 #[.int .u64 x] w fun e w' => e = .returned (.int .i64 kd) ∧ w' = w)) (s : bits .and .u64 x 9223372036854775808 = 0) (k5 : (kd == 5) = false) (k4 : (kd == 4) = false) (h1 : -64 ≤ k) (h2 : k ≤ 64) (e1 : -1100 ≤ e) (e2 : e ≤ 1000) (HP : Hid (∀ w, Calls Try.prog 29 #[.int .u64 x] w fun e' w' => e' = .returned (.tuple #[.int .u64 m, .int .i64 e]) ∧ w' = w)) (HN : Hid (∀ w, Calls Try.prog 30 #[.int .u64 m, .int .i64 (e + k)] w fun e' w' => e' = .returned (.tuple #[.int .u64 N, .bool true]) ∧ w' = w)) (n1 : 2147483647 < N) (n2 : N ≤ 1000000000000000000) : QR x k 2147483647 2 0 w := by
  unfold QR
  go_enter Try.func10, Try.ntmps10
  go_wp2_with fail
  refine (HK.out _).mono ?_
  rintro _ w' ⟨rfl, rfl⟩
  go_wp2_with fail
  refine (HP.out _).mono ?_
  rintro _ w' ⟨rfl, rfl⟩
  go_wp2_with fail
  refine (HN.out _).mono ?_
  rintro _ w' ⟨rfl, rfl⟩
  go_wp2_with fail
  go_ret3
  exact ⟨ret_q (by first | rfl | omega) (by first | rfl | omega) rfl, rfl⟩

set_option maxRecDepth 100000 in
set_option maxHeartbeats 1000000 in
theorem rq_fp0 (x k kd m e N : Int) (w : World) (HK : Hid (∀ w, Calls Try.prog 12 #[.int .u64 x] w fun e w' => e = .returned (.int .i64 kd) ∧ w' = w)) (s : bits .and .u64 x 9223372036854775808 = 0) (k5 : (kd == 5) = false) (k4 : (kd == 4) = false) (h1 : -64 ≤ k) (h2 : k ≤ 64) (e1 : -1100 ≤ e) (e2 : e ≤ 1000) (HP : Hid (∀ w, Calls Try.prog 29 #[.int .u64 x] w fun e' w' => e' = .returned (.tuple #[.int .u64 m, .int .i64 e]) ∧ w' = w)) (HN : Hid (∀ w, Calls Try.prog 30 #[.int .u64 m, .int .i64 (e + k)] w fun e' w' => e' = .returned (.tuple #[.int .u64 N, .bool true]) ∧ w' = w)) (n0 : 0 ≤ N) (n1 : N ≤ 2147483647) : QR x k N 0 0 w := by
  unfold QR
  go_enter Try.func10, Try.ntmps10
  go_wp2_with fail
  refine (HK.out _).mono ?_
  rintro _ w' ⟨rfl, rfl⟩
  go_wp2_with fail
  refine (HP.out _).mono ?_
  rintro _ w' ⟨rfl, rfl⟩
  go_wp2_with fail
  refine (HN.out _).mono ?_
  rintro _ w' ⟨rfl, rfl⟩
  go_wp2_with fail
  go_ret3
  exact ⟨ret_q (by first | rfl | omega) (by first | rfl | omega) rfl, rfl⟩

set_option maxRecDepth 100000 in
set_option maxHeartbeats 1000000 in
theorem rq_fnc0 (x k kd m e N : Int) (w : World) (HK : Hid (∀ w, Calls Try.prog 12 #[.int .u64 x] w fun e w' => e = .returned (.int .i64 kd) ∧ w' = w)) (s : bits .and .u64 x 9223372036854775808 = 9223372036854775808) (k5 : (kd == 5) = false) (k4 : (kd == 4) = false) (h1 : -64 ≤ k) (h2 : k ≤ 64) (e1 : -1100 ≤ e) (e2 : e ≤ 1000) (HP : Hid (∀ w, Calls Try.prog 29 #[.int .u64 x] w fun e' w' => e' = .returned (.tuple #[.int .u64 m, .int .i64 e]) ∧ w' = w)) (HN : Hid (∀ w, Calls Try.prog 30 #[.int .u64 m, .int .i64 (e + k)] w fun e' w' => e' = .returned (.tuple #[.int .u64 N, .bool true]) ∧ w' = w)) (n1 : 2147483648 < N) (n2 : N ≤ 1000000000000000000) : QR x k (-2147483648) 2 0 w := by
  unfold QR
  go_enter Try.func10, Try.ntmps10
  go_wp2_with fail
  refine (HK.out _).mono ?_
  rintro _ w' ⟨rfl, rfl⟩
  go_wp2_with fail
  refine (HP.out _).mono ?_
  rintro _ w' ⟨rfl, rfl⟩
  go_wp2_with fail
  refine (HN.out _).mono ?_
  rintro _ w' ⟨rfl, rfl⟩
  go_wp2_with fail
  go_ret3
  exact ⟨ret_q (by first | rfl | omega) (by first | rfl | omega) rfl, rfl⟩

set_option maxRecDepth 100000 in
set_option maxHeartbeats 1000000 in
theorem rq_fn0 (x k kd m e N : Int) (w : World) (HK : Hid (∀ w, Calls Try.prog 12 #[.int .u64 x] w fun e w' => e = .returned (.int .i64 kd) ∧ w' = w)) (s : bits .and .u64 x 9223372036854775808 = 9223372036854775808) (k5 : (kd == 5) = false) (k4 : (kd == 4) = false) (h1 : -64 ≤ k) (h2 : k ≤ 64) (e1 : -1100 ≤ e) (e2 : e ≤ 1000) (HP : Hid (∀ w, Calls Try.prog 29 #[.int .u64 x] w fun e' w' => e' = .returned (.tuple #[.int .u64 m, .int .i64 e]) ∧ w' = w)) (HN : Hid (∀ w, Calls Try.prog 30 #[.int .u64 m, .int .i64 (e + k)] w fun e' w' => e' = .returned (.tuple #[.int .u64 N, .bool true]) ∧ w' = w)) (n0 : 0 < N) (n1 : N ≤ 2147483648) (nz : (N == 0) = false) : QR x k (-N) 0 0 w := by
  unfold QR
  go_enter Try.func10, Try.ntmps10
  go_wp2_with fail
  refine (HK.out _).mono ?_
  rintro _ w' ⟨rfl, rfl⟩
  go_wp2_with fail
  refine (HP.out _).mono ?_
  rintro _ w' ⟨rfl, rfl⟩
  go_wp2_with fail
  refine (HN.out _).mono ?_
  rintro _ w' ⟨rfl, rfl⟩
  go_wp2_with fail
  go_ret3
  exact ⟨ret_q (by first | rfl | omega) (by first | rfl | omega) rfl, rfl⟩

set_option maxRecDepth 100000 in
set_option maxHeartbeats 1000000 in
theorem rq_fnz0 (x k kd m e : Int) (w : World) (HK : Hid (∀ w, Calls Try.prog 12 #[.int .u64 x] w fun e w' => e = .returned (.int .i64 kd) ∧ w' = w)) (s : bits .and .u64 x 9223372036854775808 = 9223372036854775808) (k5 : (kd == 5) = false) (k4 : (kd == 4) = false) (h1 : -64 ≤ k) (h2 : k ≤ 64) (e1 : -1100 ≤ e) (e2 : e ≤ 1000) (HP : Hid (∀ w, Calls Try.prog 29 #[.int .u64 x] w fun e' w' => e' = .returned (.tuple #[.int .u64 m, .int .i64 e]) ∧ w' = w)) (HN : Hid (∀ w, Calls Try.prog 30 #[.int .u64 m, .int .i64 (e + k)] w fun e' w' => e' = .returned (.tuple #[.int .u64 0, .bool true]) ∧ w' = w)) : QR x k 0 4 0 w := by
  unfold QR
  have b4 : bits .or .i64 0 4 = 4 := by decide
  go_enter Try.func10, Try.ntmps10
  go_wp2_with fail
  refine (HK.out _).mono ?_
  rintro _ w' ⟨rfl, rfl⟩
  go_wp2_with fail
  refine (HP.out _).mono ?_
  rintro _ w' ⟨rfl, rfl⟩
  go_wp2_with fail
  refine (HN.out _).mono ?_
  rintro _ w' ⟨rfl, rfl⟩
  go_wp2_with fail
  go_ret3
  exact ⟨ret_q (by first | rfl | omega) (by first | rfl | omega) rfl, rfl⟩

set_option maxRecDepth 100000 in
set_option maxHeartbeats 1000000 in
theorem rq_fpc1 (x k kd m e N : Int) (w : World) (HK : Hid (∀ w, Calls Try.prog 12 #[.int .u64 x] w fun e w' => e = .returned (.int .i64 kd) ∧ w' = w)) (s : bits .and .u64 x 9223372036854775808 = 0) (k5 : (kd == 5) = false) (k4 : (kd == 4) = false) (h1 : -64 ≤ k) (h2 : k ≤ 64) (e1 : -1100 ≤ e) (e2 : e ≤ 1000) (HP : Hid (∀ w, Calls Try.prog 29 #[.int .u64 x] w fun e' w' => e' = .returned (.tuple #[.int .u64 m, .int .i64 e]) ∧ w' = w)) (HN : Hid (∀ w, Calls Try.prog 30 #[.int .u64 m, .int .i64 (e + k)] w fun e' w' => e' = .returned (.tuple #[.int .u64 N, .bool false]) ∧ w' = w)) (n1 : 2147483647 < N) (n2 : N ≤ 1000000000000000000) : QR x k 2147483647 2 0 w := by
  unfold QR
  go_enter Try.func10, Try.ntmps10
  go_wp2_with fail
  refine (HK.out _).mono ?_
  rintro _ w' ⟨rfl, rfl⟩
  go_wp2_with fail
  refine (HP.out _).mono ?_
  rintro _ w' ⟨rfl, rfl⟩
  go_wp2_with fail
  refine (HN.out _).mono ?_
  rintro _ w' ⟨rfl, rfl⟩
  go_wp2_with fail
  go_ret3
  exact ⟨ret_q (by first | rfl | omega) (by first | rfl | omega) rfl, rfl⟩

set_option maxRecDepth 100000 in
set_option maxHeartbeats 1000000 in
theorem rq_fp1 (x k kd m e N : Int) (w : World) (HK : Hid (∀ w, Calls Try.prog 12 #[.int .u64 x] w fun e w' => e = .returned (.int .i64 kd) ∧ w' = w)) (s : bits .and .u64 x 9223372036854775808 = 0) (k5 : (kd == 5) = false) (k4 : (kd == 4) = false) (h1 : -64 ≤ k) (h2 : k ≤ 64) (e1 : -1100 ≤ e) (e2 : e ≤ 1000) (HP : Hid (∀ w, Calls Try.prog 29 #[.int .u64 x] w fun e' w' => e' = .returned (.tuple #[.int .u64 m, .int .i64 e]) ∧ w' = w)) (HN : Hid (∀ w, Calls Try.prog 30 #[.int .u64 m, .int .i64 (e + k)] w fun e' w' => e' = .returned (.tuple #[.int .u64 N, .bool false]) ∧ w' = w)) (n0 : 0 ≤ N) (n1 : N ≤ 2147483647) : QR x k N 1 0 w := by
  unfold QR
  go_enter Try.func10, Try.ntmps10
  go_wp2_with fail
  refine (HK.out _).mono ?_
  rintro _ w' ⟨rfl, rfl⟩
  go_wp2_with fail
  refine (HP.out _).mono ?_
  rintro _ w' ⟨rfl, rfl⟩
  go_wp2_with fail
  refine (HN.out _).mono ?_
  rintro _ w' ⟨rfl, rfl⟩
  go_wp2_with fail
  go_ret3
  exact ⟨ret_q (by first | rfl | omega) (by first | rfl | omega) rfl, rfl⟩

set_option maxRecDepth 100000 in
set_option maxHeartbeats 1000000 in
theorem rq_fnc1 (x k kd m e N : Int) (w : World) (HK : Hid (∀ w, Calls Try.prog 12 #[.int .u64 x] w fun e w' => e = .returned (.int .i64 kd) ∧ w' = w)) (s : bits .and .u64 x 9223372036854775808 = 9223372036854775808) (k5 : (kd == 5) = false) (k4 : (kd == 4) = false) (h1 : -64 ≤ k) (h2 : k ≤ 64) (e1 : -1100 ≤ e) (e2 : e ≤ 1000) (HP : Hid (∀ w, Calls Try.prog 29 #[.int .u64 x] w fun e' w' => e' = .returned (.tuple #[.int .u64 m, .int .i64 e]) ∧ w' = w)) (HN : Hid (∀ w, Calls Try.prog 30 #[.int .u64 m, .int .i64 (e + k)] w fun e' w' => e' = .returned (.tuple #[.int .u64 N, .bool false]) ∧ w' = w)) (n1 : 2147483648 < N) (n2 : N ≤ 1000000000000000000) : QR x k (-2147483648) 2 0 w := by
  unfold QR
  go_enter Try.func10, Try.ntmps10
  go_wp2_with fail
  refine (HK.out _).mono ?_
  rintro _ w' ⟨rfl, rfl⟩
  go_wp2_with fail
  refine (HP.out _).mono ?_
  rintro _ w' ⟨rfl, rfl⟩
  go_wp2_with fail
  refine (HN.out _).mono ?_
  rintro _ w' ⟨rfl, rfl⟩
  go_wp2_with fail
  go_ret3
  exact ⟨ret_q (by first | rfl | omega) (by first | rfl | omega) rfl, rfl⟩

set_option maxRecDepth 100000 in
set_option maxHeartbeats 1000000 in
theorem rq_fn1 (x k kd m e N : Int) (w : World) (HK : Hid (∀ w, Calls Try.prog 12 #[.int .u64 x] w fun e w' => e = .returned (.int .i64 kd) ∧ w' = w)) (s : bits .and .u64 x 9223372036854775808 = 9223372036854775808) (k5 : (kd == 5) = false) (k4 : (kd == 4) = false) (h1 : -64 ≤ k) (h2 : k ≤ 64) (e1 : -1100 ≤ e) (e2 : e ≤ 1000) (HP : Hid (∀ w, Calls Try.prog 29 #[.int .u64 x] w fun e' w' => e' = .returned (.tuple #[.int .u64 m, .int .i64 e]) ∧ w' = w)) (HN : Hid (∀ w, Calls Try.prog 30 #[.int .u64 m, .int .i64 (e + k)] w fun e' w' => e' = .returned (.tuple #[.int .u64 N, .bool false]) ∧ w' = w)) (n0 : 0 < N) (n1 : N ≤ 2147483648) (nz : (N == 0) = false) : QR x k (-N) 1 0 w := by
  unfold QR
  go_enter Try.func10, Try.ntmps10
  go_wp2_with fail
  refine (HK.out _).mono ?_
  rintro _ w' ⟨rfl, rfl⟩
  go_wp2_with fail
  refine (HP.out _).mono ?_
  rintro _ w' ⟨rfl, rfl⟩
  go_wp2_with fail
  refine (HN.out _).mono ?_
  rintro _ w' ⟨rfl, rfl⟩
  go_wp2_with fail
  go_ret3
  exact ⟨ret_q (by first | rfl | omega) (by first | rfl | omega) rfl, rfl⟩

set_option maxRecDepth 100000 in
set_option maxHeartbeats 1000000 in
theorem rq_fnz1 (x k kd m e : Int) (w : World) (HK : Hid (∀ w, Calls Try.prog 12 #[.int .u64 x] w fun e w' => e = .returned (.int .i64 kd) ∧ w' = w)) (s : bits .and .u64 x 9223372036854775808 = 9223372036854775808) (k5 : (kd == 5) = false) (k4 : (kd == 4) = false) (h1 : -64 ≤ k) (h2 : k ≤ 64) (e1 : -1100 ≤ e) (e2 : e ≤ 1000) (HP : Hid (∀ w, Calls Try.prog 29 #[.int .u64 x] w fun e' w' => e' = .returned (.tuple #[.int .u64 m, .int .i64 e]) ∧ w' = w)) (HN : Hid (∀ w, Calls Try.prog 30 #[.int .u64 m, .int .i64 (e + k)] w fun e' w' => e' = .returned (.tuple #[.int .u64 0, .bool false]) ∧ w' = w)) : QR x k 0 5 0 w := by
  unfold QR
  have b4 : bits .or .i64 1 4 = 5 := by decide
  go_enter Try.func10, Try.ntmps10
  go_wp2_with fail
  refine (HK.out _).mono ?_
  rintro _ w' ⟨rfl, rfl⟩
  go_wp2_with fail
  refine (HP.out _).mono ?_
  rintro _ w' ⟨rfl, rfl⟩
  go_wp2_with fail
  refine (HN.out _).mono ?_
  rintro _ w' ⟨rfl, rfl⟩
  go_wp2_with fail
  go_ret3
  exact ⟨ret_q (by first | rfl | omega) (by first | rfl | omega) rfl, rfl⟩
end Go.Proofs.Ytkohgkbeecadeaa
