/- QuantSteps: upwards. -/
import Derived.Test.YtkohgkbeecadeaaQuStA
namespace Go.Proofs.Ytkohgkbeecadeaa.quantSteps
open Go.ChangeShapes Go.WideShapes Go.ChangeAt Go.RowKit Go.Joins
set_option linter.unusedVariables false
theorem pow_step (v : Int) (j : Nat) : v * 2 ^ (j + 1) = v * 2 ^ j * 2 := by rw [Int.pow_succ, Int.mul_assoc]

set_option maxRecDepth 100000 in
set_option maxHeartbeats 1000000 in
theorem upMid (v a b x V : Int) (d : Nat) (w : World) (A : Hid (BI v a x 0)) (B : Hid (QI x b V 0 0)) (h1 : -2147483648 ≤ v) (h2 : v ≤ 2147483647) (a1 : -64 ≤ a) (a2 : a ≤ 64) (b1 : -64 ≤ b) (b2 : b ≤ 64) (hd : b - a = (d : Int)) (HV : Hid (∀ j, j ≤ d → -2147483648 ≤ v * 2 ^ j ∧ v * 2 ^ j ≤ 2147483647)) (HVd : Hid (V = v * 2 ^ d)) (c1 : -2147483648 < V) (c2 : V < 2147483647) : Calls Try.prog 5 #[.int .i32 v, .int .i64 a, .int .i64 b] w fun e w' => e = .returned (.bool true) ∧ Below w.heap.size w w' := by
  have HP := Lib.hid (pow_step v)
  have hab : a ≤ b := by omega
  go_enter Try.func5, Try.ntmps5
  go_wp2_with fail
  refine (A.out _).mono ?_
  rintro _ w' ⟨rfl, rfl⟩
  go_wp2_with fail
  refine (B.out _).mono ?_
  rintro _ w' ⟨rfl, rfl⟩
  go_wp2_with fail
  go_loop [12, 13] (fun s t => ∃ (j : Nat) (M : Int), j ≤ d ∧ s = .int .i64 M ∧ t = .int .i64 (a + (j : Int)) ∧ Hid (M = v * 2 ^ j) ∧ -2147483648 ≤ M ∧ M ≤ 2147483647) (fun _ t => (b - intOf t).toNat)
  case atStart => exact ⟨0, v, Nat.zero_le _, rfl, by go_num, Lib.hid (by simp), h1, h2⟩
  case round =>
    obtain ⟨j, M, hj, rfl, rfl, HM, m1, m2⟩ := hrel
    by_cases hlt : j < d
    · have hb := HV.out (j + 1) (by omega)
      rw [HP.out, ← HM.out] at hb
      obtain ⟨hb1, hb2⟩ := hb
      have hi : a + (j : Int) < b := by omega
      go_wp2_with fail
      go_round
      case rel => exact ⟨j + 1, M * 2, by omega, rfl, by go_num, Lib.hid (by rw [HP.out, HM.out]), hb1, hb2⟩
      case measure => simp [intOf]; omega
    · obtain rfl : j = d := by omega
      have hi : ¬ a + (j : Int) < b := by omega
      have hMV : M = V := by rw [HM.out, HVd.out]
      subst hMV
      go_wp2_with fail
      all_goals
        refine (known_any _).mono ?_
        rintro _ w' ⟨rfl, rfl⟩
        go_wp2_with fail
        go_ret
        exact ⟨ret_bool (by first | rfl | (simp; done) | (simp; omega)), Below.refl _ _⟩

set_option maxRecDepth 100000 in
set_option maxHeartbeats 1000000 in
theorem upMax (v a b x V : Int) (d : Nat) (w : World) (A : Hid (BI v a x 0)) (B : Hid (QI x b V 0 0)) (h1 : -2147483648 ≤ v) (h2 : v ≤ 2147483647) (a1 : -64 ≤ a) (a2 : a ≤ 64) (b1 : -64 ≤ b) (b2 : b ≤ 64) (hd : b - a = (d : Int)) (HV : Hid (∀ j, j ≤ d → -2147483648 ≤ v * 2 ^ j ∧ v * 2 ^ j ≤ 2147483647)) (HVd : Hid (V = v * 2 ^ d)) (c1 : V = 2147483647) (hd31 : d ≤ 31) (e5 : wrap64 (v * 2 ^ d) = V) : Calls Try.prog 5 #[.int .i32 v, .int .i64 a, .int .i64 b] w fun e w' => e = .returned (.bool true) ∧ Below w.heap.size w w' := by
  have HP := Lib.hid (pow_step v)
  have hab : a ≤ b := by omega
  go_enter Try.func5, Try.ntmps5
  go_wp2_with fail
  refine (A.out _).mono ?_
  rintro _ w' ⟨rfl, rfl⟩
  go_wp2_with fail
  refine (B.out _).mono ?_
  rintro _ w' ⟨rfl, rfl⟩
  go_wp2_with fail
  go_loop [12, 13] (fun s t => ∃ (j : Nat) (M : Int), j ≤ d ∧ s = .int .i64 M ∧ t = .int .i64 (a + (j : Int)) ∧ Hid (M = v * 2 ^ j) ∧ -2147483648 ≤ M ∧ M ≤ 2147483647) (fun _ t => (b - intOf t).toNat)
  case atStart => exact ⟨0, v, Nat.zero_le _, rfl, by go_num, Lib.hid (by simp), h1, h2⟩
  case round =>
    obtain ⟨j, M, hj, rfl, rfl, HM, m1, m2⟩ := hrel
    by_cases hlt : j < d
    · have hb := HV.out (j + 1) (by omega)
      rw [HP.out, ← HM.out] at hb
      obtain ⟨hb1, hb2⟩ := hb
      have hi : a + (j : Int) < b := by omega
      go_wp2_with fail
      go_round
      case rel => exact ⟨j + 1, M * 2, by omega, rfl, by go_num, Lib.hid (by rw [HP.out, HM.out]), hb1, hb2⟩
      case measure => simp [intOf]; omega
    · obtain rfl : j = d := by omega
      have hi : ¬ a + (j : Int) < b := by omega
      have hMV : M = V := by rw [HM.out, HVd.out]
      subst hMV
      go_wp2_with fail
      all_goals
        refine (known_any _).mono ?_
        rintro _ w' ⟨rfl, rfl⟩
        go_wp2_with fail
        go_ret
        exact ⟨ret_bool (by first | rfl | (simp; done) | (simp; omega)), Below.refl _ _⟩

set_option maxRecDepth 100000 in
set_option maxHeartbeats 1000000 in
theorem upMin (v a b x V : Int) (d : Nat) (w : World) (A : Hid (BI v a x 0)) (B : Hid (QI x b V 0 0)) (h1 : -2147483648 ≤ v) (h2 : v ≤ 2147483647) (a1 : -64 ≤ a) (a2 : a ≤ 64) (b1 : -64 ≤ b) (b2 : b ≤ 64) (hd : b - a = (d : Int)) (HV : Hid (∀ j, j ≤ d → -2147483648 ≤ v * 2 ^ j ∧ v * 2 ^ j ≤ 2147483647)) (HVd : Hid (V = v * 2 ^ d)) (c1 : V = -2147483648) (hd31 : d ≤ 31) (e5 : wrap64 (v * 2 ^ d) = V) : Calls Try.prog 5 #[.int .i32 v, .int .i64 a, .int .i64 b] w fun e w' => e = .returned (.bool true) ∧ Below w.heap.size w w' := by
  have HP := Lib.hid (pow_step v)
  have hab : a ≤ b := by omega
  go_enter Try.func5, Try.ntmps5
  go_wp2_with fail
  refine (A.out _).mono ?_
  rintro _ w' ⟨rfl, rfl⟩
  go_wp2_with fail
  refine (B.out _).mono ?_
  rintro _ w' ⟨rfl, rfl⟩
  go_wp2_with fail
  go_loop [12, 13] (fun s t => ∃ (j : Nat) (M : Int), j ≤ d ∧ s = .int .i64 M ∧ t = .int .i64 (a + (j : Int)) ∧ Hid (M = v * 2 ^ j) ∧ -2147483648 ≤ M ∧ M ≤ 2147483647) (fun _ t => (b - intOf t).toNat)
  case atStart => exact ⟨0, v, Nat.zero_le _, rfl, by go_num, Lib.hid (by simp), h1, h2⟩
  case round =>
    obtain ⟨j, M, hj, rfl, rfl, HM, m1, m2⟩ := hrel
    by_cases hlt : j < d
    · have hb := HV.out (j + 1) (by omega)
      rw [HP.out, ← HM.out] at hb
      obtain ⟨hb1, hb2⟩ := hb
      have hi : a + (j : Int) < b := by omega
      go_wp2_with fail
      go_round
      case rel => exact ⟨j + 1, M * 2, by omega, rfl, by go_num, Lib.hid (by rw [HP.out, HM.out]), hb1, hb2⟩
      case measure => simp [intOf]; omega
    · obtain rfl : j = d := by omega
      have hi : ¬ a + (j : Int) < b := by omega
      have hMV : M = V := by rw [HM.out, HVd.out]
      subst hMV
      go_wp2_with fail
      all_goals
        refine (known_any _).mono ?_
        rintro _ w' ⟨rfl, rfl⟩
        go_wp2_with fail
        go_ret
        exact ⟨ret_bool (by first | rfl | (simp; done) | (simp; omega)), Below.refl _ _⟩

set_option maxRecDepth 100000 in
set_option maxHeartbeats 1000000 in
theorem upHi0 (v a b x : Int) (d : Nat) (w : World) (A : Hid (BI v a x 0)) (B : Hid (QI x b (2147483647) 2 0)) (h1 : -2147483648 ≤ v) (h2 : v ≤ 2147483647) (a1 : -64 ≤ a) (a2 : a ≤ 64) (b1 : -64 ≤ b) (b2 : b ≤ 64) (hd : b - a = (d : Int)) (hv : 0 < v) (HVd : Hid (2147483647 < v * 2 ^ d)) (hd32 : d ≤ 32) (S : Int) (e5 : wrap64 (v * 2 ^ d) = S) (eS0 : S ≠ 2147483647) : Calls Try.prog 5 #[.int .i32 v, .int .i64 a, .int .i64 b] w fun e w' => e = .returned (.bool true) ∧ Below w.heap.size w w' := by
  have HP := Lib.hid (pow_step v)
  have hab : a ≤ b := by omega
  have eS : (S == 2147483647) = false := by simpa using eS0
  have eS1 : (S != 2147483647) = true := by simpa using eS0
  have eS2 : ¬ S = 2147483647 := eS0
  go_enter Try.func5, Try.ntmps5
  go_wp2_with fail
  refine (A.out _).mono ?_
  rintro _ w' ⟨rfl, rfl⟩
  go_wp2_with fail
  refine (B.out _).mono ?_
  rintro _ w' ⟨rfl, rfl⟩
  go_wp2_with fail
  go_loop [12, 13] (fun s t => ∃ (j : Nat) (M : Int), j ≤ d ∧ s = .int .i64 M ∧ t = .int .i64 (a + (j : Int)) ∧ Hid (M = v * 2 ^ j) ∧ 1 ≤ M ∧ M ≤ 1099511627776) (fun _ t => (b - intOf t).toNat)
  case atStart => exact ⟨0, v, Nat.zero_le _, rfl, by go_num, Lib.hid (by simp), by omega, by omega⟩
  case round =>
    obtain ⟨j, M, hj, rfl, rfl, HM, m1, m2⟩ := hrel
    by_cases hlt : j < d
    · have hi : a + (j : Int) < b := by omega
      by_cases hbr : 1099511627776 < M * 2
      · have hM : 2147483647 < M * 2 := by omega
        have q0 : 1099511627776 < M * 2 := by omega
        go_wp2_with fail
        all_goals
          refine (known_any _).mono ?_
          rintro _ w' ⟨rfl, rfl⟩
          go_wp2_with fail
          go_ret
          exact ⟨ret_bool (by first | rfl | (simp; done) | (simp; omega)), Below.refl _ _⟩
      · have q0 : M * 2 ≤ 1099511627776 ∧ -1099511627776 ≤ M * 2 := by omega
        obtain ⟨q1, q2⟩ := q0
        go_wp2_with fail
        go_round
        case rel => exact ⟨j + 1, M * 2, by omega, rfl, by go_num, Lib.hid (by rw [HP.out, HM.out]), by omega, by omega⟩
        case measure => simp [intOf]; omega
    · obtain rfl : j = d := by omega
      have hi : ¬ a + (j : Int) < b := by omega
      have hMV : 2147483647 < M := by rw [HM.out]; exact HVd.out
      go_wp2_with fail
      all_goals
        refine (known_any _).mono ?_
        rintro _ w' ⟨rfl, rfl⟩
        go_wp2_with fail
        go_ret
        exact ⟨ret_bool (by first | rfl | (simp; done) | (simp; omega)), Below.refl _ _⟩

set_option maxRecDepth 100000 in
set_option maxHeartbeats 1000000 in
theorem upHi1 (v a b x : Int) (d : Nat) (w : World) (A : Hid (BI v a x 0)) (B : Hid (QI x b (2147483647) 2 0)) (h1 : -2147483648 ≤ v) (h2 : v ≤ 2147483647) (a1 : -64 ≤ a) (a2 : a ≤ 64) (b1 : -64 ≤ b) (b2 : b ≤ 64) (hd : b - a = (d : Int)) (hv : 0 < v) (HVd : Hid (2147483647 < v * 2 ^ d)) (hfar : 32 < b - a) : Calls Try.prog 5 #[.int .i32 v, .int .i64 a, .int .i64 b] w fun e w' => e = .returned (.bool true) ∧ Below w.heap.size w w' := by
  have HP := Lib.hid (pow_step v)
  have hab : a ≤ b := by omega
  have eF : (v * 4294967296 == 2147483647) = false := by simpa using (by omega : ¬ v * 4294967296 = 2147483647)
  go_enter Try.func5, Try.ntmps5
  go_wp2_with fail
  refine (A.out _).mono ?_
  rintro _ w' ⟨rfl, rfl⟩
  go_wp2_with fail
  refine (B.out _).mono ?_
  rintro _ w' ⟨rfl, rfl⟩
  go_wp2_with fail
  go_loop [12, 13] (fun s t => ∃ (j : Nat) (M : Int), j ≤ d ∧ s = .int .i64 M ∧ t = .int .i64 (a + (j : Int)) ∧ Hid (M = v * 2 ^ j) ∧ 1 ≤ M ∧ M ≤ 1099511627776) (fun _ t => (b - intOf t).toNat)
  case atStart => exact ⟨0, v, Nat.zero_le _, rfl, by go_num, Lib.hid (by simp), by omega, by omega⟩
  case round =>
    obtain ⟨j, M, hj, rfl, rfl, HM, m1, m2⟩ := hrel
    by_cases hlt : j < d
    · have hi : a + (j : Int) < b := by omega
      by_cases hbr : 1099511627776 < M * 2
      · have hM : 2147483647 < M * 2 := by omega
        have q0 : 1099511627776 < M * 2 := by omega
        go_wp2_with fail
        all_goals
          refine (known_any _).mono ?_
          rintro _ w' ⟨rfl, rfl⟩
          go_wp2_with fail
          go_ret
          exact ⟨ret_bool (by first | rfl | (simp; done) | (simp; omega)), Below.refl _ _⟩
      · have q0 : M * 2 ≤ 1099511627776 ∧ -1099511627776 ≤ M * 2 := by omega
        obtain ⟨q1, q2⟩ := q0
        go_wp2_with fail
        go_round
        case rel => exact ⟨j + 1, M * 2, by omega, rfl, by go_num, Lib.hid (by rw [HP.out, HM.out]), by omega, by omega⟩
        case measure => simp [intOf]; omega
    · obtain rfl : j = d := by omega
      have hi : ¬ a + (j : Int) < b := by omega
      have hMV : 2147483647 < M := by rw [HM.out]; exact HVd.out
      go_wp2_with fail
      all_goals
        refine (known_any _).mono ?_
        rintro _ w' ⟨rfl, rfl⟩
        go_wp2_with fail
        go_ret
        exact ⟨ret_bool (by first | rfl | (simp; done) | (simp; omega)), Below.refl _ _⟩

set_option maxRecDepth 100000 in
set_option maxHeartbeats 1000000 in
theorem upLo0 (v a b x : Int) (d : Nat) (w : World) (A : Hid (BI v a x 0)) (B : Hid (QI x b (-2147483648) 2 0)) (h1 : -2147483648 ≤ v) (h2 : v ≤ 2147483647) (a1 : -64 ≤ a) (a2 : a ≤ 64) (b1 : -64 ≤ b) (b2 : b ≤ 64) (hd : b - a = (d : Int)) (hv : v < 0) (HVd : Hid (v * 2 ^ d < -2147483648)) (hd32 : d ≤ 32) (S : Int) (e5 : wrap64 (v * 2 ^ d) = S) (eS0 : S ≠ -2147483648) : Calls Try.prog 5 #[.int .i32 v, .int .i64 a, .int .i64 b] w fun e w' => e = .returned (.bool true) ∧ Below w.heap.size w w' := by
  have HP := Lib.hid (pow_step v)
  have hab : a ≤ b := by omega
  have eS : (S == -2147483648) = false := by simpa using eS0
  have eS1 : (S != -2147483648) = true := by simpa using eS0
  have eS2 : ¬ S = -2147483648 := eS0
  go_enter Try.func5, Try.ntmps5
  go_wp2_with fail
  refine (A.out _).mono ?_
  rintro _ w' ⟨rfl, rfl⟩
  go_wp2_with fail
  refine (B.out _).mono ?_
  rintro _ w' ⟨rfl, rfl⟩
  go_wp2_with fail
  go_loop [12, 13] (fun s t => ∃ (j : Nat) (M : Int), j ≤ d ∧ s = .int .i64 M ∧ t = .int .i64 (a + (j : Int)) ∧ Hid (M = v * 2 ^ j) ∧ -1099511627776 ≤ M ∧ M ≤ -1) (fun _ t => (b - intOf t).toNat)
  case atStart => exact ⟨0, v, Nat.zero_le _, rfl, by go_num, Lib.hid (by simp), by omega, by omega⟩
  case round =>
    obtain ⟨j, M, hj, rfl, rfl, HM, m1, m2⟩ := hrel
    by_cases hlt : j < d
    · have hi : a + (j : Int) < b := by omega
      by_cases hbr : M * 2 < -1099511627776
      · have hM : M * 2 < -2147483648 := by omega
        have q0 : ¬ 1099511627776 < M * 2 := by omega
        go_wp2_with fail
        all_goals
          refine (known_any _).mono ?_
          rintro _ w' ⟨rfl, rfl⟩
          go_wp2_with fail
          go_ret
          exact ⟨ret_bool (by first | rfl | (simp; done) | (simp; omega)), Below.refl _ _⟩
      · have q0 : M * 2 ≤ 1099511627776 ∧ -1099511627776 ≤ M * 2 := by omega
        obtain ⟨q1, q2⟩ := q0
        go_wp2_with fail
        go_round
        case rel => exact ⟨j + 1, M * 2, by omega, rfl, by go_num, Lib.hid (by rw [HP.out, HM.out]), by omega, by omega⟩
        case measure => simp [intOf]; omega
    · obtain rfl : j = d := by omega
      have hi : ¬ a + (j : Int) < b := by omega
      have hMV : M < -2147483648 := by rw [HM.out]; exact HVd.out
      go_wp2_with fail
      all_goals
        refine (known_any _).mono ?_
        rintro _ w' ⟨rfl, rfl⟩
        go_wp2_with fail
        go_ret
        exact ⟨ret_bool (by first | rfl | (simp; done) | (simp; omega)), Below.refl _ _⟩

set_option maxRecDepth 100000 in
set_option maxHeartbeats 1000000 in
theorem upLo1 (v a b x : Int) (d : Nat) (w : World) (A : Hid (BI v a x 0)) (B : Hid (QI x b (-2147483648) 2 0)) (h1 : -2147483648 ≤ v) (h2 : v ≤ 2147483647) (a1 : -64 ≤ a) (a2 : a ≤ 64) (b1 : -64 ≤ b) (b2 : b ≤ 64) (hd : b - a = (d : Int)) (hv : v < 0) (HVd : Hid (v * 2 ^ d < -2147483648)) (hfar : 32 < b - a) : Calls Try.prog 5 #[.int .i32 v, .int .i64 a, .int .i64 b] w fun e w' => e = .returned (.bool true) ∧ Below w.heap.size w w' := by
  have HP := Lib.hid (pow_step v)
  have hab : a ≤ b := by omega
  have eF : (v * 4294967296 == -2147483648) = false := by simpa using (by omega : ¬ v * 4294967296 = -2147483648)
  go_enter Try.func5, Try.ntmps5
  go_wp2_with fail
  refine (A.out _).mono ?_
  rintro _ w' ⟨rfl, rfl⟩
  go_wp2_with fail
  refine (B.out _).mono ?_
  rintro _ w' ⟨rfl, rfl⟩
  go_wp2_with fail
  go_loop [12, 13] (fun s t => ∃ (j : Nat) (M : Int), j ≤ d ∧ s = .int .i64 M ∧ t = .int .i64 (a + (j : Int)) ∧ Hid (M = v * 2 ^ j) ∧ -1099511627776 ≤ M ∧ M ≤ -1) (fun _ t => (b - intOf t).toNat)
  case atStart => exact ⟨0, v, Nat.zero_le _, rfl, by go_num, Lib.hid (by simp), by omega, by omega⟩
  case round =>
    obtain ⟨j, M, hj, rfl, rfl, HM, m1, m2⟩ := hrel
    by_cases hlt : j < d
    · have hi : a + (j : Int) < b := by omega
      by_cases hbr : M * 2 < -1099511627776
      · have hM : M * 2 < -2147483648 := by omega
        have q0 : ¬ 1099511627776 < M * 2 := by omega
        go_wp2_with fail
        all_goals
          refine (known_any _).mono ?_
          rintro _ w' ⟨rfl, rfl⟩
          go_wp2_with fail
          go_ret
          exact ⟨ret_bool (by first | rfl | (simp; done) | (simp; omega)), Below.refl _ _⟩
      · have q0 : M * 2 ≤ 1099511627776 ∧ -1099511627776 ≤ M * 2 := by omega
        obtain ⟨q1, q2⟩ := q0
        go_wp2_with fail
        go_round
        case rel => exact ⟨j + 1, M * 2, by omega, rfl, by go_num, Lib.hid (by rw [HP.out, HM.out]), by omega, by omega⟩
        case measure => simp [intOf]; omega
    · obtain rfl : j = d := by omega
      have hi : ¬ a + (j : Int) < b := by omega
      have hMV : M < -2147483648 := by rw [HM.out]; exact HVd.out
      go_wp2_with fail
      all_goals
        refine (known_any _).mono ?_
        rintro _ w' ⟨rfl, rfl⟩
        go_wp2_with fail
        go_ret
        exact ⟨ret_bool (by first | rfl | (simp; done) | (simp; omega)), Below.refl _ _⟩
end Go.Proofs.Ytkohgkbeecadeaa.quantSteps
