/- QuantSteps: a whole number at one scale, told at another that has fewer bits, is that number divided by as many twos, to the nearest, half to even; at one that has more it is multiplied, or clipped: for every input. -/
import Derived.Test.YtkohgkbeecadeaaQuC2
namespace Go.Proofs.Ytkohgkbeecadeaa.quantSteps
open Go.ChangeShapes Go.WideShapes Go.ChangeAt Go.RowKit Go.Joins
set_option linter.unusedVariables false

theorem i32_wf {x : Int} (h : (Lit.int .i32 x).wf = true) : -2147483648 ≤ x ∧ x ≤ 2147483647 := by
  simpa [Lit.wf, IntKind.min, IntKind.max, IntKind.signed, IntKind.bits] using h
def BI (v k x e : Int) : Prop := ∀ w, Calls Try.prog 14 #[.int .i32 v, .int .i64 k] w fun e' w' => e' = .returned (.tuple #[.int .u64 x, .int .i64 e]) ∧ w' = w
def QI (x k v m e : Int) : Prop := ∀ w, Calls Try.prog 9 #[.int .u64 x, .int .i64 k] w fun e' w' => e' = .returned (.tuple #[.int .i32 v, .int .i64 m, .int .i64 e]) ∧ w' = w

set_option maxRecDepth 100000 in
set_option maxHeartbeats 1000000 in
theorem ref1 (v a b x v' m e2 : Int) (w : World) (A : Hid (BI v a x 2)) (B : Hid (QI x b v' m e2)) (he : e2 = 0 ∨ e2 = 2) : Calls Try.prog 5 #[.int .i32 v, .int .i64 a, .int .i64 b] w fun e w' => e = .returned (.bool true) ∧ Below w.heap.size w w' := by
  rcases he with rfl | rfl
  all_goals
    go_enter Try.func5, Try.ntmps5
    go_wp2_with fail
    refine (A.out _).mono ?_
    rintro _ w' ⟨rfl, rfl⟩
    go_wp2_with fail
    refine (B.out _).mono ?_
    rintro _ w' ⟨rfl, rfl⟩
    go_wp2_with fail
    refine (known_any _).mono ?_
    rintro _ w' ⟨rfl, rfl⟩
    go_wp2_with fail
    go_ret
    exact ⟨ret_bool (by first | rfl | (simp; done) | (simp; omega)), Below.refl _ _⟩
    

set_option maxRecDepth 100000 in
set_option maxHeartbeats 1000000 in
theorem ref2 (v a b x v' m : Int) (w : World) (A : Hid (BI v a x 0)) (B : Hid (QI x b v' m 2)) : Calls Try.prog 5 #[.int .i32 v, .int .i64 a, .int .i64 b] w fun e w' => e = .returned (.bool true) ∧ Below w.heap.size w w' := by
  go_enter Try.func5, Try.ntmps5
  go_wp2_with fail
  refine (A.out _).mono ?_
  rintro _ w' ⟨rfl, rfl⟩
  go_wp2_with fail
  refine (B.out _).mono ?_
  rintro _ w' ⟨rfl, rfl⟩
  go_wp2_with fail
  refine (known_any _).mono ?_
  rintro _ w' ⟨rfl, rfl⟩
  go_wp2_with fail
  go_ret
  exact ⟨ret_bool (by first | rfl | (simp; done) | (simp; omega)), Below.refl _ _⟩

set_option maxRecDepth 100000 in
set_option maxHeartbeats 1000000 in
theorem dn0P0 (v a b x q r : Int) (w : World) (A : Hid (BI v a x 0)) (B : Hid (QI x b q 0 0)) (h1 : -2147483648 ≤ v) (h2 : v ≤ 2147483647) (a1 : -64 ≤ a) (a2 : a ≤ 64) (b1 : -64 ≤ b) (b2 : b ≤ 64) (d : Nat) (hd : a - b = (d : Int)) (d0 : 0 < d) (d1 : d ≤ 40) (D : Int) (e1 : wrap64 ((2 : Int) ^ d) = D) (D1 : 1 ≤ D) (D2 : D ≤ 1099511627776) (e2 : v / D = q) (e3 : v % D = r) (v0 : 0 ≤ v) (q0 : 0 ≤ q) (q1 : q ≤ 2147483648) (r0 : 0 ≤ r) (r1 : r < D) (c : r = 0) (c1 : 2 * r < D) (k1 : bits .and .i64 1 1 = 1) (k2 : bits .and .i64 1 4 = 0) (k3 : bits .and .i64 0 1 = 0) (k4 : bits .and .i64 0 4 = 0) (k5 : bits .and .i64 5 1 = 1) (k6 : bits .and .i64 5 4 = 4) : Calls Try.prog 5 #[.int .i32 v, .int .i64 a, .int .i64 b] w fun e w' => e = .returned (.bool true) ∧ Below w.heap.size w w' := by
  have hba : b < a := by omega
  subst c
  go_enter Try.func5, Try.ntmps5
  go_wp2_with fail
  refine (A.out _).mono ?_
  rintro _ w' ⟨rfl, rfl⟩
  go_wp2_with fail
  refine (B.out _).mono ?_
  rintro _ w' ⟨rfl, rfl⟩
  go_wp2_with fail
  refine wp_loop_once ?_
  go_wp2_with fail
  all_goals
    refine (known_any _).mono ?_
    rintro _ w' ⟨rfl, rfl⟩
    go_wp2_with fail
    go_ret
    exact ⟨ret_bool (by first | rfl | (simp; done) | (simp; omega)), Below.refl _ _⟩

set_option maxRecDepth 100000 in
set_option maxHeartbeats 1000000 in
theorem dn0P1 (v a b x q r : Int) (w : World) (A : Hid (BI v a x 0)) (B : Hid (QI x b q 1 0)) (h1 : -2147483648 ≤ v) (h2 : v ≤ 2147483647) (a1 : -64 ≤ a) (a2 : a ≤ 64) (b1 : -64 ≤ b) (b2 : b ≤ 64) (d : Nat) (hd : a - b = (d : Int)) (d0 : 0 < d) (d1 : d ≤ 40) (D : Int) (e1 : wrap64 ((2 : Int) ^ d) = D) (D1 : 1 ≤ D) (D2 : D ≤ 1099511627776) (e2 : v / D = q) (e3 : v % D = r) (v0 : 0 ≤ v) (q0 : 0 ≤ q) (q1 : q ≤ 2147483648) (r0 : 0 ≤ r) (r1 : r < D) (c : 0 < r) (c1 : 2 * r < D) (k1 : bits .and .i64 1 1 = 1) (k2 : bits .and .i64 1 4 = 0) (k3 : bits .and .i64 0 1 = 0) (k4 : bits .and .i64 0 4 = 0) (k5 : bits .and .i64 5 1 = 1) (k6 : bits .and .i64 5 4 = 4) : Calls Try.prog 5 #[.int .i32 v, .int .i64 a, .int .i64 b] w fun e w' => e = .returned (.bool true) ∧ Below w.heap.size w w' := by
  have hba : b < a := by omega
  have cz : (r == 0) = false := by simpa using (by omega : ¬ r = 0)
  go_enter Try.func5, Try.ntmps5
  go_wp2_with fail
  refine (A.out _).mono ?_
  rintro _ w' ⟨rfl, rfl⟩
  go_wp2_with fail
  refine (B.out _).mono ?_
  rintro _ w' ⟨rfl, rfl⟩
  go_wp2_with fail
  refine wp_loop_once ?_
  go_wp2_with fail
  all_goals
    refine (known_any _).mono ?_
    rintro _ w' ⟨rfl, rfl⟩
    go_wp2_with fail
    go_ret
    exact ⟨ret_bool (by first | rfl | (simp; done) | (simp; omega)), Below.refl _ _⟩

set_option maxRecDepth 100000 in
set_option maxHeartbeats 1000000 in
theorem dn0P2 (v a b x q r : Int) (w : World) (A : Hid (BI v a x 0)) (B : Hid (QI x b q 1 0)) (h1 : -2147483648 ≤ v) (h2 : v ≤ 2147483647) (a1 : -64 ≤ a) (a2 : a ≤ 64) (b1 : -64 ≤ b) (b2 : b ≤ 64) (d : Nat) (hd : a - b = (d : Int)) (d0 : 0 < d) (d1 : d ≤ 40) (D : Int) (e1 : wrap64 ((2 : Int) ^ d) = D) (D1 : 1 ≤ D) (D2 : D ≤ 1099511627776) (e2 : v / D = q) (e3 : v % D = r) (v0 : 0 ≤ v) (q0 : 0 ≤ q) (q1 : q ≤ 2147483648) (r0 : 0 ≤ r) (r1 : r < D) (c : 0 < r) (c1 : 2 * r = D) (c2 : q % 2 = 0) (k1 : bits .and .i64 1 1 = 1) (k2 : bits .and .i64 1 4 = 0) (k3 : bits .and .i64 0 1 = 0) (k4 : bits .and .i64 0 4 = 0) (k5 : bits .and .i64 5 1 = 1) (k6 : bits .and .i64 5 4 = 4) : Calls Try.prog 5 #[.int .i32 v, .int .i64 a, .int .i64 b] w fun e w' => e = .returned (.bool true) ∧ Below w.heap.size w w' := by
  have hba : b < a := by omega
  have cz : (r == 0) = false := by simpa using (by omega : ¬ r = 0)
  go_enter Try.func5, Try.ntmps5
  go_wp2_with fail
  refine (A.out _).mono ?_
  rintro _ w' ⟨rfl, rfl⟩
  go_wp2_with fail
  refine (B.out _).mono ?_
  rintro _ w' ⟨rfl, rfl⟩
  go_wp2_with fail
  refine wp_loop_once ?_
  go_wp2_with fail
  all_goals
    refine (known_any _).mono ?_
    rintro _ w' ⟨rfl, rfl⟩
    go_wp2_with fail
    go_ret
    exact ⟨ret_bool (by first | rfl | (simp; done) | (simp; omega)), Below.refl _ _⟩

set_option maxRecDepth 100000 in
set_option maxHeartbeats 1000000 in
theorem dn0P3 (v a b x q r : Int) (w : World) (A : Hid (BI v a x 0)) (B : Hid (QI x b (q + 1) 1 0)) (h1 : -2147483648 ≤ v) (h2 : v ≤ 2147483647) (a1 : -64 ≤ a) (a2 : a ≤ 64) (b1 : -64 ≤ b) (b2 : b ≤ 64) (d : Nat) (hd : a - b = (d : Int)) (d0 : 0 < d) (d1 : d ≤ 40) (D : Int) (e1 : wrap64 ((2 : Int) ^ d) = D) (D1 : 1 ≤ D) (D2 : D ≤ 1099511627776) (e2 : v / D = q) (e3 : v % D = r) (v0 : 0 ≤ v) (q0 : 0 ≤ q) (q1 : q ≤ 2147483648) (r0 : 0 ≤ r) (r1 : r < D) (c : 0 < r) (c1 : 2 * r = D) (c2 : q % 2 = 1) (k1 : bits .and .i64 1 1 = 1) (k2 : bits .and .i64 1 4 = 0) (k3 : bits .and .i64 0 1 = 0) (k4 : bits .and .i64 0 4 = 0) (k5 : bits .and .i64 5 1 = 1) (k6 : bits .and .i64 5 4 = 4) : Calls Try.prog 5 #[.int .i32 v, .int .i64 a, .int .i64 b] w fun e w' => e = .returned (.bool true) ∧ Below w.heap.size w w' := by
  have hba : b < a := by omega
  have cz : (r == 0) = false := by simpa using (by omega : ¬ r = 0)
  go_enter Try.func5, Try.ntmps5
  go_wp2_with fail
  refine (A.out _).mono ?_
  rintro _ w' ⟨rfl, rfl⟩
  go_wp2_with fail
  refine (B.out _).mono ?_
  rintro _ w' ⟨rfl, rfl⟩
  go_wp2_with fail
  refine wp_loop_once ?_
  go_wp2_with fail
  all_goals
    refine (known_any _).mono ?_
    rintro _ w' ⟨rfl, rfl⟩
    go_wp2_with fail
    go_ret
    exact ⟨ret_bool (by first | rfl | (simp; done) | (simp; omega)), Below.refl _ _⟩

set_option maxRecDepth 100000 in
set_option maxHeartbeats 1000000 in
theorem dn0P4 (v a b x q r : Int) (w : World) (A : Hid (BI v a x 0)) (B : Hid (QI x b (q + 1) 1 0)) (h1 : -2147483648 ≤ v) (h2 : v ≤ 2147483647) (a1 : -64 ≤ a) (a2 : a ≤ 64) (b1 : -64 ≤ b) (b2 : b ≤ 64) (d : Nat) (hd : a - b = (d : Int)) (d0 : 0 < d) (d1 : d ≤ 40) (D : Int) (e1 : wrap64 ((2 : Int) ^ d) = D) (D1 : 1 ≤ D) (D2 : D ≤ 1099511627776) (e2 : v / D = q) (e3 : v % D = r) (v0 : 0 ≤ v) (q0 : 0 ≤ q) (q1 : q ≤ 2147483648) (r0 : 0 ≤ r) (r1 : r < D) (c : 0 < r) (c1 : D < 2 * r) (k1 : bits .and .i64 1 1 = 1) (k2 : bits .and .i64 1 4 = 0) (k3 : bits .and .i64 0 1 = 0) (k4 : bits .and .i64 0 4 = 0) (k5 : bits .and .i64 5 1 = 1) (k6 : bits .and .i64 5 4 = 4) : Calls Try.prog 5 #[.int .i32 v, .int .i64 a, .int .i64 b] w fun e w' => e = .returned (.bool true) ∧ Below w.heap.size w w' := by
  have hba : b < a := by omega
  have cz : (r == 0) = false := by simpa using (by omega : ¬ r = 0)
  go_enter Try.func5, Try.ntmps5
  go_wp2_with fail
  refine (A.out _).mono ?_
  rintro _ w' ⟨rfl, rfl⟩
  go_wp2_with fail
  refine (B.out _).mono ?_
  rintro _ w' ⟨rfl, rfl⟩
  go_wp2_with fail
  refine wp_loop_once ?_
  go_wp2_with fail
  all_goals
    refine (known_any _).mono ?_
    rintro _ w' ⟨rfl, rfl⟩
    go_wp2_with fail
    go_ret
    exact ⟨ret_bool (by first | rfl | (simp; done) | (simp; omega)), Below.refl _ _⟩

set_option maxRecDepth 100000 in
set_option maxHeartbeats 1000000 in
theorem dn0N0 (v a b x q r : Int) (w : World) (A : Hid (BI v a x 0)) (B : Hid (QI x b q 0 0)) (h1 : -2147483648 ≤ v) (h2 : v ≤ 2147483647) (a1 : -64 ≤ a) (a2 : a ≤ 64) (b1 : -64 ≤ b) (b2 : b ≤ 64) (d : Nat) (hd : a - b = (d : Int)) (d0 : 0 < d) (d1 : d ≤ 40) (D : Int) (e1 : wrap64 ((2 : Int) ^ d) = D) (D1 : 1 ≤ D) (D2 : D ≤ 1099511627776) (e2 : v.tdiv D = q) (e3 : v.tmod D = r) (v0 : v < 0) (q0 : q ≤ 0) (q1 : -2147483648 ≤ q) (r0 : r ≤ 0) (r1 : -D < r) (c : r = 0) (c1 : q < 0) (k1 : bits .and .i64 1 1 = 1) (k2 : bits .and .i64 1 4 = 0) (k3 : bits .and .i64 0 1 = 0) (k4 : bits .and .i64 0 4 = 0) (k5 : bits .and .i64 5 1 = 1) (k6 : bits .and .i64 5 4 = 4) : Calls Try.prog 5 #[.int .i32 v, .int .i64 a, .int .i64 b] w fun e w' => e = .returned (.bool true) ∧ Below w.heap.size w w' := by
  subst c
  have hba : b < a := by omega
  have cz : (q == 0) = false := by simpa using (by omega : ¬ q = 0)
  go_enter Try.func5, Try.ntmps5
  go_wp2_with fail
  refine (A.out _).mono ?_
  rintro _ w' ⟨rfl, rfl⟩
  go_wp2_with fail
  refine (B.out _).mono ?_
  rintro _ w' ⟨rfl, rfl⟩
  go_wp2_with fail
  refine wp_loop_once ?_
  go_wp2_with fail
  all_goals
    refine (known_any _).mono ?_
    rintro _ w' ⟨rfl, rfl⟩
    go_wp2_with fail
    go_ret
    exact ⟨ret_bool (by first | rfl | (simp; done) | (simp; omega)), Below.refl _ _⟩

set_option maxRecDepth 100000 in
set_option maxHeartbeats 1000000 in
theorem dn0N1 (v a b x q r : Int) (w : World) (A : Hid (BI v a x 0)) (B : Hid (QI x b (q - 1) 1 0)) (h1 : -2147483648 ≤ v) (h2 : v ≤ 2147483647) (a1 : -64 ≤ a) (a2 : a ≤ 64) (b1 : -64 ≤ b) (b2 : b ≤ 64) (d : Nat) (hd : a - b = (d : Int)) (d0 : 0 < d) (d1 : d ≤ 40) (D : Int) (e1 : wrap64 ((2 : Int) ^ d) = D) (D1 : 1 ≤ D) (D2 : D ≤ 1099511627776) (e2 : v.tdiv D = q) (e3 : v.tmod D = r) (v0 : v < 0) (q0 : q ≤ 0) (q1 : -2147483648 ≤ q) (r0 : r ≤ 0) (r1 : -D < r) (c : r < 0) (c1 : 2 * (r + D) < D) (cz : q - 1 ≠ 0) (k1 : bits .and .i64 1 1 = 1) (k2 : bits .and .i64 1 4 = 0) (k3 : bits .and .i64 0 1 = 0) (k4 : bits .and .i64 0 4 = 0) (k5 : bits .and .i64 5 1 = 1) (k6 : bits .and .i64 5 4 = 4) : Calls Try.prog 5 #[.int .i32 v, .int .i64 a, .int .i64 b] w fun e w' => e = .returned (.bool true) ∧ Below w.heap.size w w' := by
  have hba : b < a := by omega
  have rz : (r + D == 0) = false := by simpa using (by omega : ¬ r + D = 0)
  have zz : ((q - 1) == 0) = false := by simpa using cz
  go_enter Try.func5, Try.ntmps5
  go_wp2_with fail
  refine (A.out _).mono ?_
  rintro _ w' ⟨rfl, rfl⟩
  go_wp2_with fail
  refine (B.out _).mono ?_
  rintro _ w' ⟨rfl, rfl⟩
  go_wp2_with fail
  refine wp_loop_once ?_
  go_wp2_with fail
  all_goals
    refine (known_any _).mono ?_
    rintro _ w' ⟨rfl, rfl⟩
    go_wp2_with fail
    go_ret
    exact ⟨ret_bool (by first | rfl | (simp; done) | (simp; omega)), Below.refl _ _⟩

set_option maxRecDepth 100000 in
set_option maxHeartbeats 1000000 in
theorem dn0N2 (v a b x q r : Int) (w : World) (A : Hid (BI v a x 0)) (B : Hid (QI x b (q - 1) 1 0)) (h1 : -2147483648 ≤ v) (h2 : v ≤ 2147483647) (a1 : -64 ≤ a) (a2 : a ≤ 64) (b1 : -64 ≤ b) (b2 : b ≤ 64) (d : Nat) (hd : a - b = (d : Int)) (d0 : 0 < d) (d1 : d ≤ 40) (D : Int) (e1 : wrap64 ((2 : Int) ^ d) = D) (D1 : 1 ≤ D) (D2 : D ≤ 1099511627776) (e2 : v.tdiv D = q) (e3 : v.tmod D = r) (v0 : v < 0) (q0 : q ≤ 0) (q1 : -2147483648 ≤ q) (r0 : r ≤ 0) (r1 : -D < r) (c : r < 0) (c1 : 2 * (r + D) = D) (c2 : (q - 1).tmod 2 = 0) (cz : q - 1 ≠ 0) (k1 : bits .and .i64 1 1 = 1) (k2 : bits .and .i64 1 4 = 0) (k3 : bits .and .i64 0 1 = 0) (k4 : bits .and .i64 0 4 = 0) (k5 : bits .and .i64 5 1 = 1) (k6 : bits .and .i64 5 4 = 4) : Calls Try.prog 5 #[.int .i32 v, .int .i64 a, .int .i64 b] w fun e w' => e = .returned (.bool true) ∧ Below w.heap.size w w' := by
  have hba : b < a := by omega
  have rz : (r + D == 0) = false := by simpa using (by omega : ¬ r + D = 0)
  have zz : ((q - 1) == 0) = false := by simpa using cz
  go_enter Try.func5, Try.ntmps5
  go_wp2_with fail
  refine (A.out _).mono ?_
  rintro _ w' ⟨rfl, rfl⟩
  go_wp2_with fail
  refine (B.out _).mono ?_
  rintro _ w' ⟨rfl, rfl⟩
  go_wp2_with fail
  refine wp_loop_once ?_
  go_wp2_with fail
  all_goals
    refine (known_any _).mono ?_
    rintro _ w' ⟨rfl, rfl⟩
    go_wp2_with fail
    go_ret
    exact ⟨ret_bool (by first | rfl | (simp; done) | (simp; omega)), Below.refl _ _⟩

set_option maxRecDepth 100000 in
set_option maxHeartbeats 1000000 in
theorem dn0N3 (v a b x q r : Int) (w : World) (A : Hid (BI v a x 0)) (B : Hid (QI x b (q - 1 + 1) 1 0)) (h1 : -2147483648 ≤ v) (h2 : v ≤ 2147483647) (a1 : -64 ≤ a) (a2 : a ≤ 64) (b1 : -64 ≤ b) (b2 : b ≤ 64) (d : Nat) (hd : a - b = (d : Int)) (d0 : 0 < d) (d1 : d ≤ 40) (D : Int) (e1 : wrap64 ((2 : Int) ^ d) = D) (D1 : 1 ≤ D) (D2 : D ≤ 1099511627776) (e2 : v.tdiv D = q) (e3 : v.tmod D = r) (v0 : v < 0) (q0 : q ≤ 0) (q1 : -2147483648 ≤ q) (r0 : r ≤ 0) (r1 : -D < r) (c : r < 0) (c1 : 2 * (r + D) = D) (c2 : (q - 1).tmod 2 = -1) (cz : q - 1 + 1 ≠ 0) (k1 : bits .and .i64 1 1 = 1) (k2 : bits .and .i64 1 4 = 0) (k3 : bits .and .i64 0 1 = 0) (k4 : bits .and .i64 0 4 = 0) (k5 : bits .and .i64 5 1 = 1) (k6 : bits .and .i64 5 4 = 4) : Calls Try.prog 5 #[.int .i32 v, .int .i64 a, .int .i64 b] w fun e w' => e = .returned (.bool true) ∧ Below w.heap.size w w' := by
  have hba : b < a := by omega
  have rz : (r + D == 0) = false := by simpa using (by omega : ¬ r + D = 0)
  have zz : ((q - 1 + 1) == 0) = false := by simpa using cz
  go_enter Try.func5, Try.ntmps5
  go_wp2_with fail
  refine (A.out _).mono ?_
  rintro _ w' ⟨rfl, rfl⟩
  go_wp2_with fail
  refine (B.out _).mono ?_
  rintro _ w' ⟨rfl, rfl⟩
  go_wp2_with fail
  refine wp_loop_once ?_
  go_wp2_with fail
  all_goals
    refine (known_any _).mono ?_
    rintro _ w' ⟨rfl, rfl⟩
    go_wp2_with fail
    go_ret
    exact ⟨ret_bool (by first | rfl | (simp; done) | (simp; omega)), Below.refl _ _⟩

set_option maxRecDepth 100000 in
set_option maxHeartbeats 1000000 in
theorem dn0N3z (v a b x q r : Int) (w : World) (A : Hid (BI v a x 0)) (B : Hid (QI x b (q - 1 + 1) 5 0)) (h1 : -2147483648 ≤ v) (h2 : v ≤ 2147483647) (a1 : -64 ≤ a) (a2 : a ≤ 64) (b1 : -64 ≤ b) (b2 : b ≤ 64) (d : Nat) (hd : a - b = (d : Int)) (d0 : 0 < d) (d1 : d ≤ 40) (D : Int) (e1 : wrap64 ((2 : Int) ^ d) = D) (D1 : 1 ≤ D) (D2 : D ≤ 1099511627776) (e2 : v.tdiv D = q) (e3 : v.tmod D = r) (v0 : v < 0) (q0 : q ≤ 0) (q1 : -2147483648 ≤ q) (r0 : r ≤ 0) (r1 : -D < r) (c : r < 0) (c1 : 2 * (r + D) = D) (c2 : (q - 1).tmod 2 = -1) (cz : q = 0) (k1 : bits .and .i64 1 1 = 1) (k2 : bits .and .i64 1 4 = 0) (k3 : bits .and .i64 0 1 = 0) (k4 : bits .and .i64 0 4 = 0) (k5 : bits .and .i64 5 1 = 1) (k6 : bits .and .i64 5 4 = 4) : Calls Try.prog 5 #[.int .i32 v, .int .i64 a, .int .i64 b] w fun e w' => e = .returned (.bool true) ∧ Below w.heap.size w w' := by
  have hba : b < a := by omega
  have rz : (r + D == 0) = false := by simpa using (by omega : ¬ r + D = 0)
  have qz : q = 0 := cz
  subst qz
  go_enter Try.func5, Try.ntmps5
  go_wp2_with fail
  refine (A.out _).mono ?_
  rintro _ w' ⟨rfl, rfl⟩
  go_wp2_with fail
  refine (B.out _).mono ?_
  rintro _ w' ⟨rfl, rfl⟩
  go_wp2_with fail
  refine wp_loop_once ?_
  go_wp2_with fail
  all_goals
    refine (known_any _).mono ?_
    rintro _ w' ⟨rfl, rfl⟩
    go_wp2_with fail
    go_ret
    exact ⟨ret_bool (by first | rfl | (simp; done) | (simp; omega)), Below.refl _ _⟩

set_option maxRecDepth 100000 in
set_option maxHeartbeats 1000000 in
theorem dn0N4 (v a b x q r : Int) (w : World) (A : Hid (BI v a x 0)) (B : Hid (QI x b (q - 1 + 1) 1 0)) (h1 : -2147483648 ≤ v) (h2 : v ≤ 2147483647) (a1 : -64 ≤ a) (a2 : a ≤ 64) (b1 : -64 ≤ b) (b2 : b ≤ 64) (d : Nat) (hd : a - b = (d : Int)) (d0 : 0 < d) (d1 : d ≤ 40) (D : Int) (e1 : wrap64 ((2 : Int) ^ d) = D) (D1 : 1 ≤ D) (D2 : D ≤ 1099511627776) (e2 : v.tdiv D = q) (e3 : v.tmod D = r) (v0 : v < 0) (q0 : q ≤ 0) (q1 : -2147483648 ≤ q) (r0 : r ≤ 0) (r1 : -D < r) (c : r < 0) (c1 : D < 2 * (r + D)) (cz : q - 1 + 1 ≠ 0) (k1 : bits .and .i64 1 1 = 1) (k2 : bits .and .i64 1 4 = 0) (k3 : bits .and .i64 0 1 = 0) (k4 : bits .and .i64 0 4 = 0) (k5 : bits .and .i64 5 1 = 1) (k6 : bits .and .i64 5 4 = 4) : Calls Try.prog 5 #[.int .i32 v, .int .i64 a, .int .i64 b] w fun e w' => e = .returned (.bool true) ∧ Below w.heap.size w w' := by
  have hba : b < a := by omega
  have rz : (r + D == 0) = false := by simpa using (by omega : ¬ r + D = 0)
  have zz : ((q - 1 + 1) == 0) = false := by simpa using cz
  go_enter Try.func5, Try.ntmps5
  go_wp2_with fail
  refine (A.out _).mono ?_
  rintro _ w' ⟨rfl, rfl⟩
  go_wp2_with fail
  refine (B.out _).mono ?_
  rintro _ w' ⟨rfl, rfl⟩
  go_wp2_with fail
  refine wp_loop_once ?_
  go_wp2_with fail
  all_goals
    refine (known_any _).mono ?_
    rintro _ w' ⟨rfl, rfl⟩
    go_wp2_with fail
    go_ret
    exact ⟨ret_bool (by first | rfl | (simp; done) | (simp; omega)), Below.refl _ _⟩

set_option maxRecDepth 100000 in
set_option maxHeartbeats 1000000 in
theorem dn0N4z (v a b x q r : Int) (w : World) (A : Hid (BI v a x 0)) (B : Hid (QI x b (q - 1 + 1) 5 0)) (h1 : -2147483648 ≤ v) (h2 : v ≤ 2147483647) (a1 : -64 ≤ a) (a2 : a ≤ 64) (b1 : -64 ≤ b) (b2 : b ≤ 64) (d : Nat) (hd : a - b = (d : Int)) (d0 : 0 < d) (d1 : d ≤ 40) (D : Int) (e1 : wrap64 ((2 : Int) ^ d) = D) (D1 : 1 ≤ D) (D2 : D ≤ 1099511627776) (e2 : v.tdiv D = q) (e3 : v.tmod D = r) (v0 : v < 0) (q0 : q ≤ 0) (q1 : -2147483648 ≤ q) (r0 : r ≤ 0) (r1 : -D < r) (c : r < 0) (c1 : D < 2 * (r + D)) (cz : q = 0) (k1 : bits .and .i64 1 1 = 1) (k2 : bits .and .i64 1 4 = 0) (k3 : bits .and .i64 0 1 = 0) (k4 : bits .and .i64 0 4 = 0) (k5 : bits .and .i64 5 1 = 1) (k6 : bits .and .i64 5 4 = 4) : Calls Try.prog 5 #[.int .i32 v, .int .i64 a, .int .i64 b] w fun e w' => e = .returned (.bool true) ∧ Below w.heap.size w w' := by
  have hba : b < a := by omega
  have rz : (r + D == 0) = false := by simpa using (by omega : ¬ r + D = 0)
  have qz : q = 0 := cz
  subst qz
  go_enter Try.func5, Try.ntmps5
  go_wp2_with fail
  refine (A.out _).mono ?_
  rintro _ w' ⟨rfl, rfl⟩
  go_wp2_with fail
  refine (B.out _).mono ?_
  rintro _ w' ⟨rfl, rfl⟩
  go_wp2_with fail
  refine wp_loop_once ?_
  go_wp2_with fail
  all_goals
    refine (known_any _).mono ?_
    rintro _ w' ⟨rfl, rfl⟩
    go_wp2_with fail
    go_ret
    exact ⟨ret_bool (by first | rfl | (simp; done) | (simp; omega)), Below.refl _ _⟩

set_option maxRecDepth 100000 in
set_option maxHeartbeats 1000000 in
theorem dn1P0 (v a b x q r : Int) (w : World) (A : Hid (BI v a x 0)) (B : Hid (QI x b q 0 0)) (h1 : -2147483648 ≤ v) (h2 : v ≤ 2147483647) (a1 : -64 ≤ a) (a2 : a ≤ 64) (b1 : -64 ≤ b) (b2 : b ≤ 64) (hlt : 40 < a - b) (e2 : v / 1099511627776 = q) (e3 : v % 1099511627776 = r) (v0 : 0 ≤ v) (q0 : 0 ≤ q) (q1 : q ≤ 2147483648) (r0 : 0 ≤ r) (r1 : r < 1099511627776) (c : r = 0) (c1 : 2 * r < 1099511627776) (k1 : bits .and .i64 1 1 = 1) (k2 : bits .and .i64 1 4 = 0) (k3 : bits .and .i64 0 1 = 0) (k4 : bits .and .i64 0 4 = 0) (k5 : bits .and .i64 5 1 = 1) (k6 : bits .and .i64 5 4 = 4) : Calls Try.prog 5 #[.int .i32 v, .int .i64 a, .int .i64 b] w fun e w' => e = .returned (.bool true) ∧ Below w.heap.size w w' := by
  have hba : b < a := by omega
  subst c
  go_enter Try.func5, Try.ntmps5
  go_wp2_with fail
  refine (A.out _).mono ?_
  rintro _ w' ⟨rfl, rfl⟩
  go_wp2_with fail
  refine (B.out _).mono ?_
  rintro _ w' ⟨rfl, rfl⟩
  go_wp2_with fail
  refine wp_loop_once ?_
  go_wp2_with fail
  all_goals
    refine (known_any _).mono ?_
    rintro _ w' ⟨rfl, rfl⟩
    go_wp2_with fail
    go_ret
    exact ⟨ret_bool (by first | rfl | (simp; done) | (simp; omega)), Below.refl _ _⟩

set_option maxRecDepth 100000 in
set_option maxHeartbeats 1000000 in
theorem dn1P1 (v a b x q r : Int) (w : World) (A : Hid (BI v a x 0)) (B : Hid (QI x b q 1 0)) (h1 : -2147483648 ≤ v) (h2 : v ≤ 2147483647) (a1 : -64 ≤ a) (a2 : a ≤ 64) (b1 : -64 ≤ b) (b2 : b ≤ 64) (hlt : 40 < a - b) (e2 : v / 1099511627776 = q) (e3 : v % 1099511627776 = r) (v0 : 0 ≤ v) (q0 : 0 ≤ q) (q1 : q ≤ 2147483648) (r0 : 0 ≤ r) (r1 : r < 1099511627776) (c : 0 < r) (c1 : 2 * r < 1099511627776) (k1 : bits .and .i64 1 1 = 1) (k2 : bits .and .i64 1 4 = 0) (k3 : bits .and .i64 0 1 = 0) (k4 : bits .and .i64 0 4 = 0) (k5 : bits .and .i64 5 1 = 1) (k6 : bits .and .i64 5 4 = 4) : Calls Try.prog 5 #[.int .i32 v, .int .i64 a, .int .i64 b] w fun e w' => e = .returned (.bool true) ∧ Below w.heap.size w w' := by
  have hba : b < a := by omega
  have cz : (r == 0) = false := by simpa using (by omega : ¬ r = 0)
  go_enter Try.func5, Try.ntmps5
  go_wp2_with fail
  refine (A.out _).mono ?_
  rintro _ w' ⟨rfl, rfl⟩
  go_wp2_with fail
  refine (B.out _).mono ?_
  rintro _ w' ⟨rfl, rfl⟩
  go_wp2_with fail
  refine wp_loop_once ?_
  go_wp2_with fail
  all_goals
    refine (known_any _).mono ?_
    rintro _ w' ⟨rfl, rfl⟩
    go_wp2_with fail
    go_ret
    exact ⟨ret_bool (by first | rfl | (simp; done) | (simp; omega)), Below.refl _ _⟩

set_option maxRecDepth 100000 in
set_option maxHeartbeats 1000000 in
theorem dn1P2 (v a b x q r : Int) (w : World) (A : Hid (BI v a x 0)) (B : Hid (QI x b q 1 0)) (h1 : -2147483648 ≤ v) (h2 : v ≤ 2147483647) (a1 : -64 ≤ a) (a2 : a ≤ 64) (b1 : -64 ≤ b) (b2 : b ≤ 64) (hlt : 40 < a - b) (e2 : v / 1099511627776 = q) (e3 : v % 1099511627776 = r) (v0 : 0 ≤ v) (q0 : 0 ≤ q) (q1 : q ≤ 2147483648) (r0 : 0 ≤ r) (r1 : r < 1099511627776) (c : 0 < r) (c1 : 2 * r = 1099511627776) (c2 : q % 2 = 0) (k1 : bits .and .i64 1 1 = 1) (k2 : bits .and .i64 1 4 = 0) (k3 : bits .and .i64 0 1 = 0) (k4 : bits .and .i64 0 4 = 0) (k5 : bits .and .i64 5 1 = 1) (k6 : bits .and .i64 5 4 = 4) : Calls Try.prog 5 #[.int .i32 v, .int .i64 a, .int .i64 b] w fun e w' => e = .returned (.bool true) ∧ Below w.heap.size w w' := by
  have hba : b < a := by omega
  have cz : (r == 0) = false := by simpa using (by omega : ¬ r = 0)
  go_enter Try.func5, Try.ntmps5
  go_wp2_with fail
  refine (A.out _).mono ?_
  rintro _ w' ⟨rfl, rfl⟩
  go_wp2_with fail
  refine (B.out _).mono ?_
  rintro _ w' ⟨rfl, rfl⟩
  go_wp2_with fail
  refine wp_loop_once ?_
  go_wp2_with fail
  all_goals
    refine (known_any _).mono ?_
    rintro _ w' ⟨rfl, rfl⟩
    go_wp2_with fail
    go_ret
    exact ⟨ret_bool (by first | rfl | (simp; done) | (simp; omega)), Below.refl _ _⟩

set_option maxRecDepth 100000 in
set_option maxHeartbeats 1000000 in
theorem dn1P3 (v a b x q r : Int) (w : World) (A : Hid (BI v a x 0)) (B : Hid (QI x b (q + 1) 1 0)) (h1 : -2147483648 ≤ v) (h2 : v ≤ 2147483647) (a1 : -64 ≤ a) (a2 : a ≤ 64) (b1 : -64 ≤ b) (b2 : b ≤ 64) (hlt : 40 < a - b) (e2 : v / 1099511627776 = q) (e3 : v % 1099511627776 = r) (v0 : 0 ≤ v) (q0 : 0 ≤ q) (q1 : q ≤ 2147483648) (r0 : 0 ≤ r) (r1 : r < 1099511627776) (c : 0 < r) (c1 : 2 * r = 1099511627776) (c2 : q % 2 = 1) (k1 : bits .and .i64 1 1 = 1) (k2 : bits .and .i64 1 4 = 0) (k3 : bits .and .i64 0 1 = 0) (k4 : bits .and .i64 0 4 = 0) (k5 : bits .and .i64 5 1 = 1) (k6 : bits .and .i64 5 4 = 4) : Calls Try.prog 5 #[.int .i32 v, .int .i64 a, .int .i64 b] w fun e w' => e = .returned (.bool true) ∧ Below w.heap.size w w' := by
  have hba : b < a := by omega
  have cz : (r == 0) = false := by simpa using (by omega : ¬ r = 0)
  go_enter Try.func5, Try.ntmps5
  go_wp2_with fail
  refine (A.out _).mono ?_
  rintro _ w' ⟨rfl, rfl⟩
  go_wp2_with fail
  refine (B.out _).mono ?_
  rintro _ w' ⟨rfl, rfl⟩
  go_wp2_with fail
  refine wp_loop_once ?_
  go_wp2_with fail
  all_goals
    refine (known_any _).mono ?_
    rintro _ w' ⟨rfl, rfl⟩
    go_wp2_with fail
    go_ret
    exact ⟨ret_bool (by first | rfl | (simp; done) | (simp; omega)), Below.refl _ _⟩

set_option maxRecDepth 100000 in
set_option maxHeartbeats 1000000 in
theorem dn1P4 (v a b x q r : Int) (w : World) (A : Hid (BI v a x 0)) (B : Hid (QI x b (q + 1) 1 0)) (h1 : -2147483648 ≤ v) (h2 : v ≤ 2147483647) (a1 : -64 ≤ a) (a2 : a ≤ 64) (b1 : -64 ≤ b) (b2 : b ≤ 64) (hlt : 40 < a - b) (e2 : v / 1099511627776 = q) (e3 : v % 1099511627776 = r) (v0 : 0 ≤ v) (q0 : 0 ≤ q) (q1 : q ≤ 2147483648) (r0 : 0 ≤ r) (r1 : r < 1099511627776) (c : 0 < r) (c1 : 1099511627776 < 2 * r) (k1 : bits .and .i64 1 1 = 1) (k2 : bits .and .i64 1 4 = 0) (k3 : bits .and .i64 0 1 = 0) (k4 : bits .and .i64 0 4 = 0) (k5 : bits .and .i64 5 1 = 1) (k6 : bits .and .i64 5 4 = 4) : Calls Try.prog 5 #[.int .i32 v, .int .i64 a, .int .i64 b] w fun e w' => e = .returned (.bool true) ∧ Below w.heap.size w w' := by
  have hba : b < a := by omega
  have cz : (r == 0) = false := by simpa using (by omega : ¬ r = 0)
  go_enter Try.func5, Try.ntmps5
  go_wp2_with fail
  refine (A.out _).mono ?_
  rintro _ w' ⟨rfl, rfl⟩
  go_wp2_with fail
  refine (B.out _).mono ?_
  rintro _ w' ⟨rfl, rfl⟩
  go_wp2_with fail
  refine wp_loop_once ?_
  go_wp2_with fail
  all_goals
    refine (known_any _).mono ?_
    rintro _ w' ⟨rfl, rfl⟩
    go_wp2_with fail
    go_ret
    exact ⟨ret_bool (by first | rfl | (simp; done) | (simp; omega)), Below.refl _ _⟩

set_option maxRecDepth 100000 in
set_option maxHeartbeats 1000000 in
theorem dn1N0 (v a b x q r : Int) (w : World) (A : Hid (BI v a x 0)) (B : Hid (QI x b q 0 0)) (h1 : -2147483648 ≤ v) (h2 : v ≤ 2147483647) (a1 : -64 ≤ a) (a2 : a ≤ 64) (b1 : -64 ≤ b) (b2 : b ≤ 64) (hlt : 40 < a - b) (e2 : v.tdiv 1099511627776 = q) (e3 : v.tmod 1099511627776 = r) (v0 : v < 0) (q0 : q ≤ 0) (q1 : -2147483648 ≤ q) (r0 : r ≤ 0) (r1 : -1099511627776 < r) (c : r = 0) (c1 : q < 0) (k1 : bits .and .i64 1 1 = 1) (k2 : bits .and .i64 1 4 = 0) (k3 : bits .and .i64 0 1 = 0) (k4 : bits .and .i64 0 4 = 0) (k5 : bits .and .i64 5 1 = 1) (k6 : bits .and .i64 5 4 = 4) : Calls Try.prog 5 #[.int .i32 v, .int .i64 a, .int .i64 b] w fun e w' => e = .returned (.bool true) ∧ Below w.heap.size w w' := by
  subst c
  have hba : b < a := by omega
  have cz : (q == 0) = false := by simpa using (by omega : ¬ q = 0)
  go_enter Try.func5, Try.ntmps5
  go_wp2_with fail
  refine (A.out _).mono ?_
  rintro _ w' ⟨rfl, rfl⟩
  go_wp2_with fail
  refine (B.out _).mono ?_
  rintro _ w' ⟨rfl, rfl⟩
  go_wp2_with fail
  refine wp_loop_once ?_
  go_wp2_with fail
  all_goals
    refine (known_any _).mono ?_
    rintro _ w' ⟨rfl, rfl⟩
    go_wp2_with fail
    go_ret
    exact ⟨ret_bool (by first | rfl | (simp; done) | (simp; omega)), Below.refl _ _⟩

set_option maxRecDepth 100000 in
set_option maxHeartbeats 1000000 in
theorem dn1N1 (v a b x q r : Int) (w : World) (A : Hid (BI v a x 0)) (B : Hid (QI x b (q - 1) 1 0)) (h1 : -2147483648 ≤ v) (h2 : v ≤ 2147483647) (a1 : -64 ≤ a) (a2 : a ≤ 64) (b1 : -64 ≤ b) (b2 : b ≤ 64) (hlt : 40 < a - b) (e2 : v.tdiv 1099511627776 = q) (e3 : v.tmod 1099511627776 = r) (v0 : v < 0) (q0 : q ≤ 0) (q1 : -2147483648 ≤ q) (r0 : r ≤ 0) (r1 : -1099511627776 < r) (c : r < 0) (c1 : 2 * (r + 1099511627776) < 1099511627776) (cz : q - 1 ≠ 0) (k1 : bits .and .i64 1 1 = 1) (k2 : bits .and .i64 1 4 = 0) (k3 : bits .and .i64 0 1 = 0) (k4 : bits .and .i64 0 4 = 0) (k5 : bits .and .i64 5 1 = 1) (k6 : bits .and .i64 5 4 = 4) : Calls Try.prog 5 #[.int .i32 v, .int .i64 a, .int .i64 b] w fun e w' => e = .returned (.bool true) ∧ Below w.heap.size w w' := by
  have hba : b < a := by omega
  have rz : (r + 1099511627776 == 0) = false := by simpa using (by omega : ¬ r + 1099511627776 = 0)
  have zz : ((q - 1) == 0) = false := by simpa using cz
  go_enter Try.func5, Try.ntmps5
  go_wp2_with fail
  refine (A.out _).mono ?_
  rintro _ w' ⟨rfl, rfl⟩
  go_wp2_with fail
  refine (B.out _).mono ?_
  rintro _ w' ⟨rfl, rfl⟩
  go_wp2_with fail
  refine wp_loop_once ?_
  go_wp2_with fail
  all_goals
    refine (known_any _).mono ?_
    rintro _ w' ⟨rfl, rfl⟩
    go_wp2_with fail
    go_ret
    exact ⟨ret_bool (by first | rfl | (simp; done) | (simp; omega)), Below.refl _ _⟩

set_option maxRecDepth 100000 in
set_option maxHeartbeats 1000000 in
theorem dn1N2 (v a b x q r : Int) (w : World) (A : Hid (BI v a x 0)) (B : Hid (QI x b (q - 1) 1 0)) (h1 : -2147483648 ≤ v) (h2 : v ≤ 2147483647) (a1 : -64 ≤ a) (a2 : a ≤ 64) (b1 : -64 ≤ b) (b2 : b ≤ 64) (hlt : 40 < a - b) (e2 : v.tdiv 1099511627776 = q) (e3 : v.tmod 1099511627776 = r) (v0 : v < 0) (q0 : q ≤ 0) (q1 : -2147483648 ≤ q) (r0 : r ≤ 0) (r1 : -1099511627776 < r) (c : r < 0) (c1 : 2 * (r + 1099511627776) = 1099511627776) (c2 : (q - 1).tmod 2 = 0) (cz : q - 1 ≠ 0) (k1 : bits .and .i64 1 1 = 1) (k2 : bits .and .i64 1 4 = 0) (k3 : bits .and .i64 0 1 = 0) (k4 : bits .and .i64 0 4 = 0) (k5 : bits .and .i64 5 1 = 1) (k6 : bits .and .i64 5 4 = 4) : Calls Try.prog 5 #[.int .i32 v, .int .i64 a, .int .i64 b] w fun e w' => e = .returned (.bool true) ∧ Below w.heap.size w w' := by
  have hba : b < a := by omega
  have rz : (r + 1099511627776 == 0) = false := by simpa using (by omega : ¬ r + 1099511627776 = 0)
  have zz : ((q - 1) == 0) = false := by simpa using cz
  go_enter Try.func5, Try.ntmps5
  go_wp2_with fail
  refine (A.out _).mono ?_
  rintro _ w' ⟨rfl, rfl⟩
  go_wp2_with fail
  refine (B.out _).mono ?_
  rintro _ w' ⟨rfl, rfl⟩
  go_wp2_with fail
  refine wp_loop_once ?_
  go_wp2_with fail
  all_goals
    refine (known_any _).mono ?_
    rintro _ w' ⟨rfl, rfl⟩
    go_wp2_with fail
    go_ret
    exact ⟨ret_bool (by first | rfl | (simp; done) | (simp; omega)), Below.refl _ _⟩

set_option maxRecDepth 100000 in
set_option maxHeartbeats 1000000 in
theorem dn1N3 (v a b x q r : Int) (w : World) (A : Hid (BI v a x 0)) (B : Hid (QI x b (q - 1 + 1) 1 0)) (h1 : -2147483648 ≤ v) (h2 : v ≤ 2147483647) (a1 : -64 ≤ a) (a2 : a ≤ 64) (b1 : -64 ≤ b) (b2 : b ≤ 64) (hlt : 40 < a - b) (e2 : v.tdiv 1099511627776 = q) (e3 : v.tmod 1099511627776 = r) (v0 : v < 0) (q0 : q ≤ 0) (q1 : -2147483648 ≤ q) (r0 : r ≤ 0) (r1 : -1099511627776 < r) (c : r < 0) (c1 : 2 * (r + 1099511627776) = 1099511627776) (c2 : (q - 1).tmod 2 = -1) (cz : q - 1 + 1 ≠ 0) (k1 : bits .and .i64 1 1 = 1) (k2 : bits .and .i64 1 4 = 0) (k3 : bits .and .i64 0 1 = 0) (k4 : bits .and .i64 0 4 = 0) (k5 : bits .and .i64 5 1 = 1) (k6 : bits .and .i64 5 4 = 4) : Calls Try.prog 5 #[.int .i32 v, .int .i64 a, .int .i64 b] w fun e w' => e = .returned (.bool true) ∧ Below w.heap.size w w' := by
  have hba : b < a := by omega
  have rz : (r + 1099511627776 == 0) = false := by simpa using (by omega : ¬ r + 1099511627776 = 0)
  have zz : ((q - 1 + 1) == 0) = false := by simpa using cz
  go_enter Try.func5, Try.ntmps5
  go_wp2_with fail
  refine (A.out _).mono ?_
  rintro _ w' ⟨rfl, rfl⟩
  go_wp2_with fail
  refine (B.out _).mono ?_
  rintro _ w' ⟨rfl, rfl⟩
  go_wp2_with fail
  refine wp_loop_once ?_
  go_wp2_with fail
  all_goals
    refine (known_any _).mono ?_
    rintro _ w' ⟨rfl, rfl⟩
    go_wp2_with fail
    go_ret
    exact ⟨ret_bool (by first | rfl | (simp; done) | (simp; omega)), Below.refl _ _⟩

set_option maxRecDepth 100000 in
set_option maxHeartbeats 1000000 in
theorem dn1N3z (v a b x q r : Int) (w : World) (A : Hid (BI v a x 0)) (B : Hid (QI x b (q - 1 + 1) 5 0)) (h1 : -2147483648 ≤ v) (h2 : v ≤ 2147483647) (a1 : -64 ≤ a) (a2 : a ≤ 64) (b1 : -64 ≤ b) (b2 : b ≤ 64) (hlt : 40 < a - b) (e2 : v.tdiv 1099511627776 = q) (e3 : v.tmod 1099511627776 = r) (v0 : v < 0) (q0 : q ≤ 0) (q1 : -2147483648 ≤ q) (r0 : r ≤ 0) (r1 : -1099511627776 < r) (c : r < 0) (c1 : 2 * (r + 1099511627776) = 1099511627776) (c2 : (q - 1).tmod 2 = -1) (cz : q = 0) (k1 : bits .and .i64 1 1 = 1) (k2 : bits .and .i64 1 4 = 0) (k3 : bits .and .i64 0 1 = 0) (k4 : bits .and .i64 0 4 = 0) (k5 : bits .and .i64 5 1 = 1) (k6 : bits .and .i64 5 4 = 4) : Calls Try.prog 5 #[.int .i32 v, .int .i64 a, .int .i64 b] w fun e w' => e = .returned (.bool true) ∧ Below w.heap.size w w' := by
  have hba : b < a := by omega
  have rz : (r + 1099511627776 == 0) = false := by simpa using (by omega : ¬ r + 1099511627776 = 0)
  have qz : q = 0 := cz
  subst qz
  go_enter Try.func5, Try.ntmps5
  go_wp2_with fail
  refine (A.out _).mono ?_
  rintro _ w' ⟨rfl, rfl⟩
  go_wp2_with fail
  refine (B.out _).mono ?_
  rintro _ w' ⟨rfl, rfl⟩
  go_wp2_with fail
  refine wp_loop_once ?_
  go_wp2_with fail
  all_goals
    refine (known_any _).mono ?_
    rintro _ w' ⟨rfl, rfl⟩
    go_wp2_with fail
    go_ret
    exact ⟨ret_bool (by first | rfl | (simp; done) | (simp; omega)), Below.refl _ _⟩

set_option maxRecDepth 100000 in
set_option maxHeartbeats 1000000 in
theorem dn1N4 (v a b x q r : Int) (w : World) (A : Hid (BI v a x 0)) (B : Hid (QI x b (q - 1 + 1) 1 0)) (h1 : -2147483648 ≤ v) (h2 : v ≤ 2147483647) (a1 : -64 ≤ a) (a2 : a ≤ 64) (b1 : -64 ≤ b) (b2 : b ≤ 64) (hlt : 40 < a - b) (e2 : v.tdiv 1099511627776 = q) (e3 : v.tmod 1099511627776 = r) (v0 : v < 0) (q0 : q ≤ 0) (q1 : -2147483648 ≤ q) (r0 : r ≤ 0) (r1 : -1099511627776 < r) (c : r < 0) (c1 : 1099511627776 < 2 * (r + 1099511627776)) (cz : q - 1 + 1 ≠ 0) (k1 : bits .and .i64 1 1 = 1) (k2 : bits .and .i64 1 4 = 0) (k3 : bits .and .i64 0 1 = 0) (k4 : bits .and .i64 0 4 = 0) (k5 : bits .and .i64 5 1 = 1) (k6 : bits .and .i64 5 4 = 4) : Calls Try.prog 5 #[.int .i32 v, .int .i64 a, .int .i64 b] w fun e w' => e = .returned (.bool true) ∧ Below w.heap.size w w' := by
  have hba : b < a := by omega
  have rz : (r + 1099511627776 == 0) = false := by simpa using (by omega : ¬ r + 1099511627776 = 0)
  have zz : ((q - 1 + 1) == 0) = false := by simpa using cz
  go_enter Try.func5, Try.ntmps5
  go_wp2_with fail
  refine (A.out _).mono ?_
  rintro _ w' ⟨rfl, rfl⟩
  go_wp2_with fail
  refine (B.out _).mono ?_
  rintro _ w' ⟨rfl, rfl⟩
  go_wp2_with fail
  refine wp_loop_once ?_
  go_wp2_with fail
  all_goals
    refine (known_any _).mono ?_
    rintro _ w' ⟨rfl, rfl⟩
    go_wp2_with fail
    go_ret
    exact ⟨ret_bool (by first | rfl | (simp; done) | (simp; omega)), Below.refl _ _⟩

set_option maxRecDepth 100000 in
set_option maxHeartbeats 1000000 in
theorem dn1N4z (v a b x q r : Int) (w : World) (A : Hid (BI v a x 0)) (B : Hid (QI x b (q - 1 + 1) 5 0)) (h1 : -2147483648 ≤ v) (h2 : v ≤ 2147483647) (a1 : -64 ≤ a) (a2 : a ≤ 64) (b1 : -64 ≤ b) (b2 : b ≤ 64) (hlt : 40 < a - b) (e2 : v.tdiv 1099511627776 = q) (e3 : v.tmod 1099511627776 = r) (v0 : v < 0) (q0 : q ≤ 0) (q1 : -2147483648 ≤ q) (r0 : r ≤ 0) (r1 : -1099511627776 < r) (c : r < 0) (c1 : 1099511627776 < 2 * (r + 1099511627776)) (cz : q = 0) (k1 : bits .and .i64 1 1 = 1) (k2 : bits .and .i64 1 4 = 0) (k3 : bits .and .i64 0 1 = 0) (k4 : bits .and .i64 0 4 = 0) (k5 : bits .and .i64 5 1 = 1) (k6 : bits .and .i64 5 4 = 4) : Calls Try.prog 5 #[.int .i32 v, .int .i64 a, .int .i64 b] w fun e w' => e = .returned (.bool true) ∧ Below w.heap.size w w' := by
  have hba : b < a := by omega
  have rz : (r + 1099511627776 == 0) = false := by simpa using (by omega : ¬ r + 1099511627776 = 0)
  have qz : q = 0 := cz
  subst qz
  go_enter Try.func5, Try.ntmps5
  go_wp2_with fail
  refine (A.out _).mono ?_
  rintro _ w' ⟨rfl, rfl⟩
  go_wp2_with fail
  refine (B.out _).mono ?_
  rintro _ w' ⟨rfl, rfl⟩
  go_wp2_with fail
  refine wp_loop_once ?_
  go_wp2_with fail
  all_goals
    refine (known_any _).mono ?_
    rintro _ w' ⟨rfl, rfl⟩
    go_wp2_with fail
    go_ret
    exact ⟨ret_bool (by first | rfl | (simp; done) | (simp; omega)), Below.refl _ _⟩
end Go.Proofs.Ytkohgkbeecadeaa.quantSteps
