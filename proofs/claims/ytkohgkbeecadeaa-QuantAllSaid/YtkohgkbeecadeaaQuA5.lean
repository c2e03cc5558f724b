/- quant.Quant: its walk, told by what its tests answer. -/
import Derived.Test.YtkohgkbeecadeaaQuA4
namespace Go.Proofs.Ytkohgkbeecadeaa
open Go.RowKit Go.ChangeShapes Go.WideShapes Go.ChangeAt
set_option linter.unusedVariables false

def QP (x : Nat) (k v m e : Int) : Prop := ∀ w, Calls Try.prog 9 #[.int .u64 x, .int .i64 k] w fun e' w' => e' = .returned (.tuple #[.int .i32 v, .int .i64 m, .int .i64 e]) ∧ w' = w
theorem ret3 {a b c d e f : Int} (h : a = b) (h2 : c = d) (h3 : e = f) : Ending.returned (.tuple #[.int .i32 a, .int .i64 c, .int .i64 e]) = .returned (.tuple #[.int .i32 b, .int .i64 d, .int .i64 f]) := by rw [h, h2, h3]
set_option maxHeartbeats 400000 in
theorem qp_scale (x : Nat) (k : Int) (h : k < -64 ∨ 64 < k) : QP x k 0 0 2 := by
  intro w
  have r2 := run_frombits
  have G := good_any k
  rw [decide_eq_false (by omega)] at G
  have G' := Lib.hid G
  clear G h
  go_enter Try.func9, Try.ntmps9
  go_wp2_with fail
  refine (G'.out _).mono ?_
  rintro _ w' ⟨rfl, rfl⟩
  go_wp2_with fail
  go_ret3
  exact ⟨rfl, rfl⟩
set_option maxHeartbeats 400000 in
theorem qp_nan (x : Nat) (k : Int) (h : -64 ≤ k) (h' : k ≤ 64) (hx : x < 18446744073709551616) (hn : 9218868437227405312 < Fl.rg x) : QP x k 0 0 10 := by
  intro w
  have r2 := run_frombits
  have o1 := self_nan hx hn
  have G := good_any k
  rw [decide_eq_true (by omega)] at G
  have G' := Lib.hid G
  clear G h hn
  go_enter Try.func9, Try.ntmps9
  go_wp2_with fail
  refine (G'.out _).mono ?_
  rintro _ w' ⟨rfl, rfl⟩
  go_wp2_with fail
  go_ret3
  exact ⟨rfl, rfl⟩
theorem rte_run (y n : Nat) (h : ∀ s t, Ieee.double.read y ≠ .nan s t) (hn : Fl.rteF y = n) (w : World) : (callFunc 27 #[.float .f64 y]).run Try.prog w = .ok (.value (.float .f64 n)) w := by
  rw [run_rte y w h]
  have : FloatKind.f64.encode ((FloatKind.f64.decode y).integral .even) = n := hn
  rw [this]
set_option maxHeartbeats 400000 in
theorem qp_high (x y n : Nat) (k : Int) (h : -64 ≤ k) (h' : k ≤ 64) (hx : Fl.Num x) (L : ∀ w, Calls Try.prog 26 #[.float .f64 x, .int .i64 k] w fun e' w' => e' = .returned (.float .f64 y) ∧ w' = w)
    (hy : ∀ s t, Ieee.double.read y ≠ .nan s t) (hn : Fl.rteF y = n) (nn : Fl.Num n) (c : 4746794007244308480 < Fl.rk n) : QP x k 2147483647 2 0 := by
  intro w
  have r2 := run_frombits
  have r3 := rte_run y n hy hn
  have o1 := self_eq hx
  have G := good_any k
  rw [decide_eq_true (by omega)] at G
  have G' := Lib.hid G
  have L' := Lib.hid L
  have o2 : (FloatKind.f64.format.order n 4746794007244308480 == some .gt) = true := by
    show (Ieee.double.order _ _ == _) = _
    rw [Fl.ord_gt nn (Fl.num_lit (by omega) (by omega)), Fl.rk_pos (x := 4746794007244308480) (by omega), decide_eq_true_eq]
    exact c
  clear G h hy hn hx nn c L
  go_enter Try.func9, Try.ntmps9
  go_wp2_with fail
  refine (G'.out _).mono ?_
  rintro _ w' ⟨rfl, rfl⟩
  go_wp2_with fail
  refine (L'.out _).mono ?_
  rintro _ w' ⟨rfl, rfl⟩
  go_wp2_with fail
  go_ret3
  exact ⟨rfl, rfl⟩
theorem rk_min : Fl.rk 13970166044103278592 = -4746794007248502784 := by decide +kernel
set_option maxHeartbeats 400000 in
theorem qp_deep (x y n : Nat) (k : Int) (h : -64 ≤ k) (h' : k ≤ 64) (hx : Fl.Num x) (L : ∀ w, Calls Try.prog 26 #[.float .f64 x, .int .i64 k] w fun e' w' => e' = .returned (.float .f64 y) ∧ w' = w)
    (hy : ∀ s t, Ieee.double.read y ≠ .nan s t) (hn : Fl.rteF y = n) (nn : Fl.Num n) (c : Fl.rk n < -4746794007248502784) : QP x k (-2147483648) 2 0 := by
  intro w
  have r2 := run_frombits
  have r3 := rte_run y n hy hn
  have o1 := self_eq hx
  have G := good_any k
  rw [decide_eq_true (by omega)] at G
  have G' := Lib.hid G
  have L' := Lib.hid L
  have o2 : (FloatKind.f64.format.order n 4746794007244308480 == some .gt) = false := by
    show (Ieee.double.order _ _ == _) = _
    rw [Fl.ord_gt nn (Fl.num_lit (by omega) (by omega)), Fl.rk_pos (x := 4746794007244308480) (by omega), decide_eq_false_iff_not]
    omega
  have o3 : (FloatKind.f64.format.order n 13970166044103278592 == some .lt) = true := by
    show (Ieee.double.order _ _ == _) = _
    rw [Fl.ord_lt nn (Fl.num_lit (by omega) (by omega)), rk_min, decide_eq_true_eq]
    exact c
  clear G h hy hn hx nn c L
  go_enter Try.func9, Try.ntmps9
  go_wp2_with fail
  refine (G'.out _).mono ?_
  rintro _ w' ⟨rfl, rfl⟩
  go_wp2_with fail
  refine (L'.out _).mono ?_
  rintro _ w' ⟨rfl, rfl⟩
  go_wp2_with fail
  go_ret3
  exact ⟨rfl, rfl⟩
def mark1 (a b c : Bool) : Int := if a || (b && c) then 1 else 0
set_option maxHeartbeats 4000000 in
theorem qp_mid (x y n : Nat) (k v : Int) (c3 c4 c5 c6 s : Bool) (h : -64 ≤ k) (h' : k ≤ 64) (hx : Fl.Num x) (L : ∀ w, Calls Try.prog 26 #[.float .f64 x, .int .i64 k] w fun e' w' => e' = .returned (.float .f64 y) ∧ w' = w)
    (hy : ∀ s t, Ieee.double.read y ≠ .nan s t) (hn : Fl.rteF y = n) (nn : Fl.Num n) (ca : Fl.rk n ≤ 4746794007244308480) (cb : -4746794007248502784 ≤ Fl.rk n)
    (o3 : (FloatKind.f64.format.order n y != some .eq) = c3) (o4 : (FloatKind.f64.format.order y 0 == some .eq) = c4) (o5 : (FloatKind.f64.format.order x 0 != some .eq) = c5) (o6 : (FloatKind.f64.format.order n 0 == some .eq) = c6)
    (hs : Fl.sg x = s) (hv : floatToIntVal .f64 n .i32 = some v) : QP x k v (mark1 c3 c4 c5 + if c6 && s then 4 else 0) 0 := by
  intro w
  have r2 := run_frombits
  have r3 := rte_run y n hy hn
  have o1 := self_eq hx
  have G := good_any k
  rw [decide_eq_true (by omega)] at G
  have G' := Lib.hid G
  have L' := Lib.hid L
  have p2 : (FloatKind.f64.format.order n 4746794007244308480 == some .gt) = false := by
    show (Ieee.double.order _ _ == _) = _
    rw [Fl.ord_gt nn (Fl.num_lit (by omega) (by omega)), Fl.rk_pos (x := 4746794007244308480) (by omega), decide_eq_false_iff_not]
    omega
  have p3 : (FloatKind.f64.format.order n 13970166044103278592 == some .lt) = false := by
    show (Ieee.double.order _ _ == _) = _
    rw [Fl.ord_lt nn (Fl.num_lit (by omega) (by omega)), rk_min, decide_eq_false_iff_not]
    omega
  have S1 : ∀ w, Calls Try.prog 28 #[.float .f64 x] w fun e w' => e = .returned (.bool s) ∧ w' = w := by
    intro w
    have := signbit_any x w hx.1
    rw [show decide (9223372036854775808 ≤ x) = s from hs] at this
    exact this
  have S1' := Lib.hid S1
  have cv : ∀ w, (convert 47 21 (.float .f64 n)).run Try.prog w = .ok (.int .i32 v) w := fun w => run_convert_float_int w _ _ _ _ _ v (by rw [Try.underlying47]; rfl) Try.underlying21 hv
  have b1 : bits .or .i64 0 4 = 4 := by decide +kernel
  have b2 : bits .or .i64 1 4 = 5 := by decide +kernel
  clear G h hy hn hx nn ca cb L hs hv S1
  rcases (show (c3 = true) ∨ (c3 = false ∧ c4 = false) ∨ (c3 = false ∧ c4 = true ∧ c5 = false) ∨ (c3 = false ∧ c4 = true ∧ c5 = true) by cases c3 <;> cases c4 <;> cases c5 <;> simp) with rfl | ⟨rfl, rfl⟩ | ⟨rfl, rfl, rfl⟩ | ⟨rfl, rfl, rfl⟩ <;> cases c6
  all_goals try
    go_enter Try.func9, Try.ntmps9
    go_wp2_with fail
    refine (G'.out _).mono ?_
    rintro _ w' ⟨rfl, rfl⟩
    go_wp2_with fail
    refine (L'.out _).mono ?_
    rintro _ w' ⟨rfl, rfl⟩
    go_wp2_with fail
    go_ret3
    exact ⟨ret3 rfl (by simp [mark1]) rfl, rfl⟩
  all_goals cases s
  all_goals
    go_enter Try.func9, Try.ntmps9
    go_wp2_with fail
    refine (G'.out _).mono ?_
    rintro _ w' ⟨rfl, rfl⟩
    go_wp2_with fail
    refine (L'.out _).mono ?_
    rintro _ w' ⟨rfl, rfl⟩
    go_wp2_with fail
    refine (S1'.out _).mono ?_
    rintro _ w' ⟨rfl, rfl⟩
    go_wp2_with fail
    go_ret3
    exact ⟨ret3 rfl (by simp [mark1]) rfl, rfl⟩
end Go.Proofs.Ytkohgkbeecadeaa
