/- quant.KindOf. -/
import Derived.Test.YtkohgkbeecadeaaQuR
namespace Go.Proofs.Ytkohgkbeecadeaa
open Go.RowKit Go.ChangeShapes Go.WideShapes Go.ChangeAt
set_option linter.unusedVariables false

theorem rk_zero_iff (x : Nat) : Fl.rk x = 0 ↔ Fl.rg x = 0 := by unfold Fl.rk; split <;> omega
theorem kind_rg (x : Nat) : kindF x = if 9218868437227405312 < Fl.rg x then 5 else if Fl.rg x = 9218868437227405312 then 4 else if Fl.rg x = 0 then 1 else if Fl.rg x < 4503599627370496 then 2 else 3 := by
  have a : Fl.rg x = Fl.fld x * 4503599627370496 + Fl.frc x := by unfold Fl.rg Fl.fld Fl.frc; omega
  have b : Fl.frc x < 4503599627370496 := by unfold Fl.frc; omega
  have c : Fl.fld x < 2048 := by unfold Fl.fld; omega
  unfold kindF
  (repeat' split) <;> omega
theorem num_abs {x : Nat} (h : Fl.Num x) : Fl.Num (x % 9223372036854775808) := ⟨by omega, by have := h.2; unfold Fl.rg at *; omega⟩
theorem rk_abs (x : Nat) : Fl.rk (x % 9223372036854775808) = (Fl.rg x : Int) := by rw [Fl.rk_pos (by omega)]; rfl
theorem self_eq {x : Nat} (h : Fl.Num x) : (FloatKind.f64.format.order x x != some .eq) = false := by
  show (!(Ieee.double.order x x == some .eq)) = false
  rw [Fl.ord_eq h h, decide_eq_true rfl]; rfl
theorem self_nan {x : Nat} (hx : x < 18446744073709551616) (h : 9218868437227405312 < Fl.rg x) : (FloatKind.f64.format.order x x != some .eq) = true := by
  show (!(Ieee.double.order x x == some .eq)) = true
  rw [Fl.order_nan x x hx h]; rfl
theorem zero_eq {x : Nat} (h : Fl.Num x) : (FloatKind.f64.format.order x 0 == some .eq) = decide (Fl.rg x = 0) := by
  show (Ieee.double.order x 0 == some .eq) = _
  rw [Fl.ord_eq h (Fl.num_lit (by omega) (by omega)), Fl.rk_pos (x := 0) (by omega), decide_eq_decide]
  exact rk_zero_iff x
theorem isinf_num {x : Nat} (w : World) (h : Fl.Num x) : Calls Try.prog 31 #[.float .f64 x, .int .i64 0] w fun e w' => e = .returned (.bool (decide (Fl.rg x = 9218868437227405312))) ∧ w' = w := by
  refine isinf_any x w _ h.1 ?_
  show (Ieee.double.order _ _ == _) = _
  rw [Fl.ord_gt (num_abs h) (Fl.num_lit (by omega) (by omega)), rk_abs, Fl.rk_pos (by omega), decide_eq_decide]
  have := h.2
  omega

set_option maxHeartbeats 1000000 in
theorem kind_any (x : Nat) (w : World) (hx : x < 18446744073709551616) : Calls Try.prog 11 #[.int .u64 x] w fun e w' => e = .returned (.int .i64 (kindF x)) ∧ w' = w := by
  rw [kind_rg]
  have r2 := run_frombits
  by_cases h1 : 9218868437227405312 < Fl.rg x
  · rw [if_pos h1]
    have o1 := self_nan hx h1
    clear h1
    go_enter Try.func11, Try.ntmps11
    go_wp2
    go_ret
    exact ⟨rfl, rfl⟩
  · rw [if_neg h1]
    have hn : Fl.Num x := ⟨hx, by omega⟩
    have o1 := self_eq hn
    have i1 := Lib.hid (isinf_num w hn)
    by_cases h2 : Fl.rg x = 9218868437227405312
    · rw [if_pos h2]
      rw [decide_eq_true h2] at i1
      clear h1 h2 hn
      go_enter Try.func11, Try.ntmps11
      go_wp2_with fail
      refine i1.out.mono ?_
      rintro _ w' ⟨rfl, rfl⟩
      go_wp2_with fail
      go_ret
      exact ⟨rfl, rfl⟩
    · rw [if_neg h2]
      rw [decide_eq_false h2] at i1
      have o2 := zero_eq hn
      by_cases h3 : Fl.rg x = 0
      · rw [if_pos h3]
        rw [decide_eq_true h3] at o2
        clear h1 h2 h3 hn
        go_enter Try.func11, Try.ntmps11
        go_wp2_with fail
        refine i1.out.mono ?_
        rintro _ w' ⟨rfl, rfl⟩
        go_wp2_with fail
        go_ret
        exact ⟨rfl, rfl⟩
      · rw [if_neg h3]
        rw [decide_eq_false h3] at o2
        have o3 : (FloatKind.f64.format.order (x % 9223372036854775808) 4503599627370496 == some .lt) = decide (Fl.rg x < 4503599627370496) := by
          show (Ieee.double.order _ _ == _) = _
          rw [Fl.ord_lt (num_abs hn) (Fl.num_lit (by omega) (by omega)), rk_abs, Fl.rk_pos (by omega), decide_eq_decide]
          omega
        have a1 := Lib.hid (abs_any x w hx)
        by_cases h4 : Fl.rg x < 4503599627370496
        · rw [if_pos h4]
          rw [decide_eq_true h4] at o3
          clear h1 h2 h3 h4 hn
          go_enter Try.func11, Try.ntmps11
          go_wp2_with fail
          refine i1.out.mono ?_
          rintro _ w' ⟨rfl, rfl⟩
          go_wp2_with fail
          refine a1.out.mono ?_
          rintro _ w' ⟨rfl, rfl⟩
          go_wp2_with fail
          go_ret
          exact ⟨rfl, rfl⟩
        · rw [if_neg h4]
          rw [decide_eq_false h4] at o3
          clear h1 h2 h3 h4 hn
          go_enter Try.func11, Try.ntmps11
          go_wp2_with fail
          refine i1.out.mono ?_
          rintro _ w' ⟨rfl, rfl⟩
          go_wp2_with fail
          refine a1.out.mono ?_
          rintro _ w' ⟨rfl, rfl⟩
          go_wp2_with fail
          go_ret
          exact ⟨rfl, rfl⟩
end Go.Proofs.Ytkohgkbeecadeaa
