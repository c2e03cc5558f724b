/- ldexp beyond all. -/
import Derived.Test.YtkohgkbeecadeaaQuA1
namespace Go.Proofs.Ytkohgkbeecadeaa
open Go.RowKit Go.ChangeShapes Go.WideShapes Go.ChangeAt
set_option linter.unusedVariables false
set_option maxHeartbeats 400000 in
theorem inf_any (k : Int) (w : World) (h : k = 1 ∨ k = -1) : Calls Try.prog 46 #[.int .i64 k] w fun e w' => e = .returned (.float .f64 (if 0 ≤ k then 9218868437227405312 else 18442240474082181120)) ∧ w' = w := by
  have r2 := run_frombits
  rcases h with rfl | rfl
  all_goals
    go_enter Try.func46, Try.ntmps46
    go_wp2
    go_ret
    exact ⟨rfl, rfl⟩
/-- ldexp of a normal number, where it overflows. -/
theorem ldexp_over (s : Bool) (e m : Nat) (k : Int) (w : World) (h1 : 1 ≤ e) (h2 : e ≤ 2046) (h3 : m < 4503599627370496) (k1 : -64 ≤ k) (k2 : k ≤ 64) (g1 : 2047 ≤ e + k) :
    Calls Try.prog 39 #[.float .f64 (Fl.mk s e m), .int .i64 k] w fun e' w' => e' = .returned (.float .f64 (Fl.mk s 2047 0)) ∧ w' = w := by
  obtain ⟨a, b, c, d⟩ := Fl.mk_fields s e m (by omega) h3
  have hr := Fl.mk_rg s e m (by omega) h3
  obtain ⟨x, hx⟩ : ∃ x, x = Fl.mk s e m := ⟨_, rfl⟩
  obtain ⟨y, hy⟩ : ∃ y, y = Fl.mk s (e + k).toNat m := ⟨_, rfl⟩
  rw [← hx] at a b c d hr ⊢
  have nx : Fl.Num x := ⟨d, by rw [hr]; omega⟩
  have na : Fl.Num (x % 9223372036854775808) := ⟨by omega, by unfold Fl.rg at hr ⊢; omega⟩
  have ka : Fl.rk (x % 9223372036854775808) = (e * 4503599627370496 + m : Nat) := by rw [Fl.rk_pos (by omega)]; unfold Fl.rg at hr; omega
  have o1 : (FloatKind.f64.format.order x 0 == some .eq) = false := by
    show (Ieee.double.order x 0 == _) = _
    rw [Fl.ord_eq nx (Fl.num_lit (by omega) (by omega)), Fl.rk_pos (x := 0) (by omega)]
    unfold Fl.rk
    rw [hr, decide_eq_false_iff_not]
    split <;> omega
  have o2 := isinf_any x w false d (by
    show (Ieee.double.order _ _ == _) = _
    rw [Fl.ord_gt na (Fl.num_lit (by omega) (by omega)), ka, Fl.rk_pos (by omega), decide_eq_false_iff_not]
    omega)
  have o3 := isnan_any x w false (by
    show (!(Ieee.double.order _ _ == _)) = _
    rw [Fl.ord_eq nx nx, decide_eq_true rfl]; rfl)
  have o4 := normalize_big x w d (by
    show (Ieee.double.order _ _ == _) = _
    rw [Fl.ord_lt na (Fl.num_lit (by omega) (by omega)), ka, Fl.rk_pos (by omega), decide_eq_false_iff_not]
    omega)
  have f1 : bits .and .i64 ((x : Int) / 4503599627370496) 2047 = (e : Int) := by rw [field_and x d]; unfold Fl.fld at a; omega
  have o5 : (FloatKind.f64.format.order x 0 == some .lt) = s := by
    show (Ieee.double.order x 0 == _) = _
    rw [Fl.ord_lt nx (Fl.num_lit (by omega) (by omega)), Fl.rk_pos (x := 0) (by omega)]
    unfold Fl.rk
    rw [c, hr]
    cases s
    · simp only [Bool.false_eq_true, if_false]; rw [decide_eq_false (by omega)]
    · simp only [if_true]; rw [decide_eq_true (by omega)]
  have HX := Lib.hid hx
  clear hx nx na ka
  cases s
  all_goals
    have r1 := run_bits
    have r2 := run_frombits
    go_enter Try.func39, Try.ntmps39
    go_wp2_with fail
    refine o2.mono ?_
    rintro _ w' ⟨rfl, rfl⟩
    go_wp2_with fail
    refine o3.mono ?_
    rintro _ w' ⟨rfl, rfl⟩
    go_wp2_with fail
    refine o4.mono ?_
    rintro _ w' ⟨rfl, rfl⟩
    go_wp2_with fail
    refine (inf_any _ _ (by omega)).mono ?_
    rintro _ w' ⟨rfl, rfl⟩
    go_wp2_with fail
    go_ret
    exact ⟨rfl, rfl⟩
end Go.Proofs.Ytkohgkbeecadeaa
