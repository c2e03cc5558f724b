/- ldexp of nought, of infinities; quant.good. -/
import Derived.Test.YtkohgkbeecadeaaQuZ
namespace Go.Proofs.Ytkohgkbeecadeaa
open Go.RowKit Go.ChangeShapes Go.WideShapes Go.ChangeAt
set_option linter.unusedVariables false

set_option maxHeartbeats 400000 in
theorem good_any (k : Int) (w : World) : Calls Try.prog 25 #[.int .i64 k] w fun e w' => e = .returned (.bool (decide (-64 ≤ k ∧ k ≤ 64))) ∧ w' = w := by
  by_cases h1 : -64 ≤ k
  · by_cases h2 : k ≤ 64
    · rw [decide_eq_true ⟨h1, h2⟩]
      go_enter Try.func25, Try.ntmps25
      go_wp2
      go_ret
      exact ⟨rfl, rfl⟩
    · rw [decide_eq_false (fun h => h2 h.2)]
      have h3 : 64 < k := by omega
      go_enter Try.func25, Try.ntmps25
      go_wp2
      go_ret
      exact ⟨ret_bool (by first | rfl | exact decide_eq_false (by omega)), rfl⟩
  · rw [decide_eq_false (fun h => h1 h.1)]
    have h3 : k < -64 := by omega
    go_enter Try.func25, Try.ntmps25
    go_wp2
    go_ret
    exact ⟨ret_bool (by first | rfl | exact decide_eq_false (by omega)), rfl⟩

/-- Ldexp hands on what ldexp makes. -/
theorem Ldexp_of (x y : Nat) (k : Int) (w : World) (h : Calls Try.prog 39 #[.float .f64 x, .int .i64 k] w fun e' w' => e' = .returned (.float .f64 y) ∧ w' = w) :
    Calls Try.prog 26 #[.float .f64 x, .int .i64 k] w fun e' w' => e' = .returned (.float .f64 y) ∧ w' = w := by
  have H := Lib.hid h
  clear h
  go_enter Try.func26, Try.ntmps26
  go_wp2_with fail
  refine H.out.mono ?_
  rintro _ w' ⟨rfl, rfl⟩
  go_wp2_with fail
  go_ret
  exact ⟨rfl, rfl⟩
theorem ldexp_zero (x : Nat) (k : Int) (w : World) (h : Fl.Num x) (h0 : Fl.rg x = 0) : Calls Try.prog 39 #[.float .f64 x, .int .i64 k] w fun e' w' => e' = .returned (.float .f64 x) ∧ w' = w := by
  have o1 := zero_eq h
  rw [decide_eq_true h0] at o1
  go_enter Try.func39, Try.ntmps39
  go_wp2_with fail
  go_ret
  exact ⟨rfl, rfl⟩
theorem ldexp_inf (x : Nat) (k : Int) (w : World) (h : Fl.Num x) (h0 : Fl.rg x = 9218868437227405312) : Calls Try.prog 39 #[.float .f64 x, .int .i64 k] w fun e' w' => e' = .returned (.float .f64 x) ∧ w' = w := by
  have o1 := zero_eq h
  rw [decide_eq_false (by omega)] at o1
  have i1 := Lib.hid (isinf_num w h)
  rw [decide_eq_true h0] at i1
  go_enter Try.func39, Try.ntmps39
  go_wp2_with fail
  refine i1.out.mono ?_
  rintro _ w' ⟨rfl, rfl⟩
  go_wp2_with fail
  go_ret
  exact ⟨rfl, rfl⟩
end Go.Proofs.Ytkohgkbeecadeaa
