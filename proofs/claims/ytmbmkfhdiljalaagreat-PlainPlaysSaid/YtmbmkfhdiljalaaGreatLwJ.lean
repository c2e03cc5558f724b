/- PlainPlays: a dimension out of range; a list that is too long. -/
import Derived.Test.YtmbmkfhdiljalaaGreatMg15
namespace Go.Proofs.YtmbmkfhdiljalaaGreat
open Go.RowKit Go.ChangeShapes Go.WideShapes Go.ChangeAt
set_option linter.unusedVariables false
set_option linter.unusedSimpArgs false

theorem new_less (dim : Int) (w : World) (h : dim < 1) :
    Calls Tryz.prog 4 #[.int .i64 dim] w fun e w' => e = .returned (.tuple #[.pointer none, .int .i64 9]) ∧ w' = w := by
  have d1 : decide (dim < 1) = true := decide_eq_true h
  go_enter Tryz.func4, Tryz.ntmps4
  go_wp2_with fail
  go_ret2
  exact ⟨rfl, rfl⟩
theorem new_more (dim : Int) (w : World) (h : 4096 < dim) :
    Calls Tryz.prog 4 #[.int .i64 dim] w fun e w' => e = .returned (.tuple #[.pointer none, .int .i64 9]) ∧ w' = w := by
  have d1 : decide (dim < 1) = false := decide_eq_false (by omega)
  have d2 : decide (4096 < dim) = true := decide_eq_true h
  go_enter Tryz.func4, Tryz.ntmps4
  go_wp2_with fail
  go_ret2
  exact ⟨rfl, rfl⟩
set_option maxRecDepth 1000000 in
set_option maxHeartbeats 4000000 in
theorem plays_less (dim : Int) (a : Option Addr) (n c : Nat) (W : World) (h : dim < 1) :
    Calls Tryz.prog 3 #[.int .i64 dim, .slice a n c] W fun e w' => e = .returned (.bool true) ∧ Below W.heap.size W w' := by
  have NP := Lib.hid (new_less dim W h)
  have d1 : decide (dim < 1) = true := decide_eq_true h
  clear h
  go_enter Tryz.func3, Tryz.ntmps3
  go_wp2_with fail
  refine NP.out.mono ?_
  rintro _ w1 ⟨rfl, hw⟩
  subst w1
  go_wp2_with fail
  refine (known_on W).mono ?_
  rintro _ w4 ⟨rfl, hb4⟩
  go_wp2_with fail
  go_ret
  exact ⟨rfl, hb4⟩
set_option maxRecDepth 1000000 in
set_option maxHeartbeats 4000000 in
theorem plays_more (dim : Int) (a : Option Addr) (n c : Nat) (W : World) (h : 4096 < dim) :
    Calls Tryz.prog 3 #[.int .i64 dim, .slice a n c] W fun e w' => e = .returned (.bool true) ∧ Below W.heap.size W w' := by
  have NP := Lib.hid (new_more dim W h)
  have d1 : decide (dim < 1) = false := decide_eq_false (by omega)
  have d2 : decide (4096 < dim) = true := decide_eq_true h
  clear h
  go_enter Tryz.func3, Tryz.ntmps3
  go_wp2_with fail
  refine NP.out.mono ?_
  rintro _ w1 ⟨rfl, hw⟩
  subst w1
  go_wp2_with fail
  refine (known_on W).mono ?_
  rintro _ w4 ⟨rfl, hb4⟩
  go_wp2_with fail
  go_ret
  exact ⟨rfl, hb4⟩
set_option maxRecDepth 1000000 in
set_option maxHeartbeats 4000000 in
theorem plays_long (dim : Int) (a : Option Addr) (n c : Nat) (W : World) (h0 : 1 ≤ dim) (h1 : dim ≤ 4096) (hn : 150 < n) :
    Calls Tryz.prog 3 #[.int .i64 dim, .slice a n c] W fun e w' => e = .returned (.bool true) ∧ Below W.heap.size W w' := by
  have NP := Lib.hid (new_on dim W h0 h1)
  have d1 : decide (dim < 1) = false := decide_eq_false (by omega)
  have d2 : decide (4096 < dim) = false := decide_eq_false (by omega)
  have d3 : decide (150 < (n : Int)) = true := decide_eq_true (by omega)
  have d3' : decide (150 < n) = true := decide_eq_true hn
  unfold NewPTo at NP
  clear h0 h1 hn
  go_enter Tryz.func3, Tryz.ntmps3
  go_wp2_with fail
  refine NP.out.mono ?_
  rintro _ w1 ⟨p, F, H, rfl, hd, hb⟩
  have B1 := Lib.hid hb
  clear hd hb NP
  go_wp2_with fail
  refine (known_on w1).mono ?_
  rintro _ w4 ⟨rfl, hb4⟩
  have B4 : Hid (Below W.heap.size W w4) := Lib.hid (B1.out.trans (hb4.mono B1.out.size))
  clear hb4
  go_wp2_with fail
  go_ret
  exact ⟨rfl, B4.out⟩
end Go.Proofs.YtmbmkfhdiljalaaGreat
