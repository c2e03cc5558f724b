/- Contracts of vect.Low, vect.Apart and the references' Low and Apart. -/
import Derived.Test.YteidlneohlllmaaRows
import Derived.WalkKit
import Derived.WalkSpells
import Derived.WalkLawsBesides
import Derived.Lib.Hide
namespace Go.Proofs.Yteidlneohlllmaa
open Go.RowKit

def lowF (far reach : Int) : Int := if far < 0 ∨ reach < 0 then 0 else if far < reach then 0 else far - reach
def apartF (a b : Int) : Int := if a < 0 ∨ b < 0 then 0 else if a < b then b - a else a - b
theorem lowF_bd (a b : Int) (a2 : a ≤ 9223372036854775807) : 0 ≤ lowF a b ∧ lowF a b ≤ 9223372036854775807 := by unfold lowF; split <;> (try split) <;> omega
theorem ret_int {k : IntKind} {a b : Int} (h : a = b) : Ending.returned (.int k a) = .returned (.int k b) := by rw [h]
theorem apartF_low (a b : Int) : (lowF a b < lowF b a → apartF a b = lowF b a) ∧ (lowF b a ≤ lowF a b → apartF a b = lowF a b) := by
  unfold lowF apartF; constructor <;> intro h <;> (repeat' split) <;> (repeat' split at h) <;> omega

set_option maxHeartbeats 400000 in
theorem low_any (a b : Int) (w : World) (a1 : -9223372036854775808 ≤ a) (a2 : a ≤ 9223372036854775807) (b1 : -9223372036854775808 ≤ b) (b2 : b ≤ 9223372036854775807) :
    Calls Try.prog 15 #[.int .i64 a, .int .i64 b] w fun e w' => e = .returned (.int .i64 (lowF a b)) ∧ w = w' := by
  go_enter Try.func15, Try.ntmps15
  go_wp2
  all_goals go_ret
  all_goals refine ⟨ret_int ?_, rfl⟩
  all_goals (unfold lowF; repeat' split)
  all_goals first | rfl | omega | (simp; omega)

set_option maxHeartbeats 400000 in
theorem rlow_any (a b : Int) (w : World) (a1 : -9223372036854775808 ≤ a) (a2 : a ≤ 9223372036854775807) (b1 : -9223372036854775808 ≤ b) (b2 : b ≤ 9223372036854775807) :
    Calls Try.prog 17 #[.int .i64 a, .int .i64 b] w fun e w' => e = .returned (.int .i64 (lowF a b)) ∧ w = w' := by
  go_enter Try.func17, Try.ntmps17
  go_wp2
  all_goals go_ret
  all_goals refine ⟨ret_int ?_, rfl⟩
  all_goals (unfold lowF; repeat' split)
  all_goals first | rfl | omega | (simp; omega)

set_option maxHeartbeats 400000 in
theorem rapart_any (a b : Int) (w : World) (a1 : -9223372036854775808 ≤ a) (a2 : a ≤ 9223372036854775807) (b1 : -9223372036854775808 ≤ b) (b2 : b ≤ 9223372036854775807) :
    Calls Try.prog 18 #[.int .i64 a, .int .i64 b] w fun e w' => e = .returned (.int .i64 (apartF a b)) ∧ w = w' := by
  go_enter Try.func18, Try.ntmps18
  go_wp2
  all_goals go_ret
  all_goals refine ⟨ret_int ?_, rfl⟩
  all_goals (unfold apartF; repeat' split)
  all_goals first | rfl | omega | (simp; omega)

set_option maxHeartbeats 400000 in
theorem apart_any (a b : Int) (w : World) (a1 : -9223372036854775808 ≤ a) (a2 : a ≤ 9223372036854775807) (b1 : -9223372036854775808 ≤ b) (b2 : b ≤ 9223372036854775807) :
    Calls Try.prog 16 #[.int .i64 a, .int .i64 b] w fun e w' => e = .returned (.int .i64 (apartF a b)) ∧ w = w' := by
  have hb1 := lowF_bd a b a2
  have hb2 := lowF_bd b a b2
  have hx := apartF_low a b
  have H := Lib.hid hx
  clear hx
  go_enter Try.func16, Try.ntmps16
  go_wp2_with (go_at_call 15; refine (low_any _ _ _ (by omega) (by omega) (by omega) (by omega)).mono ?_; rintro e w' ⟨rfl, rfl⟩)
  all_goals go_ret
  all_goals refine ⟨ret_int ?_, rfl⟩
  all_goals first | (rw [H.out.1 (by omega)]) | (rw [H.out.2 (by omega)])

end Go.Proofs.Yteidlneohlllmaa
