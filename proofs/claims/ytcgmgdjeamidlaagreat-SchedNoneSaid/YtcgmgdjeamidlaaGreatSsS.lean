/- Sched: how many sessions; refusals of one that is not there or was not made. -/
import Derived.Test.YtcgmgdjeamidlaaGreatSsR
namespace Go.Proofs.YtcgmgdjeamidlaaGreat
open Go.RowKit Go.ChangeShapes Go.WideShapes Go.ChangeAt
set_option linter.unusedVariables false
set_option linter.unusedSimpArgs false

abbrev tSc : TypeId := 104
theorem sessions_nil (w : World) : Calls Tryz.prog 27 #[.pointer none] w fun e w' => e = .returned (.int .i64 0) ∧ w' = w := by
  go_enter Tryz.func27, Tryz.ntmps27
  go_wp2_with fail
  go_ret
  exact ⟨rfl, rfl⟩
theorem sessions_on {w : World} {g : Nat} {a : Option Addr} {n c : Nat} {d : Value} (h : Row w g #[.slice a n c, d] tSc) : Calls Tryz.prog 27 #[.pointer (some ⟨g, 0, none⟩)] w fun e w' => e = .returned (.int .i64 (n : Int)) ∧ w' = w := by
  have c0 : w.cell? ⟨g, 0, none⟩ = some (.slice a n c) := h.cell 0
  clear h
  go_enter Tryz.func27, Tryz.ntmps27
  go_wp2_with fail
  go_ret
  exact ⟨rfl, rfl⟩
/-- A call that finds no session: at nil, or at a Sched that was not made. -/
def NoSched (w : World) (v : Value) : Prop := v = .pointer none ∨ ∃ g, v = .pointer (some ⟨g, 0, none⟩) ∧ Row w g #[.slice none 0 0, .bool false] tSc
theorem sessions_no {w : World} {v : Value} (h : NoSched w v) : Calls Tryz.prog 27 #[v] w fun e w' => e = .returned (.int .i64 0) ∧ w' = w := by
  rcases h with rfl | ⟨g, rfl, hr⟩
  · exact sessions_nil w
  · exact sessions_on hr
theorem NoSched.below {w w' : World} {v : Value} (h : NoSched w v) (k : Below w.heap.size w w') : NoSched w' v := by
  rcases h with rfl | ⟨g, rfl, hr⟩
  · exact .inl rfl
  · exact .inr ⟨g, rfl, hr.only ((Only.refl [] w).below k) (by simp)⟩
theorem NoSched.shape {w : World} {v : Value} (h : NoSched w v) : ∃ a, v = .pointer a := by
  rcases h with rfl | ⟨g, rfl, hr⟩
  · exact ⟨_, rfl⟩
  · exact ⟨_, rfl⟩
theorem reset_no {w : World} {v : Value} (h : NoSched w v) (b : Value) : Calls Tryz.prog 34 #[v, b] w fun e w' => e = .returned (.int .i64 1) ∧ w' = w := by
  have SN := Lib.hid (sessions_no h)
  obtain ⟨a, rfl⟩ := h.shape
  clear h
  go_enter Tryz.func34, Tryz.ntmps34
  go_wp2_with fail
  refine SN.out.mono ?_
  rintro _ w2 ⟨rfl, hw⟩
  subst w2
  go_wp2_with fail
  go_ret
  exact ⟨rfl, rfl⟩
theorem new_nil (w : World) (n : Int) : Calls Tryz.prog 26 #[.nilIface, .int .i64 n] w fun e w' => e = .returned (.tuple #[.pointer none, .int .i64 1]) ∧ w' = w := by
  go_enter Tryz.func26, Tryz.ntmps26
  go_wp2_with fail
  go_ret2
  exact ⟨rfl, rfl⟩
end Go.Proofs.YtcgmgdjeamidlaaGreat
