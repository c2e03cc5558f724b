/- The reply 'done': whether it may be, its form, the form read. -/
import Derived.Test.YtcgmgdjeamidlaaGreatSsH
namespace Go.Proofs.YtcgmgdjeamidlaaGreat
open Go.RowKit Go.ChangeShapes Go.WideShapes Go.ChangeAt
set_option linter.unusedVariables false
set_option linter.unusedSimpArgs false

abbrev tRp : TypeId := 41
abbrev doneCells (m : Int) : Array Value := #[.int .i64 1, .int .i64 m, .int .i64 0, .int .i64 0, .int .u64 0, .slice none 0 0, .slice none 0 0, .slice none 0 0, .slice none 0 0]
theorem eqf_nil (w : World) (fv : Value) : Calls Tryz.prog 178 #[.slice none 0 0, .slice none 0 0, fv] w fun e w' => e = .returned (.bool true) ∧ w' = w := by
  go_enter Tryz.func178, Tryz.ntmps178
  go_wp2_with fail
  refine wp_loop_rounds 1 ?_
  rw [rounds_succ]
  go_wp2_with fail
  go_ret
  exact ⟨rfl, rfl⟩
theorem eqh_nil (w : World) : Calls Tryz.prog 179 #[.slice none 0 0, .slice none 0 0] w fun e w' => e = .returned (.bool true) ∧ w' = w := by
  go_enter Tryz.func179, Tryz.ntmps179
  go_wp2_with fail
  refine wp_loop_rounds 1 ?_
  rw [rounds_succ]
  go_wp2_with fail
  go_ret
  exact ⟨rfl, rfl⟩
theorem itsame_no (w : World) : Calls Tryz.prog 177 #[.agg #[.int .u64 0, .slice none 0 0, .slice none 0 0], .agg #[.int .u64 0, .slice none 0 0, .slice none 0 0]] w fun e w' => e = .returned (.bool true) ∧ Below w.heap.size w w' := by
  have h := itsame (Rq.bare_at 0 w).it (Rq.bare_at 0 w).it
  rw [show decide ((Rq.bare 0).it.c = (Rq.bare 0).it.c) = true from decide_eq_true rfl] at h
  exact h
set_option maxRecDepth 100000 in
set_option maxHeartbeats 4000000 in
theorem sametell_done (m : Int) (w : World) : Calls Tryz.prog 117 #[.agg (doneCells m), .agg (doneCells m)] w fun e w' => e = .returned (.bool true) ∧ Below w.heap.size w w' := by
  have hmf : ∀ (fn : Fn) (first cap : Array Value) (w : World), (Instr.makeFunc fn first cap).run Tryz.prog w = .ok (.func fn first cap) w := fun _ _ _ _ => rfl
  have IS := Lib.hid itsame_no
  have mm : (m == m) = true := by simp
  have R0 := Lib.hid (Row.made w (doneCells m) tRp)
  have W1 : Hid (Below w.heap.size w ((w.alloc (.cells (doneCells m) tRp)).alloc (.cells (doneCells m) tRp))) := Lib.hid (((Below.refl _ w).alloc (Nat.le_refl _) _).alloc (by simp) _)
  have RA : Hid (Row ((w.alloc (.cells (doneCells m) tRp)).alloc (.cells (doneCells m) tRp)) w.heap.size (doneCells m) tRp) := Lib.hid (R0.out.only ((Only.refl [] _).alloc _) (by simp))
  have RB : Hid (Row ((w.alloc (.cells (doneCells m) tRp)).alloc (.cells (doneCells m) tRp)) (w.heap.size + 1) (doneCells m) tRp) := Lib.hid (by
    have h := Row.made (w.alloc (.cells (doneCells m) tRp)) (doneCells m) tRp
    rwa [World.size_alloc] at h)
  clear R0
  unfold doneCells at *
  go_enter Tryz.func117, Tryz.ntmps117
  go_wp2_with fail
  refine (IS.out _).mono ?_
  rintro _ w2 ⟨rfl, hb2⟩
  have RA2 := RA.out.only ((Only.refl [] _).below hb2) (by simp)
  have RB2 := RB.out.only ((Only.refl [] _).below hb2) (by simp)
  have B2 : Hid (Below w.heap.size w w2) := Lib.hid (W1.out.trans (hb2.mono W1.out.size))
  have l7 : w2.cell? ⟨w.heap.size, 7, none⟩ = some (.slice none 0 0) := RA2.cell 7
  have l8 : w2.cell? ⟨w.heap.size, 8, none⟩ = some (.slice none 0 0) := RA2.cell 8
  have r7 : w2.cell? ⟨w.heap.size + 1, 7, none⟩ = some (.slice none 0 0) := RB2.cell 7
  have r8 : w2.cell? ⟨w.heap.size + 1, 8, none⟩ = some (.slice none 0 0) := RB2.cell 8
  clear hb2 RA2 RB2 RA RB W1 IS
  go_wp2_with fail
  refine (eqf_nil w2 _).mono ?_
  rintro _ w3 ⟨rfl, hw3⟩
  subst w3
  go_wp2_with fail
  refine (eqh_nil w2).mono ?_
  rintro _ w3 ⟨rfl, hw3⟩
  subst w3
  go_wp2_with fail
  go_ret
  exact ⟨rfl, B2.out⟩
set_option maxRecDepth 100000 in
set_option maxHeartbeats 4000000 in
theorem maytell_done (m : Int) (h0 : 0 ≤ m) (h1 : m ≤ 7) (w : World) : Calls Tryz.prog 66 #[.agg (doneCells m)] w fun e w' => e = .returned (.bool true) ∧ Below w.heap.size w w' := by
  have ST := Lib.hid (sametell_done m)
  have d0 : decide (0 ≤ m) = true := decide_eq_true h0
  have d1 : decide (m ≤ 7) = true := decide_eq_true h1
  have W1 : Hid (∀ v, Below w.heap.size w (((w.alloc (.cells (doneCells m) tRp)).alloc (.cells v tRp)))) := Lib.hid fun v => ((Below.refl _ w).alloc (Nat.le_refl _) _).alloc (by simp) _
  unfold doneCells at *
  go_enter Tryz.func66, Tryz.ntmps66
  go_wp2_with fail
  refine (ST.out _).mono ?_
  rintro _ w2 ⟨rfl, hb2⟩
  have B2 : Hid (Below w.heap.size w w2) := Lib.hid ((W1.out _).trans (hb2.mono (W1.out _).size))
  clear hb2 ST W1
  go_wp2_with fail
  go_ret
  exact ⟨rfl, B2.out⟩
end Go.Proofs.YtcgmgdjeamidlaaGreat
