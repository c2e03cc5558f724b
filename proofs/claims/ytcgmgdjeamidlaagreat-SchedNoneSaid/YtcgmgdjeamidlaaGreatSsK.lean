/- ReadTell of the form of 'done' (printed by gen_ssk.py). -/
import Derived.Test.YtcgmgdjeamidlaaGreatSsJ
namespace Go.Proofs.YtcgmgdjeamidlaaGreat
open Go.RowKit Go.ChangeShapes Go.WideShapes Go.ChangeAt
set_option linter.unusedVariables false
set_option linter.unusedSimpArgs false

theorem results_rp_tmp {fn : Func} {p u : Tmp} (h : fn.results = #[.cell p tRp, .tmp u]) (tmps : Array Value) (w : World) (g : Nat) (R : Array Value) (hR : R.size = 9) (hp : tmps.getD p undef = .pointer (some ⟨g, 0, none⟩)) (hg : Row w g R tRp) : (results fn tmps).run Tryz.prog w = .ok (.tuple #[.agg R, tmps.getD u undef]) w := by
  have hp' : tmps[p]?.getD undef = .pointer (some ⟨g, 0, none⟩) := by simpa using hp
  simp only [results, h]
  simp [Sem.run_bind, hp', asAddr, Result.andThen, run_loadVar_row w g _ _ _ _ _ hg Tryz.underlying41 rfl (by rw [show (Tryz.prog.info? tRp).map (·.size) = some 9 from by kernel_rfl, hR])]
def ReadDoneTo (m : Int) (w : World) (e : Ending) (w' : World) : Prop := e = .returned (.tuple #[.agg (doneCells m), .int .i64 0]) ∧ Below w.heap.size w w'
set_option maxRecDepth 100000 in
set_option maxHeartbeats 4000000 in
theorem readtell_done {s : Sl} {w : World} (m : Int) (h0 : 0 ≤ m) (h1 : m ≤ 7) (h : SlRd .u8 w s) (hx : s.xs = [1, m]) : Calls Tryz.prog 59 #[s.v] w (ReadDoneTo m w) := by
  have HM := Lib.hid (And.intro h0 h1)
  have HS := Lib.hid (And.intro h hx)
  have NR := Lib.hid fun (y : World) (hy : Below w.heap.size w y) => newrd_on (h.only ((Only.refl [] w).below hy) (by simp))
  have TD := Lib.hid (tell_done m h0 h1)
  have wk : IntKind.i64.wrap m = m := IntWalk.i64_in _ (by omega)
  unfold NewRdTo at NR
  unfold AskTo at TD
  rw [hx] at NR
  have B1 : Hid (Below w.heap.size w (w.alloc (.cells #[.int .i64 0, .int .i64 0, .int .i64 0, .int .i64 0, .int .u64 0, .slice none 0 0, .slice none 0 0, .slice none 0 0, .slice none 0 0] tRp))) := Lib.hid ((Below.refl _ w).alloc (Nat.le_refl _) _)
  have R2 := Lib.hid (Row.made w #[.int .i64 0, .int .i64 0, .int .i64 0, .int .i64 0, .int .u64 0, .slice none 0 0, .slice none 0 0, .slice none 0 0, .slice none 0 0] tRp)
  have ES : Hid (s.v = .slice s.a 2 s.c) := Lib.hid (by unfold Sl.v; rw [hx]; rfl)
  rw [ES.out] at NR ⊢
  clear h hx h0 h1
  go_enter Tryz.func59, Tryz.ntmps59
  go_wp2_with fail
  refine (NR.out _ B1.out).mono ?_
  generalize w.alloc (.cells #[.int .i64 0, .int .i64 0, .int .i64 0, .int .i64 0, .int .u64 0, .slice none 0 0, .slice none 0 0, .slice none 0 0, .slice none 0 0] tRp) = w1 at *
  rintro _ w2 ⟨r, rfl, hr, hb2, hr2⟩
  have O12 : Hid (Only [] w1 w2) := Lib.hid ((Only.refl [] w1).below hb2)
  have HR := Lib.hid (And.intro hr hr2)
  clear hr hb2 hr2 NR
  go_wp2_with fail
  have U8 := Lib.hid (u8_first (x := 1) (xs := [m]) (HR.out.1.below ((Below.refl _ w2).alloc (Nat.le_refl _) (.cells #[.pointer (some ⟨r, 0, none⟩)] 191))) (by omega))
  have R4 := Lib.hid (Row.made w2 #[.pointer (some ⟨r, 0, none⟩)] 191)
  have O24 : Hid (Only [] w2 (w2.alloc (.cells #[.pointer (some ⟨r, 0, none⟩)] 191))) := Lib.hid ((Only.refl [] w2).alloc _)
  unfold U8To at U8
  refine U8.out.mono ?_
  generalize w2.alloc (.cells #[.pointer (some ⟨r, 0, none⟩)] 191) = w3 at *
  rintro _ w4 ⟨rfl, hr4, h4⟩
  have O34 : Hid (Only [r] w3 w4) := Lib.hid h4
  have HR4 := Lib.hid hr4
  clear hr4 h4 U8
  obtain ⟨g5, hg5⟩ : ∃ g5, w4.heap.size = g5 := ⟨_, rfl⟩
  have G5 := Lib.hid hg5
  have R5 : Hid (Row (w4.alloc (.cells #[.int .i64 1, .int .i64 0, .int .i64 0, .int .i64 0, .int .u64 0, .slice none 0 0, .slice none 0 0, .slice none 0 0, .slice none 0 0] tRp)) g5 #[.int .i64 1, .int .i64 0, .int .i64 0, .int .i64 0, .int .u64 0, .slice none 0 0, .slice none 0 0, .slice none 0 0, .slice none 0 0] tRp) := Lib.hid (by rw [← hg5]; exact Row.made w4 _ _)
  have O45 : Hid (Only [] w4 (w4.alloc (.cells #[.int .i64 1, .int .i64 0, .int .i64 0, .int .i64 0, .int .u64 0, .slice none 0 0, .slice none 0 0, .slice none 0 0, .slice none 0 0] tRp))) := Lib.hid ((Only.refl [] w4).alloc _)
  have p5 : (w4.alloc (.cells #[.int .i64 1, .int .i64 0, .int .i64 0, .int .i64 0, .int .u64 0, .slice none 0 0, .slice none 0 0, .slice none 0 0, .slice none 0 0] tRp)).cell? ⟨w2.heap.size, 0, none⟩ = some (.pointer (some ⟨r, 0, none⟩)) := ((R4.out.only O34.out (by simp; have h := HR.out.1.at_; obtain ⟨_, _, hrow, _⟩ := h; have := hrow.lt; omega)).only O45.out (by simp)).cell 0
  have U9 := Lib.hid (u8_first (x := m) (xs := []) (HR4.out.only O45.out (by simp)) (by have := HM.out; omega))
  unfold U8To at U9
  go_wp2_with fail
  refine U9.out.mono ?_
  generalize w4.alloc (.cells #[.int .i64 1, .int .i64 0, .int .i64 0, .int .i64 0, .int .u64 0, .slice none 0 0, .slice none 0 0, .slice none 0 0, .slice none 0 0] tRp) = w5 at *
  rintro _ w6 ⟨rfl, hr6, h6⟩
  have O56 : Hid (Only [r] w5 w6) := Lib.hid h6
  have NR5 : Hid (g5 ≠ r) := Lib.hid (by obtain ⟨_, _, hrow, _⟩ := HR4.out.at_; have := hrow.lt; have := G5.out; omega)
  have R6 := Lib.hid (R5.out.only O56.out (by simp; exact NR5.out))
  have f61 := R6.out.free 1
  have z61 : w6.cell? ⟨g5, 1, none⟩ = some (.int .i64 0) := R6.out.cell 1
  have R7 : Hid (Row (w6.setCell ⟨g5, 1, none⟩ (.int .i64 m)) g5 #[.int .i64 1, .int .i64 m, .int .i64 0, .int .i64 0, .int .u64 0, .slice none 0 0, .slice none 0 0, .slice none 0 0, .slice none 0 0] tRp) := Lib.hid (by simpa using R6.out.set 1 (.int .i64 m))
  have O67 : Hid (Only [g5] w6 (w6.setCell ⟨g5, 1, none⟩ (.int .i64 m))) := Lib.hid ((Only.refl [g5] w6).setCell (.inl (by simp)) _)
  have lk0 : (w6.setCell ⟨g5, 1, none⟩ (.int .i64 m)).cell? ⟨g5, 0, none⟩ = some (.int .i64 1) := R7.out.cell 0
  have lk1 : (w6.setCell ⟨g5, 1, none⟩ (.int .i64 m)).cell? ⟨g5, 1, none⟩ = some (.int .i64 m) := R7.out.cell 1
  have lk2 : (w6.setCell ⟨g5, 1, none⟩ (.int .i64 m)).cell? ⟨g5, 2, none⟩ = some (.int .i64 0) := R7.out.cell 2
  have lk3 : (w6.setCell ⟨g5, 1, none⟩ (.int .i64 m)).cell? ⟨g5, 3, none⟩ = some (.int .i64 0) := R7.out.cell 3
  have lk4 : (w6.setCell ⟨g5, 1, none⟩ (.int .i64 m)).cell? ⟨g5, 4, none⟩ = some (.int .u64 0) := R7.out.cell 4
  have lk5 : (w6.setCell ⟨g5, 1, none⟩ (.int .i64 m)).cell? ⟨g5, 5, none⟩ = some (.slice none 0 0) := R7.out.cell 5
  have lk6 : (w6.setCell ⟨g5, 1, none⟩ (.int .i64 m)).cell? ⟨g5, 6, none⟩ = some (.slice none 0 0) := R7.out.cell 6
  have lk7 : (w6.setCell ⟨g5, 1, none⟩ (.int .i64 m)).cell? ⟨g5, 7, none⟩ = some (.slice none 0 0) := R7.out.cell 7
  have lk8 : (w6.setCell ⟨g5, 1, none⟩ (.int .i64 m)).cell? ⟨g5, 8, none⟩ = some (.slice none 0 0) := R7.out.cell 8
  have O1 : Hid (Only [] w1 (w6.setCell ⟨g5, 1, none⟩ (.int .i64 m))) := Lib.hid (by
    have hr := HR.out.2
    have h1 : Only [] w1 w3 := (O12.out.trans O24.out (by simp))
    have h2 : Only [] w1 w4 := h1.trans O34.out (by intro i hi; right; simp at hi; omega)
    have h3 : Only [] w1 w5 := h2.trans O45.out (by simp)
    have h4 : Only [] w1 w6 := h3.trans O56.out (by intro i hi; right; simp at hi; omega)
    exact h4.trans O67.out (by intro i hi; right; simp at hi; have := h2.size; have := G5.out; omega))
  have R2' := Lib.hid (R2.out.only O1.out (by simp))
  have BM : Hid (Below w.heap.size w (w6.setCell ⟨g5, 1, none⟩ (.int .i64 m))) := Lib.hid (B1.out.trans (O1.out.toBelow B1.out.size (by simp)))
  have TD7 := Lib.hid (TD.out (w6.setCell ⟨g5, 1, none⟩ (.int .i64 m)))
  unfold doneCells at TD7
  clear R2 O1 O12 O24 O34 O45 O56 O67 TD B1 R4 HR HR4 R5 R6 U9 hr6 h6 p5
  go_wp2_with fail
  refine TD7.out.mono ?_
  generalize w6.setCell ⟨g5, 1, none⟩ (.int .i64 m) = w7 at *
  rintro _ w8 ⟨v, rfl, ho, hb8⟩
  have K8 := (Only.refl [] w7).below hb8
  have RL8 := Lib.hid (R7.out.only K8 (by simp))
  have R2'' := Lib.hid (R2'.out.only K8 (by simp))
  have B8 : Hid (Below w.heap.size w w8) := Lib.hid (BM.out.trans (hb8.mono BM.out.size))
  obtain ⟨s2, rfl, e2, hs2, _, _⟩ := own_sl ho (by simp)
  have BE := Lib.hid (byeq hs2 (HS.out.1.only ((Only.refl [] w).below B8.out) (by simp)) (by rw [e2]; intro x hx; simp at hx; rcases hx with rfl | rfl <;> (have := HM.out; omega)) (by rw [HS.out.2]; intro x hx; simp at hx; rcases hx with rfl | rfl <;> (have := HM.out; omega)))
  rw [show decide (s2.xs = s.xs) = true from decide_eq_true (by rw [e2, HS.out.2]), ES.out] at BE
  obtain ⟨v2, hv2⟩ : ∃ v2, s2.v = v2 := ⟨_, rfl⟩
  rw [hv2] at BE ⊢
  clear hv2 hs2 e2 ho hb8 K8 TD7 R2' R7 lk0 lk1 lk2 lk3 lk4 lk5 lk6 lk7 lk8 f61 z61
  go_wp2_with fail
  refine BE.out.mono ?_
  rintro _ w9 ⟨rfl, hb9⟩
  have K9 := (Only.refl [] w8).below hb9
  have B9 : Hid (Below w.heap.size w w9) := Lib.hid (B8.out.trans (hb9.mono B8.out.size))
  have RL9 := RL8.out.only K9 (by simp)
  have R29 := R2''.out.only K9 (by simp)
  have n0 : w9.cell? ⟨g5, 0, none⟩ = some (.int .i64 1) := RL9.cell 0
  have z0 : w9.cell? ⟨w.heap.size, 0, none⟩ = some (.int .i64 0) := R29.cell 0
  have f0 := R29.free 0
  have n1 : w9.cell? ⟨g5, 1, none⟩ = some (.int .i64 m) := RL9.cell 1
  have z1 : w9.cell? ⟨w.heap.size, 1, none⟩ = some (.int .i64 0) := R29.cell 1
  have f1 := R29.free 1
  have n2 : w9.cell? ⟨g5, 2, none⟩ = some (.int .i64 0) := RL9.cell 2
  have z2 : w9.cell? ⟨w.heap.size, 2, none⟩ = some (.int .i64 0) := R29.cell 2
  have f2 := R29.free 2
  have n3 : w9.cell? ⟨g5, 3, none⟩ = some (.int .i64 0) := RL9.cell 3
  have z3 : w9.cell? ⟨w.heap.size, 3, none⟩ = some (.int .i64 0) := R29.cell 3
  have f3 := R29.free 3
  have n4 : w9.cell? ⟨g5, 4, none⟩ = some (.int .u64 0) := RL9.cell 4
  have z4 : w9.cell? ⟨w.heap.size, 4, none⟩ = some (.int .u64 0) := R29.cell 4
  have f4 := R29.free 4
  have n5 : w9.cell? ⟨g5, 5, none⟩ = some (.slice none 0 0) := RL9.cell 5
  have z5 : w9.cell? ⟨w.heap.size, 5, none⟩ = some (.slice none 0 0) := R29.cell 5
  have f5 := R29.free 5
  have n6 : w9.cell? ⟨g5, 6, none⟩ = some (.slice none 0 0) := RL9.cell 6
  have z6 : w9.cell? ⟨w.heap.size, 6, none⟩ = some (.slice none 0 0) := R29.cell 6
  have f6 := R29.free 6
  have n7 : w9.cell? ⟨g5, 7, none⟩ = some (.slice none 0 0) := RL9.cell 7
  have z7 : w9.cell? ⟨w.heap.size, 7, none⟩ = some (.slice none 0 0) := R29.cell 7
  have f7 := R29.free 7
  have n8 : w9.cell? ⟨g5, 8, none⟩ = some (.slice none 0 0) := RL9.cell 8
  have z8 : w9.cell? ⟨w.heap.size, 8, none⟩ = some (.slice none 0 0) := R29.cell 8
  have f8 := R29.free 8
  have NE : Hid (Row (((((((((w9.setCell ⟨w.heap.size, 0, none⟩ (.int .i64 1)).setCell ⟨w.heap.size, 1, none⟩ (.int .i64 m)).setCell ⟨w.heap.size, 2, none⟩ (.int .i64 0)).setCell ⟨w.heap.size, 3, none⟩ (.int .i64 0)).setCell ⟨w.heap.size, 4, none⟩ (.int .u64 0)).setCell ⟨w.heap.size, 5, none⟩ (.slice none 0 0)).setCell ⟨w.heap.size, 6, none⟩ (.slice none 0 0)).setCell ⟨w.heap.size, 7, none⟩ (.slice none 0 0)).setCell ⟨w.heap.size, 8, none⟩ (.slice none 0 0)) w.heap.size (doneCells m) tRp ∧ Below w.heap.size w (((((((((w9.setCell ⟨w.heap.size, 0, none⟩ (.int .i64 1)).setCell ⟨w.heap.size, 1, none⟩ (.int .i64 m)).setCell ⟨w.heap.size, 2, none⟩ (.int .i64 0)).setCell ⟨w.heap.size, 3, none⟩ (.int .i64 0)).setCell ⟨w.heap.size, 4, none⟩ (.int .u64 0)).setCell ⟨w.heap.size, 5, none⟩ (.slice none 0 0)).setCell ⟨w.heap.size, 6, none⟩ (.slice none 0 0)).setCell ⟨w.heap.size, 7, none⟩ (.slice none 0 0)).setCell ⟨w.heap.size, 8, none⟩ (.slice none 0 0))) := Lib.hid ⟨by
    have h := (((((((((R29.set 0 (.int .i64 1)).set 1 (.int .i64 m)).set 2 (.int .i64 0)).set 3 (.int .i64 0)).set 4 (.int .u64 0)).set 5 (.slice none 0 0)).set 6 (.slice none 0 0)).set 7 (.slice none 0 0)).set 8 (.slice none 0 0))
    simpa using h, by
    have h : Only [w.heap.size] w9 (((((((((w9.setCell ⟨w.heap.size, 0, none⟩ (.int .i64 1)).setCell ⟨w.heap.size, 1, none⟩ (.int .i64 m)).setCell ⟨w.heap.size, 2, none⟩ (.int .i64 0)).setCell ⟨w.heap.size, 3, none⟩ (.int .i64 0)).setCell ⟨w.heap.size, 4, none⟩ (.int .u64 0)).setCell ⟨w.heap.size, 5, none⟩ (.slice none 0 0)).setCell ⟨w.heap.size, 6, none⟩ (.slice none 0 0)).setCell ⟨w.heap.size, 7, none⟩ (.slice none 0 0)).setCell ⟨w.heap.size, 8, none⟩ (.slice none 0 0)) := ((((((((((Only.refl [w.heap.size] w9).setCell (.inl (by simp)) _).setCell (.inl (by simp)) _).setCell (.inl (by simp)) _).setCell (.inl (by simp)) _).setCell (.inl (by simp)) _).setCell (.inl (by simp)) _).setCell (.inl (by simp)) _).setCell (.inl (by simp)) _).setCell (.inl (by simp)) _)
    exact B9.out.trans (h.toBelow B9.out.size (by simp))⟩
  clear BE hb9 K9 RL9 R29 RL8 R2''
  go_wp2_with fail
  refine bodyPost_ret (results_rp_tmp rfl _ _ w.heap.size (doneCells m) rfl rfl NE.out.1) rfl ?_
  exact ⟨rfl, NE.out.2⟩
end Go.Proofs.YtcgmgdjeamidlaaGreat
