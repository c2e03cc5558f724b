/- page.find. -/
import Derived.Test.YtomhflkjnldeoaaPgK
import Derived.Test.YtomhflkjnldeoaaDkH
namespace Go.Proofs.Ytomhflkjnldeoaa
open Go.RowKit Go.ChangeShapes Go.WideShapes Go.ChangeAt
open Go.Proofs.Ytomhflkjnldeoaa.dk (Dk Dev sectors_at)
set_option linter.unusedVariables false

theorem results_place {fn : Func} {p u : Tmp} (h : fn.results = #[.cell p 73, .tmp u]) (tmps : Array Value) (w : World) (g : Nat) (a b : Value) (hp : tmps.getD p undef = .pointer (some ⟨g, 0, none⟩)) (hg : Row w g #[a, b] 73) : (results fn tmps).run Try.prog w = .ok (.tuple #[.agg #[a, b], tmps.getD u undef]) w := by
  rw [results_cell_tmp h, hp]
  simp [asAddr, Result.andThen, run_loadVar_row w g _ _ _ _ _ hg Try.underlying73 rfl (by kernel_rfl)]
/-- Where page n lies. -/
def Lies (s b n : Int) : Prop := 0 ≤ b ∧ 0 ≤ n ∧ b ≤ s ∧ n < (s - b) / 4
instance (s b n : Int) : Decidable (Lies s b n) := inferInstanceAs (Decidable (_ ∧ _))
def FoundPost (q : Value) (k e0 : Int) (w : World) (e : Ending) (w' : World) : Prop := e = .returned (.tuple #[.agg #[q, .int .i64 k], .int .i64 e0]) ∧ Only [] w w'
theorem sectors_dev {W w : World} {p : Nat} {D : Dk} {F : List Nat} (h : Dev W w p D F) : Calls Try.prog 51 #[.pointer (some ⟨p, 0, none⟩)] w fun e w' => e = .returned (.int .i64 D.sectors) ∧ w' = w := by
  obtain ⟨bl, bw, bn, hd, rfl, hB⟩ := h.dk
  exact sectors_at w p bl bw bn D hd
theorem sectors_nil (w : World) : Calls Try.prog 51 #[.pointer none] w fun e w' => e = .returned (.int .i64 0) ∧ w' = w := by
  go_enter Try.func51, Try.ntmps51
  go_wp2
  go_ret
  exact ⟨rfl, rfl⟩
set_option maxHeartbeats 2000000 in
theorem find_ok {W w : World} {p : Nat} {D : Dk} {F : List Nat} (h : Dev W w p D F) (b n : Int) (hl : Lies D.sectors b n) :
    Calls Try.prog 36 #[.pointer (some ⟨p, 0, none⟩), .int .i64 b, .int .i64 n] w (FoundPost (.pointer (some ⟨p, 0, none⟩)) (b + 4 * n) 0 w) := by
  obtain ⟨l0, l1, l2, l3⟩ := hl
  have s1 := h.fine.s1
  have s0 := h.fine.s0
  have SD := Lib.hid fun x (k : Only [] w x) => sectors_dev (h.none k)
  obtain ⟨s, hs⟩ : ∃ s, D.sectors = s := ⟨_, rfl⟩
  rw [hs] at SD s0 s1 l2 l3
  clear hs h
  have d1 : decide (b < 0) = false := decide_eq_false (by omega)
  have d2 : decide (n < 0) = false := decide_eq_false (by omega)
  have d3 : decide (s < b) = false := decide_eq_false (by omega)
  have e0 : (s == 0) = false := by simp; omega
  have d0 : decide (s = 0) = false := decide_eq_false (by omega)
  have e1 : IntKind.i64.wrap (s - b) = s - b := IntWalk.i64_in _ (by omega)
  have e2 : (s - b).tdiv 4 = (s - b) / 4 := Int.tdiv_eq_ediv_of_nonneg (by omega)
  have e3 : IntKind.i64.wrap ((s - b) / 4) = (s - b) / 4 := IntWalk.i64_in _ (by omega)
  have d4 : decide ((s - b) / 4 ≤ n) = false := decide_eq_false (by omega)
  have e4 : IntKind.i64.wrap (4 * n) = 4 * n := IntWalk.i64_in _ (by omega)
  have e5 : IntKind.i64.wrap (b + 4 * n) = b + 4 * n := IntWalk.i64_in _ (by omega)
  have Q := Lib.hid s1
  clear s0 s1 l0 l1 l2 l3
  go_enter Try.func36, Try.ntmps36
  go_wp2_with fail
  refine (SD.out _ ((Only.refl [] _).alloc _)).mono ?_
  rintro _ w1 ⟨rfl, hw1⟩
  subst hw1
  go_wp2_with fail
  refine bodyPost_ret (results_place rfl _ _ w.heap.size (.pointer (some ⟨p, 0, none⟩)) (.int .i64 (b + 4 * n)) rfl (Row.made w _ _)) rfl ?_
  exact ⟨rfl, (Only.refl [] _).alloc _⟩
set_option maxHeartbeats 4000000 in
theorem find_bad {W w : World} {p : Nat} {D : Dk} {F : List Nat} (h : Dev W w p D F) (b n : Int) (hs1 : 1 ≤ D.sectors) (hb : -9223372036854775808 ≤ b ∧ b ≤ 9223372036854775807) (hl : ¬ Lies D.sectors b n) :
    Calls Try.prog 36 #[.pointer (some ⟨p, 0, none⟩), .int .i64 b, .int .i64 n] w (FoundPost (.pointer none) 0 2 w) := by
  have s1 := h.fine.s1
  have SD := Lib.hid fun x (k : Only [] w x) => sectors_dev (h.none k)
  obtain ⟨s, hs⟩ : ∃ s, D.sectors = s := ⟨_, rfl⟩
  rw [hs] at SD hs1 s1 hl
  clear hs h
  have e0 : (s == 0) = false := by simp; omega
  have d0 : decide (s = 0) = false := decide_eq_false (by omega)
  by_cases q1 : b < 0
  · have d1 : decide (b < 0) = true := decide_eq_true q1
    clear hl s1 hs1 hb
    go_enter Try.func36, Try.ntmps36
    go_wp2_with fail
    refine (SD.out _ ((Only.refl [] _).alloc _)).mono ?_
    rintro _ w1 ⟨rfl, hw1⟩
    subst hw1
    go_wp2_with fail
    refine bodyPost_ret (results_place rfl _ _ w.heap.size (.pointer none) (.int .i64 0) rfl (Row.made w _ _)) rfl ?_
    exact ⟨rfl, (Only.refl [] _).alloc _⟩
  · have d1 : decide (b < 0) = false := decide_eq_false q1
    by_cases q2 : n < 0
    · have d2 : decide (n < 0) = true := decide_eq_true q2
      clear hl s1 hs1 hb q1
      go_enter Try.func36, Try.ntmps36
      go_wp2_with fail
      refine (SD.out _ ((Only.refl [] _).alloc _)).mono ?_
      rintro _ w1 ⟨rfl, hw1⟩
      subst hw1
      go_wp2_with fail
      refine bodyPost_ret (results_place rfl _ _ w.heap.size (.pointer none) (.int .i64 0) rfl (Row.made w _ _)) rfl ?_
      exact ⟨rfl, (Only.refl [] _).alloc _⟩
    · have d2 : decide (n < 0) = false := decide_eq_false q2
      by_cases q3 : s < b
      · have d3 : decide (s < b) = true := decide_eq_true q3
        clear hl s1 hs1 hb q1 q2
        go_enter Try.func36, Try.ntmps36
        go_wp2_with fail
        refine (SD.out _ ((Only.refl [] _).alloc _)).mono ?_
        rintro _ w1 ⟨rfl, hw1⟩
        subst hw1
        go_wp2_with fail
        refine bodyPost_ret (results_place rfl _ _ w.heap.size (.pointer none) (.int .i64 0) rfl (Row.made w _ _)) rfl ?_
        exact ⟨rfl, (Only.refl [] _).alloc _⟩
      · have d3 : decide (s < b) = false := decide_eq_false q3
        have q4 : (s - b) / 4 ≤ n := by
          unfold Lies at hl
          omega
        have e1 : IntKind.i64.wrap (s - b) = s - b := IntWalk.i64_in _ (by omega)
        have e2 : (s - b).tdiv 4 = (s - b) / 4 := Int.tdiv_eq_ediv_of_nonneg (by omega)
        have e3 : IntKind.i64.wrap ((s - b) / 4) = (s - b) / 4 := IntWalk.i64_in _ (by omega)
        have d4 : decide ((s - b) / 4 ≤ n) = true := decide_eq_true q4
        clear hl s1 hs1 hb q1 q2 q3
        go_enter Try.func36, Try.ntmps36
        go_wp2_with fail
        refine (SD.out _ ((Only.refl [] _).alloc _)).mono ?_
        rintro _ w1 ⟨rfl, hw1⟩
        subst hw1
        go_wp2_with fail
        refine bodyPost_ret (results_place rfl _ _ w.heap.size (.pointer none) (.int .i64 0) rfl (Row.made w _ _)) rfl ?_
        exact ⟨rfl, (Only.refl [] _).alloc _⟩
theorem find_nil (b n : Int) (w : World) : Calls Try.prog 36 #[.pointer none, .int .i64 b, .int .i64 n] w (FoundPost (.pointer none) 0 1 w) := by
  have SD := Lib.hid fun x => sectors_nil x
  go_enter Try.func36, Try.ntmps36
  go_wp2_with fail
  refine (SD.out _).mono ?_
  rintro _ w1 ⟨rfl, hw1⟩
  subst hw1
  go_wp2_with fail
  refine bodyPost_ret (results_place rfl _ _ w.heap.size (.pointer none) (.int .i64 0) rfl (Row.made w _ _)) rfl ?_
  exact ⟨rfl, (Only.refl [] _).alloc _⟩
end Go.Proofs.Ytomhflkjnldeoaa
