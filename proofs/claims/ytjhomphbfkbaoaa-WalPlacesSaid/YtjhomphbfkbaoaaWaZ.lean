/- wal: what is refused; a log that is not there. -/
import Derived.Test.YtjhomphbfkbaoaaWaY
import Derived.Test.YtjhomphbfkbaoaaWaR
namespace Go.Proofs.Ytjhomphbfkbaoaa
open Go.RowKit Go.ChangeShapes Go.WideShapes Go.ChangeAt
open Go.Proofs.Ytjhomphbfkbaoaa.dk (Dk Dev)
set_option linter.unusedVariables false

theorem append_nil (R : Array Value) (w : World) : Calls Try.prog 12 #[.pointer none, .agg R] w fun e w' => e = .returned (.tuple #[.int .u64 0, .int .i64 1]) ∧ Below w.heap.size w w' := by
  go_enter Try.func12, Try.ntmps12
  go_wp2_with fail
  refine (there_nil _).mono ?_
  rintro _ w2 ⟨rfl, hw2⟩
  subst hw2
  go_wp2_with fail
  go_ret2
  exact ⟨rfl, (Below.refl _ _).alloc (Nat.le_refl _) _⟩
set_option maxRecDepth 100000 in
theorem lread_nil (x : Int) (w : World) : Calls Try.prog 15 #[.pointer none, .int .u64 x] w fun e w' => e = .returned (.tuple #[.agg #[.int .i64 0, .int .u64 0, .int .u32 0, .int .u64 0, .int .u32 0, .int .u16 0, .slice none 0 0, .slice none 0 0, .slice none 0 0, .int .u64 0, .int .u64 0, .bool false, .int .u64 0, .slice none 0 0, .slice none 0 0], .int .u64 0, .int .i64 1]) ∧ Below w.heap.size w w' := by
  go_enter Try.func15, Try.ntmps15
  go_wp2_with fail
  refine (there_nil _).mono ?_
  rintro _ w2 ⟨rfl, hw2⟩
  subst hw2
  go_wp2_with fail
  refine bodyPost_ret (results_rec3 rfl _ _ w.heap.size rec0 rfl rfl ?_) rfl ?_
  · exact Row.made _ _ _
  · exact ⟨rfl, (Below.refl _ _).alloc (Nat.le_refl _) _⟩
set_option maxRecDepth 100000 in
theorem flush_nil (w : World) : Calls Try.prog 13 #[.pointer none] w fun e w' => e = .returned (.int .i64 1) ∧ w' = w := by
  go_enter Try.func13, Try.ntmps13
  go_wp2_with fail
  refine (there_nil _).mono ?_
  rintro _ w2 ⟨rfl, hw2⟩
  subst hw2
  go_wp2_with fail
  go_ret
  exact ⟨rfl, rfl⟩
set_option maxRecDepth 100000 in
theorem master_nil (x y : Int) (w : World) : Calls Try.prog 14 #[.pointer none, .int .u64 x, .int .u64 y] w fun e w' => e = .returned (.int .i64 1) ∧ w' = w := by
  go_enter Try.func14, Try.ntmps14
  go_wp2_with fail
  refine (there_nil _).mono ?_
  rintro _ w2 ⟨rfl, hw2⟩
  subst hw2
  go_wp2_with fail
  go_ret
  exact ⟨rfl, rfl⟩
theorem start_nil (w : World) : Calls Try.prog 17 #[.pointer none] w fun e w' => e = .returned (.int .u64 0) ∧ w' = w := by
  go_enter Try.func17, Try.ntmps17
  go_wp2_with fail
  go_ret
  exact ⟨rfl, rfl⟩
theorem end_nil (w : World) : Calls Try.prog 11 #[.pointer none] w fun e w' => e = .returned (.int .u64 0) ∧ w' = w := by
  go_enter Try.func11, Try.ntmps11
  go_wp2_with fail
  go_ret
  exact ⟨rfl, rfl⟩
theorem flushed_nil (w : World) : Calls Try.prog 20 #[.pointer none] w fun e w' => e = .returned (.int .u64 0) ∧ w' = w := by
  go_enter Try.func20, Try.ntmps20
  go_wp2_with fail
  go_ret
  exact ⟨rfl, rfl⟩
theorem point_nil (w : World) : Calls Try.prog 21 #[.pointer none] w fun e w' => e = .returned (.int .u64 0) ∧ w' = w := by
  go_enter Try.func21, Try.ntmps21
  go_wp2_with fail
  go_ret
  exact ⟨rfl, rfl⟩
theorem epoch_nil (w : World) : Calls Try.prog 19 #[.pointer none] w fun e w' => e = .returned (.int .u32 0) ∧ w' = w := by
  go_enter Try.func19, Try.ntmps19
  go_wp2_with fail
  go_ret
  exact ⟨rfl, rfl⟩
theorem left_nil (w : World) : Calls Try.prog 10 #[.pointer none] w fun e w' => e = .returned (.int .i64 0) ∧ w' = w := by
  go_enter Try.func10, Try.ntmps10
  go_wp2_with fail
  go_ret
  exact ⟨rfl, rfl⟩
theorem start_on {w : World} {q p : Nat} {L : Lg} {tail : Value} (h : LgRow w q L p tail) : Calls Try.prog 17 #[.pointer (some ⟨q, 0, none⟩)] w fun e w' => e = .returned (.int .u64 L.st) ∧ w' = w := by
  have c8 : w.cell? ⟨q, 5, none⟩ = some (.int .u64 L.st) := h.cell 5
  clear h
  go_enter Try.func17, Try.ntmps17
  go_wp2_with fail
  go_ret
  exact ⟨rfl, rfl⟩
theorem flushed_on {w : World} {q p : Nat} {L : Lg} {tail : Value} (h : LgRow w q L p tail) : Calls Try.prog 20 #[.pointer (some ⟨q, 0, none⟩)] w fun e w' => e = .returned (.int .u64 L.fl) ∧ w' = w := by
  have c8 : w.cell? ⟨q, 9, none⟩ = some (.int .u64 L.fl) := h.cell 9
  clear h
  go_enter Try.func20, Try.ntmps20
  go_wp2_with fail
  go_ret
  exact ⟨rfl, rfl⟩
theorem point_on {w : World} {q p : Nat} {L : Lg} {tail : Value} (h : LgRow w q L p tail) : Calls Try.prog 21 #[.pointer (some ⟨q, 0, none⟩)] w fun e w' => e = .returned (.int .u64 L.pt) ∧ w' = w := by
  have c8 : w.cell? ⟨q, 6, none⟩ = some (.int .u64 L.pt) := h.cell 6
  clear h
  go_enter Try.func21, Try.ntmps21
  go_wp2_with fail
  go_ret
  exact ⟨rfl, rfl⟩
theorem epoch_on {w : World} {q p : Nat} {L : Lg} {tail : Value} (h : LgRow w q L p tail) : Calls Try.prog 19 #[.pointer (some ⟨q, 0, none⟩)] w fun e w' => e = .returned (.int .u32 L.ep) ∧ w' = w := by
  have c8 : w.cell? ⟨q, 4, none⟩ = some (.int .u32 L.ep) := h.cell 4
  clear h
  go_enter Try.func19, Try.ntmps19
  go_wp2_with fail
  go_ret
  exact ⟨rfl, rfl⟩
set_option maxHeartbeats 4000000 in
theorem wfind_bad {W w : World} {p : Nat} {D : Dk} {F : List Nat} (h : Dev W w p D F) (at_ count : Int) (ha : -9223372036854775808 ≤ at_ ∧ at_ ≤ 9223372036854775807) (hn : 1 ≤ D.sectors) (hl : ¬ LogAt D.sectors at_ count) :
    Calls Try.prog 24 #[.pointer (some ⟨p, 0, none⟩), .int .i64 at_, .int .i64 count] w (fun e w' => e = .returned (.tuple #[.pointer none, .int .i64 2]) ∧ w' = w) := by
  unfold LogAt at hl
  have s1 := h.fine.s1
  have SD := Lib.hid (sectors_dev h)
  obtain ⟨s, hs⟩ : ∃ s, D.sectors = s := ⟨_, rfl⟩
  rw [hs] at SD s1 hl hn
  clear hs h
  have e0 : (s == 0) = false := by simp; omega
  have d0 : decide (s = 0) = false := decide_eq_false (by omega)
  by_cases d1' : count < 16
  · have d1 : decide (count < 16) = true := decide_eq_true d1'
    clear d1'
    clear hl s1 hn
    go_enter Try.func24, Try.ntmps24
    go_wp2_with fail
    refine SD.out.mono ?_
    rintro _ w1 ⟨rfl, hw1⟩
    subst hw1
    go_wp2_with fail
    go_ret2
    exact ⟨rfl, rfl⟩
  · have d1 : decide (count < 16) = false := decide_eq_false d1'
    by_cases d2' : 8192 < count
    · have d2 : decide (8192 < count) = true := decide_eq_true d2'
      clear d2'
      clear hl s1 hn
      go_enter Try.func24, Try.ntmps24
      go_wp2_with fail
      refine SD.out.mono ?_
      rintro _ w1 ⟨rfl, hw1⟩
      subst hw1
      go_wp2_with fail
      go_ret2
      exact ⟨rfl, rfl⟩
    · have d2 : decide (8192 < count) = false := decide_eq_false d2'
      by_cases d3' : at_ < 0
      · have d3 : decide (at_ < 0) = true := decide_eq_true d3'
        clear d3'
        clear hl s1 hn
        go_enter Try.func24, Try.ntmps24
        go_wp2_with fail
        refine SD.out.mono ?_
        rintro _ w1 ⟨rfl, hw1⟩
        subst hw1
        go_wp2_with fail
        go_ret2
        exact ⟨rfl, rfl⟩
      · have d3 : decide (at_ < 0) = false := decide_eq_false d3'
        by_cases d4' : s < at_
        · have d4 : decide (s < at_) = true := decide_eq_true d4'
          clear d4'
          clear hl s1 hn
          go_enter Try.func24, Try.ntmps24
          go_wp2_with fail
          refine SD.out.mono ?_
          rintro _ w1 ⟨rfl, hw1⟩
          subst hw1
          go_wp2_with fail
          go_ret2
          exact ⟨rfl, rfl⟩
        · have d4 : decide (s < at_) = false := decide_eq_false d4'
          have e1 : IntKind.i64.wrap (count + 2) = count + 2 := IntWalk.i64_in _ (by omega)
          have e2 : IntKind.i64.wrap (s - at_) = s - at_ := IntWalk.i64_in _ (by omega)
          have d5 : decide (s - at_ < count + 2) = true := decide_eq_true (by omega)
          clear d1' d2' d3' d4' ha
          clear hl s1 hn
          go_enter Try.func24, Try.ntmps24
          go_wp2_with fail
          refine SD.out.mono ?_
          rintro _ w1 ⟨rfl, hw1⟩
          subst hw1
          go_wp2_with fail
          go_ret2
          exact ⟨rfl, rfl⟩
set_option maxRecDepth 100000 in
theorem make_bad {W w : World} {p : Nat} {D : Dk} {F : List Nat} (h : Dev W w p D F) (at_ count : Int) (ha : -9223372036854775808 ≤ at_ ∧ at_ ≤ 9223372036854775807) (hn : 1 ≤ D.sectors) (hl : ¬ LogAt D.sectors at_ count) :
    Calls Try.prog 9 #[.pointer (some ⟨p, 0, none⟩), .int .i64 at_, .int .i64 count] w (fun e w' => e = .returned (.tuple #[.pointer none, .int .i64 2]) ∧ w' = w) := by
  have FB := Lib.hid (wfind_bad h at_ count ha hn hl)
  clear h ha hl hn
  go_enter Try.func9, Try.ntmps9
  go_wp2_with fail
  refine FB.out.mono ?_
  rintro _ w1 ⟨rfl, hw1⟩
  subst hw1
  go_wp2_with fail
  go_ret2
  exact ⟨rfl, rfl⟩
theorem make_none (at_ count : Int) (w : World) :
    Calls Try.prog 9 #[.pointer none, .int .i64 at_, .int .i64 count] w (fun e w' => e = .returned (.tuple #[.pointer none, .int .i64 1]) ∧ w' = w) := by
  go_enter Try.func9, Try.ntmps9
  go_wp2_with fail
  refine (wfind_nil _ _ _).mono ?_
  rintro _ w1 ⟨rfl, hw1⟩
  subst hw1
  go_wp2_with fail
  go_ret2
  exact ⟨rfl, rfl⟩
set_option maxRecDepth 100000 in
theorem open_bad {W w : World} {p : Nat} {D : Dk} {F : List Nat} (h : Dev W w p D F) (at_ count : Int) (ha : -9223372036854775808 ≤ at_ ∧ at_ ≤ 9223372036854775807) (hn : 1 ≤ D.sectors) (hl : ¬ LogAt D.sectors at_ count) :
    Calls Try.prog 16 #[.pointer (some ⟨p, 0, none⟩), .int .i64 at_, .int .i64 count] w (fun e w' => e = .returned (.tuple #[.pointer none, .int .i64 2]) ∧ w' = w) := by
  have FB := Lib.hid (wfind_bad h at_ count ha hn hl)
  clear h ha hl hn
  go_enter Try.func16, Try.ntmps16
  go_wp2_with fail
  refine FB.out.mono ?_
  rintro _ w1 ⟨rfl, hw1⟩
  subst hw1
  go_wp2_with fail
  go_ret2
  exact ⟨rfl, rfl⟩
set_option maxRecDepth 100000 in
theorem open_none (at_ count : Int) (w : World) :
    Calls Try.prog 16 #[.pointer none, .int .i64 at_, .int .i64 count] w (fun e w' => e = .returned (.tuple #[.pointer none, .int .i64 1]) ∧ w' = w) := by
  go_enter Try.func16, Try.ntmps16
  go_wp2_with fail
  refine (wfind_nil _ _ _).mono ?_
  rintro _ w1 ⟨rfl, hw1⟩
  subst hw1
  go_wp2_with fail
  go_ret2
  exact ⟨rfl, rfl⟩
end Go.Proofs.Ytjhomphbfkbaoaa
