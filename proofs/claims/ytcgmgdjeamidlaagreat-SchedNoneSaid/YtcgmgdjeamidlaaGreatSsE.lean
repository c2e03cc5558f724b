/- Requests that say their kind alone: whether they may be, and their form. -/
import Derived.Test.YtcgmgdjeamidlaaGreatSsD
namespace Go.Proofs.YtcgmgdjeamidlaaGreat
open Go.RowKit Go.ChangeShapes Go.WideShapes Go.ChangeAt
set_option linter.unusedVariables false
set_option linter.unusedSimpArgs false

theorem SlRd.no (q : IntKind) (w : World) : SlRd q w Sl.no := (SlAt.no q w).rd
def Rc3.no : Rc3 := ⟨0, Sl.no, Sl.no⟩
def Rq.bare (k : Int) : Rq := ⟨k, Rc3.no, 0, 0, 0, Sl.no, Sl.no, 0⟩
theorem Rq.bare_at (k : Int) (w : World) : (Rq.bare k).At w := ⟨⟨SlRd.no _ _, SlRd.no _ _, by simp [Rq.bare, Rc3.no, Sl.no, IsBy]⟩, SlRd.no _ _, SlRd.no _ _⟩
abbrev bareCells (k : Int) : Array Value := #[.int .i64 k, .int .u64 0, .slice none 0 0, .slice none 0 0, .int .u64 0, .int .u64 0, .int .i64 0, .slice none 0 0, .slice none 0 0, .int .i64 0]
theorem Rq.bare_cells (k : Int) : (Rq.bare k).cells = bareCells k := rfl
theorem same_bare (k : Int) (w : World) : Calls Tryz.prog 193 #[.agg (bareCells k), .agg (bareCells k)] w fun e w' => e = .returned (.bool true) ∧ Below w.heap.size w w' := by
  have h := same_on (Rq.bare_at k w) (Rq.bare_at k w)
  rw [Rq.bare_cells, show (Rq.bare k).alike (Rq.bare k) = true by simp [Rq.alike]] at h
  exact h
set_option maxRecDepth 100000 in
set_option maxHeartbeats 4000000 in
theorem mayask_bare (k : Int) (hk : k = 1 ∨ k = 7 ∨ k = 8 ∨ k = 9) (w : World) : Calls Tryz.prog 183 #[.agg (bareCells k)] w fun e w' => e = .returned (.bool true) ∧ Below w.heap.size w w' := by
  have SB := Lib.hid (same_bare k)
  have R0 := Lib.hid (Row.made w (bareCells k) tRq)
  have W1 : Hid (Below w.heap.size w ((w.alloc (.cells (bareCells k) tRq)).alloc (.cells (bareCells k) tRq))) := Lib.hid (((Below.refl _ w).alloc (Nat.le_refl _) _).alloc (by simp) _)
  have RA : Hid (Row ((w.alloc (.cells (bareCells k) tRq)).alloc (.cells (bareCells k) tRq)) w.heap.size (bareCells k) tRq) := Lib.hid (R0.out.only ((Only.refl [] _).alloc _) (by simp))
  clear R0
  unfold bareCells at *
  rcases hk with rfl | rfl | rfl | rfl
  all_goals
    go_enter Tryz.func183, Tryz.ntmps183
    go_wp2_with fail
    refine (SB.out _).mono ?_
    rintro _ w2 ⟨rfl, hb2⟩
    have R2 := RA.out.only ((Only.refl [] _).below hb2) (by simp)
    have B2 : Hid (Below w.heap.size w w2) := Lib.hid (W1.out.trans (hb2.mono W1.out.size))
    have l6 : w2.cell? ⟨w.heap.size, 6, none⟩ = some (.int .i64 0) := R2.cell 6
    have l7 : w2.cell? ⟨w.heap.size, 7, none⟩ = some (.slice none 0 0) := R2.cell 7
    have l8 : w2.cell? ⟨w.heap.size, 8, none⟩ = some (.slice none 0 0) := R2.cell 8
    have l9 : w2.cell? ⟨w.heap.size, 9, none⟩ = some (.int .i64 0) := R2.cell 9
    clear hb2 R2 SB RA W1
    go_wp2_with fail
    go_ret
    exact ⟨rfl, B2.out⟩
/-- What Ask gives: the form. -/
def AskTo (zs : List Int) (w : World) (e : Ending) (w' : World) : Prop := ∃ v, e = .returned (.tuple #[v, .int .i64 0]) ∧ w'.ownsRow w.heap.size 5 1 v zs.length (zs.map (Value.int .u8)) ∧ Below w.heap.size w w'
theorem all_one {fv : Value} {x : Int} {g : Nat} {W : World} {K : List Nat} (hw : Writes W fv [x] K) (hg : Row W g #[fv] 154) : Calls Tryz.prog 74 #[.slice (some ⟨g, 0, none⟩) 1 1] W (Gives [x] W) := by
  have h := all_on g 0 1 1 [(fv, [x])] W rfl (fun j p hp => by
    cases j with
    | succ j => simp at hp
    | zero =>
      simp at hp
      subst hp
      exact ⟨hg.cell 0, K, hw⟩) (fun k => by cases k <;> simp) (by omega)
  exact h
set_option maxRecDepth 100000 in
set_option maxHeartbeats 4000000 in
theorem ask_bare (k : Int) (hk : k = 1 ∨ k = 7 ∨ k = 8 ∨ k = 9) (w : World) : Calls Tryz.prog 140 #[.agg (bareCells k)] w (AskTo [k] w) := by
  have MA := Lib.hid fun y => mayask_bare k hk y
  have U8 := Lib.hid fun y => u8_on k (by omega) (by omega) y
  have R0 := Lib.hid (Row.made w (bareCells k) tRq)
  have W0 : Hid (Below w.heap.size w (w.alloc (.cells (bareCells k) tRq))) := Lib.hid ((Below.refl _ w).alloc (Nat.le_refl _) _)
  unfold bareCells at *
  rcases hk with rfl | rfl | rfl | rfl
  all_goals
    go_enter Tryz.func140, Tryz.ntmps140
    go_wp2_with fail
    refine (MA.out _).mono ?_
    rintro _ w2 ⟨rfl, hb2⟩
    have R2 := Lib.hid (R0.out.only ((Only.refl [] _).below hb2) (by simp))
    have B2 : Hid (Below w.heap.size w w2) := Lib.hid (W0.out.trans (hb2.mono W0.out.size))
    have l0 := R2.out.cell 0
    simp only [List.getElem?_toArray, List.getElem?_cons_zero] at l0
    clear hb2 MA R0 W0
    go_wp2_with fail
    refine (U8.out _).mono ?_
    rintro _ w3 ⟨fv, K, rfl, hw, _, hb3⟩
    obtain ⟨f, cap, rfl⟩ : ∃ f cap, fv = .func (.func f) #[] cap := by
      obtain ⟨f, cap, e, _⟩ := hw
      exact ⟨f, cap, e⟩
    have R3 := Lib.hid (R2.out.only ((Only.refl [] _).below hb3) (by simp))
    have B3 : Hid (Below w.heap.size w w3) := Lib.hid (B2.out.trans (hb3.mono B2.out.size))
    have WR := Lib.hid hw
    have l3 := R3.out.cell 0
    simp only [List.getElem?_toArray, List.getElem?_cons_zero] at l3
    have R4 : Hid (Row (w3.alloc (.cells #[.func (.func f) #[] cap] 154)) w.heap.size _ tRq) := Lib.hid (R3.out.only ((Only.refl [] _).alloc _) (by simp))
    have l4 := R4.out.cell 0
    simp only [List.getElem?_toArray, List.getElem?_cons_zero] at l4
    have AL := Lib.hid (all_one (hw.below ((Below.refl _ _).alloc (Nat.le_refl _) _)) (Row.made w3 #[.func (.func f) #[] cap] 154))
    have B4 : Hid (Below w.heap.size w (w3.alloc (.cells #[.func (.func f) #[] cap] 154))) := Lib.hid (B3.out.alloc B3.out.size _)
    unfold Gives at AL
    clear hb3 hw U8
    go_wp2_with fail
    refine AL.out.mono ?_
    rintro _ w5 ⟨v, rfl, ho, hb5⟩
    have N5 : Hid (w5.ownsRow w.heap.size 5 1 v 1 _ ∧ Below w.heap.size w w5) := Lib.hid ⟨own_mono ho B4.out.size, B4.out.trans (hb5.mono B4.out.size)⟩
    clear ho hb5 AL
    go_wp2_with fail
    go_ret2
    exact ⟨v, rfl, N5.out.1, N5.out.2⟩
end Go.Proofs.YtcgmgdjeamidlaaGreat
