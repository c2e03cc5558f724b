/- Plain: the calls of a DB that is not there, or was not made. -/
import Derived.Test.YtmbmkfhdiljalaaPlM
import Derived.Deep.CutBlock
namespace Go.Proofs.Ytmbmkfhdiljalaa
open Go.RowKit Go.Shelf Go.ChangeShapes Go.WideShapes Go.ChangeAt
set_option linter.unusedVariables false
set_option linter.unusedSimpArgs false

set_option maxRecDepth 100000 in
set_option maxHeartbeats 4000000 in
theorem len64_nil (w : World) : Calls Try.prog 77 #[.int .u64 0] w fun e w' => (∃ z : Int, e = .returned (.int .i64 z)) ∧ w' = w := by
  go_enter Try.func77, Try.ntmps77
  go_wp2_with fail
  go_ret
  exact ⟨⟨_, rfl⟩, rfl⟩
theorem len_nil (w : World) : Calls Try.prog 58 #[.int .u64 0] w fun e w' => (∃ z : Int, e = .returned (.int .i64 z)) ∧ w' = w := by
  go_enter Try.func58, Try.ntmps58
  go_wp2_with fail
  refine (len64_nil _).mono ?_
  rintro _ w1 ⟨⟨z, rfl⟩, hw1⟩
  subst w1
  go_wp2_with fail
  go_ret
  exact ⟨⟨_, rfl⟩, rfl⟩
set_option maxHeartbeats 1000000 in
theorem insertion_nil (w : World) : Calls Try.prog 67 #[.slice none 0 0, .int .i64 0, .int .i64 0] w (fun e w' => e = .returned (.tuple #[]) ∧ w' = w) := by
  go_enter Try.func67, Try.ntmps67
  go_wp2_with fail
  go_loopw [6] (fun u wr => u = .int .i64 1 ∧ Hid (wr = w)) (fun _ _ => 0)
  case atStart => exact ⟨rfl, Lib.hid rfl⟩
  case round =>
    obtain ⟨rfl, hr⟩ := hrel
    have hy9 := hr.out
    clear hr
    rename World => y9
    subst y9
    go_wp2_with fail
    go_end0
    exact ⟨rfl, rfl⟩
set_option maxRecDepth 100000 in
set_option maxHeartbeats 4000000 in
theorem pdq_nil (z : Int) (w : World) : Calls Try.prog 57 #[.slice none 0 0, .int .i64 0, .int .i64 0, .int .i64 z] w (fun e w' => e = .returned (.tuple #[]) ∧ w' = w) := by
  go_enter Try.func57, Try.ntmps57
  go_wp2_with fail
  go_loopw [1, 2, 3] (fun u1 u2 u3 wr => (u1 = .int .i64 0 ∧ u2 = .int .i64 0 ∧ u3 = .int .i64 z) ∧ Hid (wr = w)) (fun _ _ _ _ => 0)
  case atStart => exact ⟨⟨rfl, rfl, rfl⟩, Lib.hid rfl⟩
  case round =>
    obtain ⟨⟨rfl, rfl, rfl⟩, hr⟩ := hrel
    have hy9 := hr.out
    clear hr
    rename World => y9
    subst y9
    go_wp2_with fail
    refine (insertion_nil _).mono ?_
    rintro _ w1 ⟨rfl, hw1⟩
    subst w1
    go_wp2_with fail
    refine bodyPost_ret (results_none rfl _ _ _) rfl ?_
    exact ⟨rfl, rfl⟩
theorem sort_nil (w : World) : Calls Try.prog 45 #[.slice none 0 0] w (fun e w' => e = .returned (.tuple #[]) ∧ w' = w) := by
  go_enter Try.func45, Try.ntmps45
  go_wp2_with fail
  refine (len_nil w).mono ?_
  rintro _ w1 ⟨⟨z, rfl⟩, hw1⟩
  subst w1
  go_wp2_with fail
  refine (pdq_nil _ _).mono ?_
  rintro _ w1 ⟨rfl, hw1⟩
  subst w1
  go_wp2_with fail
  go_end0
  exact ⟨rfl, rfl⟩
theorem compact_nil (w : World) : Calls Try.prog 50 #[.slice none 0 0] w (fun e w' => e = .returned (.slice none 0 0) ∧ w' = w) := by
  go_enter Try.func50, Try.ntmps50
  go_wp2_with fail
  go_ret
  exact ⟨rfl, rfl⟩
/-- Collect, AppendSeq over nil maps. -/
def NilTo (w : World) (e : Ending) (w' : World) : Prop := e = .returned (.slice none 0 0) ∧ Below w.heap.size w w'
theorem AppTo.nil {B : Nat} {w : World} {e : Ending} {w' : World} (hB : B = w.heap.size) (h : AppTo (fun ys => ys.Perm (([] : List (Int × Value)).map (·.1))) B [] (.slice none 0 0) w e w') : NilTo w e w' := by
  obtain ⟨ys, v, hs, he, ho, hn, hb⟩ := h
  have : ys = [] := List.Perm.eq_nil (by simpa using hs)
  exact ⟨by rw [he, hn this], hB ▸ hb⟩
theorem collect_px_nil {Bm : Nat} {w : World} (hm : Row w Bm #[.map none] tMpx) : Calls Try.prog 44 #[.func (.func 46) #[] #[.pointer (some ⟨Bm, 0, none⟩)]] w (NilTo w) :=
  (collect_any w (keys_stops_px 3 (by omega) Bm (.map none) [] w hm.lt (hm.cell 0) (MapV.no _ _)) keys_px_enters (by simp)).mono fun _ _ h => AppTo.nil rfl h
theorem collect_vs_nil {Bm : Nat} {w : World} (hm : Row w Bm #[.map none] tMvs) : Calls Try.prog 44 #[.func (.func 59) #[] #[.pointer (some ⟨Bm, 0, none⟩)]] w (NilTo w) :=
  (collect_any w (keys_stops_vs 3 (by omega) Bm (.map none) [] w hm.lt (hm.cell 0) (MapV.no _ _)) keys_vs_enters (by simp)).mono fun _ _ h => AppTo.nil rfl h
theorem append_vr_nil {Bm : Nat} {w : World} (hm : Row w Bm #[.map none] tMvr) : Calls Try.prog 48 #[.slice none 0 0, .func (.func 60) #[] #[.pointer (some ⟨Bm, 0, none⟩)]] w (NilTo w) :=
  (callsIn_wide.1 (appendSeq_in 4 (by omega) w.heap.size [] none 0 0 w (Nat.le_refl _) (World.ownsRow_nil _ _ _ _) (keys_stops_vr 3 (by omega) Bm (.map none) [] w hm.lt (hm.cell 0) (MapV.no _ _)) keys_vr_enters (by simp))).mono fun _ _ h => AppTo.nil rfl h
theorem sorted_nil {Bm : Nat} {w : World} (hm : Row w Bm #[.map none] tMpx) : Calls Try.prog 31 #[.func (.func 46) #[] #[.pointer (some ⟨Bm, 0, none⟩)]] w (NilTo w) := by
  have C := Lib.hid (collect_px_nil hm)
  clear hm
  go_enter Try.func31, Try.ntmps31
  go_wp2_with fail
  refine C.out.mono ?_
  rintro _ w1 ⟨rfl, hb⟩
  have HB := Lib.hid hb
  clear hb C
  go_wp2_with fail
  refine (sort_nil _).mono ?_
  rintro _ w2 ⟨rfl, hw2⟩
  subst w2
  go_wp2_with fail
  go_ret
  exact ⟨rfl, HB.out⟩
/-- A DB that was not made. -/
def zeroDB : Array Value := #[.int .i64 0, .int .u64 0, .int .u64 0, .map none, .map none]
set_option maxHeartbeats 2000000 in
theorem list_nil {p : Nat} {w : World} (fn : Value) (h : Row w p zeroDB tDb) : Calls Try.prog 33 #[.pointer (some ⟨p, 0, none⟩), fn, .map none] w (NilTo w) := by
  have c3 : w.cell? ⟨p, 3, none⟩ = some (.map none) := h.cell 3
  clear h
  go_enter Try.func33, Try.ntmps33
  go_wp2_with fail
  refine (keys_vs_any _ _).mono ?_
  rintro _ w1 ⟨rfl, hw1⟩
  have C : Hid (Calls Try.prog 44 #[.func (.func 59) #[] #[.pointer (some ⟨w.heap.size, 0, none⟩)]] w1 (NilTo w1)) := Lib.hid (by subst hw1; exact collect_vs_nil (Row.made _ _ _))
  have B1 : Hid (Below w.heap.size w w1) := Lib.hid (by subst hw1; exact (Below.refl _ _).alloc (Nat.le_refl _) _)
  clear hw1 c3
  go_wp2_with fail
  refine C.out.mono ?_
  rintro _ w2 ⟨rfl, hb⟩
  have B2 : Hid (Below w.heap.size w w2) := Lib.hid (B1.out.trans (hb.mono B1.out.size))
  clear hb C B1
  go_wp2_with fail
  refine (keys_vr_any _ _).mono ?_
  rintro _ w3 ⟨rfl, hw3⟩
  have C : Hid (Calls Try.prog 48 #[.slice none 0 0, .func (.func 60) #[] #[.pointer (some ⟨w2.heap.size, 0, none⟩)]] w3 (NilTo w3)) := Lib.hid (by subst hw3; exact append_vr_nil (Row.made _ _ _))
  have B3 : Hid (Below w.heap.size w w3) := Lib.hid (by subst hw3; exact B2.out.trans ((Below.refl _ _).alloc B2.out.size _))
  clear hw3 B2
  go_wp2_with fail
  refine C.out.mono ?_
  rintro _ w4 ⟨rfl, hb⟩
  have B4 : Hid (Below w.heap.size w w4) := Lib.hid (B3.out.trans (hb.mono B3.out.size))
  clear hb C B3
  go_wp2_with fail
  refine (sort_nil _).mono ?_
  rintro _ w5 ⟨rfl, hw5⟩
  subst w5
  go_wp2_with fail
  refine (compact_nil _).mono ?_
  rintro _ w5 ⟨rfl, hw5⟩
  subst w5
  go_wp2_with fail
  go_loopw [8, 28] (fun s u wr => (s = .slice none 0 0 ∧ u = .int .i64 0) ∧ Hid (wr = w4)) (fun _ _ _ => 0)
  case atStart => exact ⟨⟨rfl, rfl⟩, Lib.hid rfl⟩
  case round =>
    obtain ⟨⟨rfl, rfl⟩, hr⟩ := hrel
    have hy9 := hr.out
    clear hr
    rename World => y9
    subst y9
    go_wp2_with fail
    go_ret
    exact ⟨rfl, B4.out⟩
/-- NO DB: nil, or one that was not made. -/
def NoDb (w : World) (v : Value) : Prop := v = .pointer none ∨ ∃ p, v = .pointer (some ⟨p, 0, none⟩) ∧ Row w p zeroDB tDb
theorem NoDb.below {w w' : World} {v : Value} (h : NoDb w v) (k : Below w.heap.size w w') : NoDb w' v := by
  rcases h with h | ⟨p, e, h⟩
  · exact .inl h
  · exact .inr ⟨p, e, h.only ((Only.refl [] w).below k) (by simp)⟩
theorem there_no {w : World} {v : Value} (h : NoDb w v) : Calls Try.prog 19 #[v] w fun e w' => e = .returned (.int .i64 1) ∧ w' = w := by
  rcases h with rfl | ⟨p, rfl, h⟩
  · exact there_nil w
  · exact there_zero (h.cell 3)
theorem NoDb.ptr {w : World} {v : Value} (h : NoDb w v) : ∃ a, v = .pointer a := by
  rcases h with rfl | ⟨p, rfl, h⟩
  · exact ⟨_, rfl⟩
  · exact ⟨_, rfl⟩
theorem find_nob {w : World} {v : Value} (h : NoDb w v) (n : Int) : Calls Try.prog 20 #[v, .int .u64 n] w fun e w' => e = .returned (.tuple #[.pointer none, .int .i64 1]) ∧ w' = w := find_refused (there_no h)
theorem begin_nob {w : World} {v : Value} (h : NoDb w v) : Calls Try.prog 4 #[v] w fun e w' => e = .returned (.tuple #[.int .u64 0, .int .i64 1]) ∧ w' = w := by
  have TH := Lib.hid (there_no h)
  clear h
  go_enter Try.func4, Try.ntmps4
  go_wp2_with fail
  refine TH.out.mono ?_
  rintro _ w1 ⟨rfl, hw⟩
  subst w1
  go_wp2_with fail
  go_ret2
  exact ⟨rfl, rfl⟩
def RefTo (v : Value) (w : World) (e : Ending) (w' : World) : Prop := e = .returned v ∧ Below w.heap.size w w'
theorem get_nob {w : World} {v : Value} (h : NoDb w v) (n key : Int) : Calls Try.prog 5 #[v, .int .u64 n, .int .u64 key] w (RefTo (.tuple #[.agg (itemV none), .int .i64 1]) w) := by
  have TH := Lib.hid (find_nob (h.below (w' := w.alloc (.cells #[.int .u64 0, .slice none 0 0, .slice none 0 0] tIt)) ((Below.refl _ _).alloc (Nat.le_refl _) _)) n)
  have R0 := Lib.hid (Row.made w #[.int .u64 0, .slice none 0 0, .slice none 0 0] tIt)
  clear h
  go_enter Try.func5, Try.ntmps5
  go_wp2_with fail
  refine TH.out.mono ?_
  rintro _ w1 ⟨rfl, hw⟩
  subst w1
  have B0 : Hid (Below w.heap.size w (w.alloc (.cells #[.int .u64 0, .slice none 0 0, .slice none 0 0] tIt))) := Lib.hid ((Below.refl _ _).alloc (Nat.le_refl _) _)
  have fz := R0.out.free 0
  have fz1 := R0.out.free 1
  have fz2 := R0.out.free 2
  have c0 := R0.out.cell 0
  have c1 := R0.out.cell 1
  have c2 := R0.out.cell 2
  simp only [List.getElem?_toArray, List.getElem?_cons_zero, List.getElem?_cons_succ] at c0 c1 c2
  have R1 := Lib.hid (((R0.out.set 0 (.int .u64 0)).set 1 (.slice none 0 0)).set 2 (.slice none 0 0))
  generalize w.alloc (.cells #[.int .u64 0, .slice none 0 0, .slice none 0 0] tIt) = w1 at *
  go_wp2_with fail
  refine bodyPost_ret (results_item_tmp rfl _ _ w.heap.size (itemV none) rfl rfl ?_) rfl ?_
  · exact R1.out
  · exact ⟨rfl, ((((Only.refl [w.heap.size] w1).setCell (by simp) _).setCell (by simp) _).setCell (by simp) _ |>.toBelow B0.out.size (by simp)) |> B0.out.trans⟩
theorem range_nob {w : World} {v : Value} (h : NoDb w v) (n a b c : Int) : Calls Try.prog 6 #[v, .int .u64 n, .int .u64 a, .int .u64 b, .int .i64 c] w (RefTo (.tuple #[.slice none 0 0, .int .i64 1]) w) := by
  have TH : Hid (∀ y, Below w.heap.size w y → _) := Lib.hid fun y k => find_nob (h.below (w' := y) k) n
  clear h
  go_enter Try.func6, Try.ntmps6
  go_wp2_with fail
  refine (TH.out _ (((Below.refl _ _).alloc (Nat.le_refl _) _).alloc (by simp) _)).mono ?_
  rintro _ w1 ⟨rfl, hw⟩
  subst w1
  go_wp2_with fail
  go_ret2
  exact ⟨rfl, ((Below.refl _ _).alloc (Nat.le_refl _) _).alloc (by simp) _⟩
theorem knn_nob {w : World} {v : Value} (h : NoDb w v) (n k : Int) (q : Value) : Calls Try.prog 7 #[v, .int .u64 n, q, .int .i64 k] w fun e w' => e = .returned (.tuple #[.slice none 0 0, .int .i64 1]) ∧ w' = w := by
  have TH := Lib.hid (find_nob h n)
  clear h
  go_enter Try.func7, Try.ntmps7
  go_wp2_with fail
  refine TH.out.mono ?_
  rintro _ w1 ⟨rfl, hw⟩
  subst w1
  go_wp2_with fail
  go_ret2
  exact ⟨rfl, rfl⟩
theorem put_nob {w : World} {v : Value} (h : NoDb w v) (n key : Int) (a b : Value) : Calls Try.prog 8 #[v, .int .u64 n, .agg #[.int .u64 key, a, b]] w (RefTo (.int .i64 1) w) := by
  have TH : Hid (∀ y, Below w.heap.size w y → _) := Lib.hid fun y k => find_nob (h.below (w' := y) k) n
  clear h
  go_enter Try.func8, Try.ntmps8
  go_wp2_with fail
  refine (TH.out _ ((Below.refl _ _).alloc (Nat.le_refl _) _)).mono ?_
  rintro _ w1 ⟨rfl, hw⟩
  subst w1
  go_wp2_with fail
  go_ret
  exact ⟨rfl, (Below.refl _ _).alloc (Nat.le_refl _) _⟩
theorem delete_nob {w : World} {v : Value} (h : NoDb w v) (n key : Int) : Calls Try.prog 9 #[v, .int .u64 n, .int .u64 key] w fun e w' => e = .returned (.int .i64 1) ∧ w' = w := by
  have TH := Lib.hid (find_nob h n)
  clear h
  go_enter Try.func9, Try.ntmps9
  go_wp2_with fail
  refine TH.out.mono ?_
  rintro _ w1 ⟨rfl, hw⟩
  subst w1
  go_wp2_with fail
  go_ret
  exact ⟨rfl, rfl⟩
theorem commit_nob {w : World} {v : Value} (h : NoDb w v) (n : Int) : Calls Try.prog 10 #[v, .int .u64 n] w fun e w' => e = .returned (.int .i64 1) ∧ w' = w := by
  have TH := Lib.hid (find_nob h n)
  clear h
  go_enter Try.func10, Try.ntmps10
  go_wp2_with fail
  refine TH.out.mono ?_
  rintro _ w1 ⟨rfl, hw⟩
  subst w1
  go_wp2_with fail
  go_ret
  exact ⟨rfl, rfl⟩
theorem abort_nob {w : World} {v : Value} (h : NoDb w v) (n : Int) : Calls Try.prog 11 #[v, .int .u64 n] w fun e w' => e = .returned (.int .i64 1) ∧ w' = w := by
  have TH := Lib.hid (find_nob h n)
  clear h
  go_enter Try.func11, Try.ntmps11
  go_wp2_with fail
  refine TH.out.mono ?_
  rintro _ w1 ⟨rfl, hw⟩
  subst w1
  go_wp2_with fail
  go_ret
  exact ⟨rfl, rfl⟩
theorem vacuum_nob {w : World} {v : Value} (h : NoDb w v) : Calls Try.prog 12 #[v] w fun e w' => e = .returned (.int .i64 1) ∧ w' = w := by
  have TH := Lib.hid (there_no h)
  clear h
  go_enter Try.func12, Try.ntmps12
  go_wp2_with fail
  refine TH.out.mono ?_
  rintro _ w1 ⟨rfl, hw⟩
  subst w1
  go_wp2_with fail
  go_ret
  exact ⟨rfl, rfl⟩
theorem crash_nob {w : World} {v : Value} (h : NoDb w v) : Calls Try.prog 13 #[v] w fun e w' => e = .returned (.int .i64 1) ∧ w' = w := by
  have TH := Lib.hid (there_no h)
  clear h
  go_enter Try.func13, Try.ntmps13
  go_wp2_with fail
  refine TH.out.mono ?_
  rintro _ w1 ⟨rfl, hw⟩
  subst w1
  go_wp2_with fail
  go_ret
  exact ⟨rfl, rfl⟩
theorem copy_nob {w : World} {v : Value} (h : NoDb w v) : Calls Try.prog 17 #[v] w fun e w' => e = .returned (.pointer none) ∧ w' = w := by
  have TH := Lib.hid (there_no h)
  clear h
  go_enter Try.func17, Try.ntmps17
  go_wp2_with fail
  refine TH.out.mono ?_
  rintro _ w1 ⟨rfl, hw⟩
  subst w1
  go_wp2_with fail
  go_ret
  exact ⟨rfl, rfl⟩
theorem dim_nob {w : World} {v : Value} (h : NoDb w v) : Calls Try.prog 14 #[v] w fun e w' => e = .returned (.int .i64 0) ∧ w' = w := by
  rcases h with rfl | ⟨p, rfl, h⟩
  · go_enter Try.func14, Try.ntmps14
    go_wp2_with fail
    go_ret
    exact ⟨rfl, rfl⟩
  · have c0 : w.cell? ⟨p, 0, none⟩ = some (.int .i64 0) := h.cell 0
    clear h
    go_enter Try.func14, Try.ntmps14
    go_wp2_with fail
    go_ret
    exact ⟨rfl, rfl⟩
theorem txns_nob {w : World} {v : Value} (h : NoDb w v) : Calls Try.prog 15 #[v] w (NilTo w) := by
  rcases h with rfl | ⟨p, rfl, h⟩
  · go_enter Try.func15, Try.ntmps15
    go_wp2_with fail
    go_ret
    exact ⟨rfl, Below.refl _ _⟩
  · have c4 : w.cell? ⟨p, 4, none⟩ = some (.map none) := h.cell 4
    clear h
    go_enter Try.func15, Try.ntmps15
    go_wp2_with fail
    refine (keys_px_any _ _).mono ?_
    rintro _ w1 ⟨rfl, hw1⟩
    have C := Lib.hid (sorted_nil (Bm := w.heap.size) (w := w1) (by subst hw1; exact Row.made _ _ _))
    have B1 : Hid (Below w.heap.size w w1) := Lib.hid (by subst hw1; exact (Below.refl _ _).alloc (Nat.le_refl _) _)
    clear hw1 c4
    go_wp2_with fail
    refine C.out.mono ?_
    rintro _ w2 ⟨rfl, hb⟩
    have B2 : Hid (Below w.heap.size w w2) := Lib.hid (B1.out.trans (hb.mono B1.out.size))
    clear hb C B1
    go_wp2_with fail
    go_ret
    exact ⟨rfl, B2.out⟩
theorem all_nob {w : World} {v : Value} (h : NoDb w v) : Calls Try.prog 16 #[v] w (NilTo w) := by
  rcases h with rfl | ⟨p, rfl, h⟩
  · go_enter Try.func16, Try.ntmps16
    go_wp2_with fail
    go_ret
    exact ⟨rfl, (Below.refl _ _).alloc (Nat.le_refl _) _⟩
  · have L : Hid (∀ fn y, Below w.heap.size w y → Calls Try.prog 33 #[.pointer (some ⟨p, 0, none⟩), fn, .map none] y (NilTo y)) := Lib.hid fun fn y k => list_nil fn (h.only ((Only.refl [] w).below k) (by simp))
    clear h
    go_enter Try.func16, Try.ntmps16
    go_wp2_with fail
    refine (L.out _ _ ((Below.refl _ _).alloc (Nat.le_refl _) _)).mono ?_
    rintro _ w2 ⟨rfl, hb⟩
    have B2 : Hid (Below w.heap.size w w2) := Lib.hid (((Below.refl _ _).alloc (Nat.le_refl _) _).trans (hb.mono (by simp)))
    clear hb L
    go_wp2_with fail
    go_ret
    exact ⟨rfl, B2.out⟩
end Go.Proofs.Ytmbmkfhdiljalaa
