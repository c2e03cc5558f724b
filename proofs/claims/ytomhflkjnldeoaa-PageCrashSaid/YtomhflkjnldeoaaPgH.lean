/- bytes.Count, blank pages, Same. -/
import Derived.Test.YtomhflkjnldeoaaPgG
import Derived.Shelf.Bytes.SlCountOne
import Derived.Shelf.Bytes.SlSmallAll
namespace Go.Proofs.Ytomhflkjnldeoaa
open Go.RowKit Go.ChangeShapes Go.WideShapes Go.ChangeAt
set_option linter.unusedVariables false

def zerosIn (xs : List Int) : Nat := Lib.countByte (Lib.bytesOf xs) 0
set_option maxRecDepth 1000000 in
set_option maxHeartbeats 2000000 in
theorem count_any (b o n c b2 o2 d : Nat) (xs : List Int) (w : World) (hx : xs.length = n) (hc : ∀ i, i < n → w.cell? ⟨b, o + i, none⟩ = some (.int .u8 (xs.getD i 0))) (hc2 : w.cell? ⟨b2, o2, none⟩ = some (.int .u8 0)) :
    Calls Try.prog 30 #[.slice (some ⟨b, o, none⟩) n c, .slice (some ⟨b2, o2, none⟩) 1 d] w fun e w' => e = .returned (.int .i64 (zerosIn xs)) ∧ w' = w := by
  have K := Lib.hid (Lib.run_countSlice (P := Try.prog) w b o n c xs hx hc 0)
  clear hc hx
  go_enter Try.func30, Try.ntmps30
  go_wp2
  rw [run_callFunc_extern Try.func48 (by kernel_rfl) (by kernel_rfl) (by kernel_rfl) (e := Extern.BytealgCount.count) (by kernel_rfl), K.out]
  simp only [Result.andThen]
  rw [Oper.upon_value]
  go_wp2
  go_ret
  exact ⟨rfl, rfl⟩
/-- A slice's text. -/
theorem conv_ints {w : World} {v : Value} {xs : List Int} (h : Ints .u8 w v xs) : (convert 23 9 v).run Try.prog w = .ok (.string (strOfNums xs)) w := by
  rcases h with ⟨rfl, a, c, rfl⟩ | ⟨b, off, cap, rfl, hc⟩
  · exact run_convert_bytes_zero w 23 5 Try.underlying23 Try.underlying5 a c 9 Try.underlying9
  · exact run_convert_bytes_arg w 23 5 Try.underlying23 Try.underlying5 b off xs.length cap xs rfl (fun i hi => by rw [hc i hi, List.getD_eq_getElem?_getD]) 9 Try.underlying9
theorem str_list (s : List Int) : (strOfNums s).toList = s.map fun n => UInt8.ofNat n.toNat := by rw [ByteArray.toList_eq, strOfNums_data]
theorem str_inj {xs ys : List Int} (hx : IsBy xs) (hy : IsBy ys) (h : (strOfNums xs).toList = (strOfNums ys).toList) : xs = ys := by
  rw [str_list, str_list] at h
  induction xs generalizing ys with
  | nil =>
    cases ys with
    | nil => rfl
    | cons y ys => simp at h
  | cons x xs ih =>
    cases ys with
    | nil => simp at h
    | cons y ys =>
      rw [List.map_cons, List.map_cons, List.cons.injEq] at h
      have h1 := hx x (List.mem_cons_self ..)
      have h2 := hy y (List.mem_cons_self ..)
      have h3 := congrArg UInt8.toNat h.1
      simp at h3
      rw [ih (fun z hz => hx z (List.mem_cons_of_mem _ hz)) (fun z hz => hy z (List.mem_cons_of_mem _ hz)) h.2]
      congr 1
      omega
theorem str_eq (xs : List Int) : ((strOfNums xs).toList == (strOfNums xs).toList) = true := by simp
theorem str_ne {xs ys : List Int} (hx : IsBy xs) (hy : IsBy ys) (h : xs ≠ ys) : ((strOfNums xs).toList == (strOfNums ys).toList) = false := by
  simp only [beq_eq_false_iff_ne, ne_eq]
  exact fun e => h (str_inj hx hy e)
/-- A call's results that lie in a variable. -/
theorem results_paper {fn : Func} {p : Tmp} (h : fn.results = #[.cell p 25]) (tmps : Array Value) (w : World) (g : Nat) (a b : Value) (hp : tmps.getD p undef = .pointer (some ⟨g, 0, none⟩)) (hg : Row w g #[a, b] 25) : (results fn tmps).run Try.prog w = .ok (.agg #[a, b]) w :=
  results_cell_row h tmps w g _ _ _ _ hp hg Try.underlying25 rfl (by kernel_rfl)
theorem results_paper2 {fn : Func} {p u : Tmp} (h : fn.results = #[.cell p 25, .tmp u]) (tmps : Array Value) (w : World) (g : Nat) (a b : Value) (hp : tmps.getD p undef = .pointer (some ⟨g, 0, none⟩)) (hg : Row w g #[a, b] 25) : (results fn tmps).run Try.prog w = .ok (.tuple #[.agg #[a, b], tmps.getD u undef]) w := by
  rw [results_cell_tmp h, hp]
  simp [asAddr, Result.andThen, run_loadVar_row w g _ _ _ _ _ hg Try.underlying25 rfl (by kernel_rfl)]
def zs500 : Array Value := Array.replicate 500 (.int .u8 0)
theorem make_500 : ∀ x : World, (Instr.makeSlice 23 (.int .i64 500) (.int .i64 500)).run Try.prog x = .ok (.slice (some ⟨x.heap.size, 0, none⟩) 500 500) (x.alloc (.cells zs500 5)) := fun x => by
  obtain ⟨i0, hi0, hz0, hz1, hz2⟩ := info_parts infoBy
  have hr := run_make (P := Try.prog) x 23 5 i0 (.int .u8 0) Try.underlying23 hi0 hz0 .i64 .i64 ((500 : Nat) : Int) ((500 : Nat) : Int) (by omega) (Int.le_refl _) (by rw [hz2]; omega) (by omega)
  simp only [Int.toNat_natCast, hz1, Nat.mul_one, Value.cells, madeCells_one] at hr
  exact hr
def BlankPost (w : World) (e : Ending) (w' : World) : Prop := ∃ g, e = .returned (.agg #[.int .u64 0, .slice (some ⟨g, 0, none⟩) 500 500]) ∧ w.heap.size ≤ g ∧ Row w' g zs500 5 ∧ Only [] w w'
set_option maxHeartbeats 2000000 in
theorem blank_any (w : World) : Calls Try.prog 13 #[] w (BlankPost w) := by
  have mk := make_500
  go_enter Try.func13, Try.ntmps13
  go_wp2_with fail
  refine bodyPost_ret (results_paper rfl _ _ w.heap.size (.int .u64 0) (.slice (some ⟨w.heap.size + 1, 0, none⟩) 500 500) rfl ((Row.made w _ _).only ((Only.refl [] _).alloc _) (by simp))) rfl ?_
  have k := ((Only.refl [] w).alloc (.cells #[Value.int IntKind.u64 0, Value.slice (some { block := w.heap.size + 1, off := 0 }) 500 500] 25))
  refine ⟨w.heap.size + 1, rfl, by omega, ?_, k.alloc _⟩
  have := Row.made (w.alloc (.cells #[Value.int IntKind.u64 0, Value.slice (some { block := w.heap.size + 1, off := 0 }) 500 500] 25)) zs500 5
  simpa [go_sem] using this
set_option maxHeartbeats 2000000 in
theorem rblank_any (w : World) : Calls Try.prog 14 #[] w (BlankPost w) := by
  have mk := make_500
  go_enter Try.func14, Try.ntmps14
  go_wp2_with fail
  refine bodyPost_ret (results_paper rfl _ _ w.heap.size (.int .u64 0) (.slice (some ⟨w.heap.size + 1, 0, none⟩) 500 500) rfl ((Row.made w _ _).only ((Only.refl [] _).alloc _) (by simp))) rfl ?_
  have k := ((Only.refl [] w).alloc (.cells #[Value.int IntKind.u64 0, Value.slice (some { block := w.heap.size + 1, off := 0 }) 500 500] 25))
  refine ⟨w.heap.size + 1, rfl, by omega, ?_, k.alloc _⟩
  have := Row.made (w.alloc (.cells #[Value.int IntKind.u64 0, Value.slice (some { block := w.heap.size + 1, off := 0 }) 500 500] 25)) zs500 5
  simpa [go_sem] using this
set_option maxHeartbeats 2000000 in
theorem same_any (w : World) (n1 n2 : Int) (v1 v2 : Value) (xs ys : List Int) (h1 : Ints .u8 w v1 xs) (h2 : Ints .u8 w v2 ys) (b1 : IsBy xs) (b2 : IsBy ys) : Calls Try.prog 11 #[.agg #[.int .u64 n1, v1], .agg #[.int .u64 n2, v2]] w fun e w' => e = .returned (.bool (decide (n1 = n2 ∧ xs = ys))) ∧ Below w.heap.size w w' := by
  obtain ⟨a1, c1, rfl⟩ := h1.len
  obtain ⟨a2, c2, rfl⟩ := h2.len
  have BL := Lib.hid fun A B : Obj => (((Below.refl _ w).alloc (Nat.le_refl _) A).alloc (by simp [go_sem]) B : Below w.heap.size w ((w.alloc A).alloc B))
  have q1 : ∀ A B : Obj, (convert 23 9 (.slice a1 xs.length c1)).run Try.prog ((w.alloc A).alloc B) = .ok (.string (strOfNums xs)) ((w.alloc A).alloc B) := fun A B => conv_ints (h1.below' (BL.out A B))
  have q2 : ∀ A B : Obj, (convert 23 9 (.slice a2 ys.length c2)).run Try.prog ((w.alloc A).alloc B) = .ok (.string (strOfNums ys)) ((w.alloc A).alloc B) := fun A B => conv_ints (h2.below' (BL.out A B))
  have E : Hid (((strOfNums xs).toList == (strOfNums ys).toList) = decide (xs = ys)) := Lib.hid (by
    by_cases h : xs = ys
    · subst h; simp
    · rw [str_ne b1 b2 h]; simp [h])
  clear h1 h2 b1 b2
  by_cases hn : n1 = n2
  · subst hn
    have E1 : Hid (decide (n1 = n1 ∧ xs = ys) = decide (xs = ys)) := Lib.hid (by simp)
    generalize decide (n1 = n1 ∧ xs = ys) = B at *
    generalize decide (xs = ys) = B2 at *
    generalize xs.length = k1 at *
    generalize ys.length = k2 at *
    generalize strOfNums xs = S1 at *
    generalize strOfNums ys = S2 at *
    have E' := E.out
    cases B2
    all_goals
      go_enter Try.func11, Try.ntmps11
      go_wp2_with fail
      go_ret
      exact ⟨by rw [E1.out]; rfl, BL.out _ _⟩
  · have d1 : decide (n1 = n2) = false := decide_eq_false hn
    have E1 : Hid (decide (n1 = n2 ∧ xs = ys) = false) := Lib.hid (by simp [hn])
    clear E
    generalize decide (n1 = n2 ∧ xs = ys) = B at *
    go_enter Try.func11, Try.ntmps11
    go_wp2_with fail
    go_ret
    exact ⟨by rw [E1.out]; rfl, BL.out _ _⟩
end Go.Proofs.Ytomhflkjnldeoaa
