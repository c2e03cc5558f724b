/- Plain: New, there, find, Begin; item.May. -/
import Derived.Test.YtcgmgdjeamidlaaGreatPlA
import Derived.BigRegion
import Derived.BigQuiet
import Derived.Deep.QuietTactic
import Derived.Deep.RegionWith
import Derived.Deep.RegionHeld3
import Derived.Deep.CutRange
namespace Go.Proofs.YtcgmgdjeamidlaaGreat
open Go.RowKit Go.ChangeShapes Go.WideShapes Go.ChangeAt
set_option linter.unusedVariables false
set_option linter.unusedSimpArgs false

abbrev tMvs : TypeId := 105
abbrev tMpx : TypeId := 106
abbrev tMvr : TypeId := 283
theorem zeroPx (w : World) : (zeroValue 280).run Tryz.prog w = .ok (.pointer none) w := by kernel_rfl
theorem zeroVs (w : World) : (zeroValue 286).run Tryz.prog w = .ok (.slice none 0 0) w := by kernel_rfl
theorem zeroVr (w : World) : (zeroValue tVr).run Tryz.prog w = .ok (.agg #[.int .u64 0, .bool false, .int .u64 0, .slice none 0 0, .slice none 0 0]) w := by kernel_rfl
theorem there_on {w : World} {p ba bo : Nat} {D : PDB} (h : Row w p (D.cells ba bo) tDb) : Calls Tryz.prog 238 #[.pointer (some ⟨p, 0, none⟩)] w fun e w' => e = .returned (.int .i64 0) ∧ w' = w := by
  have c3 : w.cell? ⟨p, 3, none⟩ = some (.map (some ba)) := h.cell 3
  clear h
  have qT : ∀ (w : World) (r : Option Nat), (binOp .eql tMvs (.map r) (.map none)).run Tryz.prog w = .ok (.bool r.isNone) w := fun w r => run_eql_map_nil w _ _ _ r Tryz.underlying105
  go_enter Tryz.func238, Tryz.ntmps238
  go_wp2_with fail
  go_ret
  exact ⟨rfl, rfl⟩
theorem there_nil (w : World) : Calls Tryz.prog 238 #[.pointer none] w fun e w' => e = .returned (.int .i64 1) ∧ w' = w := by
  have qT : ∀ (w : World) (r : Option Nat), (binOp .eql tMvs (.map r) (.map none)).run Tryz.prog w = .ok (.bool r.isNone) w := fun w r => run_eql_map_nil w _ _ _ r Tryz.underlying105
  go_enter Tryz.func238, Tryz.ntmps238
  go_wp2_with fail
  go_ret
  exact ⟨rfl, rfl⟩
theorem there_zero {w : World} {p : Nat} (h : w.cell? ⟨p, 3, none⟩ = some (.map none)) : Calls Tryz.prog 238 #[.pointer (some ⟨p, 0, none⟩)] w fun e w' => e = .returned (.int .i64 1) ∧ w' = w := by
  have qT : ∀ (w : World) (r : Option Nat), (binOp .eql tMvs (.map r) (.map none)).run Tryz.prog w = .ok (.bool r.isNone) w := fun w r => run_eql_map_nil w _ _ _ r Tryz.underlying105
  go_enter Tryz.func238, Tryz.ntmps238
  go_wp2_with fail
  go_ret
  exact ⟨rfl, rfl⟩
def findP (n : Int) (l : List PTx) : Option PTx := l.find? fun o => decide (o.n = n)
theorem lk_map {α : Type} (key : α → Int) (val : α → Value) (n : Int) : ∀ (l : List α), lk n (l.map fun x => (key x, val x)) = (l.find? fun x => decide (key x = n)).map val
  | [] => rfl
  | x :: l => by
    simp only [List.map_cons, lk, List.find?_cons]
    by_cases h : n = key x
    · rw [if_pos h, decide_eq_true h.symm]; rfl
    · rw [if_neg h, decide_eq_false (fun e => h e.symm), lk_map key val n l]
theorem findP_some {n : Int} {l : List PTx} {o : PTx} (h : findP n l = some o) : o ∈ l ∧ o.n = n := ⟨List.mem_of_find?_eq_some h, by simpa using List.find?_some h⟩
set_option maxHeartbeats 1000000 in
theorem find_yes {w : World} {B p ba bo : Nat} {D : PDB} (h : DbAt w B p ba bo D) {n : Int} {o : PTx} (ho : findP n D.op = some o) :
    Calls Tryz.prog 237 #[.pointer (some ⟨p, 0, none⟩), .int .u64 n] w fun e w' => e = .returned (.tuple #[.pointer (some ⟨o.bt, 0, none⟩), .int .i64 0]) ∧ w' = w := by
  have TH := Lib.hid (there_on h.row)
  have c4 : w.cell? ⟨p, 4, none⟩ = some (.map (some bo)) := h.row.cell 4
  have OM := Lib.hid h.om
  have hl : (lk n (pxL D.op)).getD (.pointer none) = .pointer (some ⟨o.bt, 0, none⟩) := by
    unfold pxL
    rw [lk_map]
    unfold findP at ho
    rw [ho]; rfl
  clear h ho
  go_enter Tryz.func237, Tryz.ntmps237
  go_wp2_with fail
  refine TH.out.mono ?_
  rintro _ w1 ⟨rfl, hw⟩
  subst w1
  go_wp2_with (at_lookup; refine wpList_look_at _ rfl (.tmp 16) (.tmp 17) tMpx false rfl 34 280 .u64 Tryz.underlying106 Tryz.underlying34 _ zeroPx bo (pxL D.op) rfl OM.out n rfl ?_)
  go_ret2
  exact ⟨rfl, rfl⟩
set_option maxHeartbeats 1000000 in
theorem find_no {w : World} {B p ba bo : Nat} {D : PDB} (h : DbAt w B p ba bo D) {n : Int} (ho : findP n D.op = none) :
    Calls Tryz.prog 237 #[.pointer (some ⟨p, 0, none⟩), .int .u64 n] w fun e w' => e = .returned (.tuple #[.pointer none, .int .i64 12]) ∧ w' = w := by
  have TH := Lib.hid (there_on h.row)
  have c4 : w.cell? ⟨p, 4, none⟩ = some (.map (some bo)) := h.row.cell 4
  have OM := Lib.hid h.om
  have hl : (lk n (pxL D.op)).getD (.pointer none) = .pointer none := by
    unfold pxL
    rw [lk_map]
    unfold findP at ho
    rw [ho]; rfl
  clear h ho
  go_enter Tryz.func237, Tryz.ntmps237
  go_wp2_with fail
  refine TH.out.mono ?_
  rintro _ w1 ⟨rfl, hw⟩
  subst w1
  go_wp2_with (at_lookup; refine wpList_look_at _ rfl (.tmp 16) (.tmp 17) tMpx false rfl 34 280 .u64 Tryz.underlying106 Tryz.underlying34 _ zeroPx bo (pxL D.op) rfl OM.out n rfl ?_)
  go_ret2
  exact ⟨rfl, rfl⟩
theorem find_refused {p : Value} {n : Int} {w : World} (h : Calls Tryz.prog 238 #[p] w fun e w' => e = .returned (.int .i64 1) ∧ w' = w) :
    Calls Tryz.prog 237 #[p, .int .u64 n] w fun e w' => e = .returned (.tuple #[.pointer none, .int .i64 1]) ∧ w' = w := by
  have TH := Lib.hid h
  clear h
  go_enter Tryz.func237, Tryz.ntmps237
  go_wp2_with fail
  refine TH.out.mono ?_
  rintro _ w1 ⟨rfl, hw⟩
  subst w1
  go_wp2_with fail
  go_ret2
  exact ⟨rfl, rfl⟩
def newP (dim : Int) : PDB := ⟨dim, 0, 0, [], []⟩
def NewPTo (dim : Int) (w : World) (e : Ending) (w' : World) : Prop := ∃ p F H, e = .returned (.tuple #[.pointer (some ⟨p, 0, none⟩), .int .i64 0]) ∧ DbF w' w.heap.size p (newP dim) F H ∧ Below w.heap.size w w'
set_option maxHeartbeats 1000000 in
theorem new_on (dim : Int) (w : World) (h0 : 1 ≤ dim) (h1 : dim ≤ 4096) :
    Calls Tryz.prog 12 #[.int .i64 dim] w (NewPTo dim w) := by
  have hmm := @run_makeMap Tryz.prog
  have d1 : decide (dim < 1) = false := decide_eq_false (by omega)
  have d2 : decide (4096 < dim) = false := decide_eq_false (by omega)
  go_enter Tryz.func12, Tryz.ntmps12
  go_wp2_with fail
  go_ret2
  have k0 := Only.refl [] (w.alloc (.map #[] 0))
  have k1 := k0.alloc (.map #[] 0)
  refine ⟨_, _, _, rfl, ⟨w.heap.size, w.heap.size + 1, ?_, rfl, rfl⟩, ((((Below.refl _ _).alloc (Nat.le_refl _) _).alloc (by simp) _).alloc (by simp; omega) _)⟩
  refine ⟨?_, ((MapAt.made w .u64).only k1 (by simp)).only ((Only.refl [] _).alloc _) (by simp), ?_, by intro o ho; simp [newP] at ho, by intro o ho; simp [newP] at ho, by intro o ho; simp [newP] at ho, ?_, ?_, by simp [PDB.reads, newP], by simp [PDB.reads, newP], ⟨⟨h0, h1⟩, by simp [newP], by simp [newP], by intro o ho; simp [newP] at ho⟩⟩
  · have := Row.made ((w.alloc (.map #[] 0)).alloc (.map #[] 0)) ((newP dim).cells w.heap.size (w.heap.size + 1)) tDb
    simpa [PDB.cells, newP] using this
  · have hs : (w.alloc (.map #[] 0)).heap.size = w.heap.size + 1 := by simp
    show MapAt _ _ _ []
    rw [← hs]
    exact (MapAt.made (w.alloc (.map #[] 0)) .u64).only ((Only.refl [] _).alloc _) (by simp)
  · simp [PDB.own, newP, pxB]
    omega
  · simp [PDB.own, newP, pxB]
    try omega
theorem item_ok {key : Int} {vec tag : Sl} {w : World} (h1 : 0 < vec.xs.length) (h2 : vec.xs.length ≤ 4096) (h3 : tag.xs.length ≤ 1024) :
    Calls Tryz.prog 112 #[.agg #[.int .u64 key, vec.v, tag.v]] w fun e w' => e = .returned (.int .i64 0) ∧ Below w.heap.size w w' := by
  obtain ⟨va, vc, xs⟩ := vec
  obtain ⟨ta, tc, ys⟩ := tag
  unfold Sl.v
  simp only at h1 h2 h3
  obtain ⟨n, hn⟩ : ∃ n, xs.length = n := ⟨_, rfl⟩
  obtain ⟨m, hm⟩ : ∃ m, ys.length = m := ⟨_, rfl⟩
  simp only [hn, hm] at h1 h2 h3 ⊢
  have d1 : ((n : Int) == 0) = false := by simpa using (show (n : Int) ≠ 0 by omega)
  have d1' : decide ((n : Int) = 0) = false := decide_eq_false (by omega)
  have d2 : decide ((4096 : Int) < (n : Int)) = false := decide_eq_false (by omega)
  have d2' : decide (4096 < n) = false := decide_eq_false (by omega)
  have d3 : decide ((1024 : Int) < (m : Int)) = false := decide_eq_false (by omega)
  have d3' : decide (1024 < m) = false := decide_eq_false (by omega)
  have d4 : ((n == 0) = false) := by simpa using (show n ≠ 0 by omega)
  have d5 : decide (n = 0) = false := decide_eq_false (by omega)
  clear hn hm
  go_enter Tryz.func112, Tryz.ntmps112
  go_wp2_with fail
  go_ret
  exact ⟨rfl, (Below.refl _ _).alloc (Nat.le_refl _) _⟩
end Go.Proofs.YtcgmgdjeamidlaaGreat
