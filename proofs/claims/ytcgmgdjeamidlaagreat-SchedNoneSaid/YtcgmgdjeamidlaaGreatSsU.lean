/- Sched: Feed and Run of one that is not there or was not made. -/
import Derived.Test.YtcgmgdjeamidlaaGreatSsT
import Derived.Test.YtcgmgdjeamidlaaGreatRgw
import Derived.RangeFuncBox
import Derived.Shelf.Abstract
import Derived.Shelf.RegionOpen
import Derived.OwnWalkIn
import Derived.TacticsInMore
import Derived.LoopNIn
import Derived.LoopIn
import Derived.Maps.OwnIn
namespace Go.Proofs.YtcgmgdjeamidlaaGreat
open Go.RowKit Go.Shelf Go.ChangeShapes Go.WideShapes Go.ChangeAt
set_option linter.unusedVariables false
set_option linter.unusedSimpArgs false

theorem run_no {w : World} {v : Value} (h : NoSched w v) (l : Value) : Calls Tryz.prog 33 #[v, l] w fun e w' => e = .returned (.slice none 0 0) ∧ w' = w := by
  have SN := Lib.hid (sessions_no h)
  obtain ⟨a, rfl⟩ := h.shape
  clear h
  go_enter Tryz.func33, Tryz.ntmps33
  go_wp2_with fail
  refine SN.out.mono ?_
  rintro _ w2 ⟨rfl, hw⟩
  subst w2
  go_wp2_with fail
  go_ret
  exact ⟨rfl, rfl⟩
set_option maxRecDepth 100000 in
set_option maxHeartbeats 4000000 in
theorem feed_no {w : World} {v : Value} (h : NoSched w v) (n : Int) (b : Value) : Calls Tryz.prog 29 #[v, .int .i64 n, b] w fun e w' => e = .returned (.tuple #[.slice none 0 0, .int .i64 1]) ∧ Below w.heap.size w w' := by
  have hro : Fence.wide.round = none := rfl
  have SN := Lib.hid fun (y : World) (hy : Below w.heap.size w y) => sessions_no (h.below hy)
  obtain ⟨a, rfl⟩ := h.shape
  clear h
  refine callsIn_wide (n := 5) |>.1 ?_
  refine callsIn_of_wp_marks Tryz.func29 rfl trivial ?_ hro
  simp only [Tryz.ntmps29, List.size_toArray, List.length_cons, List.length_nil, Nat.reduceAdd, Nat.reduceSub, Array.replicate_succ, Array.replicate_zero, List.push_toArray, List.append_toArray, List.nil_append, List.cons_append]
  gi_wp2_with fail
  have BW : Hid (Below w.heap.size w (((w.alloc (.cells #[.pointer a] 78)).alloc (.cells #[.slice none 0 0] 30)).alloc (.cells #[.int .i64 0] 25))) := Lib.hid ((((Below.refl _ w).alloc (Nat.le_refl _) _).alloc (by simp) _).alloc (by simp; omega) _)
  have R6 : Hid (Row (((w.alloc (.cells #[.pointer a] 78)).alloc (.cells #[.slice none 0 0] 30)).alloc (.cells #[.int .i64 0] 25)) (w.heap.size + 1) #[.slice none 0 0] 30) := Lib.hid (by
    have h := Row.made (w.alloc (.cells #[.pointer a] 78)) #[.slice none 0 0] 30
    rw [World.size_alloc] at h
    exact h.only ((Only.refl [] _).alloc _) (by simp))
  have R7 : Hid (Row (((w.alloc (.cells #[.pointer a] 78)).alloc (.cells #[.slice none 0 0] 30)).alloc (.cells #[.int .i64 0] 25)) (w.heap.size + 1 + 1) #[.int .i64 0] 25) := Lib.hid (by
    have h := Row.made ((w.alloc (.cells #[.pointer a] 78)).alloc (.cells #[.slice none 0 0] 30)) #[.int .i64 0] 25
    rw [World.size_alloc, World.size_alloc] at h
    exact h)
  refine ⟨trivial, (callsIn_wide.2 (SN.out _ BW.out)).mono ?_⟩
  generalize ((w.alloc (.cells #[.pointer a] 78)).alloc (.cells #[.slice none 0 0] 30)).alloc (.cells #[.int .i64 0] 25) = w3 at *
  rintro _ w2 ⟨rfl, hw⟩
  subst w2
  have q6 : w3.cell? ⟨w.heap.size + 1, 0, none⟩ = some (.slice none 0 0) := R6.out.cell 0
  have v6 := R6.out.free 0
  have q7 : w3.cell? ⟨w.heap.size + 1 + 1, 0, none⟩ = some (.int .i64 0) := R7.out.cell 0
  have v7 := R7.out.free 0
  have N : Hid (Row ((w3.setCell ⟨w.heap.size + 1, 0, none⟩ (.slice none 0 0)).setCell ⟨w.heap.size + 1 + 1, 0, none⟩ (.int .i64 1)) (w.heap.size + 1) #[.slice none 0 0] 30 ∧ Row ((w3.setCell ⟨w.heap.size + 1, 0, none⟩ (.slice none 0 0)).setCell ⟨w.heap.size + 1 + 1, 0, none⟩ (.int .i64 1)) (w.heap.size + 1 + 1) #[.int .i64 1] 25 ∧ Below w.heap.size w ((w3.setCell ⟨w.heap.size + 1, 0, none⟩ (.slice none 0 0)).setCell ⟨w.heap.size + 1 + 1, 0, none⟩ (.int .i64 1))) := Lib.hid (by
    have k1 : Only [w.heap.size + 1] w3 (w3.setCell ⟨w.heap.size + 1, 0, none⟩ (.slice none 0 0)) := (Only.refl _ w3).setCell (.inl (by simp)) _
    have k2 : Only [w.heap.size + 1 + 1] (w3.setCell ⟨w.heap.size + 1, 0, none⟩ (.slice none 0 0)) ((w3.setCell ⟨w.heap.size + 1, 0, none⟩ (.slice none 0 0)).setCell ⟨w.heap.size + 1 + 1, 0, none⟩ (.int .i64 1)) := (Only.refl _ _).setCell (.inl (by simp)) _
    have h6 := R6.out.set 0 (.slice none 0 0)
    have h7 := (R7.out.only k1 (by simp)).set 0 (.int .i64 1)
    refine ⟨(by simpa using h6 : Row _ _ #[.slice none 0 0] _).only k2 (by simp), by simpa using h7, ?_⟩
    exact (BW.out.trans (k1.toBelow BW.out.size (by simp))).trans (k2.toBelow (Nat.le_trans BW.out.size k1.size) (by simp; omega)))
  clear R6 R7 BW SN
  gi_wp2_with fail
  refine ⟨_, results_feed rfl _ _ (w.heap.size + 1) (w.heap.size + 1 + 1) rfl rfl N.out.1 N.out.2.1, rfl, N.out.2.2⟩
end Go.Proofs.YtcgmgdjeamidlaaGreat
