/- A device that is not there, or was not made. -/
import Derived.Test.YtiheobbollpaaaaDkI
namespace Go.Proofs.Ytiheobbollpaaaa
open Go.RowKit Go.ChangeShapes Go.WideShapes Go.ChangeAt Go.Maps Go.Sort Go.Shelf
set_option linter.unusedVariables false

def zCells : Array Value := #[.map none, .map none, .map none, .int .i64 0, .int .i64 0, .int .i64 0, .bool false]
/-- No device. -/
def ND (v : Value) (w : World) : Prop := v = .pointer none ∨ ∃ p, v = .pointer (some ⟨p, 0, none⟩) ∧ Row w p zCells tDk
theorem ND.below {v : Value} {w w' : World} (h : ND v w) (k : Below w.heap.size w w') : ND v w' := by
  rcases h with h | ⟨p, h, hr⟩
  · exact .inl h
  · exact .inr ⟨p, h, hr.of_block (k.block p hr.lt)⟩
theorem there_none {v : Value} {w : World} (h : ND v w) : Calls Try.prog 26 #[v] w fun e w' => e = .returned (.int .i64 1) ∧ w' = w := by
  rcases h with rfl | ⟨p, rfl, hr⟩
  · exact there_nil w
  · exact there_zero w p (hr.cell 0)
theorem nd_read (v : Value) (k : Int) (w : World) (h : ND v w) : Calls Try.prog 15 #[v, .int .i64 k] w fun e w' => e = .returned (.tuple #[.slice none 0 0, .int .i64 1]) ∧ w' = w := by
  have T := Lib.hid (there_none h)
  clear h
  go_enter Try.func15, Try.ntmps15
  go_wp2_with fail
  refine T.out.mono ?_
  rintro _ w' ⟨rfl, hw'⟩
  subst hw'
  go_wp2_with fail
  go_ret2
  exact ⟨rfl, rfl⟩
theorem nd_write (v : Value) (k : Int) (x : Value) (w : World) (h : ND v w) : Calls Try.prog 10 #[v, .int .i64 k, x] w fun e w' => e = .returned (.int .i64 1) ∧ w' = w := by
  have T := Lib.hid (there_none h)
  clear h
  go_enter Try.func10, Try.ntmps10
  go_wp2_with fail
  refine T.out.mono ?_
  rintro _ w' ⟨rfl, hw'⟩
  subst hw'
  go_wp2_with fail
  go_ret
  exact ⟨rfl, rfl⟩
theorem nd_sync (v : Value)  (w : World) (h : ND v w) : Calls Try.prog 12 #[v] w fun e w' => e = .returned (.int .i64 1) ∧ w' = w := by
  have T := Lib.hid (there_none h)
  clear h
  go_enter Try.func12, Try.ntmps12
  go_wp2_with fail
  refine T.out.mono ?_
  rintro _ w' ⟨rfl, hw'⟩
  subst hw'
  go_wp2_with fail
  go_ret
  exact ⟨rfl, rfl⟩
theorem nd_arm (v : Value) (k : Int) (w : World) (h : ND v w) : Calls Try.prog 17 #[v, .int .i64 k] w fun e w' => e = .returned (.int .i64 1) ∧ w' = w := by
  have T := Lib.hid (there_none h)
  clear h
  go_enter Try.func17, Try.ntmps17
  go_wp2_with fail
  refine T.out.mono ?_
  rintro _ w' ⟨rfl, hw'⟩
  subst hw'
  go_wp2_with fail
  go_ret
  exact ⟨rfl, rfl⟩
theorem nd_crash (v : Value) (x : Value) (w : World) (h : ND v w) : Calls Try.prog 13 #[v, x] w fun e w' => e = .returned (.int .i64 1) ∧ w' = w := by
  have T := Lib.hid (there_none h)
  clear h
  go_enter Try.func13, Try.ntmps13
  go_wp2_with fail
  refine T.out.mono ?_
  rintro _ w' ⟨rfl, hw'⟩
  subst hw'
  go_wp2_with fail
  go_ret
  exact ⟨rfl, rfl⟩
theorem nd_copy (v : Value)  (w : World) (h : ND v w) : Calls Try.prog 19 #[v] w fun e w' => e = .returned (.pointer none) ∧ w' = w := by
  have T := Lib.hid (there_none h)
  clear h
  go_enter Try.func19, Try.ntmps19
  go_wp2_with fail
  refine T.out.mono ?_
  rintro _ w' ⟨rfl, hw'⟩
  subst hw'
  go_wp2_with fail
  go_ret
  exact ⟨rfl, rfl⟩
theorem nd_sectors (v : Value) (w : World) (h : ND v w) : Calls Try.prog 22 #[v] w fun e w' => e = .returned (.int .i64 0) ∧ w' = w := by
  rcases h with rfl | ⟨p, rfl, hr⟩
  · go_enter Try.func22, Try.ntmps22
    go_wp2_with fail
    go_ret
    exact ⟨rfl, rfl⟩
  · have c2 : w.cell? ⟨p, 2, none⟩ = some (.map none) := hr.cell 2
    have c3 : w.cell? ⟨p, 3, none⟩ = some (.int .i64 0) := hr.cell 3
    clear hr
    go_enter Try.func22, Try.ntmps22
    go_wp2_with fail
    go_ret
    exact ⟨rfl, rfl⟩
theorem nd_used (v : Value) (w : World) (h : ND v w) : Calls Try.prog 23 #[v] w fun e w' => e = .returned (.int .i64 0) ∧ w' = w := by
  rcases h with rfl | ⟨p, rfl, hr⟩
  · go_enter Try.func23, Try.ntmps23
    go_wp2_with fail
    go_ret
    exact ⟨rfl, rfl⟩
  · have c2 : w.cell? ⟨p, 2, none⟩ = some (.map none) := hr.cell 2
    have c3 : w.cell? ⟨p, 3, none⟩ = some (.int .i64 0) := hr.cell 3
    clear hr
    go_enter Try.func23, Try.ntmps23
    go_wp2_with fail
    go_ret
    exact ⟨rfl, rfl⟩
def NoWaits (w : World) (e : Ending) (w' : World) : Prop := ∃ p c, e = .returned (.slice p 0 c) ∧ Below w.heap.size w w'
set_option maxHeartbeats 2000000 in
theorem waits_zero (w : World) (p : Nat) (hr : Row w p zCells tDk) : Calls Try.prog 14 #[.pointer (some ⟨p, 0, none⟩)] w (NoWaits w) := by
  have c1 : w.cell? ⟨p, 1, none⟩ = some (.map none) := hr.cell 1
  refine (callsIn_wide (n := 6)).1 ?_
  have hseq : SeqGives Fence.wide 2 Try.prog 41 #[.pointer (some ⟨w.heap.size, 0, none⟩)] encZ (fun ss : List Int => ss = []) 0 (w.alloc (.cells #[.map none] 54)) :=
    AnyZI.keys_gives_nil (ρ := Try.keysD_ren) { Try.keysD with } Fence.wide _ trivial rfl w.heap.size _ (by simp) (by simp)
  have cK : ∀ mb W, CallsIn Fence.wide 5 Try.prog 30 #[.map mb] W fun e w' => e = .returned (.func (.func 41) #[] #[.pointer (some ⟨W.heap.size, 0, none⟩)]) ∧ w' = W.alloc (.cells #[.map mb] 54) := fun mb W => AnyZI.keys_in Try.keysD Fence.wide 5 trivial rfl mb W
  have cS := AnyZI.sorted_in Try.sortedD Fence.wide 5 trivial trivial trivial trivial rfl (by omega) (sortsDk _) (enters_of Try.func40 (by kernel_rfl) rfl) 41 #[.pointer (some ⟨w.heap.size, 0, none⟩)] trivial (enters_of Try.func41 (by kernel_rfl) rfl) _ _ (by omega) (by omega) _ hseq
  change CallsIn _ _ Try.prog 29 _ _ _ at cS
  have hfK : Fence.wide.fn 30 := trivial
  have hfS : Fence.wide.fn 29 := trivial
  clear hr hseq
  refine callsIn_of_wp Try.func14 rfl trivial ?_ rfl
  simp only [Try.ntmps14, List.size_toArray, List.length_cons, List.length_nil, Nat.reduceAdd, Nat.reduceSub, Array.replicate_succ, Array.replicate_zero, List.push_toArray, List.append_toArray, List.nil_append, List.cons_append]
  gi_wp2_with (first
    | (gi_at_call 30; refine (cK _ _).mono ?_; rintro e w' ⟨rfl, rfl⟩)
    | (gi_at_call 29; refine cS.mono ?_; rintro e w' ⟨v, ss, rfl, hS, hrow, hnil, hb⟩))
  go_ret
  subst hS
  obtain ⟨q, c, rfl, _, _⟩ := own_shape hrow
  exact ⟨q, c, rfl, ((Below.refl _ w).alloc (Nat.le_refl _) _).trans (hb.mono (by simp))⟩
theorem nd_waits (v : Value) (w : World) (h : ND v w) : Calls Try.prog 14 #[v] w (NoWaits w) := by
  rcases h with rfl | ⟨p, rfl, hr⟩
  · go_enter Try.func14, Try.ntmps14
    go_wp2_with fail
    go_ret
    exact ⟨_, _, rfl, Below.refl _ _⟩
  · exact waits_zero w p hr
end Go.Proofs.Ytiheobbollpaaaa
