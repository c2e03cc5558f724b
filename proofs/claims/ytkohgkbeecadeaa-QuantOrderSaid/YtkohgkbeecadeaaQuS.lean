/- Sorted: floats in their order. -/
import Derived.Test.YtkohgkbeecadeaaQuP
namespace Go.Proofs.Ytkohgkbeecadeaa
open Go.RowKit Go.ChangeShapes Go.WideShapes Go.ChangeAt
open Go.Sort (grow)
open Go.Sort Go.Lib Go.Shelf
set_option linter.unusedVariables false

abbrev U64 := {x : Int // 0 ≤ x ∧ x < 18446744073709551616}
instance u64inh : Inhabited U64 := ⟨⟨0, by omega⟩⟩
def encU (x : U64) : Value := .int .u64 x.1
def cfU (x y : U64) : Int := totF x.1 y.1
theorem ltU (x y : U64) : ltOf cfU x y = decide (placeF x.1 < placeF y.1) := by
  unfold ltOf cfU totF cmpF
  rw [decide_eq_decide]
  (repeat' split) <;> omega
theorem swoU : Sort.SWO (ltOf cfU) where
  irrefl x := by rw [ltU, decide_eq_false_iff_not]; omega
  trans x y z h1 h2 := by rw [ltU, decide_eq_true_eq] at *; omega
  ntrans x y z h1 h2 := by rw [ltU, decide_eq_false_iff_not] at *; omega
theorem totU (x y : U64) (h1 : ltOf cfU x y = false) (h2 : ltOf cfU y x = false) : x = y := by
  rw [ltU, decide_eq_false_iff_not] at *
  have a := x.2
  have b := y.2
  apply Subtype.ext
  unfold placeF at h1 h2
  split at h1 <;> split at h1 <;> simp_all <;> omega
def sortU (l : List U64) : List U64 := l.mergeSort fun x y => !(ltOf cfU) y x
theorem sortU_perm (l : List U64) : (sortU l).Perm l := List.mergeSort_perm l _
theorem sortU_sorted (l : List U64) : (sortU l).Pairwise fun x y => placeF x.1 ≤ placeF y.1 := by
  have h : (sortU l).Pairwise fun x y => (!(ltOf cfU) y x) = true := by
    refine List.pairwise_mergeSort (le := fun x y => !(ltOf cfU) y x) ?_ ?_ l
    · intro a b c h1 h2
      rw [Bool.not_eq_true', ltU, decide_eq_false_iff_not] at *
      omega
    · intro a b
      rw [ltU, ltU]
      by_cases h : placeF b.1 < placeF a.1
      · rw [decide_eq_true h, decide_eq_false (by omega)]; rfl
      · rw [decide_eq_false h]; rfl
  refine h.imp fun {x y} h => ?_
  rw [Bool.not_eq_true', ltU, decide_eq_false_iff_not] at h
  omega
theorem grow_none (w : World) : w = grow (w.drewN 0) #[] := by
  cases w
  simp [grow, World.drewN]
theorem cmpLaysU (blk off size : Nat) (w : World) : CmpLays1 Try.prog 20 #[] encU cfU blk off size w :=
  fun m os dk _ x y => (total_any x.1 y.1 _ x.2.1 x.2.2 y.2.1 y.2.2).mono fun e w' ⟨h1, h2⟩ => ⟨h1, 0, #[], h2.trans (grow_none _)⟩

theorem sort1_any (g c n : Nat) (l : List U64) (w : World) (hn : l.length = n) (hH : Holds encU w g 0 l.toArray) (hg : g < w.heap.size) (hsz : n < 4611686018427387904) :
    Calls Try.prog 37 #[.slice (some ⟨g, 0, none⟩) n c, .func (.func 20) #[] #[]] w fun e w' => e = .returned (.tuple #[]) ∧ Holds encU w' g 0 (sortU l).toArray ∧ w.heap.size ≤ w'.heap.size ∧ w'.os = w.os ∧ w'.tape = w.tape ∧ w'.output = w.output ∧ ∀ k, k < w.heap.size → k ≠ g → w'.heap[k]? = w.heap[k]? := by
  subst hn
  have eg : ∀ args w, (callFunc 20 args).run Try.prog w = .ok (.enter 20 args) w := enters_of Try.func20 (by kernel_rfl) rfl
  have hcon := Any.slices_SortFunc_total Try.sortU64 encU (fun x => rfl) cfU swoU 20 #[] g 0 c l.toArray w eg (cmpLaysU g 0 _ w) hH hg (by simpa using hsz) totU
  rw [List.size_toArray] at hcon
  refine Calls.mono (show Calls Try.prog 37 _ _ _ from hcon) ?_
  rintro e w' ⟨h1, n, os, hw⟩
  change w' = sortWorld encU w g 0 n (sortU l).toArray os at hw
  subst hw
  have hs : (sortU l).toArray.size = l.toArray.size := by simpa using (sortU_perm l).length_eq
  have hh : Holds encU (putRow encU (Sort.ahead w n) g 0 (sortU l).toArray) g 0 (sortU l).toArray := holds_putRow encU (Sort.ahead w n) g 0 l.toArray _ (holds_ahead encU w n g 0 _ hH) hs
  have hz : (putRow encU (Sort.ahead w n) g 0 (sortU l).toArray).heap.size = w.heap.size := by simp [putRow, mapBlock]
  refine ⟨h1, holds_grow encU _ os g 0 _ (by rw [hz]; exact hg) hh, ?_, rfl, rfl, rfl, fun k hk hne => ?_⟩
  · show w.heap.size ≤ (grow _ os).heap.size
    rw [Sort.size_grow, hz]; omega
  · show (grow _ os).heap[k]? = _
    rw [Sort.heap_grow_old _ os (by rw [hz]; exact hk)]
    simp only [putRow, mapBlock, Sort.ahead, Array.getElem?_modify]
    rw [if_neg (fun e => hne e.symm)]

set_option maxHeartbeats 400000 in
theorem clone_u64 (ad : Addr) (n c : Nat) (news : List Value) (w : World) (hsrc : SrcOf w (.slice (some ad) n c) n 1 news) (h1 : ∀ u ∈ news, u.oneCell' = true) (hn : n * 8 ≤ 140737488355328) :
    Calls Try.prog 36 #[.slice (some ad) n c] w fun e w' => ∃ v, e = .returned v ∧ w'.ownsRow w.heap.size 22 1 v n news ∧ Below w.heap.size w w' := by
  have hS := Lib.hid hsrc
  have h1' := Lib.hid h1
  clear hsrc h1
  obtain ⟨i0, hi, hz0, hz1, hz2⟩ := info_parts infoU64
  have hq := fun w => @Lib.run_eql_slice_nil Try.prog w
  go_enter Try.func36, Try.ntmps36
  go_wp2_with (at_builtin; refine wpList_append_src rfl (.tmp 5) (.tmp 6) 36 rfl w.heap.size 22 i0 (.int .u64 0) 1 8 Try.underlying36 hi hz0 hz1 hz2 rfl (by decide) _ 0 [] rfl (World.ownsRow_made w #[] 0 (Nat.le_refl _) (by decide) rfl) _ n news rfl ?s1 ?s2 ?s3 ?s4 ?s5 ?s6)
  case s1 => exact hS.out.below ((Below.refl _ _).alloc (Nat.le_refl _) _)
  case s2 => exact h1'.out
  case s3 => unfold maxLen; omega
  case s4 => omega
  case s5 => simp
  case s6 =>
    intro v1 w1 hown1 hg1
    have b1 : Below w.heap.size w w1 := ((Below.refl _ _).alloc (Nat.le_refl _) _).grown hg1 (by simp) (by simp [Value.ownBlock])
    have O1 := Lib.hid hown1
    have B1 := Lib.hid b1
    clear hg1 hown1 b1
    go_wp2
    go_ret
    exact ⟨v1, rfl, by simpa using O1.out, B1.out⟩

def nums (l : List U64) : List Int := l.map (·.1)
theorem nums_len (l : List U64) : (nums l).length = l.length := by simp [nums]
theorem nums_get (l : List U64) (i : Nat) (hi : i < l.length) : (nums l)[i]?.getD 0 = (l[i]).1 := by simp [nums, hi]
theorem holds_of_row {w : World} {base : Nat} {e : TypeId} {g n cap : Nat} {l : List U64} (h : w.ownsRow base e 1 (.slice (some ⟨g, 0, none⟩) n cap) n ((nums l).map (Value.int .u64))) (hl : l.length = n) : Holds encU w g 0 l.toArray := by
  intro j hj
  have hj' : j < l.length := by simpa using hj
  refine ⟨?_, h.frozenAt _⟩
  rw [Nat.zero_add, h.cellAt j (by omega)]
  simp [nums, hj', encU, getElem!_pos]
theorem ints_of_holds {w : World} {g n cap : Nat} {l : List U64} (h : Holds encU w g 0 l.toArray) (hl : l.length = n) : Ints .u64 w (.slice (some ⟨g, 0, none⟩) n cap) (nums l) := by
  refine .inr ⟨g, 0, cap, by rw [nums_len, hl], fun i hi => ?_⟩
  rw [nums_len] at hi
  rw [(h i (by simpa using hi)).1, nums_get l i hi]
  simp [encU, hi, getElem!_pos]

set_option maxHeartbeats 1000000 in
theorem sorted_z (g c : Nat) (w : World) :
    Calls Try.prog 22 #[.slice (some ⟨g, 0, none⟩) 0 c] w fun e w' => ∃ p c', e = .returned (.slice p 0 c') ∧ c' ≤ 9223372036854775807 ∧ Below w.heap.size w w' := by
  have HS := Lib.hid (fun p cap W => (show Calls Try.prog 37 _ W _ from AnyF.slices_SortFunc_none Try.sortU64n p cap (.func (.func 20) #[] #[]) W))
  have HC := Lib.hid (clone_u64 ⟨g, 0, none⟩ 0 c [] w (.inr ⟨_, c, rfl, rfl, fun j u hj => by simp at hj⟩) (by simp) (by omega))
  go_enter Try.func22, Try.ntmps22
  go_wp2_with fail
  refine HC.out.mono ?_
  rintro e w1 ⟨v1, rfl, hown1, hb1⟩
  obtain ⟨p, c1, rfl, u1, u2⟩ := own_shape hown1
  have B1 := Lib.hid hb1
  clear hown1 hb1 HC
  go_wp2_with fail
  refine (HS.out _ _ _).mono ?_
  rintro e w' ⟨rfl, rfl⟩
  go_wp2_with fail
  go_ret
  exact ⟨p, c1, rfl, u2, B1.out⟩
set_option maxHeartbeats 1000000 in
theorem sorted_p (g n c : Nat) (l : List U64) (w : World) (hl : l.length = n) (hi : Ints .u64 w (.slice (some ⟨g, 0, none⟩) n c) (nums l)) (h0 : 0 < n) (hn : n ≤ 5000) :
    Calls Try.prog 22 #[.slice (some ⟨g, 0, none⟩) n c] w fun e w' => ∃ g' c', e = .returned (.slice (some ⟨g', 0, none⟩) n c') ∧ n ≤ c' ∧ c' ≤ 9223372036854775807 ∧ w.heap.size ≤ g' ∧ g' < w'.heap.size ∧ Holds encU w' g' 0 (sortU l).toArray ∧ Below w.heap.size w w' := by
  have HC := Lib.hid (clone_u64 ⟨g, 0, none⟩ n c ((nums l).map (Value.int .u64)) w (src_of_ints hi (by rw [nums_len, hl]) h0) (one_u64 _) (by omega))
  have L := Lib.hid hl
  clear hi hl
  go_enter Try.func22, Try.ntmps22
  go_wp2_with fail
  refine HC.out.mono ?_
  rintro e w1 ⟨v1, rfl, hown1, hb1⟩
  obtain ⟨g', c1, rfl, hg0, hg1⟩ : ∃ g' c1, v1 = .slice (some ⟨g', 0, none⟩) n c1 ∧ w.heap.size ≤ g' ∧ g' < w1.heap.size := by
    have hlt := hown1.lt
    rcases hown1.2 with ⟨_, h⟩ | ⟨g', c1, cur, rfl, hg, _⟩
    · omega
    · exact ⟨g', c1, rfl, hg, (hlt g' rfl).2⟩
  obtain ⟨_, _, he, u1, u2⟩ := own_shape hown1
  simp only [Value.slice.injEq] at he
  obtain ⟨-, -, rfl⟩ := he
  have HS := Lib.hid (sort1_any g' c1 n l w1 L.out (holds_of_row hown1 L.out) hg1 (by omega))
  have B1 := Lib.hid hb1
  clear hown1 hb1 HC
  go_wp2_with fail
  refine HS.out.mono ?_
  rintro e w2 ⟨rfl, hh, hsz, ho, htp, hou, hkp⟩
  have B2 : Below w.heap.size w w2 := B1.out.trans ⟨ho, htp, hou, hsz, fun k hlt => hkp k (by omega) (by omega)⟩
  have F := Lib.hid (And.intro hh (And.intro hsz B2))
  clear hh hsz ho htp hou hkp HS B2
  go_wp2_with fail
  go_ret
  exact ⟨g', c1, rfl, u1, u2, hg0, by have := F.out.2.1; omega, F.out.1, F.out.2.2⟩
end Go.Proofs.Ytkohgkbeecadeaa
