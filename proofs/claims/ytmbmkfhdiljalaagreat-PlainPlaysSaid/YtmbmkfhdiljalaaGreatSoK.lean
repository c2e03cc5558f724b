/- slices.Sort at uint64, of any row of the call's own. -/
import Derived.Test.YtmbmkfhdiljalaaGreatMg08
namespace Go.Proofs.YtmbmkfhdiljalaaGreat
open Go.RowKit Go.ChangeShapes Go.WideShapes Go.ChangeAt
open Go.Sort (swp ltInt PermIn SortedIn)
set_option linter.unusedVariables false
set_option linter.unusedSimpArgs false

theorem pdq_all {B g cap n : Nat} (hn : n ≤ 1000000) : ∀ m, PdAt B g cap n m
  | 0 => fun a b z d w hm => by omega
  | m + 1 => pdq_step hn (pdq_all hn m)
set_option maxRecDepth 100000 in
set_option maxHeartbeats 4000000 in
theorem sort_arr {B g cap n : Nat} {d : Array Int} {w : World} (hn : n ≤ 1000000) (h : UA w B g cap n d) :
    Calls Tryz.prog 74 #[.slice (some ⟨g, 0, none⟩) n cap] w (PdTo w B g cap n 0 n d) := by
  have L := Lib.hid (bits_Len (n : Int) w (by omega) (by omega))
  have hs := bitLen_small n hn
  simp only [Int.toNat_natCast] at L
  have P : Hid (∀ z : Int, 0 ≤ z → z ≤ 1000 → Calls Tryz.prog 87 #[.slice (some ⟨g, 0, none⟩) n cap, .int .i64 0, .int .i64 (n : Int), .int .i64 z] w (PdTo w B g cap n 0 n d)) := Lib.hid fun z h0 h1 => pdq_all hn (n + 1) 0 n z d w (by omega) (by omega) (Nat.le_refl _) h0 h1 h (.inl rfl)
  have e1 : IntKind.u64.wrap (n : Int) = (n : Int) := IntWalk.u64_in _ (by omega)
  obtain ⟨k, hk⟩ : ∃ k, Lib.bitLen n = k := ⟨_, rfl⟩
  rw [hk] at L hs
  have HS := Lib.hid hs
  unfold PdTo at P
  clear h hn hk hs
  go_enter Tryz.func74, Tryz.ntmps74
  go_wp2_with fail
  refine L.out.mono ?_
  rintro _ w1 ⟨rfl, hw1⟩
  subst w1
  go_wp2_with fail
  refine (P.out _ (by omega) (by have := HS.out; omega)).mono ?_
  rintro _ w1 ⟨rfl, hp⟩
  have HP := Lib.hid hp
  clear hp P
  go_wp2_with fail
  go_end0
  exact ⟨rfl, HP.out⟩
set_option maxHeartbeats 1000000 in
theorem so_insertion_nil (w : World) : Calls Tryz.prog 94 #[.slice none 0 0, .int .i64 0, .int .i64 0] w (fun e w' => e = .returned (.tuple #[]) ∧ w' = w) := by
  go_enter Tryz.func94, Tryz.ntmps94
  go_wp2_with fail
  go_loopw [6] (fun u wr => u = .int .i64 1 ∧ Hid (wr = w)) (fun _ _ => 0)
  case atStart => exact ⟨rfl, Lib.hid rfl⟩
  case round =>
    obtain ⟨rfl, hr⟩ := hrel
    have hy9 := hr.out
    clear hr
    rename World => y9
    subst y9
    go_wp2_with fail
    go_end0
    exact ⟨rfl, rfl⟩
set_option maxRecDepth 100000 in
set_option maxHeartbeats 4000000 in
theorem so_pdq_nil (z : Int) (w : World) : Calls Tryz.prog 87 #[.slice none 0 0, .int .i64 0, .int .i64 0, .int .i64 z] w (fun e w' => e = .returned (.tuple #[]) ∧ w' = w) := by
  go_enter Tryz.func87, Tryz.ntmps87
  go_wp2_with fail
  go_loopw [1, 2, 3] (fun u1 u2 u3 wr => (u1 = .int .i64 0 ∧ u2 = .int .i64 0 ∧ u3 = .int .i64 z) ∧ Hid (wr = w)) (fun _ _ _ _ => 0)
  case atStart => exact ⟨⟨rfl, rfl, rfl⟩, Lib.hid rfl⟩
  case round =>
    obtain ⟨⟨rfl, rfl, rfl⟩, hr⟩ := hrel
    have hy9 := hr.out
    clear hr
    rename World => y9
    subst y9
    go_wp2_with fail
    refine (so_insertion_nil _).mono ?_
    rintro _ w1 ⟨rfl, hw1⟩
    subst w1
    go_wp2_with fail
    refine bodyPost_ret (results_none rfl _ _ _) rfl ?_
    exact ⟨rfl, rfl⟩
theorem so_sort_nil (w : World) : Calls Tryz.prog 74 #[.slice none 0 0] w (fun e w' => e = .returned (.tuple #[]) ∧ w' = w) := by
  have L := Lib.hid (bits_Len 0 w (by omega) (by omega))
  go_enter Tryz.func74, Tryz.ntmps74
  go_wp2_with fail
  refine L.out.mono ?_
  rintro _ w1 ⟨rfl, hw1⟩
  subst w1
  go_wp2_with fail
  refine (so_pdq_nil _ _).mono ?_
  rintro _ w1 ⟨rfl, hw1⟩
  subst w1
  go_wp2_with fail
  go_end0
  exact ⟨rfl, rfl⟩
def SortTo (B : Nat) (v : Value) (xs : List Int) (w : World) (e : Ending) (w' : World) : Prop := e = .returned (.tuple #[]) ∧ ∃ ys : List Int, ys.Perm xs ∧ ys.Pairwise (· ≤ ·) ∧ w'.ownsRow B 30 1 v xs.length (ys.map (Value.int .u64)) ∧ Below B w w'
theorem sort_any {B : Nat} {v : Value} {xs : List Int} {w : World} (hB : B ≤ w.heap.size) (h : w.ownsRow B 30 1 v xs.length (xs.map (Value.int .u64))) (hn : xs.length ≤ 1000000) :
    Calls Tryz.prog 74 #[v] w (SortTo B v xs w) := by
  have h0 := h
  rcases h.2 with ⟨rfl, hz⟩ | ⟨g, cap, cur, rfl, hb, hg, hc, hm, hcs, ht⟩
  · have hx : xs = [] := List.length_eq_zero_iff.1 hz
    subst hx
    refine (so_sort_nil w).mono ?_
    rintro e w' ⟨he, rfl⟩
    exact ⟨he, [], List.Perm.refl _, List.Pairwise.nil, h0, Below.refl _ _⟩
  · have hu : UA w B g cap xs.length xs.toArray := by unfold UA; simpa using h0
    refine (sort_arr hn hu).mono ?_
    rintro e w' ⟨he, d', hu', hp, hs⟩
    have hsz := hu'.row.size
    refine ⟨he, d'.toList, ?_, ?_, ?_, hu'.only.toBelow hB (by simpa using hu.ge)⟩
    · have hp3 := hp.2.2
      have e1 : d'.extract 0 xs.length = d' := by rw [← hsz]; simp
      have e2 : xs.toArray.extract 0 xs.length = xs.toArray := by simp
      rw [e1, e2] at hp3
      simpa using hp3
    · rw [List.pairwise_iff_getElem]
      intro i j hi hj hij
      have hi' : i < d'.size := by simpa using hi
      have hj' : j < d'.size := by simpa using hj
      have := nlt_iff.1 (hs i j (Nat.zero_le _) hij (by omega))
      rw [getElem!_pos d' i hi', getElem!_pos d' j hj'] at this
      simpa using this
    · exact hu'.row
end Go.Proofs.YtmbmkfhdiljalaaGreat
