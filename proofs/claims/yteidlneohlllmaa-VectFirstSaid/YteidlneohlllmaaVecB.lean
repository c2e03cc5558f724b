/- Contracts of vect.Dist, the reference's Dist, the law's same and known. -/
import Derived.Test.YteidlneohlllmaaVecA
import Derived.Deep.QuietTactic
import Derived.BigQuiet
namespace Go.Proofs.Yteidlneohlllmaa
open Go.RowKit

/-- The slice value v reads as the numbers xs in the world w. -/
def Ints (k : IntKind) (w : World) (v : Value) (xs : List Int) : Prop :=
  (xs = [] ∧ ∃ a c, v = .slice a 0 c) ∨
  ∃ b off cap, v = .slice (some ⟨b, off, none⟩) xs.length cap ∧ ∀ i, i < xs.length → w.cell? ⟨b, off + i, none⟩ = some (.int k (xs[i]?.getD 0))

def ab (d : Int) : Int := if d < -d then -d else d
def distTo (xs ys : List Int) : Nat → Int
  | 0 => 0
  | k + 1 => distTo xs ys k + ab (xs[k]?.getD 0 - ys[k]?.getD 0)
def In32 (xs : List Int) : Prop := ∀ i : Nat, -2147483648 ≤ xs[i]?.getD 0 ∧ xs[i]?.getD 0 ≤ 2147483647
theorem distTo_bd (xs ys : List Int) (hx : In32 xs) (hy : In32 ys) (k : Nat) : 0 ≤ distTo xs ys k ∧ distTo xs ys k ≤ 4294967296 * k := by
  induction k with
  | zero => simp [distTo]
  | succ k ih =>
    have h1 := hx k
    have h2 := hy k
    simp only [distTo, ab]
    split <;> omega
def distF (xs ys : List Int) : Int := if xs.length = ys.length ∧ 1 ≤ xs.length ∧ xs.length ≤ 4096 then distTo xs ys xs.length else 0
def distE (xs ys : List Int) : Int := if xs.length = ys.length ∧ 1 ≤ xs.length ∧ xs.length ≤ 4096 then 0 else 9
theorem distTo_snoc (xs ys : List Int) (k : Nat) : distTo xs ys (k + 1) = distTo xs ys k + ab (xs[k]?.getD 0 - ys[k]?.getD 0) := rfl
theorem ret_bool {a b : Bool} (h : a = b) : Ending.returned (.bool a) = .returned (.bool b) := by rw [h]
theorem ret_int2 {k l : IntKind} {a b c d : Int} (h : a = b) (h2 : c = d) : Ending.returned (.tuple #[.int k a, .int l c]) = .returned (.tuple #[.int k b, .int l d]) := by rw [h, h2]

set_option maxHeartbeats 400000 in
theorem dist_good (b1 o1 c1 b2 o2 c2 n : Nat) (xs ys : List Int) (w : World) (hn : xs.length = n) (hn2 : ys.length = n) (h1 : 1 ≤ n) (h2 : n ≤ 4096)
    (hx : In32 xs) (hy : In32 ys)
    (cx : ∀ i, i < xs.length → w.cell? ⟨b1, o1 + i, none⟩ = some (.int .i32 (xs[i]?.getD 0)))
    (cy : ∀ i, i < ys.length → w.cell? ⟨b2, o2 + i, none⟩ = some (.int .i32 (ys[i]?.getD 0))) :
    Calls Try.prog 10 #[.slice (some ⟨b1, o1, none⟩) n c1, .slice (some ⟨b2, o2, none⟩) n c2] w fun e w' => e = .returned (.tuple #[.int .i64 (distTo xs ys n), .int .i64 0]) ∧ w = w' := by
  have H1 := Lib.hid cx
  have H2 := Lib.hid cy
  have H3 := Lib.hid hn
  have H4 := Lib.hid hn2
  clear cx cy hn hn2
  have B := distTo_bd xs ys hx hy
  have HB := Lib.hid B
  have HX := Lib.hid hx
  have HY := Lib.hid hy
  clear B hx hy
  have q1 : ((n : Int) == 0) = false := by simp; omega
  have q2 : decide ((4096 : Int) < (n : Int)) = false := by simp; omega
  go_enter Try.func10, Try.ntmps10
  go_wp2
  go_loop [6, 27] (fun s i => ∃ k : Nat, k ≤ n ∧ i = .int .i64 k ∧ s = .int .i64 (distTo xs ys k)) (fun _ i => n - (intOf i).toNat)
  case atStart => exact ⟨0, Nat.zero_le _, rfl, rfl⟩
  case round =>
    obtain ⟨k, hk, rfl, rfl⟩ := hrel
    by_cases hlt : k < n
    · have cx := H1.out k (by have := H3.out; omega)
      have cy := H2.out k (by have := H4.out; omega)
      have bx := HX.out k
      have by' := HY.out k
      have e1 := distTo_bd xs ys HX.out HY.out k
      go_wp2
      all_goals
        go_round
        case rel => exact ⟨k + 1, by omega, by go_num, by rw [distTo_snoc, ab]; first | done | (rw [if_pos (by omega)]) | (rw [if_neg (by omega)])⟩
        case measure => simp [intOf]; omega
    · obtain rfl : k = n := by omega
      go_wp2
      go_ret2
      exact ⟨rfl, rfl⟩

set_option maxHeartbeats 400000 in
theorem dist_bad (a1 a2 : Option Addr) (n1 c1 n2 c2 : Nat) (w : World) (m1 : n1 ≤ 9223372036854775807) (m2 : n2 ≤ 9223372036854775807) (h : n1 ≠ n2 ∨ n1 = 0 ∨ 4096 < n1) :
    Calls Try.prog 10 #[.slice a1 n1 c1, .slice a2 n2 c2] w fun e w' => e = .returned (.tuple #[.int .i64 0, .int .i64 9]) ∧ w = w' := by
  by_cases h1 : n1 = n2
  · subst h1
    by_cases h2 : n1 = 0
    · subst h2
      clear h
      go_enter Try.func10, Try.ntmps10
      go_wp2
      go_ret2
      exact ⟨rfl, rfl⟩
    · have q1 : ((n1 : Int) == 0) = false := by simp; omega
      have q2 : decide ((4096 : Int) < (n1 : Int)) = true := by simp; omega
      clear h h2
      go_enter Try.func10, Try.ntmps10
      go_wp2
      go_ret2
      exact ⟨rfl, rfl⟩
  · have q1 : ((n1 : Int) != (n2 : Int)) = true := by simp; omega
    clear h
    go_enter Try.func10, Try.ntmps10
    go_wp2
    go_ret2
    exact ⟨rfl, rfl⟩

/-- The Ints' value, its length as a number of its own. -/
theorem Ints.shape {k : IntKind} {w : World} {v : Value} {xs : List Int} (h : Ints k w v xs) (hp : 0 < xs.length) :
    ∃ b off cap, v = .slice (some ⟨b, off, none⟩) xs.length cap ∧ ∀ i, i < xs.length → w.cell? ⟨b, off + i, none⟩ = some (.int k (xs[i]?.getD 0)) := by
  rcases h with ⟨rfl, _⟩ | h
  · simp at hp
  · exact h
theorem Ints.len {k : IntKind} {w : World} {v : Value} {xs : List Int} (h : Ints k w v xs) : ∃ a c, v = .slice a xs.length c := by
  rcases h with ⟨rfl, a, c, rfl⟩ | ⟨b, off, cap, rfl, _⟩
  · exact ⟨a, c, rfl⟩
  · exact ⟨_, cap, rfl⟩

theorem dist_any (v1 v2 : Value) (xs ys : List Int) (w : World) (h1 : Ints .i32 w v1 xs) (h2 : Ints .i32 w v2 ys) (hx : In32 xs) (hy : In32 ys)
    (m1 : xs.length ≤ 9223372036854775807) (m2 : ys.length ≤ 9223372036854775807) :
    Calls Try.prog 10 #[v1, v2] w fun e w' => e = .returned (.tuple #[.int .i64 (distF xs ys), .int .i64 (distE xs ys)]) ∧ w = w' := by
  unfold distF distE
  by_cases h : xs.length = ys.length ∧ 1 ≤ xs.length ∧ xs.length ≤ 4096
  · rw [if_pos h, if_pos h]
    obtain ⟨b1, o1, c1, rfl, cx⟩ := h1.shape (by omega)
    obtain ⟨b2, o2, c2, rfl, cy⟩ := h2.shape (by omega)
    rw [← h.1]
    exact dist_good b1 o1 c1 b2 o2 c2 xs.length xs ys w rfl h.1.symm h.2.1 h.2.2 hx hy cx cy
  · rw [if_neg h, if_neg h]
    obtain ⟨a1, c1, rfl⟩ := h1.len
    obtain ⟨a2, c2, rfl⟩ := h2.len
    exact dist_bad a1 a2 _ c1 _ c2 w m1 m2 (by omega)

set_option maxHeartbeats 400000 in
theorem rdist_good (b1 o1 c1 b2 o2 c2 n : Nat) (xs ys : List Int) (w : World) (hn : xs.length = n) (hn2 : ys.length = n) (h1 : 1 ≤ n) (h2 : n ≤ 4096)
    (hx : In32 xs) (hy : In32 ys)
    (cx : ∀ i, i < xs.length → w.cell? ⟨b1, o1 + i, none⟩ = some (.int .i32 (xs[i]?.getD 0)))
    (cy : ∀ i, i < ys.length → w.cell? ⟨b2, o2 + i, none⟩ = some (.int .i32 (ys[i]?.getD 0))) :
    Calls Try.prog 11 #[.slice (some ⟨b1, o1, none⟩) n c1, .slice (some ⟨b2, o2, none⟩) n c2] w fun e w' => e = .returned (.tuple #[.int .i64 (distTo xs ys n), .int .i64 0]) ∧ ∃ q, w' = w.drewN q := by
  have H1 := Lib.hid cx
  have H2 := Lib.hid cy
  have H3 := Lib.hid hn
  have H4 := Lib.hid hn2
  clear cx cy hn hn2
  have HX := Lib.hid hx
  have HY := Lib.hid hy
  clear hx hy
  have q1 : decide ((n : Int) < 1) = false := by simp; omega
  have q2 : decide ((4096 : Int) < (n : Int)) = false := by simp; omega
  go_enter Try.func11, Try.ntmps11
  go_wp2
  go_loopw [6, 7] (fun s i wr => ∃ k : Nat, k ≤ n ∧ i = .int .i64 k ∧ s = .int .i64 (distTo xs ys k) ∧ ∃ q, wr = w.drewN q) (fun _ i _ => n - (intOf i).toNat)
  case atStart => exact ⟨0, Nat.zero_le _, rfl, rfl, 0, rfl⟩
  case round =>
    obtain ⟨k, hk, rfl, rfl, q, rfl⟩ := hrel
    by_cases hlt : k < n
    · have cx := H1.out k (by have := H3.out; omega)
      have cy := H2.out k (by have := H4.out; omega)
      have bx := HX.out k
      have by' := HY.out k
      have e1 := distTo_bd xs ys HX.out HY.out k
      go_wp2
      go_quiet (fail)
      go_wp2
      all_goals
        go_roundw
        case rel => exact ⟨k + 1, by omega, by go_num, by rw [distTo_snoc, ab]; first | done | (rw [if_pos (by omega)]) | (rw [if_neg (by omega)]), _, rfl⟩
        case measure => simp [intOf]; omega
    · obtain rfl : k = n := by omega
      go_wp2
      go_ret2
      exact ⟨rfl, _, rfl⟩

set_option maxHeartbeats 400000 in
theorem rdist_bad (a1 a2 : Option Addr) (n1 c1 n2 c2 : Nat) (w : World) (m1 : n1 ≤ 9223372036854775807) (m2 : n2 ≤ 9223372036854775807) (h : n1 ≠ n2 ∨ n1 = 0 ∨ 4096 < n1) :
    Calls Try.prog 11 #[.slice a1 n1 c1, .slice a2 n2 c2] w fun e w' => e = .returned (.tuple #[.int .i64 0, .int .i64 9]) ∧ w = w' := by
  by_cases h1 : n1 = n2
  · subst h1
    by_cases h2 : n1 = 0
    · subst h2
      clear h
      go_enter Try.func11, Try.ntmps11
      go_wp2
      go_ret2
      exact ⟨rfl, rfl⟩
    · have q1 : decide ((n1 : Int) < 1) = false := by simp; omega
      have q2 : decide ((4096 : Int) < (n1 : Int)) = true := by simp; omega
      clear h h2
      go_enter Try.func11, Try.ntmps11
      go_wp2
      go_ret2
      exact ⟨rfl, rfl⟩
  · have q1 : ((n1 : Int) != (n2 : Int)) = true := by simp; omega
    clear h
    go_enter Try.func11, Try.ntmps11
    go_wp2
    go_ret2
    exact ⟨rfl, rfl⟩

theorem rdist_any (v1 v2 : Value) (xs ys : List Int) (w : World) (h1 : Ints .i32 w v1 xs) (h2 : Ints .i32 w v2 ys) (hx : In32 xs) (hy : In32 ys)
    (m1 : xs.length ≤ 9223372036854775807) (m2 : ys.length ≤ 9223372036854775807) :
    Calls Try.prog 11 #[v1, v2] w fun e w' => e = .returned (.tuple #[.int .i64 (distF xs ys), .int .i64 (distE xs ys)]) ∧ ∃ q, w' = w.drewN q := by
  unfold distF distE
  by_cases h : xs.length = ys.length ∧ 1 ≤ xs.length ∧ xs.length ≤ 4096
  · rw [if_pos h, if_pos h]
    obtain ⟨b1, o1, c1, rfl, cx⟩ := h1.shape (by omega)
    obtain ⟨b2, o2, c2, rfl, cy⟩ := h2.shape (by omega)
    rw [← h.1]
    exact rdist_good b1 o1 c1 b2 o2 c2 xs.length xs ys w rfl h.1.symm h.2.1 h.2.2 hx hy cx cy
  · rw [if_neg h, if_neg h]
    obtain ⟨a1, c1, rfl⟩ := h1.len
    obtain ⟨a2, c2, rfl⟩ := h2.len
    exact (rdist_bad a1 a2 _ c1 _ c2 w m1 m2 (by omega)).mono fun e w' ⟨h1, h2⟩ => ⟨h1, 0, h2.symm⟩

def sameB (xs ys : List Int) : Bool := decide (xs = ys)
theorem sameB_refl (xs : List Int) : sameB xs xs = true := by simp [sameB]
theorem sameB_ne (xs ys : List Int) (i : Nat) (h : ¬ xs[i]?.getD 0 = ys[i]?.getD 0) : sameB xs ys = false := by
  simp only [sameB, decide_eq_false_iff_not]; intro e; exact h (by rw [e])
theorem sameB_len (xs ys : List Int) (h : ¬ xs.length = ys.length) : sameB xs ys = false := by
  simp only [sameB, decide_eq_false_iff_not]; intro e; exact h (by rw [e])
theorem sameB_eq (xs ys : List Int) (h : xs.length = ys.length) (ha : ∀ i, i < xs.length → xs[i]?.getD 0 = ys[i]?.getD 0) : sameB xs ys = true := by
  simp only [sameB, decide_eq_true_eq]
  refine List.ext_getElem h fun i h1 h2 => ?_
  have := ha i h1
  simpa [h1, h2] using this

set_option maxHeartbeats 400000 in
theorem same_good (b1 o1 c1 b2 o2 c2 n : Nat) (xs ys : List Int) (w : World) (hn : xs.length = n) (hn2 : ys.length = n) (m1 : n ≤ 9223372036854775807)
    (cx : ∀ i, i < xs.length → w.cell? ⟨b1, o1 + i, none⟩ = some (.int .i32 (xs[i]?.getD 0)))
    (cy : ∀ i, i < ys.length → w.cell? ⟨b2, o2 + i, none⟩ = some (.int .i32 (ys[i]?.getD 0))) :
    Calls Try.prog 12 #[.slice (some ⟨b1, o1, none⟩) n c1, .slice (some ⟨b2, o2, none⟩) n c2] w fun e w' => e = .returned (.bool (sameB xs ys)) ∧ ∃ q, w' = w.drewN q := by
  have H1 := Lib.hid cx
  have H2 := Lib.hid cy
  have H3 := Lib.hid hn
  have H4 := Lib.hid hn2
  clear cx cy hn hn2
  go_enter Try.func12, Try.ntmps12
  go_wp2
  go_loopw [5] (fun i wr => ∃ k : Nat, k ≤ n ∧ i = .int .i64 k ∧ Hid (∀ i, i < k → xs[i]?.getD 0 = ys[i]?.getD 0) ∧ ∃ q, wr = w.drewN q) (fun i _ => n - (intOf i).toNat)
  case atStart => exact ⟨0, Nat.zero_le _, rfl, fun i h => by omega, 0, rfl⟩
  case round =>
    obtain ⟨k, hk, rfl, hs, q, rfl⟩ := hrel
    by_cases hlt : k < n
    · have cx := H1.out k (by have := H3.out; omega)
      have cy := H2.out k (by have := H4.out; omega)
      by_cases he : xs[k]?.getD 0 = ys[k]?.getD 0
      · have he' : (xs[k]?.getD 0 != ys[k]?.getD 0) = false := by simp [he]
        have HE := Lib.hid he
        clear he
        go_wp2
        go_quiet (fail)
        go_wp2
        go_roundw
        case rel => exact ⟨k + 1, by omega, by go_num, fun i hi => by rcases Nat.lt_succ_iff_lt_or_eq.1 hi with h | rfl; exact hs.out i h; exact HE.out, _, rfl⟩
        case measure => simp [intOf]; omega
      · have he' : (xs[k]?.getD 0 != ys[k]?.getD 0) = true := by simp [he]
        have HF := Lib.hid (sameB_ne xs ys k he)
        clear he
        go_wp2
        go_quiet (fail)
        go_wp2
        go_ret
        exact ⟨ret_bool HF.out.symm, q + nq, by rw [World.drewN_drewN]⟩
    · obtain rfl : k = n := by omega
      go_wp2
      go_ret
      exact ⟨ret_bool (sameB_eq xs ys (by rw [H3.out, H4.out]) (fun i hi => hs.out i (by have := H3.out; omega))).symm, _, rfl⟩

set_option maxHeartbeats 400000 in
theorem same_len (a1 a2 : Option Addr) (n1 c1 n2 c2 : Nat) (w : World) (m1 : n1 ≤ 9223372036854775807) (m2 : n2 ≤ 9223372036854775807) (h : n1 ≠ n2) :
    Calls Try.prog 12 #[.slice a1 n1 c1, .slice a2 n2 c2] w fun e w' => e = .returned (.bool false) ∧ w = w' := by
  have q1 : ((n1 : Int) != (n2 : Int)) = true := by simp; omega
  clear h
  go_enter Try.func12, Try.ntmps12
  go_wp2
  go_ret
  exact ⟨rfl, rfl⟩
set_option maxHeartbeats 400000 in
theorem same_none (a1 a2 : Option Addr) (c1 c2 : Nat) (w : World) :
    Calls Try.prog 12 #[.slice a1 0 c1, .slice a2 0 c2] w fun e w' => e = .returned (.bool true) ∧ w = w' := by
  go_enter Try.func12, Try.ntmps12
  go_wp2
  refine wp_loop_once ?_
  go_wp2
  go_ret
  exact ⟨rfl, rfl⟩

theorem same_any (v1 v2 : Value) (xs ys : List Int) (w : World) (h1 : Ints .i32 w v1 xs) (h2 : Ints .i32 w v2 ys)
    (m1 : xs.length ≤ 9223372036854775807) (m2 : ys.length ≤ 9223372036854775807) :
    Calls Try.prog 12 #[v1, v2] w fun e w' => e = .returned (.bool (sameB xs ys)) ∧ ∃ q, w' = w.drewN q := by
  by_cases h : xs.length = ys.length
  · by_cases h0 : xs.length = 0
    · obtain rfl : xs = [] := List.length_eq_zero_iff.1 h0
      obtain rfl : ys = [] := List.length_eq_zero_iff.1 (h ▸ h0)
      obtain ⟨a1, c1, rfl⟩ := h1.len
      obtain ⟨a2, c2, rfl⟩ := h2.len
      exact (same_none a1 a2 c1 c2 w).mono fun e w' ⟨h1, h2⟩ => ⟨h1, 0, h2.symm⟩
    · obtain ⟨b1, o1, c1, rfl, cx⟩ := h1.shape (by omega)
      obtain ⟨b2, o2, c2, rfl, cy⟩ := h2.shape (by omega)
      rw [← h]
      exact same_good b1 o1 c1 b2 o2 c2 xs.length xs ys w rfl h.symm m1 cx cy
  · obtain ⟨a1, c1, rfl⟩ := h1.len
    obtain ⟨a2, c2, rfl⟩ := h2.len
    rw [sameB_len xs ys h]
    exact (same_len a1 a2 _ c1 _ c2 w m1 m2 h).mono fun e w' ⟨h1, h2⟩ => ⟨h1, 0, h2.symm⟩

theorem in32_two (a b : Int) (ha : -2147483648 ≤ a ∧ a ≤ 2147483647) (hb : -2147483648 ≤ b ∧ b ≤ 2147483647) : In32 [a, b] := by
  intro i
  match i with
  | 0 => simpa using ha
  | 1 => simpa using hb
  | n + 2 => simp

set_option maxHeartbeats 400000 in
theorem known_any (w : World) : Calls Try.prog 13 #[] w fun e w' => e = .returned (.bool true) ∧ Below w.heap.size w w' := by
  go_enter Try.func13, Try.ntmps13
  go_wp2_with fail
  refine (dist_good _ 0 _ _ 0 _ 2 [1, -2] [4, 2] _ rfl rfl (by omega) (by omega) (in32_two _ _ (by omega) (by omega)) (in32_two _ _ (by omega) (by omega)) ?_ ?_).mono ?_
  · intro i hi
    have : i = 0 ∨ i = 1 := by simp at hi; omega
    rcases this with rfl | rfl <;> simp [go_sem]
  · intro i hi
    have : i = 0 ∨ i = 1 := by simp at hi; omega
    rcases this with rfl | rfl <;> simp [go_sem]
  · rintro e w' ⟨rfl, rfl⟩
    have hd : distTo [1, -2] [4, 2] 2 = 7 := by decide
    have hl : lowF 9 4 = 5 := by decide
    go_wp2_with (go_at_call 15; refine (low_any _ _ _ (by omega) (by omega) (by omega) (by omega)).mono ?_; rintro e w' ⟨rfl, rfl⟩)
    go_ret
    exact ⟨rfl, ((Below.refl _ _).alloc (Nat.le_refl _) _).alloc (by simp) _⟩
end Go.Proofs.Yteidlneohlllmaa
