/- The law's bodies; known. -/
import Derived.Test.YtomhflkjnldeoaaPgJ
import Derived.Test.YtomhflkjnldeoaaArr
namespace Go.Proofs.Ytomhflkjnldeoaa
open Go.RowKit Go.ChangeShapes Go.WideShapes Go.ChangeAt
set_option linter.unusedVariables false

def bodyL (n : Int) : List Int := (List.range 500).map fun i : Nat => (n + (i : Int) * 7) % 256
theorem bodyL_len (n : Int) : (bodyL n).length = 500 := by unfold bodyL; rw [List.length_map, List.length_range]
theorem bodyL_by (n : Int) : IsBy (bodyL n) := fun x hx => by
  obtain ⟨i, _, rfl⟩ := List.mem_map.1 hx
  omega
def BodyPost (n : Int) (w : World) (e : Ending) (w' : World) : Prop := e = .returned (.slice (some ⟨w.heap.size, 0, none⟩) 500 500) ∧ w'.ownsRow w.heap.size 5 1 (.slice (some ⟨w.heap.size, 0, none⟩) 500 500) 500 ((bodyL n).map (Value.int .u8)) ∧ Only [] w w' ∧ w'.heap.size = w.heap.size + 1
def SoFar (n : Int) (w wr : World) (i : Nat) : Prop := ∃ A : Array Value, A.size = 500 ∧ Row wr w.heap.size A 5 ∧ (∀ j, j < i → A[j]? = some (.int .u8 ((n + (j : Int) * 7) % 256))) ∧ (∀ j, j < 500 → ∃ x : Int, A[j]? = some (.int .u8 x)) ∧ Only [] w wr ∧ wr.heap.size = w.heap.size + 1
theorem byteOf (n i : Int) : IntKind.u8.wrap (wrap64 (n + i)) = (n + i) % 256 := by
  rw [show IntKind.u8.wrap (wrap64 (n + i)) = wrap64 (n + i) % 256 from rfl]
  unfold wrap64
  omega
set_option maxHeartbeats 1000000 in
theorem body_any (n : Int) (w : World) : Calls Try.prog 17 #[.int .i64 n] w (BodyPost n w) := by
  have mk := make_500
  go_enter Try.func17, Try.ntmps17
  go_wp2_with fail
  have F0 : Hid (SoFar n w (w.alloc (.cells zs500 5)) 0) := Lib.hid ⟨zs500, by unfold zs500; rw [Array.size_replicate], Row.made _ _ _, by omega, fun j hj => ⟨0, by unfold zs500; rw [Array.getElem?_replicate, if_pos hj]⟩, (Only.refl [] _).alloc _, by simp [go_sem]⟩
  clear mk
  go_loopw [4] (fun u wr => ∃ i : Nat, i ≤ 500 ∧ u = .int .i64 i ∧ Hid (SoFar n w wr i)) (fun u _ => 500 - (intOf u).toNat)
  case atStart => exact ⟨0, by omega, rfl, F0⟩
  case round =>
    obtain ⟨i, hi, rfl, HF⟩ := hrel
    have hi0 : (0 : Int) ≤ (i : Int) := Int.natCast_nonneg _
    by_cases hlt : i < 500
    · have d1 : decide ((i : Int) < 500) = true := decide_eq_true (by omega)
      have hilt : (i : Int) < 500 := by omega
      obtain ⟨A, hA, hr, hx, hany, ho, hs⟩ := HF.out
      obtain ⟨x, hxi⟩ := hany i hlt
      have c1 : wr.cell? ⟨w.heap.size, i, none⟩ = some (.int .u8 x) := by rw [hr.cell]; exact hxi
      have f1 := hr.free i
      have F1 : Hid (SoFar n w (wr.setCell ⟨w.heap.size, i, none⟩ (.int .u8 ((n + (i : Int) * 7) % 256))) (i + 1)) := Lib.hid ⟨_, by simp [hA], hr.set i _, fun j hj => by
          rcases Nat.lt_succ_iff_lt_or_eq.1 hj with h | rfl
          · rw [Array.getElem?_setIfInBounds_ne (by omega)]; exact hx j h
          · rw [Array.getElem?_setIfInBounds_self_of_lt (by omega)], fun j hj => by
          by_cases e : i = j
          · subst e; exact ⟨_, Array.getElem?_setIfInBounds_self_of_lt (by omega)⟩
          · rw [Array.getElem?_setIfInBounds_ne e]; exact hany j hj, ho.setCell (.inr (Nat.le_refl _)) _, by simp [hs]⟩
      have bo := byteOf n ((i : Int) * 7)
      clear hr hx hany ho hs hxi HF F0
      go_wp2_with fail
      go_roundw
      case rel => exact ⟨i + 1, by omega, by go_num, F1⟩
      case measure => simp [intOf]; omega
    · have d1 : decide ((i : Int) < 500) = false := decide_eq_false (by omega)
      have H5 : Hid (i = 500) := Lib.hid (by omega)
      go_wp2_with fail
      go_ret
      obtain ⟨A, hA, hr, hx, hany, ho, hs⟩ := HF.out
      have e : A.toList = (bodyL n).map (Value.int .u8) := List.ext_getElem? fun j => by
        by_cases hj : j < 500
        · rw [Array.getElem?_toList, hx j (by rw [H5.out]; exact hj)]
          unfold bodyL
          rw [List.getElem?_map, List.getElem?_map, List.getElem?_range hj]
          rfl
        · rw [Array.getElem?_toList, Array.getElem?_eq_none (by omega), List.getElem?_eq_none (by rw [List.length_map, bodyL_len]; omega)]
      rw [BodyPost, ← e]
      exact ⟨rfl, own_row hr hA (Nat.le_refl _) (by unfold maxLen; omega), ho, hs⟩
def KnownPost (w : World) (e : Ending) (w' : World) : Prop := e = .returned (.bool true) ∧ Below w.heap.size w w'
theorem leN_leB (k : Nat) : ∀ n : Int, 0 ≤ n → n < 256 ^ k → leN (leB n k) = n := by
  intro n h0 h1
  obtain ⟨m, rfl⟩ := Int.eq_ofNat_of_zero_le h0
  have key : ∀ j, j ≤ k → leN (leB (m : Int) j) = ((m : Int) % 256 ^ j) := by
    intro j
    induction j with
    | zero => intro _; simp [leB, leN]
    | succ j ih =>
      intro hj
      rw [leB_succ, leN_append, ih (by omega), leB_len]
      simp only [leN, leAt]
      rw [show (2 : Int) ^ (8 * j) = 256 ^ j by rw [Int.pow_mul]; rfl, Int.pow_succ]
      have e1 : (m : Int) % 256 ^ j = ((m % 256 ^ j : Nat) : Int) := by rw [Int.natCast_emod, Int.natCast_pow]; rfl
      have e2 : (m : Int) / 256 ^ j % 256 = ((m / 256 ^ j % 256 : Nat) : Int) := by rw [Int.natCast_emod, Int.natCast_ediv, Int.natCast_pow]; rfl
      have e3 : (m : Int) % (256 ^ j * 256) = ((m % (256 ^ j * 256) : Nat) : Int) := by rw [Int.natCast_emod, Int.natCast_mul, Int.natCast_pow]; rfl
      rw [e1, e2, e3, Nat.mod_mul, Int.natCast_add, Int.natCast_mul, Int.natCast_pow, Int.mul_zero, Int.add_zero]
      rfl
  rw [key k (Nat.le_refl _)]
  exact Int.emod_eq_of_lt h0 h1
/-- A page's bytes, opened. -/
theorem open_page' {n : Int} {xs : List Int} (h0 : 0 ≤ n) (h1 : n < 18446744073709551616) (hx : xs.length = 500) (hb : IsBy xs) (hz : zerosIn (pageB n xs) ≠ 512) : openE (pageB n xs) = 0 ∧ openN (pageB n xs) = n ∧ openB (pageB n xs) = xs := by
  have hl : (pageB n xs).length = 512 := by rw [pageB_len, hx]
  have h4 : (pageB n xs).take 4 = leB (sumI (restB n xs) : Nat) 4 := by unfold pageB; rw [List.take_left' (leB_len _ _)]
  have d4 : (pageB n xs).drop 4 = restB n xs := by unfold pageB; rw [List.drop_left' (leB_len _ _)]
  have hs : sumOk (pageB n xs) := by
    unfold sumOk
    rw [h4, d4, leN_leB 4 _ (Int.natCast_nonneg _) (by have := sumI_lt (restB n xs); have e : (256 : Int) ^ 4 = 4294967296 := by decide
                                                       rw [e]; omega)]
  unfold openE openN openB
  rw [if_neg (by simp [hl]), if_neg hz, if_pos hs, if_neg (by simp [hl]), if_neg hz, if_pos hs, if_neg (by simp [hl]), if_neg hz, if_pos hs, d4]
  refine ⟨rfl, ?_, ?_⟩
  · unfold restB
    rw [List.take_left' (leB_len _ _)]
    exact leN_leB 8 n h0 (by have e : (256 : Int) ^ 8 = 18446744073709551616 := by decide
                             rw [e]; exact h1)
  · rw [show (12 : Nat) = 4 + 8 from rfl, ← List.drop_drop, d4]
    unfold restB
    rw [List.drop_left' (leB_len _ _)]
theorem open_page {n : Int} {xs : List Int} (h0 : 0 ≤ n) (h1 : n < 18446744073709551616) (hx : xs.length = 500) (hb : IsBy xs) : openE (pageB n xs) = 0 ∧ openN (pageB n xs) = n ∧ openB (pageB n xs) = xs := by
  by_cases hz : zerosIn (pageB n xs) = 512
  · have hl : (pageB n xs).length = 512 := by rw [pageB_len, hx]
    have d4 : (pageB n xs).drop 4 = restB n xs := by unfold pageB; rw [List.drop_left' (leB_len _ _)]
    have hall := (zerosIn_eq (pageB_by hb)).1 (by rw [hz, hl])
    rw [hl] at hall
    have hr : restB n xs = List.replicate 508 0 := by rw [← d4, hall, List.drop_replicate]
    have hn : n = 0 := by
      have h8 : leB n 8 = List.replicate 8 0 := by
        have := congrArg (List.take 8) hr
        unfold restB at this
        rw [List.take_left' (leB_len _ _), List.take_replicate] at this
        exact this
      have := leN_leB 8 n h0 (by have e : (256 : Int) ^ 8 = 18446744073709551616 := by decide
                                 rw [e]; exact h1)
      rw [h8] at this
      rw [← this]; decide
    have hxs : xs = List.replicate 500 0 := by
      have := congrArg (List.drop 8) hr
      unfold restB at this
      rw [List.drop_left' (leB_len _ _), List.drop_replicate] at this
      exact this
    unfold openE openN openB
    rw [if_neg (by simp [hl]), if_pos hz, if_neg (by simp [hl]), if_pos hz, if_neg (by simp [hl]), if_pos hz]
    exact ⟨rfl, hn.symm, hxs.symm⟩
  · exact open_page' h0 h1 hx hb hz
theorem ints_own' {w : World} {base : Nat} {e : TypeId} {k : IntKind} {v : Value} {n : Nat} {xs : List Int} (h : w.ownsRow base e 1 v n (xs.map (Value.int k))) (hl : xs.length = n) : Ints k w v xs := ints_own h
set_option maxRecDepth 100000 in
set_option maxHeartbeats 4000000 in
theorem known_any (w : World) : Calls Try.prog 7 #[] w (KnownPost w) := by
  have OP := Lib.hid (open_page (n := 5) (xs := bodyL 3) (by omega) (by omega) (bodyL_len 3) (bodyL_by 3))
  go_enter Try.func7, Try.ntmps7
  go_wp2_with fail
  refine (body_any 3 w).mono ?_
  rintro _ w1 ⟨rfl, ho1, k1, hs1⟩
  have O1 : Hid (Ints .u8 w1 (.slice (some ⟨w.heap.size, 0, none⟩) 500 500) (bodyL 3)) := Lib.hid (ints_own ho1)
  have B1 : Hid (Below w.heap.size w w1) := Lib.hid (k1.toBelow (Nat.le_refl _) (by simp))
  clear ho1 k1 hs1
  go_wp2_with fail
  refine (bytes_ok 5 (by omega) (by omega) _ _ (bodyL 3) w1 (bodyL_len 3) O1.out (bodyL_by 3)).mono ?_
  rintro _ w2 ⟨g, c, rfl, ho2, hb2, hg2⟩
  have PL : Hid ((pageB 5 (bodyL 3)).length = 512) := Lib.hid (by rw [pageB_len, bodyL_len])
  have O2 : Hid (Ints .u8 w2 (.slice (some ⟨g, 0, none⟩) 512 c) (pageB 5 (bodyL 3))) := Lib.hid (ints_own ho2)
  have CC : Hid (512 ≤ c) := Lib.hid (by
    rcases ho2.2 with ⟨h, _⟩ | ⟨_, _, _, h, _, _, h2, _⟩
    · simp at h
    · simp only [Value.slice.injEq] at h; omega)
  have B2 : Hid (Below w.heap.size w w2) := Lib.hid (B1.out.trans (hb2.mono B1.out.size))
  clear ho2 hb2 hg2 O1 B1
  go_wp2_with fail
  refine (open_any _ 512 c _ w2 PL.out O2.out (pageB_by (bodyL_by 3)) CC.out).mono ?_
  rintro _ w3 ⟨v, rfl, ho3, hb3⟩
  obtain ⟨e1, e2, e3⟩ := OP.out
  rw [e3] at ho3
  rw [e1, e2]
  obtain ⟨g3, c3, rfl, _⟩ := own_parts ho3 (by rw [bodyL_len]; omega)
  rw [bodyL_len] at *
  have O3 : Hid (Ints .u8 w3 (.slice (some ⟨g3, 0, none⟩) 500 c3) (bodyL 3)) := Lib.hid (ints_own ho3)
  have B3 : Hid (Below w.heap.size w w3) := Lib.hid (B2.out.trans (hb3.mono B2.out.size))
  clear e1 e2 e3 ho3 hb3 O2 B2 OP PL CC
  go_wp2_with fail
  have P4 : Hid (Row (w3.alloc (.cells #[.int .u64 5, .slice (some ⟨g3, 0, none⟩) 500 c3] 25)) w3.heap.size #[.int .u64 5, .slice (some ⟨g3, 0, none⟩) 500 c3] 25) := Lib.hid (Row.made _ _ _)
  have O4 : Hid (Ints .u8 (w3.alloc (.cells #[.int .u64 5, .slice (some ⟨g3, 0, none⟩) 500 c3] 25)) (.slice (some ⟨g3, 0, none⟩) 500 c3) (bodyL 3)) := Lib.hid (O3.out.below' ((Below.refl _ _).alloc (Nat.le_refl _) _))
  have B4 : Hid (Below w.heap.size w (w3.alloc (.cells #[.int .u64 5, .slice (some ⟨g3, 0, none⟩) 500 c3] 25))) := Lib.hid (B3.out.alloc B3.out.size _)
  generalize w3.alloc (.cells #[.int .u64 5, .slice (some ⟨g3, 0, none⟩) 500 c3] 25) = w4 at *
  generalize w3.heap.size = q at *
  clear O3 B3
  have c0 : w4.drew.cell? ⟨q, 0, none⟩ = some (.int .u64 5) := P4.out.cell 0
  have c1 : w4.drew.cell? ⟨q, 1, none⟩ = some (.slice (some ⟨g3, 0, none⟩) 500 c3) := P4.out.cell 1
  have O5 := Lib.hid (O4.out.below' ((Below.refl _ _).drew))
  have q1 := conv_ints O5.out
  obtain ⟨S, hS⟩ : ∃ S, strOfNums (bodyL 3) = S := ⟨_, rfl⟩
  rw [hS] at q1
  have HS := Lib.hid hS
  clear hS
  go_region_with (first
    | (go_at_call 17; refine (body_any 3 _).mono ?_; rintro _ y ⟨rfl, hoy, ky, hsy⟩; have e0 : y.cell? ⟨q, 0, none⟩ = some (.int .u64 5) := (ky.cell P4.out.lt (by simp)).trans c0; have e1 : y.cell? ⟨q, 1, none⟩ = some (.slice (some ⟨g3, 0, none⟩) 500 c3) := (ky.cell P4.out.lt (by simp)).trans c1; have q2 := conv_ints (O5.out.below' (ky.toBelow (Nat.le_refl _) (by simp))); have q3 : (convert 23 9 (.slice (some ⟨w4.heap.size, 0, none⟩) 500 500)).run Try.prog y = .ok (.string (strOfNums (bodyL 3))) y := conv_ints (ints_own' hoy (bodyL_len 3)); rw [HS.out] at q2 q3; have BY : Hid (Below w.heap.size w y) := Lib.hid (B4.out.drew.trans (ky.toBelow B4.out.size (by simp))); clear hoy ky hsy))
  all_goals
    go_wp2_with fail
    go_ret
    exact ⟨by rfl, BY.out⟩
end Go.Proofs.Ytomhflkjnldeoaa
