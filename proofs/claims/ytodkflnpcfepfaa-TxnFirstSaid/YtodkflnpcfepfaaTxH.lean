/- meet; what a manager is while transactions write, and while they commit. -/
import Derived.Test.YtodkflnpcfepfaaTxG
namespace Go.Proofs.Ytodkflnpcfepfaa
open Go.RowKit Go.ChangeShapes Go.WideShapes Go.ChangeAt
set_option linter.unusedVariables false

/-- Have two lists a key in common, among their first 30? -/
def MeetL (a b : List Int) : Prop := ∃ k ∈ a.take 30, k ∈ b.take 30
instance (a b : List Int) : Decidable (MeetL a b) := inferInstanceAs (Decidable (∃ k ∈ a.take 30, k ∈ b.take 30))
theorem take_get {xs : List Int} {i n : Nat} (h : i < xs.length) (h' : i < n) : xs[i]?.getD 0 ∈ xs.take n := by
  rw [List.getElem?_eq_getElem h]
  exact List.mem_take_iff_getElem.2 ⟨i, by omega, rfl⟩
theorem mem_take_get {xs : List Int} {n : Nat} {k : Int} (h : k ∈ xs.take n) : ∃ i, i < xs.length ∧ i < n ∧ k = xs[i]?.getD 0 := by
  obtain ⟨i, hi, rfl⟩ := List.mem_take_iff_getElem.1 h
  exact ⟨i, by omega, by omega, by rw [List.getElem?_eq_getElem (by omega)]; rfl⟩
set_option maxHeartbeats 2000000 in
theorem meet_any (a b : Option Addr) (n m c d : Nat) (xs ys : List Int) (w : World) (hx : xs.length = n) (hy : ys.length = m) (ha : Ints .u64 w (.slice a n c) xs) (hb : Ints .u64 w (.slice b m d) ys) (bx : n ≤ 9223372036854775807) (bd : m ≤ 9223372036854775807) :
    Calls Try.prog 11 #[.slice a n c, .slice b m d] w fun e w' => e = .returned (.bool (decide (MeetL xs ys))) ∧ ∃ q, w' = w.drewN q := by
  have HX := Lib.hid hx
  have HY := Lib.hid hy
  have HA := Lib.hid ha
  have HB := Lib.hid hb
  obtain ⟨R, hR⟩ : ∃ R, R = decide (MeetL xs ys) := ⟨_, rfl⟩
  rw [← hR]
  have HR := Lib.hid hR
  clear hx hy ha hb hR
  go_enter Try.func11, Try.ntmps11
  go_wp2_with fail
  go_loopw [5, 6] (fun u _ wr => ∃ i : Nat, i ≤ n ∧ i ≤ 30 ∧ u = .int .i64 i ∧ Hid (∀ j, j < i → (xs[j]?.getD 0) ∉ ys.take 30) ∧ Hid (∃ q, wr = w.drewN q)) (fun u _ _ => n - (intOf u).toNat)
  case atStart => exact ⟨0, by omega, by omega, rfl, Lib.hid (fun j hj => by omega), Lib.hid ⟨0, rfl⟩⟩
  case round =>
    obtain ⟨i, hi, hi30, rfl, HN, HQ⟩ := hrel
    by_cases hlt : i < n ∧ i < 30
    · obtain ⟨l1, l2⟩ := hlt
      have d1 : decide ((i : Int) < (n : Int)) = true := decide_eq_true (by omega)
      have d2 : decide ((i : Int) < 30) = true := decide_eq_true (by omega)
      rename World => w3
      go_wp2_with fail
      go_loopw [6] (fun u wr => ∃ k : Nat, k ≤ m ∧ k ≤ 30 ∧ u = .int .i64 k ∧ Hid (∀ j, j < k → xs[i]?.getD 0 ≠ ys[j]?.getD 0) ∧ Hid (∃ q, wr = w.drewN q)) (fun u _ => m - (intOf u).toNat)
      case atStart => exact ⟨0, by omega, by omega, rfl, Lib.hid (fun j hj => by omega), HQ⟩
      case round =>
        obtain ⟨k, hk, hk30, rfl, HN2, HQ2⟩ := hrel
        by_cases hlt2 : k < m ∧ k < 30
        · obtain ⟨l3, l4⟩ := hlt2
          have d3 : decide ((k : Int) < (m : Int)) = true := decide_eq_true (by omega)
          have d4 : decide ((k : Int) < 30) = true := decide_eq_true (by omega)
          obtain ⟨q, rfl⟩ := HQ2.out
          obtain ⟨b1, o1, c1, hv1, hc1⟩ := HA.out.shape (by rw [HX.out]; omega)
          obtain ⟨b2, o2, c2, hv2, hc2⟩ := HB.out.shape (by rw [HY.out]; omega)
          rw [HX.out] at hv1
          rw [HY.out] at hv2
          simp only [Value.slice.injEq] at hv1 hv2
          obtain ⟨rfl, _, rfl⟩ := hv1
          obtain ⟨rfl, _, rfl⟩ := hv2
          have C1 := hc1 i (by rw [HX.out]; omega)
          have C2 := hc2 k (by rw [HY.out]; omega)
          clear hc1 hc2
          by_cases he : xs[i]?.getD 0 = ys[k]?.getD 0
          · have HF : Hid (MeetL xs ys) := Lib.hid ⟨_, take_get (by rw [HX.out]; exact l1) l2, he ▸ take_get (by rw [HY.out]; exact l3) l4⟩
            rw [← he] at C2
            clear he
            generalize xs[i]?.getD 0 = z at C1 C2
            go_wp2_with fail
            go_quiet (fail)
            go_wp2_with fail
            go_ret
            refine ⟨ret_bool ?_, q + nq, by rw [World.drewN_drewN]⟩
            rw [HR.out]
            exact (decide_eq_true HF.out).symm
          · have he' : (xs[i]?.getD 0 == ys[k]?.getD 0) = false := by simpa using he
            have HG : Hid (∀ j, j < k + 1 → xs[i]?.getD 0 ≠ ys[j]?.getD 0) := Lib.hid (fun j hj => by rcases Nat.lt_succ_iff_lt_or_eq.1 hj with h | rfl; exact HN2.out j h; exact he)
            clear he
            generalize xs[i]?.getD 0 = z at *
            generalize ys[k]?.getD 0 = z2 at C2 he'
            go_wp2_with fail
            go_quiet (fail)
            go_wp2_with fail
            go_roundw
            case rel =>
              exact ⟨k + 1, by omega, by omega, by go_num, HG, Lib.hid ⟨q + nq, by first | rfl | rw [World.drewN_drewN]⟩⟩
            case measure => simp [intOf]; omega
        · have HE : Hid (xs[i]?.getD 0 ∉ ys.take 30) := Lib.hid (fun hm => by
            obtain ⟨j, h1, h2, h3⟩ := mem_take_get hm
            rw [HY.out] at h1
            exact HN2.out j (by omega) h3)
          have d5 : (decide ((k : Int) < (m : Int)) && decide ((k : Int) < 30)) = false := by
            rw [Bool.and_eq_false_iff]
            by_cases h : k < m
            · exact .inr (decide_eq_false (by omega))
            · exact .inl (decide_eq_false (by omega))
          by_cases h : k < m
          · have d3 : decide ((k : Int) < (m : Int)) = true := decide_eq_true (by omega)
            have d4 : decide ((k : Int) < 30) = false := decide_eq_false (by omega)
            clear d5 hlt2
            go_wp2_with fail
            go_roundw
            case rel => exact ⟨i + 1, by omega, by omega, by go_num, Lib.hid (fun j hj => by rcases Nat.lt_succ_iff_lt_or_eq.1 hj with h | rfl; exact HN.out j h; exact HE.out), HQ2⟩
            case measure => simp [intOf]; omega
          · have d3 : decide ((k : Int) < (m : Int)) = false := decide_eq_false (by omega)
            clear d5 hlt2
            go_wp2_with fail
            go_roundw
            case rel => exact ⟨i + 1, by omega, by omega, by go_num, Lib.hid (fun j hj => by rcases Nat.lt_succ_iff_lt_or_eq.1 hj with h | rfl; exact HN.out j h; exact HE.out), HQ2⟩
            case measure => simp [intOf]; omega
    · have HE : Hid (¬ MeetL xs ys) := Lib.hid (by
        rintro ⟨z, h1, h2⟩
        obtain ⟨j, h3, h4, rfl⟩ := mem_take_get h1
        rw [HX.out] at h3
        exact HN.out j (by omega) h2)
      by_cases h : i < n
      · have d1 : decide ((i : Int) < (n : Int)) = true := decide_eq_true (by omega)
        have d2 : decide ((i : Int) < 30) = false := decide_eq_false (by omega)
        clear hlt
        go_wp2_with fail
        go_ret
        exact ⟨ret_bool (by rw [HR.out]; exact (decide_eq_false HE.out).symm), HQ.out⟩
      · have d1 : decide ((i : Int) < (n : Int)) = false := decide_eq_false (by omega)
        clear hlt
        go_wp2_with fail
        go_ret
        exact ⟨ret_bool (by rw [HR.out]; exact (decide_eq_false HE.out).symm), HQ.out⟩
end Go.Proofs.Ytodkflnpcfepfaa
