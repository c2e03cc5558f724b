/- Readers of bytes: counts (printed by gen_st.py). -/
import Derived.Test.YtekdogmhgijocaaMg29
namespace Go.Proofs.Ytekdogmhgijocaa.st
open Go.Proofs.Ytekdogmhgijocaa
open Go.RowKit Go.ChangeShapes Go.WideShapes Go.ChangeAt
set_option linter.unusedVariables false
set_option linter.unusedSimpArgs false

theorem and127 : ∀ x : Int, 0 ≤ x → x < 256 → bits .and .u8 x 127 = x % 128 := fun x h0 h1 => by
  obtain ⟨n, rfl⟩ := Int.eq_ofNat_of_zero_le h0
  have h : ∀ m : Fin 256, bits .and .u8 (m.val : Int) 127 = (m.val : Int) % 128 := by decide +kernel
  exact h ⟨n, by omega⟩
theorem cnt_or {i : Nat} {acc c : Int} (hi : i ≤ 9) (h0 : 0 ≤ acc) (h1 : acc < 128 ^ i) (c0 : 0 ≤ c) (c1 : c < 256) (h9 : i = 9 → c ≤ 1) : bits .or .u64 acc (IntKind.u64.wrap (c % 128 * 2 ^ (7 * i))) = acc + c % 128 * 128 ^ i := by
  obtain ⟨A, rfl⟩ := Int.eq_ofNat_of_zero_le h0
  obtain ⟨C, hC⟩ := Int.eq_ofNat_of_zero_le (show 0 ≤ c % 128 by omega)
  have hC2 : C < 128 := by omega
  have hC9 : i = 9 → C ≤ 1 := fun h => by have := h9 h; omega
  have hp : (128 : Nat) ^ i = 2 ^ (7 * i) := by rw [show (128 : Nat) = 2 ^ 7 from rfl, ← Nat.pow_mul]
  have hA : A < 2 ^ (7 * i) := by
    have : ((A : Nat) : Int) < ((128 ^ i : Nat) : Int) := by rw [Int.natCast_pow]; exact h1
    rw [← hp]; omega
  have hm : C * 2 ^ (7 * i) < 18446744073709551616 := by
    by_cases h : i = 9
    · subst h
      have := hC9 rfl
      have : C * 2 ^ (7 * 9) ≤ 1 * 2 ^ (7 * 9) := Nat.mul_le_mul_right _ this
      omega
    · have hle : (2 : Nat) ^ (7 * i) ≤ 2 ^ 56 := Nat.pow_le_pow_right (by omega) (by omega)
      have : C * 2 ^ (7 * i) ≤ 127 * 2 ^ 56 := Nat.mul_le_mul (by omega) hle
      omega
  have hA2 : A < 18446744073709551616 := by
    have hle : (2 : Nat) ^ (7 * i) ≤ 2 ^ 63 := Nat.pow_le_pow_right (by omega) (by omega)
    omega
  rw [hC]
  have e1 : IntKind.u64.wrap ((C : Int) * 2 ^ (7 * i)) = ((C * 2 ^ (7 * i) : Nat) : Int) := by
    rw [show ∀ z, IntKind.u64.wrap z = z % 18446744073709551616 from fun _ => rfl, show (C : Int) * 2 ^ (7 * i) = ((C * 2 ^ (7 * i) : Nat) : Int) by rw [Int.natCast_mul, Int.natCast_pow]; rfl]
    omega
  have e2 : (C : Int) * 128 ^ i = ((C * 2 ^ (7 * i) : Nat) : Int) := by
    rw [← hp, Int.natCast_mul, Int.natCast_pow]; rfl
  rw [e1, e2, u64_or_nat A _ hA2 hm, ← Int.natCast_add]
  congr 1
  rw [Nat.or_comm, Nat.mul_comm C, ← Nat.two_pow_add_eq_or_of_lt hA]
  omega
theorem cnt_next {i : Nat} {acc c : Int} (hi : i ≤ 9) (h0 : 0 ≤ acc) (h1 : acc < 128 ^ i) (c0 : 0 ≤ c) : 0 ≤ acc + c % 128 * 128 ^ i ∧ acc + c % 128 * 128 ^ i < 128 ^ (i + 1) := by
  have hp : (0 : Int) < 128 ^ i := Int.pow_pos (by omega)
  have h2 : 0 ≤ c % 128 * 128 ^ i := Int.mul_nonneg (by omega) (by omega)
  have h3 : c % 128 * 128 ^ i ≤ 127 * 128 ^ i := Int.mul_le_mul_of_nonneg_right (by omega) (by omega)
  rw [Int.pow_succ]
  omega
theorem cnt_le : ∀ (xs : List Int) (i : Nat) (acc : Int), (cnt xs i acc).2.2 = true → (i : Int) < (cnt xs i acc).2.1 ∧ (cnt xs i acc).2.1 ≤ (i : Int) + xs.length
  | [], i, acc, h => by simp [cnt] at h
  | c :: r, i, acc, h => by
    unfold cnt at h ⊢
    split at h
    · simp at h
    · rename_i hA
      rw [if_neg hA] at *
      split at h
      · rename_i hB
        rw [if_pos hB]
        simp
        omega
      · rename_i hB
        rw [if_neg hB]
        have := cnt_le r (i + 1) _ h
        simp
        omega
theorem cnt_nonneg : ∀ (xs : List Int) (i : Nat) (acc : Int), IsBy xs → 0 ≤ acc → 0 ≤ (cnt xs i acc).1
  | [], i, acc, _, h => by simp [cnt]
  | c :: r, i, acc, hb, h => by
    have hc := hb c (by simp)
    have hp : (0 : Int) < 128 ^ i := Int.pow_pos (by omega)
    have h2 : 0 ≤ c % 128 * 128 ^ i := Int.mul_nonneg (by omega) (by omega)
    unfold cnt
    split
    · simp
    · split
      · simp; omega
      · exact cnt_nonneg r (i + 1) _ (fun x hx => hb x (List.mem_cons_of_mem _ hx)) (by omega)
theorem cnt_lt : ∀ (xs : List Int) (i : Nat) (acc : Int), IsBy xs → i ≤ 9 → 0 ≤ acc → acc < 128 ^ i → (cnt xs i acc).1 < 18446744073709551616
  | [], i, acc, _, _, _, _ => by simp [cnt]
  | c :: r, i, acc, hb, hi, h0, h1 => by
    have hc := hb c (by simp)
    have hn := cnt_next hi h0 h1 hc.1
    unfold cnt
    split
    · simp
    · rename_i hA
      split
      · by_cases h9 : i = 9
        · subst h9
          have : c ≤ 1 := by omega
          have : c % 128 * 128 ^ 9 ≤ 1 * 128 ^ 9 := Int.mul_le_mul_of_nonneg_right (by omega) (by omega)
          simp only
          omega
        · have hle : (128 : Int) ^ (i + 1) ≤ 128 ^ 9 := by
            have h : (128 : Nat) ^ (i + 1) ≤ 128 ^ 9 := Nat.pow_le_pow_right (by omega) (by omega)
            have h2 := Int.ofNat_le.2 h
            rwa [Int.natCast_pow, Int.natCast_pow] at h2
          simp only
          omega
      · by_cases h9 : i = 9
        · subst h9
          have : c ≤ 1 := by omega
          omega
        · exact cnt_lt r (i + 1) _ (fun x hx => hb x (List.mem_cons_of_mem _ hx)) (by omega) hn.1 hn.2
def cntV (xs : List Int) : Array Value := #[.int .u64 (cnt xs 0 0).1, .int .i64 (cnt xs 0 0).2.1, .bool (cnt xs 0 0).2.2]
theorem drop_step {xs : List Int} {i : Nat} {c : Int} (h : xs[i]? = some c) : xs.drop i = c :: xs.drop (i + 1) := by
  obtain ⟨hi, hx⟩ := List.getElem?_eq_some_iff.1 h
  rw [List.drop_eq_getElem_cons hi, hx]
set_option maxRecDepth 100000 in
set_option maxHeartbeats 8000000 in
theorem count_gen {r : Nat} {xs : List Int} {e : Int} {w : World} (h : RdrAt w r xs e) (hb : IsBy xs) :
    Calls Try.prog 70 #[.pointer (some ⟨r, 0, none⟩)] w fun z w' => z = .returned (.tuple (cntV xs)) ∧ w' = w := by
  obtain ⟨s, rfl, hr, hs, hne, hc⟩ := h.at_
  have c0 : w.cell? ⟨r, 0, none⟩ = some (.slice s.a s.xs.length s.c) := hr.cell 0
  obtain ⟨a0, ha0⟩ : ∃ a, s.a = a := ⟨_, rfl⟩
  obtain ⟨k0, hk0⟩ : ∃ a, s.c = a := ⟨_, rfl⟩
  obtain ⟨n, hn⟩ : ∃ n, s.xs.length = n := ⟨_, rfl⟩
  have HC : Hid (∀ i z, (s.xs)[i]? = some z → ∃ b o, a0 = some ⟨b, o, none⟩ ∧ w.cell? ⟨b, o + i, none⟩ = some (.int .u8 z)) := Lib.hid fun i z hz => by
    obtain ⟨b, o, h2, h3⟩ := hs.at_ hz
    exact ⟨b, o, by rw [← ha0]; exact h2, h3 i z hz⟩
  have HB := Lib.hid hb
  have HN : Hid (s.xs.length = n ∧ n ≤ 1000000) := Lib.hid ⟨hn, by rw [← hn]; exact hs.le⟩
  rw [ha0, hk0, hn] at c0
  clear h hr hs hne hc hb ha0 hk0 hn
  go_enter Try.func70, Try.ntmps70
  go_wp2_with fail
  go_loopw [5, 13] (fun x u wr => ∃ (i : Nat) (acc : Int), i ≤ n ∧ u = .int .i64 i ∧ x = .int .u64 acc ∧ Hid (wr = w) ∧ Hid (cnt s.xs 0 0 = cnt (s.xs.drop i) i acc ∧ i ≤ 10 ∧ 0 ≤ acc ∧ (i ≤ 9 → acc < 128 ^ i))) (fun _ u _ => n - (intOf u).toNat)
  case atStart => exact ⟨0, 0, by omega, rfl, rfl, Lib.hid rfl, Lib.hid ⟨by simp, by omega, by omega, by simp⟩⟩
  case round =>
    obtain ⟨i, acc, hi, rfl, rfl, HW, HI⟩ := hrel
    obtain rfl := HW.out
    have i0 : (0 : Int) ≤ (i : Int) := Int.natCast_nonneg _
    have ej : IntKind.i64.wrap ((i : Int) + 1) = ((i + 1 : Nat) : Int) := IntWalk.i64_in _ (by have := HN.out; omega)
    by_cases hlt : i < n
    · have e1 : decide ((i : Int) < (n : Int)) = true := decide_eq_true (by omega)
      have e1b : decide (i < n) = true := decide_eq_true hlt
      have e1' : (i : Int) < (n : Int) := by omega
      obtain ⟨cv, hv1, hv2⟩ := HB.out.at_ (show i < s.xs.length by rw [HN.out.1]; exact hlt)
      obtain ⟨g, o, rfl, l1⟩ := HC.out i _ hv1
      have HV := Lib.hid hv1
      have HV2 := Lib.hid hv2
      have HLT := Lib.hid hlt
      have ED := Lib.hid (drop_step hv1)
      by_cases h10 : i = 10
      · have EC : Hid (cnt s.xs 0 0 = (0, 0, false)) := Lib.hid (by
          rw [HI.out.1, ED.out]; unfold cnt; rw [if_pos (.inr (by omega))])
        have q9 : decide ((i : Int) = 9) = false := decide_eq_false (by omega)
        have q9' : ((i : Int) == 9) = false := by simp; omega
        have q9n : ¬ i = 9 := by omega
        have qg : decide ((9 : Int) < (i : Int)) = true := decide_eq_true (by omega)
        have qg' : decide (9 < i) = true := decide_eq_true (by omega)
        have qgn : 9 < i := by omega
        clear hv1 hv2 h10 hlt hi
        go_wp2_with fail
        go_ret3
        exact ⟨by unfold cntV; rw [EC.out]; rfl, rfl⟩
      · by_cases h9 : i = 9
        · have q9 : decide ((i : Int) = 9) = true := decide_eq_true (by omega)
          have q9' : ((i : Int) == 9) = true := by simp; omega
          by_cases hc1 : 1 < cv
          · have q1 : decide ((1 : Int) < (cv : Int)) = true := decide_eq_true (by omega)
            have q1' : decide (1 < cv) = true := decide_eq_true hc1
            have EC : Hid (cnt s.xs 0 0 = (0, 0, false)) := Lib.hid (by
              rw [HI.out.1, ED.out]; unfold cnt; rw [if_pos (.inl ⟨h9, by omega⟩)])
            clear hv1 hv2 h10 h9 hlt hi
            go_wp2_with fail
            go_ret3
            exact ⟨by unfold cntV; rw [EC.out]; rfl, rfl⟩
          · have q1 : decide ((1 : Int) < (cv : Int)) = false := decide_eq_false (by omega)
            have q1' : decide (1 < cv) = false := decide_eq_false hc1
            have qg : decide ((9 : Int) < (i : Int)) = false := decide_eq_false (by omega)
            have qg' : decide (9 < i) = false := decide_eq_false (by omega)
            have H9 : Hid (i ≤ 9 ∧ (i = 9 → (cv : Int) ≤ 1)) := Lib.hid ⟨by have := HI.out.2.1; omega, by intro h; omega⟩
            clear h9 h10
            have O : bits .or .u64 acc (IntKind.u64.wrap ((cv : Int) % 128 * 2 ^ (7 * i))) = acc + (cv : Int) % 128 * 128 ^ i := cnt_or H9.out.1 HI.out.2.2.1 (HI.out.2.2.2 H9.out.1) (by omega) (by have := HV2.out; omega) H9.out.2
            have AN : bits .and .u8 (cv : Int) 127 = (cv : Int) % 128 := and127 _ (by omega) (by have := HV2.out; omega)
            have wv : IntKind.u64.wrap ((cv : Int) % 128) = (cv : Int) % 128 := by rw [show IntKind.u64.wrap ((cv : Int) % 128) = (cv : Int) % 128 % 18446744073709551616 from rfl]; omega
            have NX : Hid (0 ≤ acc + (cv : Int) % 128 * 128 ^ i ∧ acc + (cv : Int) % 128 * 128 ^ i < 128 ^ (i + 1)) := Lib.hid (cnt_next H9.out.1 HI.out.2.2.1 (HI.out.2.2.2 H9.out.1) (by omega))
            have EU : Hid (cnt s.xs 0 0 = if (cv : Int) < 128 then (acc + (cv : Int) % 128 * 128 ^ i, (i : Int) + 1, decide (i = 0 ∨ (cv : Int) ≠ 0)) else cnt (s.xs.drop (i + 1)) (i + 1) (acc + (cv : Int) % 128 * 128 ^ i)) := Lib.hid (by
              rw [HI.out.1, ED.out]
              conv => lhs; unfold cnt
              have := H9.out
              rw [if_neg (by clear O AN wv; omega)])
            have I8 : Hid (i ≤ 9) := Lib.hid H9.out.1
            have i7 : i < 10 := by have := H9.out; clear O AN wv; omega
            generalize hz : acc + (cv : Int) % 128 * 128 ^ i = z at *
            generalize (cv : Int) % 128 = y at *
            clear hz
            clear hv1 hv2
            by_cases hlow : cv < 128
            · have l128 : decide ((cv : Int) < 128) = true := decide_eq_true (by omega)
              have l128' : decide (cv < 128) = true := decide_eq_true hlow
              by_cases hz0 : i = 0
              · have m0 : decide ((i : Int) = 0) = true := decide_eq_true (by omega)
                have m0' : ((i : Int) == 0) = true := by simp; omega
                have EF : Hid (cnt s.xs 0 0 = (z, (i : Int) + 1, true)) := Lib.hid (by rw [EU.out, if_pos (by omega)]; simp [hz0])
                clear EU hlow hz0
                go_wp2_with fail
                go_ret3
                exact ⟨by unfold cntV; rw [EF.out]; rfl, rfl⟩
              · have m0 : decide ((i : Int) = 0) = false := decide_eq_false (by omega)
                have m0' : ((i : Int) == 0) = false := by simp; omega
                by_cases hc0 : cv = 0
                · have m1 : decide ((cv : Int) = 0) = true := decide_eq_true (by omega)
                  have m1' : ((cv : Int) != 0) = false := by simp [hc0]
                  have EF : Hid (cnt s.xs 0 0 = (z, (i : Int) + 1, false)) := Lib.hid (by rw [EU.out, if_pos (by omega)]; simp [hz0, hc0])
                  clear EU hlow hz0 hc0
                  go_wp2_with fail
                  go_ret3
                  exact ⟨by unfold cntV; rw [EF.out]; rfl, rfl⟩
                · have m1 : decide ((cv : Int) = 0) = false := decide_eq_false (by omega)
                  have m1' : ((cv : Int) != 0) = true := by simp; omega
                  have EF : Hid (cnt s.xs 0 0 = (z, (i : Int) + 1, true)) := Lib.hid (by rw [EU.out, if_pos (by omega)]; simp [hz0, hc0])
                  clear EU hlow hz0 hc0
                  go_wp2_with fail
                  go_ret3
                  exact ⟨by unfold cntV; rw [EF.out]; rfl, rfl⟩
            · exact absurd (show cv < 128 by clear O AN wv; omega) hlow

        · have q9 : decide ((i : Int) = 9) = false := decide_eq_false (by omega)
          have q9' : ((i : Int) == 9) = false := by simp; omega
          have qg : decide ((9 : Int) < (i : Int)) = false := decide_eq_false (by have := HI.out.2.1; omega)
          have qg' : decide (9 < i) = false := decide_eq_false (by have := HI.out.2.1; omega)
          have H9 : Hid (i ≤ 9 ∧ (i = 9 → (cv : Int) ≤ 1)) := Lib.hid ⟨by have := HI.out.2.1; omega, by intro h; omega⟩
          clear h9 h10
          have O : bits .or .u64 acc (IntKind.u64.wrap ((cv : Int) % 128 * 2 ^ (7 * i))) = acc + (cv : Int) % 128 * 128 ^ i := cnt_or H9.out.1 HI.out.2.2.1 (HI.out.2.2.2 H9.out.1) (by omega) (by have := HV2.out; omega) H9.out.2
          have AN : bits .and .u8 (cv : Int) 127 = (cv : Int) % 128 := and127 _ (by omega) (by have := HV2.out; omega)
          have wv : IntKind.u64.wrap ((cv : Int) % 128) = (cv : Int) % 128 := by rw [show IntKind.u64.wrap ((cv : Int) % 128) = (cv : Int) % 128 % 18446744073709551616 from rfl]; omega
          have NX : Hid (0 ≤ acc + (cv : Int) % 128 * 128 ^ i ∧ acc + (cv : Int) % 128 * 128 ^ i < 128 ^ (i + 1)) := Lib.hid (cnt_next H9.out.1 HI.out.2.2.1 (HI.out.2.2.2 H9.out.1) (by omega))
          have EU : Hid (cnt s.xs 0 0 = if (cv : Int) < 128 then (acc + (cv : Int) % 128 * 128 ^ i, (i : Int) + 1, decide (i = 0 ∨ (cv : Int) ≠ 0)) else cnt (s.xs.drop (i + 1)) (i + 1) (acc + (cv : Int) % 128 * 128 ^ i)) := Lib.hid (by
            rw [HI.out.1, ED.out]
            conv => lhs; unfold cnt
            have := H9.out
            rw [if_neg (by clear O AN wv; omega)])
          have I8 : Hid (i ≤ 9) := Lib.hid H9.out.1
          have i7 : i < 10 := by have := H9.out; clear O AN wv; omega
          generalize hz : acc + (cv : Int) % 128 * 128 ^ i = z at *
          generalize (cv : Int) % 128 = y at *
          clear hz
          clear hv1 hv2
          by_cases hlow : cv < 128
          · have l128 : decide ((cv : Int) < 128) = true := decide_eq_true (by omega)
            have l128' : decide (cv < 128) = true := decide_eq_true hlow
            by_cases hz0 : i = 0
            · have m0 : decide ((i : Int) = 0) = true := decide_eq_true (by omega)
              have m0' : ((i : Int) == 0) = true := by simp; omega
              have EF : Hid (cnt s.xs 0 0 = (z, (i : Int) + 1, true)) := Lib.hid (by rw [EU.out, if_pos (by omega)]; simp [hz0])
              clear EU hlow hz0
              go_wp2_with fail
              go_ret3
              exact ⟨by unfold cntV; rw [EF.out]; rfl, rfl⟩
            · have m0 : decide ((i : Int) = 0) = false := decide_eq_false (by omega)
              have m0' : ((i : Int) == 0) = false := by simp; omega
              by_cases hc0 : cv = 0
              · have m1 : decide ((cv : Int) = 0) = true := decide_eq_true (by omega)
                have m1' : ((cv : Int) != 0) = false := by simp [hc0]
                have EF : Hid (cnt s.xs 0 0 = (z, (i : Int) + 1, false)) := Lib.hid (by rw [EU.out, if_pos (by omega)]; simp [hz0, hc0])
                clear EU hlow hz0 hc0
                go_wp2_with fail
                go_ret3
                exact ⟨by unfold cntV; rw [EF.out]; rfl, rfl⟩
              · have m1 : decide ((cv : Int) = 0) = false := decide_eq_false (by omega)
                have m1' : ((cv : Int) != 0) = true := by simp; omega
                have EF : Hid (cnt s.xs 0 0 = (z, (i : Int) + 1, true)) := Lib.hid (by rw [EU.out, if_pos (by omega)]; simp [hz0, hc0])
                clear EU hlow hz0 hc0
                go_wp2_with fail
                go_ret3
                exact ⟨by unfold cntV; rw [EF.out]; rfl, rfl⟩
          · have l128 : decide ((cv : Int) < 128) = false := decide_eq_false (by omega)
            have l128' : decide (cv < 128) = false := decide_eq_false hlow
            have EF : Hid (cnt s.xs 0 0 = cnt (s.xs.drop (i + 1)) (i + 1) z) := Lib.hid (by rw [EU.out, if_neg (by omega)])
            clear EU
            go_wp2_with fail
            go_roundw
            case rel => exact ⟨i + 1, z, by have := HLT.out; omega, by go_num, rfl, by first | exact Lib.hid trivial | exact Lib.hid rfl, Lib.hid ⟨EF.out, by have := I8.out; omega, NX.out.1, fun _ => NX.out.2⟩⟩
            case measure => have := HLT.out; simp [intOf]; omega

    · have e1 : decide ((i : Int) < (n : Int)) = false := decide_eq_false (by omega)
      have e1b : decide (i < n) = false := decide_eq_false hlt
      have EC : Hid (cnt s.xs 0 0 = (0, 0, false)) := Lib.hid (by
        rw [HI.out.1, List.drop_of_length_le (by rw [HN.out.1]; omega)]; rfl)
      clear hlt
      go_wp2_with fail
      go_ret3
      exact ⟨by unfold cntV; rw [EC.out]; rfl, rfl⟩
end Go.Proofs.Ytekdogmhgijocaa.st

/- Readers of bytes: texts (printed by gen_st.py). -/
namespace Go.Proofs.Ytekdogmhgijocaa.st
open Go.Proofs.Ytekdogmhgijocaa
open Go.RowKit Go.ChangeShapes Go.WideShapes Go.ChangeAt
set_option linter.unusedVariables false
set_option linter.unusedSimpArgs false

theorem err_gen {r : Nat} {xs : List Int} {e : Int} {w : World} (h : RdrAt w r xs e) : Calls Try.prog 55 #[.pointer (some ⟨r, 0, none⟩)] w fun z w' => z = .returned (.int .i64 e) ∧ w' = w := by
  obtain ⟨s, rfl, hr, hs, hne, hc⟩ := h.at_
  exact err_on r _ e w hr
/-- What Uv gives. -/
def uvF (xs : List Int) (e : Int) : Int × List Int × Int := if e ≠ 0 then (0, xs, e) else if (cnt xs 0 0).2.2 = true then ((cnt xs 0 0).1, xs.drop (cnt xs 0 0).2.1.toNat, 0) else (0, xs, 4)
def UvTo (r : Nat) (xs : List Int) (e : Int) (w : World) (z : Ending) (w' : World) : Prop := z = .returned (.int .u64 (uvF xs e).1) ∧ RdrAt w' r (uvF xs e).2.1 (uvF xs e).2.2 ∧ Only [r] w w'
set_option maxRecDepth 100000 in
set_option maxHeartbeats 4000000 in
theorem uv_gen {r : Nat} {xs : List Int} {e : Int} {w : World} (h : RdrAt w r xs e) (hb : IsBy xs) : Calls Try.prog 54 #[.pointer (some ⟨r, 0, none⟩)] w (UvTo r xs e w) := by
  have CG := Lib.hid (count_gen h hb)
  obtain ⟨s, rfl, hr, hs, hne, hc⟩ := h.at_
  have ER := Lib.hid (err_on r _ e w hr)
  have c0 : w.cell? ⟨r, 0, none⟩ = some (.slice s.a s.xs.length s.c) := hr.cell 0
  have c1 : w.cell? ⟨r, 1, none⟩ = some (.int .i64 e) := hr.cell 1
  have f0 := hr.free 0
  have f1 := hr.free 1
  by_cases he : e = 0
  · subst he
    have HL := cnt_le s.xs 0 0
    obtain ⟨n, kk, ok, hq⟩ : ∃ n kk ok, cnt s.xs 0 0 = (n, kk, ok) := ⟨_, _, _, rfl⟩
    unfold cntV at CG
    rw [hq] at CG HL
    cases ok with
    | false =>
      have N : Hid (UvTo r s.xs 0 w (.returned (.int .u64 0)) (w.setCell ⟨r, 1, none⟩ (.int .i64 4))) := Lib.hid (by
        unfold UvTo uvF
        rw [if_neg (by simp), hq, if_neg (by simp)]
        exact ⟨rfl, RdrAt.errAt hr hs hne hc, (Only.refl [r] w).setCell (.inl (by simp)) _⟩)
      clear h hr hs hne hc hb HL hq
      go_enter Try.func54, Try.ntmps54
      go_wp2_with fail
      refine ER.out.mono ?_
      rintro _ w' ⟨rfl, hw'⟩
      subst w'
      go_wp2_with fail
      refine CG.out.mono ?_
      rintro _ w' ⟨rfl, hw'⟩
      subst w'
      go_wp2_with fail
      go_ret
      exact N.out
    | true =>
      obtain ⟨k1, k2⟩ := HL rfl
      simp only [Int.natCast_zero, Int.zero_add] at k1 k2
      obtain ⟨k, rfl⟩ := Int.eq_ofNat_of_zero_le (show 0 ≤ kk by omega)
      have e2 : ∀ y : World, (Instr.slice 32 (.slice s.a s.xs.length s.c) (some (.int .i64 (k : Int))) none none).run Try.prog y = .ok (s.cut k s.xs.length).v y := fun y => run_tail Try.underlying32 infoBy .i64 s (by omega) y
      have N : Hid (UvTo r s.xs 0 w (.returned (.int .u64 n)) (w.setCell ⟨r, 0, none⟩ (s.cut k s.xs.length).v)) := Lib.hid (by
        unfold UvTo uvF
        rw [if_neg (by simp), hq, if_pos rfl]
        exact ⟨rfl, RdrAt.cutAt hr hs hne hc (by omega), (Only.refl [r] w).setCell (.inl (by simp)) _⟩)
      have ev2 : (s.cut k s.xs.length).v = .slice (s.cut k s.xs.length).a (s.xs.length - k) (s.cut k s.xs.length).c := by unfold Sl.v; rw [Sl.cut_len s (by omega) (Nat.le_refl _)]
      rw [ev2] at e2 N
      generalize (s.cut k s.xs.length).a = a2 at *
      generalize (s.cut k s.xs.length).c = k2 at *
      clear h hr hs hne hc hb HL hq ev2 k1
      go_enter Try.func54, Try.ntmps54
      go_wp2_with fail
      refine ER.out.mono ?_
      rintro _ w' ⟨rfl, hw'⟩
      subst w'
      go_wp2_with fail
      refine CG.out.mono ?_
      rintro _ w' ⟨rfl, hw'⟩
      subst w'
      go_wp2_with fail
      go_ret
      exact N.out
  · have d1 : decide (e = 0) = false := decide_eq_false he
    have d2 : (e == 0) = false := by simp [he]
    have N : Hid (UvTo r s.xs e w (.returned (.int .u64 0)) w) := Lib.hid (by
      unfold UvTo uvF
      rw [if_pos he]
      exact ⟨rfl, h, Only.refl _ _⟩)
    clear h hr hs hne hc hb
    go_enter Try.func54, Try.ntmps54
    go_wp2_with fail
    refine ER.out.mono ?_
    rintro _ w' ⟨rfl, hw'⟩
    subst w'
    go_wp2_with fail
    go_ret
    exact N.out
/-- What Text gives: the bytes, what is left, the error. -/
def txtF (most : Nat) (xs : List Int) (e : Int) : List Int × List Int × Int := if e ≠ 0 then ([], xs, e) else if (cnt xs 0 0).2.2 = true then (if (most : Int) < (cnt xs 0 0).1 then ([], xs, 3) else if (xs.length : Int) - (cnt xs 0 0).2.1 < (cnt xs 0 0).1 then ([], xs, 4) else ((xs.drop (cnt xs 0 0).2.1.toNat).take (cnt xs 0 0).1.toNat, xs.drop ((cnt xs 0 0).2.1.toNat + (cnt xs 0 0).1.toNat), 0)) else ([], xs, 4)
def TxtTo (r most : Nat) (xs : List Int) (e : Int) (w : World) (z : Ending) (w' : World) : Prop := ∃ p : Sl, z = .returned p.v ∧ p.xs = (txtF most xs e).1 ∧ SlAt .u8 w' p ∧ (∀ b ∈ p.bs, w.heap.size ≤ b) ∧ RdrAt w' r (txtF most xs e).2.1 (txtF most xs e).2.2 ∧ Only [r] w w'
theorem TxtTo.none_ {r most : Nat} {xs : List Int} {e : Int} {w w' : World} (h : txtF most xs e = ([], xs, (txtF most xs e).2.2)) (hr : RdrAt w' r xs (txtF most xs e).2.2) (hO : Only [r] w w') : TxtTo r most xs e w (.returned (.slice none 0 0)) w' :=
  ⟨Sl.no, rfl, by rw [h]; rfl, SlAt.no _ _, by simp [Sl.bs, Sl.no], by rw [h]; exact hr, hO⟩
set_option maxRecDepth 100000 in
set_option maxHeartbeats 8000000 in
theorem text_gen {r : Nat} {xs : List Int} {e : Int} {w : World} (h : RdrAt w r xs e) (hb : IsBy xs) (most : Nat) (hm : most ≤ 1000000) : Calls Try.prog 53 #[.pointer (some ⟨r, 0, none⟩), .int .i64 (most : Int)] w (TxtTo r most xs e w) := by
  have CG := Lib.hid (count_gen h hb)
  obtain ⟨s, rfl, hr, hs, hne, hc⟩ := h.at_
  have ER := Lib.hid (err_on r _ e w hr)
  have c0 : w.cell? ⟨r, 0, none⟩ = some (.slice s.a s.xs.length s.c) := hr.cell 0
  have c1 : w.cell? ⟨r, 1, none⟩ = some (.int .i64 e) := hr.cell 1
  have f0 := hr.free 0
  have f1 := hr.free 1
  have mx : max (0 : Int) (most : Int) = (most : Int) := by omega
  have mx2 : (if 0 < most then (most : Int) else 0) = (most : Int) := by split <;> omega
  have mw : IntKind.u64.wrap (most : Int) = (most : Int) := by rw [show IntKind.u64.wrap (most : Int) = (most : Int) % 18446744073709551616 from rfl]; omega
  have m0 : (0 : Int) ≤ (most : Int) := by omega
  by_cases he : e = 0
  · subst he
    have HL := cnt_le s.xs 0 0
    have HP := cnt_nonneg s.xs 0 0 hb (by omega)
    have HQ := cnt_lt s.xs 0 0 hb (by omega) (by omega) (by omega)
    obtain ⟨nn, kk, ok, hq⟩ : ∃ n kk ok, cnt s.xs 0 0 = (n, kk, ok) := ⟨_, _, _, rfl⟩
    unfold cntV at CG
    rw [hq] at CG HL HP HQ
    have errN : ∀ er, txtF most s.xs 0 = ([], s.xs, er) → TxtTo r most s.xs 0 w (.returned (.slice none 0 0)) (w.setCell ⟨r, 1, none⟩ (.int .i64 er)) := fun er h => TxtTo.none_ (by rw [h]) (by rw [h]; exact RdrAt.errAt hr hs hne hc) ((Only.refl [r] w).setCell (.inl (by simp)) _)
    cases ok with
    | false =>
      have N := Lib.hid (errN 4 (by unfold txtF; rw [if_neg (by simp), hq, if_neg (by simp)]))
      clear h hr hs hne hc hb HL hq errN HP HQ
      go_enter Try.func53, Try.ntmps53
      go_wp2_with fail
      refine ER.out.mono ?_
      rintro _ w' ⟨rfl, hw'⟩
      subst w'
      go_wp2_with fail
      refine CG.out.mono ?_
      rintro _ w' ⟨rfl, hw'⟩
      subst w'
      go_wp2_with fail
      go_ret
      exact N.out
    | true =>
      obtain ⟨k1, k2⟩ := HL rfl
      simp only [Int.natCast_zero, Int.zero_add] at k1 k2
      obtain ⟨k, rfl⟩ := Int.eq_ofNat_of_zero_le (show 0 ≤ kk by omega)
      obtain ⟨n, rfl⟩ := Int.eq_ofNat_of_zero_le (show 0 ≤ nn from HP)
      by_cases hbig : most < n
      · have db : decide ((most : Int) < (n : Int)) = true := decide_eq_true (by omega)
        have db' : decide (most < n) = true := decide_eq_true hbig
        have dz : decide (0 < n) = true := decide_eq_true (by omega)
        have dz' : decide ((0 : Int) < (n : Int)) = true := decide_eq_true (by omega)
        have N := Lib.hid (errN 3 (by unfold txtF; rw [if_neg (by simp), hq, if_pos rfl, if_pos (by simp only; omega)]))
        clear h hr hs hne hc hb HL hq errN k1 k2 HP HQ hbig
        go_enter Try.func53, Try.ntmps53
        go_wp2_with fail
        refine ER.out.mono ?_
        rintro _ w' ⟨rfl, hw'⟩
        subst w'
        go_wp2_with fail
        refine CG.out.mono ?_
        rintro _ w' ⟨rfl, hw'⟩
        subst w'
        go_wp2_with fail
        go_ret
        exact N.out
      · have db : decide ((most : Int) < (n : Int)) = false := decide_eq_false (by omega)
        have db' : decide (most < n) = false := decide_eq_false hbig
        obtain ⟨m, hmm⟩ : ∃ m, s.xs.length = m := ⟨_, rfl⟩
        have hle := hs.le
        rw [hmm] at k2 c0 hle
        have hk2 : k ≤ m := by omega
        have es : IntKind.i64.wrap ((m : Int) - (k : Int)) = ((m - k : Nat) : Int) := by rw [show (m : Int) - (k : Int) = ((m - k : Nat) : Int) by omega]; exact IntWalk.i64_in _ (by omega)
        have es' : wrap64 ((m : Int) - (k : Int)) = ((m - k : Nat) : Int) := by rw [show (m : Int) - (k : Int) = ((m - k : Nat) : Int) by omega]; unfold wrap64; omega
        have eu : IntKind.u64.wrap ((m - k : Nat) : Int) = ((m - k : Nat) : Int) := by rw [show IntKind.u64.wrap ((m - k : Nat) : Int) = ((m - k : Nat) : Int) % 18446744073709551616 from rfl]; omega
        obtain ⟨q, hqq⟩ : ∃ q, m - k = q := ⟨_, rfl⟩
        rw [hqq] at es es' eu
        by_cases hlong : q < n
        · have dl : decide ((q : Int) < (n : Int)) = true := decide_eq_true (by omega)
          have dl' : decide (q < n) = true := decide_eq_true hlong
          have N := Lib.hid (errN 4 (by unfold txtF; rw [if_neg (by simp), hq, if_pos rfl, if_neg (by simp only; omega), if_pos (by simp only; omega)]))
          clear h hr hs hne hc hb HL hq errN k1 k2 HP HQ hbig hqq hlong hle hmm hk2
          go_enter Try.func53, Try.ntmps53
          go_wp2_with fail
          refine ER.out.mono ?_
          rintro _ w' ⟨rfl, hw'⟩
          subst w'
          go_wp2_with fail
          refine CG.out.mono ?_
          rintro _ w' ⟨rfl, hw'⟩
          subst w'
          go_wp2_with fail
          go_ret
          exact N.out
        · have dl : decide ((q : Int) < (n : Int)) = false := decide_eq_false (by omega)
          have dl' : decide (q < n) = false := decide_eq_false hlong
          have wn : IntKind.i64.wrap (n : Int) = (n : Int) := IntWalk.i64_in _ (by omega)
          obtain ⟨j, hj⟩ : ∃ j, k + n = j := ⟨_, rfl⟩
          have wj : IntKind.i64.wrap ((k : Int) + (n : Int)) = (j : Int) := by rw [show (k : Int) + (n : Int) = (j : Int) by omega]; exact IntWalk.i64_in _ (by omega)
          have e1 : ∀ y : World, (Instr.slice 32 (.slice s.a m s.c) (some (.int .i64 (k : Int))) (some (.int .i64 (j : Int))) none).run Try.prog y = .ok (s.cut k j).v y := fun y => by rw [← hmm]; exact run_cut Try.underlying32 infoBy .i64 .i64 s (by omega) (by omega) hc y
          have e2 : ∀ y : World, (Instr.slice 32 (.slice s.a m s.c) (some (.int .i64 (j : Int))) none none).run Try.prog y = .ok (s.cut j m).v y := fun y => by rw [← hmm]; exact run_tail Try.underlying32 infoBy .i64 s (by omega) y
          have CL := Lib.hid (clone_u8 (hs.cut (l := k) (k := j) (by omega) (by omega) hc))
          have EX : Hid ((s.cut k j).xs = (s.xs.drop k).take n) := Lib.hid (by unfold Sl.cut; simp only; rw [show j - k = n by omega])
          have HR := Lib.hid (And.intro hr (And.intro hs (And.intro hne hc)))
          have HT : Hid (txtF most s.xs 0 = ((s.xs.drop k).take n, s.xs.drop j, 0)) := Lib.hid (by unfold txtF; rw [if_neg (by simp), hq, if_pos rfl, if_neg (by simp only; omega), if_neg (by simp only; omega)]; simp [hj])
          have HJ : Hid (j ≤ s.xs.length) := Lib.hid (by omega)
          have HMM := Lib.hid hmm
          obtain ⟨v1, hv1⟩ : ∃ v, v = (s.cut k j).v := ⟨_, rfl⟩
          rw [← hv1] at e1 CL
          have ev2 : (s.cut j m).v = .slice (s.cut j m).a (m - j) (s.cut j m).c := by unfold Sl.v; rw [Sl.cut_len s (by omega) (by omega)]
          have V2 := Lib.hid ev2
          rw [ev2] at e2
          generalize ha2 : (s.cut j m).a = a2 at *
          generalize hk2 : (s.cut j m).c = kk2 at *
          clear h hr hs hne hc hb HL hq errN k1 k2 HP HQ hbig hqq hlong hle hmm hj hv1 ev2 ha2 hk2
          go_enter Try.func53, Try.ntmps53
          go_wp2_with fail
          refine ER.out.mono ?_
          rintro _ w' ⟨rfl, hw'⟩
          subst w'
          go_wp2_with fail
          refine CG.out.mono ?_
          rintro _ w' ⟨rfl, hw'⟩
          subst w'
          go_wp2_with fail
          refine CL.out.mono ?_
          rintro _ w3 ⟨p, rfl, ep, hp, hpb, hb3⟩
          have O3 : Hid (Only [] w w3) := Lib.hid ((Only.refl [] w).below hb3)
          have R3 := HR.out.1.only O3.out (by simp)
          have z0 : w3.cell? ⟨r, 0, none⟩ = some (.slice s.a m s.c) := by rw [R3.cell 0, ← HMM.out]; rfl
          have g0 := R3.free 0
          have N : Hid (TxtTo r most s.xs 0 w (.returned p.v) (w3.setCell ⟨r, 0, none⟩ (.slice a2 (m - j) kk2))) := Lib.hid (by
            have k4 : Only [r] w3 (w3.setCell ⟨r, 0, none⟩ (.slice a2 (m - j) kk2)) := (Only.refl [r] w3).setCell (.inl (by simp)) _
            refine ⟨p, rfl, by rw [HT.out, ep, EX.out], hp.only k4 (fun b hb hm => ?_), hpb, ?_, (O3.out.mono (by simp)).trans k4 (by intro i hi; left; simp at hi; simp [hi])⟩
            · simp at hm
              have := hpb b hb
              have := HR.out.1.lt
              omega
            · rw [HT.out, ← V2.out]
              have h := RdrAt.cutAt R3 (HR.out.2.1.only O3.out (by simp)) HR.out.2.2.1 HR.out.2.2.2 HJ.out
              rw [HMM.out] at h
              exact h)
          clear ep hp hpb hb3 R3 CL
          unfold Sl.v at N ⊢
          go_wp2_with fail
          go_ret
          exact N.out
  · have d1 : decide (e = 0) = false := decide_eq_false he
    have d2 : (e == 0) = false := by simp [he]
    have N : Hid (TxtTo r most s.xs e w (.returned (.slice none 0 0)) w) := Lib.hid (by
      have ht : txtF most s.xs e = ([], s.xs, e) := by unfold txtF; rw [if_pos he]
      exact TxtTo.none_ (by rw [ht]) (by rw [ht]; exact h) (Only.refl _ _))
    clear h hr hs hne hc hb
    go_enter Try.func53, Try.ntmps53
    go_wp2_with fail
    refine ER.out.mono ?_
    rintro _ w' ⟨rfl, hw'⟩
    subst w'
    go_wp2_with fail
    go_ret
    exact N.out
end Go.Proofs.Ytekdogmhgijocaa.st

/- NewReader of any bytes (printed by gen_st.py). -/
namespace Go.Proofs.Ytekdogmhgijocaa.st
open Go.Proofs.Ytekdogmhgijocaa
open Go.RowKit Go.ChangeShapes Go.WideShapes Go.ChangeAt
set_option linter.unusedVariables false
set_option linter.unusedSimpArgs false
set_option maxHeartbeats 2000000 in
theorem clone_gives {s : Sl} {w : World} (h : SlRd .u8 w s) : Calls Try.prog 67 #[s.v] w (Gives s.xs w) := by
  cases ha : s.a with
  | none =>
    obtain ⟨e1, e2⟩ := h.nn ha
    have es : s.v = .slice none 0 0 := by simp [Sl.v, ha, e1, e2]
    have ex := Lib.hid e1
    rw [es]
    clear h e1 e2 es ha
    have qT : ∀ w : World, (binOp .eql 32 (.slice none 0 0) (.slice none 0 0)).run Try.prog w = .ok (.bool true) w := fun w => by kernel_rfl
    go_enter Try.func67, Try.ntmps67
    go_wp2_with fail
    go_ret
    refine ⟨_, rfl, ?_, Below.refl _ _⟩
    rw [ex.out]
    exact World.ownsRow_nil _ _ _ _
  | some ad =>
    have hs := Lib.hid h.src
    have hle := Lib.hid h.le
    have es : s.v = .slice (some ad) s.xs.length s.c := by simp [Sl.v, ha]
    rw [es] at hs ⊢
    clear h es ha
    obtain ⟨i0, hi, hz0, hz1, hz2⟩ := info_parts infoU8
    generalize s.xs = xs at *
    generalize s.c = c at *
    obtain ⟨m, hm⟩ : ∃ m, xs.length = m := ⟨_, rfl⟩
    have HM := Lib.hid hm
    rw [hm] at hs hle ⊢
    clear hm
    have qT : ∀ w : World, (binOp .eql 32 (.slice (some ad) m c) (.slice none 0 0)).run Try.prog w = .ok (.bool false) w := fun w => by kernel_rfl
    have EM : Hid (World.ownsRow (w.alloc (.cells #[] 5)) w.heap.size 5 1 (.slice (some ⟨w.heap.size, 0, none⟩) 0 0) 0 []) := Lib.hid (World.ownsRow_lit w #[] 0 (Nat.le_refl _) (by simp) rfl)
    go_enter Try.func67, Try.ntmps67
    go_wp2_with (at_builtin; refine wpList_append_src rfl (.tmp 5) (.tmp 6) 32 rfl w.heap.size 5 i0 (.int .u8 0) 1 1 Try.underlying32 hi hz0 hz1 hz2 rfl (by decide) _ 0 [] rfl EM.out _ m (xs.map (Value.int .u8)) rfl (hs.out.below ((Below.refl _ _).alloc (Nat.le_refl _) _)) (by simp [Value.oneCell']) (by have := hle.out; unfold maxLen; omega) (by have := hle.out; omega) (by simp) ?_; intro v' w' hown' hgrow)
    go_ret
    rw [Nat.zero_add, List.nil_append] at hown'
    exact ⟨_, rfl, by rw [HM.out]; exact hown', ((Below.refl _ _).alloc (Nat.le_refl _) _).grown hgrow (by simp) (fun k hk => by simp [Act.eval, Value.ownBlock] at hk; omega)⟩
/-- A slice of the call's own, as one that is only read; its length is no more than its capacity. -/
theorem own_sl {w : World} {B : Nat} {v : Value} {xs : List Int} (h : w.ownsRow B 5 1 v xs.length (xs.map (Value.int .u8))) (hn : xs.length ≤ 1000000) : ∃ s : Sl, v = s.v ∧ s.xs = xs ∧ SlRd .u8 w s ∧ (∀ b ∈ s.bs, B ≤ b ∧ b < w.heap.size) ∧ xs.length ≤ s.c := by
  obtain ⟨s, e1, e2, h3, h4⟩ := SlAt.of_own h hn
  refine ⟨s, e1, e2, h3.rd, fun b hb => ⟨h4 b hb, h3.lt b hb⟩, ?_⟩
  rcases h.2 with ⟨rfl, h0⟩ | ⟨g, cap, cur, rfl, _, _, hc, _⟩
  · omega
  · unfold Sl.v at e1
    simp only [Value.slice.injEq] at e1
    omega
def NewRdTo (xs : List Int) (w : World) (e : Ending) (w' : World) : Prop := ∃ r, e = .returned (.pointer (some ⟨r, 0, none⟩)) ∧ RdrAt w' r xs 0 ∧ Below w.heap.size w w' ∧ w.heap.size ≤ r
theorem newrd_on {s : Sl} {w : World} (h : SlRd .u8 w s) : Calls Try.prog 47 #[s.v] w (NewRdTo s.xs w) := by
  have K := Lib.hid (clone_gives h)
  have HL := Lib.hid h.le
  unfold Gives at K
  clear h
  generalize s.v = v at *
  generalize s.xs = xs at *
  go_enter Try.func47, Try.ntmps47
  go_wp2_with fail
  refine K.out.mono ?_
  rintro _ w2 ⟨v, rfl, hv, hb⟩
  obtain ⟨s2, rfl, e2, hs, hbs, hc⟩ := own_sl hv HL.out
  have H := Lib.hid (And.intro e2 (And.intro hs (And.intro hbs (And.intro hc hb))))
  unfold Sl.v
  clear e2 hs hbs hc hb hv K
  go_wp2_with fail
  go_ret
  obtain ⟨e2, hs, hbs, hc, hb⟩ := H.out
  have ka := (Only.refl [] w2).alloc (.cells #[s2.v, .int .i64 0] tRd)
  exact ⟨w2.heap.size, rfl, ⟨⟨s2, e2, Row.made _ _ _, hs.only ka (by simp), fun _ b' hm => (hbs b' hm).2, hc⟩⟩, hb.alloc hb.size _, hb.size⟩
end Go.Proofs.Ytekdogmhgijocaa.st
