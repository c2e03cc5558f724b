/- DiskFalls: its walk. -/
import Derived.Test.YtiheobbollpaaaaDkI
namespace Go.Proofs.Ytiheobbollpaaaa
open Go.RowKit Go.ChangeShapes Go.WideShapes Go.ChangeAt
set_option linter.unusedVariables false

/-- Behind i - 1 operations, the power armed to go at the n-th. -/
structure Cnt (n i : Int) (D : Dk) : Prop where
  sec : D.sectors = 8
  most : D.most = 8
  arm : (i ≤ n ∧ D.off = false ∧ D.armed = n - (i - 1)) ∨ (n < i ∧ D.off = true)
theorem Cnt.op {n i : Int} {D D' : Dk} (h : Cnt n i D) (h1 : 1 ≤ i) (e : D.off = true → D' = D) (e0 : D.off = false → D'.sectors = D.sectors ∧ D'.most = D.most ∧ D'.off = (if 0 < D.armed then decide (D.armed - 1 = 0) else D.off) ∧ D'.armed = (if 0 < D.armed then D.armed - 1 else D.armed)) :
    Cnt n (i + 1) D' ∧ errOff D'.off = if n ≤ i then 6 else 0 := by
  rcases h.arm with ⟨a1, a2, a3⟩ | ⟨a1, a2⟩
  · obtain ⟨e1, e2, e3, e4⟩ := e0 a2
    have hp : 0 < D.armed := by omega
    rw [if_pos hp] at e3 e4
    by_cases hi : n = i
    · have z : D.armed - 1 = 0 := by omega
      rw [decide_eq_true z] at e3
      exact ⟨⟨e1.trans h.sec, e2.trans h.most, .inr ⟨by omega, e3⟩⟩, by rw [e3, if_pos (by omega)]; rfl⟩
    · have z : ¬ D.armed - 1 = 0 := by omega
      rw [decide_eq_false z] at e3
      exact ⟨⟨e1.trans h.sec, e2.trans h.most, .inl ⟨by omega, e3, by omega⟩⟩, by rw [e3, if_neg (by omega)]; rfl⟩
  · have := e a2
    subst this
    exact ⟨⟨h.sec, h.most, .inr ⟨by omega, a2⟩⟩, by rw [a2, if_pos (by omega)]; rfl⟩
theorem opD_off (D : Dk) : (opD D).off = (if 0 < D.armed then decide (D.armed - 1 = 0) else D.off) := by unfold opD; split <;> rfl
theorem opD_armed (D : Dk) : (opD D).armed = (if 0 < D.armed then D.armed - 1 else D.armed) := by unfold opD; split <;> rfl
theorem Cnt.write {n i : Int} {D : Dk} (h : Cnt n i D) (h1 : 1 ≤ i) (k : Int) (s : List Int) : Cnt n (i + 1) (stepW D k s) ∧ errOff (stepW D k s).off = if n ≤ i then 6 else 0 := by
  refine h.op h1 (fun e => by rw [stepW, if_pos e]) fun e => ?_
  rw [stepW, if_neg (by rw [e]; simp), writeD]
  exact ⟨opD_sectors _, opD_most _, opD_off _, opD_armed _⟩
theorem Cnt.sync {n i : Int} {D : Dk} (h : Cnt n i D) (h1 : 1 ≤ i) : Cnt n (i + 1) (stepS D) ∧ errOff (stepS D).off = if n ≤ i then 6 else 0 := by
  refine h.op h1 (fun e => by rw [stepS, if_pos e]) fun e => ?_
  rw [stepS, if_neg (by rw [e]; simp)]
  split
  · exact ⟨opD_sectors _, opD_most _, opD_off _, opD_armed _⟩
  · exact ⟨opD_sectors _, opD_most _, opD_off _, opD_armed _⟩
theorem falls_bound (n m : Int) (h1 : 1 ≤ n) (h2 : n ≤ 100) : ∃ M : Int, wrap64 (n + 2 + wrap64 ((IntKind.u64.wrap m).tmod 5)) = M ∧ n + 2 ≤ M ∧ M ≤ 107 := by
  refine ⟨_, rfl, ?_⟩
  have e : IntKind.u64.wrap m = m % 18446744073709551616 := rfl
  rw [Int.tmod_eq_emod_of_nonneg (by omega), e]
  unfold wrap64
  omega
def FallsPost (w : World) (e : Ending) (w' : World) : Prop := e = .returned (.bool true) ∧ Below w.heap.size w w'
set_option maxRecDepth 100000 in
set_option maxHeartbeats 4000000 in
theorem falls_walk (n m : Int) (w : World) (hm : (Lit.int .i64 m).wf = true) : Calls Try.prog 4 #[.int .i64 n, .int .i64 m] w (FallsPost w) := by
  have N := Lib.hid (new_dev (W := w) (Below.refl _ _) 8 8 (by omega) (by omega) (by omega) (by omega))
  by_cases h0 : 1 ≤ n ∧ n ≤ 100
  · obtain ⟨n1, n2⟩ := h0
    have d1 : decide (n < 1) = false := decide_eq_false (by omega)
    have d2 : decide (100 < n) = false := decide_eq_false (by omega)
    go_enter Try.func4, Try.ntmps4
    go_wp2_with fail
    refine N.out.mono ?_
    rintro _ w1 ⟨p, F, rfl, hd, k1, hB⟩
    have H1 := Lib.hid hd
    clear hd k1 hB N
    go_wp2_with fail
    refine (arm_dev H1.out (by omega) (by omega)).mono ?_
    rintro _ w2 ⟨rfl, hd2, k2⟩
    have e0 : errOff (newD 8 8).off = 0 := rfl
    have C2 : Hid (∃ D, Dev w w2 p D F ∧ Cnt n 1 D) := Lib.hid ⟨_, hd2, rfl, rfl, .inl ⟨by omega, rfl, by show n = _; omega⟩⟩
    clear hd2 k2 H1
    go_wp2_with fail
    clear hm
    obtain ⟨M, hM, hM1, hM2⟩ := falls_bound n m n1 n2
    go_loopw [7, 8] (fun u v wr => ∃ i : Nat, 1 ≤ i ∧ i ≤ 110 ∧ u = .int .i64 i ∧ Hid (∃ D, Dev w wr p D F ∧ Cnt n i D)) (fun u _ _ => 110 - (intOf u).toNat)
    case atStart => exact ⟨1, by omega, by omega, rfl, C2⟩
    case round =>
      obtain ⟨i, hi, hi2, rfl, HF⟩ := hrel
      obtain ⟨D, hD, hC⟩ := HF.out
      have HD := Lib.hid hD
      have HC := Lib.hid hC
      have hs8 := hC.sec
      have HS := Lib.hid hs8
      have HE : Hid (D.most = D.sectors) := Lib.hid (hC.most.trans hs8.symm)
      have i0 : (0 : Int) ≤ (i : Int) := Int.natCast_nonneg _
      have T8 : Hid (0 ≤ (i : Int) % 8 ∧ (i : Int) % 8 < D.sectors) := Lib.hid (by rw [hs8]; omega)
      clear hD hC HF hs8
      by_cases hlt : (i : Int) < M
      · have d3 : decide ((i : Int) < M) = true := decide_eq_true hlt
        by_cases h3 : (i : Int) % 3 = 0
        · obtain ⟨c1, c2⟩ := HC.out.sync (by omega)
          have HC2 := Lib.hid c1
          clear c1
          by_cases hn : n ≤ (i : Int)
          · rw [if_pos hn] at c2
            have d4 : decide (n ≤ (i : Int)) = true := decide_eq_true hn
            go_wp2_with fail
            refine (sync_dev HD.out).mono ?_
            rintro _ w3 ⟨rfl, hd3, k3⟩
            have F3 : Hid (∃ D, Dev w w3 p D F ∧ Cnt n ((i + 1 : Nat) : Int) D) := Lib.hid ⟨_, hd3, HC2.out⟩
            clear hd3 k3
            go_wp2_with fail
            go_roundw
            case rel => exact ⟨i + 1, by omega, by omega, by go_num, F3⟩
            case measure => simp [intOf]; omega
          · rw [if_neg hn] at c2
            have d4 : decide (n ≤ (i : Int)) = false := decide_eq_false hn
            go_wp2_with fail
            refine (sync_dev HD.out).mono ?_
            rintro _ w3 ⟨rfl, hd3, k3⟩
            have F3 : Hid (∃ D, Dev w w3 p D F ∧ Cnt n ((i + 1 : Nat) : Int) D) := Lib.hid ⟨_, hd3, HC2.out⟩
            clear hd3 k3
            go_wp2_with fail
            go_roundw
            case rel => exact ⟨i + 1, by omega, by omega, by go_num, F3⟩
            case measure => simp [intOf]; omega
        · have d5 : decide ((i : Int) % 3 = 0) = false := decide_eq_false h3
          obtain ⟨c1, c2⟩ := HC.out.write (by omega) ((i : Int) % 8) (secOf i)
          have HC2 := Lib.hid c1
          clear c1
          by_cases hn : n ≤ (i : Int)
          · rw [if_pos hn] at c2
            have d4 : decide (n ≤ (i : Int)) = true := decide_eq_true hn
            go_wp2_with fail
            refine (sector_to _ wr).mono ?_
            rintro _ w2 ⟨rfl, hr2, k2, hs2⟩
            have HD2 := Lib.hid (HD.out.none k2)
            have HB2 := Lib.hid hr2
            clear hr2 k2 hs2
            go_wp2_with fail
            refine (write_dev HD2.out T8.out.1 T8.out.2 HE.out (secOf_is _) HB2.out (by omega)).mono ?_
            rintro _ w3 ⟨rfl, hd3, k3⟩
            have F3 : Hid (∃ D, Dev w w3 p D F ∧ Cnt n ((i + 1 : Nat) : Int) D) := Lib.hid ⟨_, hd3, HC2.out⟩
            clear hd3 k3
            go_wp2_with fail
            go_roundw
            case rel => exact ⟨i + 1, by omega, by omega, by go_num, F3⟩
            case measure => simp [intOf]; omega
          · rw [if_neg hn] at c2
            have d4 : decide (n ≤ (i : Int)) = false := decide_eq_false hn
            go_wp2_with fail
            refine (sector_to _ wr).mono ?_
            rintro _ w2 ⟨rfl, hr2, k2, hs2⟩
            have HD2 := Lib.hid (HD.out.none k2)
            have HB2 := Lib.hid hr2
            clear hr2 k2 hs2
            go_wp2_with fail
            refine (write_dev HD2.out T8.out.1 T8.out.2 HE.out (secOf_is _) HB2.out (by omega)).mono ?_
            rintro _ w3 ⟨rfl, hd3, k3⟩
            have F3 : Hid (∃ D, Dev w w3 p D F ∧ Cnt n ((i + 1 : Nat) : Int) D) := Lib.hid ⟨_, hd3, HC2.out⟩
            clear hd3 k3
            go_wp2_with fail
            go_roundw
            case rel => exact ⟨i + 1, by omega, by omega, by go_num, F3⟩
            case measure => simp [intOf]; omega
      · have d3 : decide ((i : Int) < M) = false := decide_eq_false hlt
        have hoff : D.off = true := by rcases HC.out.arm with h | h; omega; exact h.2
        have HO := Lib.hid hoff
        clear hoff HC T8
        go_wp2_with fail
        refine (readoff_dev HD.out 0 HO.out).mono ?_
        rintro _ w3 ⟨rfl, hw3⟩
        subst hw3
        go_wp2_with fail
        refine (crash_none HD.out).mono ?_
        rintro _ w4 ⟨rfl, hd4, k4⟩
        have H4 := Lib.hid hd4
        have C4 := calm_crash D []
        clear hd4 k4
        go_wp2_with fail
        refine (sync_dev H4.out).mono ?_
        rintro _ w5 ⟨rfl, hd5, k5⟩
        rw [C4.sync] at *
        have e9 : errOff (synD (crashD D [])).off = 0 := rfl
        have H5 := Lib.hid hd5.bl
        clear hd5 k5
        go_wp2_with fail
        refine (known_any w5).mono ?_
        rintro _ w6 ⟨rfl, hb6⟩
        have H6 := Lib.hid (H5.out.trans (hb6.mono H5.out.size))
        clear hb6
        go_wp2_with fail
        go_ret
        exact ⟨rfl, H6.out⟩
  · by_cases h1 : n < 1
    · have d1 : decide (n < 1) = true := decide_eq_true h1
      go_enter Try.func4, Try.ntmps4
      go_wp2_with fail
      refine N.out.mono ?_
      rintro _ w1 ⟨p, F, rfl, hd, k1, hB⟩
      have H1 := Lib.hid hd.bl
      clear hd k1 hB N h0
      go_wp2_with fail
      refine (known_any w1).mono ?_
      rintro _ w6 ⟨rfl, hb6⟩
      have H6 := Lib.hid (H1.out.trans (hb6.mono H1.out.size))
      clear hb6
      go_wp2_with fail
      go_ret
      exact ⟨rfl, H6.out⟩
    · have d1 : decide (n < 1) = false := decide_eq_false h1
      have d2 : decide (100 < n) = true := decide_eq_true (by omega)
      go_enter Try.func4, Try.ntmps4
      go_wp2_with fail
      refine N.out.mono ?_
      rintro _ w1 ⟨p, F, rfl, hd, k1, hB⟩
      have H1 := Lib.hid hd.bl
      clear hd k1 hB N h0
      go_wp2_with fail
      refine (known_any w1).mono ?_
      rintro _ w6 ⟨rfl, hb6⟩
      have H6 := Lib.hid (H1.out.trans (hb6.mono H1.out.size))
      clear hb6
      go_wp2_with fail
      go_ret
      exact ⟨rfl, H6.out⟩
end Go.Proofs.Ytiheobbollpaaaa
