/- QuantOrder: case b. -/
import Derived.Test.YtkohgkbeecadeaaQuOrA
namespace Go.Proofs.Ytkohgkbeecadeaa.quantOrder
open Go.ChangeShapes Go.WideShapes Go.ChangeAt Go.RowKit Go.Joins
open Go.Sort Go.Lib Go.Shelf
set_option linter.unusedVariables false
set_option maxRecDepth 100000 in
set_option maxHeartbeats 1500000 in
theorem good_b (a : Option Addr) (n c : Nat) (l : List U64) (x z : Int) (w : World) (hx : 0 ≤ x ∧ x < 18446744073709551616) (hz : 0 ≤ z ∧ z < 18446744073709551616) (hi : NumsIn w a n c l) (g0 : 0 < n) (g1 : n ≤ 2000) (p : totF x x = 0) (q : 0 < totF x z) : Goal a n c x x z w := by
  unfold Goal
  obtain ⟨hl, m0, m1, hsrc, hints0⟩ := hi
  have KL := Lib.hid (lent_any a n c (nums l) w (by rw [nums_len, hl]) hsrc (by omega))
  have L := Lib.hid hl
  have HI := Lib.hid hints0
  clear hl hsrc hints0
  have K0 := Lib.hid (fun w => tot_n p hx hx w)
  have K1 := Lib.hid (fun w => rtot_n p hx hx w)
  have K2 := Lib.hid (fun w => tot_n p hx hx w)
  have K3 := Lib.hid (fun w => tot_n (rfl : totF x z = _) hx hz w)
  clear hx hz
  clear p
  generalize totF x z = v at *
  go_enter Try.func8, Try.ntmps8
  go_wp2_with fail
  refine ((K0).out _).mono ?_
  rintro _ w' ⟨rfl, rfl⟩
  go_wp2_with fail
  refine ((K1).out _).mono ?_
  rintro _ w' ⟨rfl, rfl⟩
  go_wp2_with fail
  refine ((K2).out _).mono ?_
  rintro _ w' ⟨rfl, rfl⟩
  go_wp2_with fail
  refine ((K3).out _).mono ?_
  rintro _ w' ⟨rfl, rfl⟩
  go_wp2_with fail
  refine KL.out.mono ?_
  rintro _ w1 ⟨g, cap, rfl, c1, c2, hg0, hg1, hints, h77, hb1⟩
  have I1 := Lib.hid hints
  have B1 := Lib.hid hb1
  have S77 := Lib.hid h77
  clear hints hb1 h77 KL
  have KS := Lib.hid (sorted_p g n cap l w1 L.out I1.out g0 (by omega))
  go_wp2_with fail
  refine KS.out.mono ?_
  rintro _ w2 ⟨g', c3, rfl, u0, u1, hg2, hg3, hh2, hb2⟩
  have B2 := Lib.hid hb2
  have H2 := Lib.hid hh2
  clear hb2 hh2 KS
  have KK := Lib.hid (fun W (hb : Below w1.heap.size w1 W) => kept_any g cap n c a (nums l) W (by rw [nums_len, L.out]) (I1.out.below' hb) (ints_keep HI.out (Nat.le_refl _) (B1.out.trans (hb.mono B1.out.size))) c1 c2 (by rw [hb.cell (p := ⟨g, n, none⟩) hg1]; exact S77.out))
  go_wp2_with fail
  refine (KK.out _ B2.out).mono ?_
  rintro _ w' ⟨rfl, q, rfl⟩
  have LS := Lib.hid (show (sortU l).length = n by rw [(sortU_perm l).length_eq, L.out])
  go_wp2_with fail
  go_loopw [12] (fun i wr => ∃ k : Nat, k ≤ n ∧ i = .int .i64 k ∧ Hid (Below w2.heap.size w2 wr)) (fun i _ => n - (intOf i).toNat)
  case atStart => exact ⟨0, Nat.zero_le _, rfl, Lib.hid (below_drewN (Below.refl _ _) _)⟩
  case round =>
    obtain ⟨k, hk, rfl, BR⟩ := hrel
    by_cases hlt : k < n
    · have HR := holds_below H2.out hg3 BR.out
      have hgr : g' < wr.heap.size := by have := BR.out.size; omega
      have Z := (holds_cell HR (by rw [LS.out]; exact hlt)).1
      have NZ : ∀ W, Below wr.heap.size wr W → Calls Try.prog 23 #[.slice (some ⟨g', 0, none⟩) n c3, .int .u64 (((sortU l)[k]'(by rw [LS.out]; exact hlt))).1] W fun e w' => e = .returned (.int .i64 ((nums l).count (((sortU l)[k]'(by rw [LS.out]; exact hlt))).1 : Nat)) ∧ w' = W := fun W hb => by
        have h := count_any n c3 (some ⟨g', 0, none⟩) (nums (sortU l)) (((sortU l)[k]'(by rw [LS.out]; exact hlt))).1 W (by rw [nums_len, LS.out]) (ints_of_holds (holds_below HR hgr hb) LS.out) (by omega)
        rw [show (nums (sortU l)).count _ = (nums l).count _ from ((sortU_perm l).map _).count_eq _] at h
        exact h
      have NL : ∀ W, Below wr.heap.size wr W → Calls Try.prog 23 #[.slice a n c, .int .u64 (((sortU l)[k]'(by rw [LS.out]; exact hlt))).1] W fun e w' => e = .returned (.int .i64 ((nums l).count (((sortU l)[k]'(by rw [LS.out]; exact hlt))).1 : Nat)) ∧ w' = W := fun W hb =>
        count_any n c a (nums l) _ W (by rw [nums_len, L.out]) (ints_keep HI.out (Nat.le_refl _) (B1.out.trans ((B2.out.trans ((BR.out.trans (hb.mono BR.out.size)).mono B2.out.size)).mono B1.out.size))) (by omega)
      by_cases hk0 : k = 0
      · subst hk0
        generalize (nums l).count (((sortU l)[0]'(by rw [LS.out]; exact hlt))).1 = N at NZ NL
        generalize (((sortU l)[0]'(by rw [LS.out]; exact hlt))).1 = zv at Z NZ NL
        have C1 : ∀ q : After wr.heap.size wr, q.1.cell? ⟨g', 0, none⟩ = some (.int .u64 zv) := fun q => by rw [q.cell hgr]; exact Z
        have KC : ∀ (v : Value) (hv : v = .slice (some ⟨g', 0, none⟩) n c3 ∨ v = .slice a n c) (q : After wr.heap.size wr), Calls Try.prog 23 #[v, .int .u64 zv] q.1 fun e w' => e = .returned (.int .i64 (N : Nat)) ∧ ∃ y : After wr.heap.size wr, w' = y.1 := by
          intro v hv q
          rcases hv with rfl | rfl
          · exact (NZ q.1 q.2).mono fun e w' ⟨h1, h2⟩ => ⟨h1, q, h2⟩
          · exact (NL q.1 q.2).mono fun e w' ⟨h1, h2⟩ => ⟨h1, q, h2⟩
        clear NZ NL HR Z
        go_wp2_with fail
        refine region_quiet_in wr.heap.size wr (by kernel_rfl) (by kernel_rfl) (Below.refl _ _).drew ?_
        repeat (go_big_quiet_step ((go_at_call 23; exact KC _ (by first | exact .inl rfl | exact .inr rfl) _)))
        refine wpQuiet_nil ?_
        intro w3 hb3
        have HB := Lib.hid hb3
        clear hb3 C1 KC
        go_wp2_with fail
        go_roundw
        case rel => exact ⟨1, by omega, by go_num, Lib.hid (BR.out.trans (HB.out.mono BR.out.size))⟩
        case measure => simp [intOf]; omega
      · have Z0 := (holds_cell HR (i := k - 1) (by rw [LS.out]; omega)).1
        have hle : placeF (((sortU l)[k - 1]'(by rw [LS.out]; omega))).1 ≤ placeF (((sortU l)[k]'(by rw [LS.out]; exact hlt))).1 := (List.pairwise_iff_getElem.1 (sortU_sorted l)) (k - 1) k _ _ (by omega)
        have ht := totF_le hle
        have T0 := fun W => rtot_n (rfl : totF (((sortU l)[k - 1]'(by rw [LS.out]; omega))).1 (((sortU l)[k]'(by rw [LS.out]; exact hlt))).1 = _) (((sortU l)[k - 1]'(by rw [LS.out]; omega))).2 (((sortU l)[k]'(by rw [LS.out]; exact hlt))).2 W
        generalize (nums l).count (((sortU l)[k]'(by rw [LS.out]; exact hlt))).1 = N at NZ NL
        clear hle
        generalize totF (((sortU l)[k - 1]'(by rw [LS.out]; omega))).1 (((sortU l)[k]'(by rw [LS.out]; exact hlt))).1 = tv at ht T0
        generalize (((sortU l)[k]'(by rw [LS.out]; exact hlt))).1 = zv at Z NZ NL T0
        generalize (((sortU l)[k - 1]'(by rw [LS.out]; omega))).1 = z0 at Z0 T0
        have C1 : ∀ q : After wr.heap.size wr, q.1.cell? ⟨g', k, none⟩ = some (.int .u64 zv) ∧ q.1.cell? ⟨g', k - 1, none⟩ = some (.int .u64 z0) := fun q => ⟨by rw [q.cell hgr]; exact Z, by rw [q.cell hgr]; exact Z0⟩
        have KC : ∀ (v : Value) (hv : v = .slice (some ⟨g', 0, none⟩) n c3 ∨ v = .slice a n c) (q : After wr.heap.size wr), Calls Try.prog 23 #[v, .int .u64 zv] q.1 fun e w' => e = .returned (.int .i64 (N : Nat)) ∧ ∃ y : After wr.heap.size wr, w' = y.1 := by
          intro v hv q
          rcases hv with rfl | rfl
          · exact (NZ q.1 q.2).mono fun e w' ⟨h1, h2⟩ => ⟨h1, q, h2⟩
          · exact (NL q.1 q.2).mono fun e w' ⟨h1, h2⟩ => ⟨h1, q, h2⟩
        have T1 : ∀ q : After wr.heap.size wr, Calls Try.prog 21 #[.int .u64 z0, .int .u64 zv] q.1 fun e w' => e = .returned (.int .i64 tv) ∧ ∃ y : After wr.heap.size wr, w' = y.1 := fun q => (T0 q.1).mono fun e w' ⟨h1, h2⟩ => ⟨h1, q, h2⟩
        clear NZ NL HR Z Z0 T0
        have e1 : (k : Int) - 1 = ((k - 1 : Nat) : Int) := by omega
        have kp : (0 : Int) < (k : Int) := by omega
        have kn : 0 < k := by omega
        have kd : decide ((0 : Int) < (k : Int)) = true := decide_eq_true kp
        have td : decide ((0 : Int) < tv) = false := decide_eq_false (by omega)
        go_wp2_with fail
        refine region_quiet_in wr.heap.size wr (by kernel_rfl) (by kernel_rfl) (Below.refl _ _).drew ?_
        repeat (go_big_quiet_step (first | (go_at_call 23; exact KC _ (by first | exact .inl rfl | exact .inr rfl) _) | (go_at_call 21; exact T1 _)))
        refine wpQuiet_nil ?_
        intro w3 hb3
        have HB := Lib.hid hb3
        clear hb3 C1 KC T1
        go_wp2_with fail
        go_roundw
        case rel => exact ⟨k + 1, by omega, by go_num, Lib.hid (BR.out.trans (HB.out.mono BR.out.size))⟩
        case measure => simp [intOf]; omega
    · obtain rfl : n = k := by omega
      rename World => w5
      have HR := Lib.hid (holds_below H2.out hg3 BR.out)
      go_wp2_with fail
      go_loopw [13] (fun i wr => ∃ k : Nat, k ≤ n ∧ i = .int .i64 k ∧ Hid (Below w1.heap.size w1 wr ∧ g' < wr.heap.size ∧ ∀ j, j < n → wr.frozen? ⟨g', j, none⟩ = false ∧ ∃ zv : Int, wr.cell? ⟨g', j, none⟩ = some (.int .u64 zv))) (fun i _ => n - (intOf i).toNat)
      case atStart => exact ⟨0, Nat.zero_le _, rfl, Lib.hid ⟨B2.out.trans (BR.out.mono B2.out.size), by have := BR.out.size; omega, fun j hj => ⟨(holds_cell HR.out (by rw [LS.out]; exact hj)).2, _, (holds_cell HR.out (by rw [LS.out]; exact hj)).1⟩⟩⟩
      case round =>
        obtain ⟨k, hk, rfl, BS⟩ := hrel
        by_cases hlt : k < n
        · obtain ⟨f1, zv, f2⟩ := BS.out.2.2 k hlt
          go_wp2_with fail
          go_roundw
          case rel =>
            refine ⟨k + 1, by omega, by go_num, Lib.hid ⟨BS.out.1.setCell hg2 _, by simpa using BS.out.2.1, fun j hj => ⟨by simpa using (BS.out.2.2 j hj).1, ?_⟩⟩⟩
            by_cases hjk : j = k
            · subst hjk
              exact ⟨5, by rw [World.cell?_setCell_same (h := f2)]⟩
            · obtain ⟨zz, hz'⟩ := (BS.out.2.2 j hj).2
              exact ⟨zz, by rw [World.cell?_setCell_other (h := show (⟨g', k, none⟩ : Addr) ≠ ⟨g', j, none⟩ from fun he => hjk (by injection he with _ h2; exact h2.symm))]; exact hz'⟩
          case measure => simp [intOf]; omega
        · obtain rfl : n = k := by omega
          have KE := Lib.hid (KK.out wr BS.out.1)
          have BW := Lib.hid (B1.out.trans (BS.out.1.mono B1.out.size))
          go_wp2_with fail
          refine KE.out.mono ?_
          rintro _ w' ⟨rfl, q', rfl⟩
          go_wp2_with (go_at_call 13; refine (known_any _).mono ?_; rintro e w' ⟨rfl, rfl⟩)
          go_ret
          exact ⟨rfl, below_drewN BW.out _⟩
end Go.Proofs.Ytkohgkbeecadeaa.quantOrder
