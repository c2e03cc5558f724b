/- wal: places, inside the bounds. -/
import Derived.Test.YtjhomphbfkbaoaaWaZ
namespace Go.Proofs.Ytjhomphbfkbaoaa
open Go.RowKit Go.ChangeShapes Go.WideShapes Go.ChangeAt
open Go.Proofs.Ytjhomphbfkbaoaa.dk (Dk Dev new_dev calm_new newD)
set_option linter.unusedVariables false

theorem below_only {B : Nat} {w w' : World} (h : B ≤ w.heap.size) (k : Only [] w w') : Below B w w' := k.toBelow h (by simp)
set_option maxRecDepth 100000 in
theorem places_long (s at_ count : Int) (W : World) (h : s < 1 ∨ 300 < s) : Calls Try.prog 5 #[.int .i64 s, .int .i64 at_, .int .i64 count] W fun e w' => e = .returned (.bool true) ∧ Below W.heap.size W w' := by
  have KN := Lib.hid (known_any W)
  unfold KnownPost at KN
  by_cases h1 : s < 1
  · have d1 : decide (s < 1) = true := decide_eq_true h1
    clear h h1
    go_enter Try.func5, Try.ntmps5
    go_wp2_with fail
    refine KN.out.mono ?_
    rintro _ w1 ⟨rfl, b1⟩
    have B1 := Lib.hid b1
    clear b1
    go_wp2_with fail
    go_ret
    exact ⟨rfl, B1.out⟩
  · have d1 : decide (s < 1) = false := decide_eq_false h1
    have d2 : decide (300 < s) = true := decide_eq_true (by omega)
    clear h h1
    go_enter Try.func5, Try.ntmps5
    go_wp2_with fail
    refine KN.out.mono ?_
    rintro _ w1 ⟨rfl, b1⟩
    have B1 := Lib.hid b1
    clear b1
    go_wp2_with fail
    go_ret
    exact ⟨rfl, B1.out⟩
set_option maxRecDepth 100000 in
set_option maxHeartbeats 8000000 in
theorem places_may (s at_ count : Int) (W : World) (h1 : 1 ≤ s) (h2 : s ≤ 300) (hl : LogAt s at_ count) : Calls Try.prog 5 #[.int .i64 s, .int .i64 at_, .int .i64 count] W fun e w' => e = .returned (.bool true) ∧ Below W.heap.size W w' := by
  have NW := Lib.hid (new_dev (Below.refl W.heap.size W) s s h1 (by omega) (by omega) (by omega))
  unfold dk.NewTo at NW
  have HL := Lib.hid hl
  obtain ⟨l0, l1, l2, l3, l4⟩ := hl
  have d1 : decide (s < 1) = false := decide_eq_false (by omega)
  have d2 : decide (300 < s) = false := decide_eq_false (by omega)
  have c1 : decide (16 ≤ count) = true := decide_eq_true l0
  have c2 : decide (count ≤ 8192) = true := decide_eq_true l1
  have c3 : decide (0 ≤ at_) = true := decide_eq_true l2
  have c4 : decide (at_ ≤ s) = true := decide_eq_true l3
  have e1 : IntKind.i64.wrap (count + 2) = count + 2 := IntWalk.i64_in _ (by omega)
  have e2 : IntKind.i64.wrap (s - at_) = s - at_ := IntWalk.i64_in _ (by omega)
  have c5 : decide (count + 2 ≤ s - at_) = true := decide_eq_true l4
  have HC : Hid (∃ m : Nat, count = (m : Int)) := Lib.hid ⟨count.toNat, by omega⟩
  clear l0 l1 l2 l3 l4 h1 h2
  go_enter Try.func5, Try.ntmps5
  go_wp2_with fail
  refine NW.out.mono ?_
  rintro _ w1 ⟨p, F, rfl, d1', k1, hF⟩
  have K1 := Lib.hid k1
  have HF := Lib.hid hF
  have MK : Hid (Calls Try.prog 9 #[.pointer (some ⟨p, 0, none⟩), .int .i64 at_, .int .i64 count] w1 (MadePost W p F (newD s s) at_ count w1)) := Lib.hid (by
    obtain ⟨m, hm⟩ := HC.out
    have h := HL.out
    rw [hm] at h ⊢
    exact make_ring d1' (calm_new s s) rfl at_ m h)
  unfold MadePost at MK
  clear d1' k1 NW hF
  go_wp2_with fail
  refine MK.out.mono ?_
  rintro _ w2 ⟨D2, rfl, l2, hc2, hs2, hm2, k2, r2⟩
  have K2 := Lib.hid k2
  have OP : Hid (Calls Try.prog 16 #[.pointer (some ⟨p, 0, none⟩), .int .i64 at_, .int .i64 count] w2 (OpenPost W p F at_ count w2)) := Lib.hid (by
    obtain ⟨m, hm⟩ := HC.out
    have h := HL.out
    have e0 : (newD s s).sectors = s := rfl
    have e0m : (newD s s).most = s := rfl
    rw [hm] at h r2 ⊢
    refine open_on l2.dev hc2 (by rw [hm2, hs2]; rfl) at_ m (by rw [hs2, e0]; exact h) (by simpa using r2))
  unfold OpenPost at OP
  have HS2 : Hid (W.heap.size ≤ w1.heap.size) := Lib.hid (Only.size K1.out)
  clear l2 hc2 hs2 hm2 k2 r2 MK
  go_wp2_with fail
  refine OP.out.mono ?_
  rintro _ w3 ⟨D3, rfl, l3, k3⟩
  have K3 := Lib.hid k3
  have L3 := Lib.hid l3
  have EP : Hid (Calls Try.prog 19 #[.pointer (some ⟨w2.heap.size, 0, none⟩)] w3 fun e w' => e = .returned (.int .u32 2) ∧ w' = w3) := Lib.hid (epoch_on l3.row)
  clear l3 k3 OP
  generalize hq2 : w2.heap.size = q2 at *
  generalize hq1 : w1.heap.size = q1 at *
  have HQ2 := Lib.hid hq2
  have HQ1 := Lib.hid hq1
  clear hq1 hq2
  go_wp2_with fail
  refine (make_none _ _ _).mono ?_
  rintro _ wd ⟨rfl, hwd⟩
  subst wd
  go_wp2_with fail
  refine (open_none _ _ _).mono ?_
  rintro _ we ⟨rfl, hwe⟩
  subst we
  go_wp2_with fail
  refine (done_any 1 _).mono ?_
  rintro _ wf ⟨rfl, kf⟩
  have KF := Lib.hid kf
  clear kf
  go_wp2_with fail
  refine (append_nil _ _).mono ?_
  rintro _ wg ⟨rfl, bg⟩
  have KG := Lib.hid ((Only.refl [] _).below bg)
  clear bg
  go_wp2_with fail
  refine (lread_nil _ _).mono ?_
  rintro _ wh ⟨rfl, bh⟩
  have KH := Lib.hid ((Only.refl [] _).below bh)
  clear bh
  go_upto_region 19 with fail
  have KI : Only [] wh (wh.alloc (.cells #[Value.int .i64 0, .int .u64 0, .int .u32 0, .int .u64 0, .int .u32 0, .int .u16 0, .slice none 0 0, .slice none 0 0, .slice none 0 0, .int .u64 0, .int .u64 0, .bool false, .int .u64 0, .slice none 0 0, .slice none 0 0] 43)) := (Only.refl [] _).alloc _
  have KL : Hid (Only [] w3 (wh.alloc (.cells #[Value.int .i64 0, .int .u64 0, .int .u32 0, .int .u64 0, .int .u32 0, .int .u16 0, .slice none 0 0, .slice none 0 0, .slice none 0 0, .int .u64 0, .int .u64 0, .bool false, .int .u64 0, .slice none 0 0, .slice none 0 0] 43))) := Lib.hid (((KF.out.and KG.out).and KH.out).and KI)
  clear KI
  generalize wh.alloc (.cells #[Value.int .i64 0, .int .u64 0, .int .u32 0, .int .u64 0, .int .u32 0, .int .u16 0, .slice none 0 0, .slice none 0 0, .slice none 0 0, .int .u64 0, .int .u64 0, .bool false, .int .u64 0, .slice none 0 0, .slice none 0 0] 43) = wi at *
  have L9 := Lib.hid (L3.out.only KL.out (fun b hb => by simp at hb))
  have EP : Hid (Calls Try.prog 19 #[.pointer (some ⟨q2, 0, none⟩)] wi fun e w' => e = .returned (.int .u32 2) ∧ w' = wi) := Lib.hid (epoch_on L9.out.row)
  have EN : Hid (Calls Try.prog 11 #[.pointer (some ⟨q2, 0, none⟩)] wi fun e w' => e = .returned (.int .u64 52) ∧ w' = wi) := Lib.hid (end_on L9.out.row)
  go_wp2_with fail
  refine EP.out.mono ?_
  rintro _ wz ⟨rfl, hwz⟩
  subst wz
  go_wp2_with fail
  refine EN.out.mono ?_
  rintro _ wz ⟨rfl, hwz⟩
  subst wz
  go_wp2_with fail
  refine (flush_nil _).mono ?_
  rintro _ wz ⟨rfl, hwz⟩
  subst wz
  go_wp2_with fail
  refine (master_nil _ _ _).mono ?_
  rintro _ wz ⟨rfl, hwz⟩
  subst wz
  go_wp2_with fail
  refine (start_nil _).mono ?_
  rintro _ wz ⟨rfl, hwz⟩
  subst wz
  go_wp2_with fail
  refine (end_nil _).mono ?_
  rintro _ wz ⟨rfl, hwz⟩
  subst wz
  go_wp2_with fail
  refine (flushed_nil _).mono ?_
  rintro _ wz ⟨rfl, hwz⟩
  subst wz
  go_wp2_with fail
  refine (point_nil _).mono ?_
  rintro _ wz ⟨rfl, hwz⟩
  subst wz
  go_wp2_with fail
  refine (epoch_nil _).mono ?_
  rintro _ wz ⟨rfl, hwz⟩
  subst wz
  go_wp2_with fail
  refine (left_nil _).mono ?_
  rintro _ wz ⟨rfl, hwz⟩
  subst wz
  go_wp2_with fail
  refine (known_any _).mono ?_
  rintro _ wk ⟨rfl, bk⟩
  have KK := Lib.hid ((Only.refl [] _).below bk)
  clear bk
  go_wp2_with fail
  go_ret
  refine ⟨rfl, ?_⟩
  have hF := HF.out
  have k1 : Below W.heap.size W w1 := below_only (Nat.le_refl _) K1.out
  have hs2 : W.heap.size ≤ w1.heap.size := by rw [HQ1.out]; exact HS2.out
  have k2 : Below W.heap.size w1 w2 := K2.out.toBelow hs2 (fun b hb => hF b hb)
  have k3 : Below W.heap.size w2 w3 := K3.out.toBelow (Nat.le_trans hs2 k2.size) (fun b hb => hF b hb)
  have k4 : Below W.heap.size w3 wk := (KL.out.and KK.out).toBelow (Nat.le_trans (Nat.le_trans hs2 k2.size) k3.size) (by simp)
  exact ((k1.trans k2).trans k3).trans k4
set_option maxRecDepth 100000 in
set_option maxHeartbeats 16000000 in
theorem places_bad (s at_ count : Int) (W : World) (h1 : 1 ≤ s) (h2 : s ≤ 300) (ha : -9223372036854775808 ≤ at_ ∧ at_ ≤ 9223372036854775807) (hc : -9223372036854775808 ≤ count ∧ count ≤ 9223372036854775807) (hl : ¬ LogAt s at_ count) : Calls Try.prog 5 #[.int .i64 s, .int .i64 at_, .int .i64 count] W fun e w' => e = .returned (.bool true) ∧ Below W.heap.size W w' := by
  have NW := Lib.hid (new_dev (Below.refl W.heap.size W) s s h1 (by omega) (by omega) (by omega))
  unfold dk.NewTo at NW
  have HL : Hid (¬ LogAt (newD s s).sectors at_ count) := Lib.hid hl
  have HA := Lib.hid ha
  have HS : Hid (1 ≤ (newD s s).sectors) := Lib.hid h1
  unfold LogAt at hl
  have d1 : decide (s < 1) = false := decide_eq_false (by omega)
  have d2 : decide (300 < s) = false := decide_eq_false (by omega)
  by_cases c1' : 16 ≤ count
  · have c1 : decide (16 ≤ count) = true := decide_eq_true c1'
    by_cases c2' : count ≤ 8192
    · have c2 : decide (count ≤ 8192) = true := decide_eq_true c2'
      by_cases c3' : 0 ≤ at_
      · have c3 : decide (0 ≤ at_) = true := decide_eq_true c3'
        by_cases c4' : at_ ≤ s
        · have c4 : decide (at_ ≤ s) = true := decide_eq_true c4'
          have e1 : IntKind.i64.wrap (count + 2) = count + 2 := IntWalk.i64_in _ (by omega)
          have e2 : IntKind.i64.wrap (s - at_) = s - at_ := IntWalk.i64_in _ (by omega)
          have c5 : decide (count + 2 ≤ s - at_) = false := decide_eq_false (by omega)
          clear c1' c2' c3' c4'
          clear hl h1 h2 ha hc
          go_enter Try.func5, Try.ntmps5
          go_wp2_with fail
          refine NW.out.mono ?_
          rintro _ w1 ⟨p, F, rfl, d1', k1, hF⟩
          have K1 := Lib.hid k1
          have D1 := Lib.hid d1'
          clear d1' k1 hF
          go_wp2_with fail
          refine (make_bad D1.out at_ count HA.out HS.out HL.out).mono ?_
          rintro _ w2 ⟨rfl, hw2⟩
          subst w2
          go_wp2_with fail
          refine (open_bad D1.out at_ count HA.out HS.out HL.out).mono ?_
          rintro _ w3 ⟨rfl, hw3⟩
          subst w3
          go_wp2_with fail
          refine (make_none _ _ _).mono ?_
          rintro _ wd ⟨rfl, hwd⟩
          subst wd
          go_wp2_with fail
          refine (open_none _ _ _).mono ?_
          rintro _ we ⟨rfl, hwe⟩
          subst we
          go_wp2_with fail
          refine (done_any 1 _).mono ?_
          rintro _ wf ⟨rfl, kf⟩
          have KF := Lib.hid kf
          clear kf
          go_wp2_with fail
          refine (append_nil _ _).mono ?_
          rintro _ wg ⟨rfl, bg⟩
          have KG := Lib.hid ((Only.refl [] _).below bg)
          clear bg
          go_wp2_with fail
          refine (lread_nil _ _).mono ?_
          rintro _ wh ⟨rfl, bh⟩
          have KH := Lib.hid ((Only.refl [] _).below bh)
          clear bh
          go_wp2_with fail
          refine (flush_nil _).mono ?_
          rintro _ wz ⟨rfl, hwz⟩
          subst wz
          go_wp2_with fail
          refine (master_nil _ _ _).mono ?_
          rintro _ wz ⟨rfl, hwz⟩
          subst wz
          go_wp2_with fail
          refine (start_nil _).mono ?_
          rintro _ wz ⟨rfl, hwz⟩
          subst wz
          go_wp2_with fail
          refine (end_nil _).mono ?_
          rintro _ wz ⟨rfl, hwz⟩
          subst wz
          go_wp2_with fail
          refine (flushed_nil _).mono ?_
          rintro _ wz ⟨rfl, hwz⟩
          subst wz
          go_wp2_with fail
          refine (point_nil _).mono ?_
          rintro _ wz ⟨rfl, hwz⟩
          subst wz
          go_wp2_with fail
          refine (epoch_nil _).mono ?_
          rintro _ wz ⟨rfl, hwz⟩
          subst wz
          go_wp2_with fail
          refine (left_nil _).mono ?_
          rintro _ wz ⟨rfl, hwz⟩
          subst wz
          go_wp2_with fail
          refine (known_any _).mono ?_
          rintro _ wk ⟨rfl, bk⟩
          have KK := Lib.hid ((Only.refl [] _).below bk)
          clear bk
          go_wp2_with fail
          go_ret
          refine ⟨rfl, ?_⟩
          have KI : Only [] wh (wh.alloc (.cells #[Value.int .i64 0, .int .u64 0, .int .u32 0, .int .u64 0, .int .u32 0, .int .u16 0, .slice none 0 0, .slice none 0 0, .slice none 0 0, .int .u64 0, .int .u64 0, .bool false, .int .u64 0, .slice none 0 0, .slice none 0 0] 43)) := (Only.refl [] _).alloc _
          exact below_only (Nat.le_refl _) (K1.out.and (KF.out.and (KG.out.and (KH.out.and (KI.and KK.out)))))
        · have c4 : decide (at_ ≤ s) = false := decide_eq_false c4'
          clear c1' c2' c3' c4'
          clear hl h1 h2 ha hc
          go_enter Try.func5, Try.ntmps5
          go_wp2_with fail
          refine NW.out.mono ?_
          rintro _ w1 ⟨p, F, rfl, d1', k1, hF⟩
          have K1 := Lib.hid k1
          have D1 := Lib.hid d1'
          clear d1' k1 hF
          go_wp2_with fail
          refine (make_bad D1.out at_ count HA.out HS.out HL.out).mono ?_
          rintro _ w2 ⟨rfl, hw2⟩
          subst w2
          go_wp2_with fail
          refine (open_bad D1.out at_ count HA.out HS.out HL.out).mono ?_
          rintro _ w3 ⟨rfl, hw3⟩
          subst w3
          go_wp2_with fail
          refine (make_none _ _ _).mono ?_
          rintro _ wd ⟨rfl, hwd⟩
          subst wd
          go_wp2_with fail
          refine (open_none _ _ _).mono ?_
          rintro _ we ⟨rfl, hwe⟩
          subst we
          go_wp2_with fail
          refine (done_any 1 _).mono ?_
          rintro _ wf ⟨rfl, kf⟩
          have KF := Lib.hid kf
          clear kf
          go_wp2_with fail
          refine (append_nil _ _).mono ?_
          rintro _ wg ⟨rfl, bg⟩
          have KG := Lib.hid ((Only.refl [] _).below bg)
          clear bg
          go_wp2_with fail
          refine (lread_nil _ _).mono ?_
          rintro _ wh ⟨rfl, bh⟩
          have KH := Lib.hid ((Only.refl [] _).below bh)
          clear bh
          go_wp2_with fail
          refine (flush_nil _).mono ?_
          rintro _ wz ⟨rfl, hwz⟩
          subst wz
          go_wp2_with fail
          refine (master_nil _ _ _).mono ?_
          rintro _ wz ⟨rfl, hwz⟩
          subst wz
          go_wp2_with fail
          refine (start_nil _).mono ?_
          rintro _ wz ⟨rfl, hwz⟩
          subst wz
          go_wp2_with fail
          refine (end_nil _).mono ?_
          rintro _ wz ⟨rfl, hwz⟩
          subst wz
          go_wp2_with fail
          refine (flushed_nil _).mono ?_
          rintro _ wz ⟨rfl, hwz⟩
          subst wz
          go_wp2_with fail
          refine (point_nil _).mono ?_
          rintro _ wz ⟨rfl, hwz⟩
          subst wz
          go_wp2_with fail
          refine (epoch_nil _).mono ?_
          rintro _ wz ⟨rfl, hwz⟩
          subst wz
          go_wp2_with fail
          refine (left_nil _).mono ?_
          rintro _ wz ⟨rfl, hwz⟩
          subst wz
          go_wp2_with fail
          refine (known_any _).mono ?_
          rintro _ wk ⟨rfl, bk⟩
          have KK := Lib.hid ((Only.refl [] _).below bk)
          clear bk
          go_wp2_with fail
          go_ret
          refine ⟨rfl, ?_⟩
          have KI : Only [] wh (wh.alloc (.cells #[Value.int .i64 0, .int .u64 0, .int .u32 0, .int .u64 0, .int .u32 0, .int .u16 0, .slice none 0 0, .slice none 0 0, .slice none 0 0, .int .u64 0, .int .u64 0, .bool false, .int .u64 0, .slice none 0 0, .slice none 0 0] 43)) := (Only.refl [] _).alloc _
          exact below_only (Nat.le_refl _) (K1.out.and (KF.out.and (KG.out.and (KH.out.and (KI.and KK.out)))))
      · have c3 : decide (0 ≤ at_) = false := decide_eq_false c3'
        clear c1' c2' c3'
        clear hl h1 h2 ha hc
        go_enter Try.func5, Try.ntmps5
        go_wp2_with fail
        refine NW.out.mono ?_
        rintro _ w1 ⟨p, F, rfl, d1', k1, hF⟩
        have K1 := Lib.hid k1
        have D1 := Lib.hid d1'
        clear d1' k1 hF
        go_wp2_with fail
        refine (make_bad D1.out at_ count HA.out HS.out HL.out).mono ?_
        rintro _ w2 ⟨rfl, hw2⟩
        subst w2
        go_wp2_with fail
        refine (open_bad D1.out at_ count HA.out HS.out HL.out).mono ?_
        rintro _ w3 ⟨rfl, hw3⟩
        subst w3
        go_wp2_with fail
        refine (make_none _ _ _).mono ?_
        rintro _ wd ⟨rfl, hwd⟩
        subst wd
        go_wp2_with fail
        refine (open_none _ _ _).mono ?_
        rintro _ we ⟨rfl, hwe⟩
        subst we
        go_wp2_with fail
        refine (done_any 1 _).mono ?_
        rintro _ wf ⟨rfl, kf⟩
        have KF := Lib.hid kf
        clear kf
        go_wp2_with fail
        refine (append_nil _ _).mono ?_
        rintro _ wg ⟨rfl, bg⟩
        have KG := Lib.hid ((Only.refl [] _).below bg)
        clear bg
        go_wp2_with fail
        refine (lread_nil _ _).mono ?_
        rintro _ wh ⟨rfl, bh⟩
        have KH := Lib.hid ((Only.refl [] _).below bh)
        clear bh
        go_wp2_with fail
        refine (flush_nil _).mono ?_
        rintro _ wz ⟨rfl, hwz⟩
        subst wz
        go_wp2_with fail
        refine (master_nil _ _ _).mono ?_
        rintro _ wz ⟨rfl, hwz⟩
        subst wz
        go_wp2_with fail
        refine (start_nil _).mono ?_
        rintro _ wz ⟨rfl, hwz⟩
        subst wz
        go_wp2_with fail
        refine (end_nil _).mono ?_
        rintro _ wz ⟨rfl, hwz⟩
        subst wz
        go_wp2_with fail
        refine (flushed_nil _).mono ?_
        rintro _ wz ⟨rfl, hwz⟩
        subst wz
        go_wp2_with fail
        refine (point_nil _).mono ?_
        rintro _ wz ⟨rfl, hwz⟩
        subst wz
        go_wp2_with fail
        refine (epoch_nil _).mono ?_
        rintro _ wz ⟨rfl, hwz⟩
        subst wz
        go_wp2_with fail
        refine (left_nil _).mono ?_
        rintro _ wz ⟨rfl, hwz⟩
        subst wz
        go_wp2_with fail
        refine (known_any _).mono ?_
        rintro _ wk ⟨rfl, bk⟩
        have KK := Lib.hid ((Only.refl [] _).below bk)
        clear bk
        go_wp2_with fail
        go_ret
        refine ⟨rfl, ?_⟩
        have KI : Only [] wh (wh.alloc (.cells #[Value.int .i64 0, .int .u64 0, .int .u32 0, .int .u64 0, .int .u32 0, .int .u16 0, .slice none 0 0, .slice none 0 0, .slice none 0 0, .int .u64 0, .int .u64 0, .bool false, .int .u64 0, .slice none 0 0, .slice none 0 0] 43)) := (Only.refl [] _).alloc _
        exact below_only (Nat.le_refl _) (K1.out.and (KF.out.and (KG.out.and (KH.out.and (KI.and KK.out)))))
    · have c2 : decide (count ≤ 8192) = false := decide_eq_false c2'
      clear c1' c2'
      clear hl h1 h2 ha hc
      go_enter Try.func5, Try.ntmps5
      go_wp2_with fail
      refine NW.out.mono ?_
      rintro _ w1 ⟨p, F, rfl, d1', k1, hF⟩
      have K1 := Lib.hid k1
      have D1 := Lib.hid d1'
      clear d1' k1 hF
      go_wp2_with fail
      refine (make_bad D1.out at_ count HA.out HS.out HL.out).mono ?_
      rintro _ w2 ⟨rfl, hw2⟩
      subst w2
      go_wp2_with fail
      refine (open_bad D1.out at_ count HA.out HS.out HL.out).mono ?_
      rintro _ w3 ⟨rfl, hw3⟩
      subst w3
      go_wp2_with fail
      refine (make_none _ _ _).mono ?_
      rintro _ wd ⟨rfl, hwd⟩
      subst wd
      go_wp2_with fail
      refine (open_none _ _ _).mono ?_
      rintro _ we ⟨rfl, hwe⟩
      subst we
      go_wp2_with fail
      refine (done_any 1 _).mono ?_
      rintro _ wf ⟨rfl, kf⟩
      have KF := Lib.hid kf
      clear kf
      go_wp2_with fail
      refine (append_nil _ _).mono ?_
      rintro _ wg ⟨rfl, bg⟩
      have KG := Lib.hid ((Only.refl [] _).below bg)
      clear bg
      go_wp2_with fail
      refine (lread_nil _ _).mono ?_
      rintro _ wh ⟨rfl, bh⟩
      have KH := Lib.hid ((Only.refl [] _).below bh)
      clear bh
      go_wp2_with fail
      refine (flush_nil _).mono ?_
      rintro _ wz ⟨rfl, hwz⟩
      subst wz
      go_wp2_with fail
      refine (master_nil _ _ _).mono ?_
      rintro _ wz ⟨rfl, hwz⟩
      subst wz
      go_wp2_with fail
      refine (start_nil _).mono ?_
      rintro _ wz ⟨rfl, hwz⟩
      subst wz
      go_wp2_with fail
      refine (end_nil _).mono ?_
      rintro _ wz ⟨rfl, hwz⟩
      subst wz
      go_wp2_with fail
      refine (flushed_nil _).mono ?_
      rintro _ wz ⟨rfl, hwz⟩
      subst wz
      go_wp2_with fail
      refine (point_nil _).mono ?_
      rintro _ wz ⟨rfl, hwz⟩
      subst wz
      go_wp2_with fail
      refine (epoch_nil _).mono ?_
      rintro _ wz ⟨rfl, hwz⟩
      subst wz
      go_wp2_with fail
      refine (left_nil _).mono ?_
      rintro _ wz ⟨rfl, hwz⟩
      subst wz
      go_wp2_with fail
      refine (known_any _).mono ?_
      rintro _ wk ⟨rfl, bk⟩
      have KK := Lib.hid ((Only.refl [] _).below bk)
      clear bk
      go_wp2_with fail
      go_ret
      refine ⟨rfl, ?_⟩
      have KI : Only [] wh (wh.alloc (.cells #[Value.int .i64 0, .int .u64 0, .int .u32 0, .int .u64 0, .int .u32 0, .int .u16 0, .slice none 0 0, .slice none 0 0, .slice none 0 0, .int .u64 0, .int .u64 0, .bool false, .int .u64 0, .slice none 0 0, .slice none 0 0] 43)) := (Only.refl [] _).alloc _
      exact below_only (Nat.le_refl _) (K1.out.and (KF.out.and (KG.out.and (KH.out.and (KI.and KK.out)))))
  · have c1 : decide (16 ≤ count) = false := decide_eq_false c1'
    clear c1'
    clear hl h1 h2 ha hc
    go_enter Try.func5, Try.ntmps5
    go_wp2_with fail
    refine NW.out.mono ?_
    rintro _ w1 ⟨p, F, rfl, d1', k1, hF⟩
    have K1 := Lib.hid k1
    have D1 := Lib.hid d1'
    clear d1' k1 hF
    go_wp2_with fail
    refine (make_bad D1.out at_ count HA.out HS.out HL.out).mono ?_
    rintro _ w2 ⟨rfl, hw2⟩
    subst w2
    go_wp2_with fail
    refine (open_bad D1.out at_ count HA.out HS.out HL.out).mono ?_
    rintro _ w3 ⟨rfl, hw3⟩
    subst w3
    go_wp2_with fail
    refine (make_none _ _ _).mono ?_
    rintro _ wd ⟨rfl, hwd⟩
    subst wd
    go_wp2_with fail
    refine (open_none _ _ _).mono ?_
    rintro _ we ⟨rfl, hwe⟩
    subst we
    go_wp2_with fail
    refine (done_any 1 _).mono ?_
    rintro _ wf ⟨rfl, kf⟩
    have KF := Lib.hid kf
    clear kf
    go_wp2_with fail
    refine (append_nil _ _).mono ?_
    rintro _ wg ⟨rfl, bg⟩
    have KG := Lib.hid ((Only.refl [] _).below bg)
    clear bg
    go_wp2_with fail
    refine (lread_nil _ _).mono ?_
    rintro _ wh ⟨rfl, bh⟩
    have KH := Lib.hid ((Only.refl [] _).below bh)
    clear bh
    go_wp2_with fail
    refine (flush_nil _).mono ?_
    rintro _ wz ⟨rfl, hwz⟩
    subst wz
    go_wp2_with fail
    refine (master_nil _ _ _).mono ?_
    rintro _ wz ⟨rfl, hwz⟩
    subst wz
    go_wp2_with fail
    refine (start_nil _).mono ?_
    rintro _ wz ⟨rfl, hwz⟩
    subst wz
    go_wp2_with fail
    refine (end_nil _).mono ?_
    rintro _ wz ⟨rfl, hwz⟩
    subst wz
    go_wp2_with fail
    refine (flushed_nil _).mono ?_
    rintro _ wz ⟨rfl, hwz⟩
    subst wz
    go_wp2_with fail
    refine (point_nil _).mono ?_
    rintro _ wz ⟨rfl, hwz⟩
    subst wz
    go_wp2_with fail
    refine (epoch_nil _).mono ?_
    rintro _ wz ⟨rfl, hwz⟩
    subst wz
    go_wp2_with fail
    refine (left_nil _).mono ?_
    rintro _ wz ⟨rfl, hwz⟩
    subst wz
    go_wp2_with fail
    refine (known_any _).mono ?_
    rintro _ wk ⟨rfl, bk⟩
    have KK := Lib.hid ((Only.refl [] _).below bk)
    clear bk
    go_wp2_with fail
    go_ret
    refine ⟨rfl, ?_⟩
    have KI : Only [] wh (wh.alloc (.cells #[Value.int .i64 0, .int .u64 0, .int .u32 0, .int .u64 0, .int .u32 0, .int .u16 0, .slice none 0 0, .slice none 0 0, .slice none 0 0, .int .u64 0, .int .u64 0, .bool false, .int .u64 0, .slice none 0 0, .slice none 0 0] 43)) := (Only.refl [] _).alloc _
    exact below_only (Nat.le_refl _) (K1.out.and (KF.out.and (KG.out.and (KH.out.and (KI.and KK.out)))))
end Go.Proofs.Ytjhomphbfkbaoaa
