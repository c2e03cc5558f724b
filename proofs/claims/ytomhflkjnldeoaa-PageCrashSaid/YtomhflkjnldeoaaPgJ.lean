/- page.Open of whatever bytes; the document's. -/
import Derived.Test.YtomhflkjnldeoaaPgI
namespace Go.Proofs.Ytomhflkjnldeoaa
open Go.RowKit Go.ChangeShapes Go.WideShapes Go.ChangeAt
set_option linter.unusedVariables false

theorem open_any (a : Option Addr) (n c : Nat) (xs : List Int) (w : World) (hx : xs.length = n) (hi : Ints .u8 w (.slice a n c) xs) (hb : IsBy xs) (hc : n ≤ c) :
    Calls Try.prog 10 #[.slice a n c] w (OpenPost xs w) := by
  by_cases hn : n = 512
  · subst hn
    obtain ⟨b, o, c', hv, hcell⟩ := hi.shape (by omega)
    have hv' := hv
    simp only [Value.slice.injEq] at hv'
    obtain ⟨rfl, _, rfl⟩ := hv'
    by_cases hz : zerosIn xs = 512
    · exact open_zero b o c xs w hx hi hz
    · exact open_more b o c xs w hx hi hb hz hc
  · exact open_len a n c xs w hx hn
def zs512 : Array Value := Array.replicate 512 (.int .u8 0)
def zero512 : List Int := List.replicate 512 0
theorem make_512 : ∀ x : World, (Instr.makeSlice 23 (.int .i64 512) (.int .i64 512)).run Try.prog x = .ok (.slice (some ⟨x.heap.size, 0, none⟩) 512 512) (x.alloc (.cells zs512 5)) := fun x => by
  obtain ⟨i0, hi0, hz0, hz1, hz2⟩ := info_parts infoBy
  have hr := run_make (P := Try.prog) x 23 5 i0 (.int .u8 0) Try.underlying23 hi0 hz0 .i64 .i64 ((512 : Nat) : Int) ((512 : Nat) : Int) (by omega) (Int.le_refl _) (by rw [hz2]; omega) (by omega)
  simp only [Int.toNat_natCast, hz1, Nat.mul_one, Value.cells, madeCells_one] at hr
  exact hr
theorem zero512_is (x : World) : Ints .u8 (x.alloc (.cells zs512 5)) (.slice (some ⟨x.heap.size, 0, none⟩) 512 512) zero512 := by
  refine .inr ⟨x.heap.size, 0, 512, by unfold zero512; rw [List.length_replicate], fun i hi => ?_⟩
  have hl : i < 512 := by unfold zero512 at hi; rw [List.length_replicate] at hi; exact hi
  rw [(Row.made x zs512 5).cell, Nat.zero_add]
  unfold zs512 zero512
  rw [Array.getElem?_replicate, if_pos hl, List.getElem?_replicate, if_pos hl]
  rfl
theorem zero512_iff {xs : List Int} (hb : IsBy xs) (hx : xs.length = 512) : xs = zero512 ↔ zerosIn xs = 512 := by
  have h := zerosIn_eq hb
  rw [hx] at h
  exact h.symm
set_option maxHeartbeats 2000000 in
theorem ropen_len (a : Option Addr) (n c : Nat) (xs : List Int) (w : World) (hx : xs.length = n) (hn : n ≠ 512) :
    Calls Try.prog 12 #[.slice a n c] w (OpenPost xs w) := by
  have d1 : decide ((n : Int) = 512) = false := decide_eq_false (by omega)
  have d2 : ((n : Int) != 512) = true := by simp; omega
  have d3 : ¬ (n : Int) = 512 := by omega
  have E1 : Hid (openE xs = 2 ∧ openN xs = 0 ∧ openB xs = []) := Lib.hid (by unfold openE openN openB; simp [hx, hn])
  clear hx hn
  go_enter Try.func12, Try.ntmps12
  go_wp2_with fail
  refine bodyPost_ret (results_paper2 rfl _ _ w.heap.size (.int .u64 0) (.slice none 0 0) rfl (Row.made w _ _)) rfl ?_
  obtain ⟨h1, h2, h3⟩ := E1.out
  refine ⟨.slice none 0 0, by rw [h1, h2]; rfl, by rw [h3]; exact World.ownsRow_nil _ _ _ _, (Below.refl _ _).alloc (Nat.le_refl _) _⟩
set_option maxHeartbeats 4000000 in
theorem ropen_any (b o c : Nat) (xs : List Int) (w : World) (hx : xs.length = 512) (hi : Ints .u8 w (.slice (some ⟨b, o, none⟩) 512 c) xs) (hb : IsBy xs) (hc : 512 ≤ c) (hc2 : c ≤ 9223372036854775807) :
    Calls Try.prog 12 #[.slice (some ⟨b, o, none⟩) 512 c] w (OpenPost xs w) := by
  have mk := make_512
  have HI := Lib.hid hi
  have HB := Lib.hid hb
  have HX := Lib.hid hx
  have BL := Lib.hid fun A B : Obj => (((Below.refl _ w).alloc (Nat.le_refl _) A).alloc (by simp [go_sem]) B : Below w.heap.size w ((w.alloc A).alloc B))
  have BL1 := Lib.hid fun A : Obj => ((Below.refl _ w).alloc (Nat.le_refl _) A : Below w.heap.size w (w.alloc A))
  have q1 : ∀ A : Obj, (convert 23 9 (.slice (some ⟨b, o, none⟩) 512 c)).run Try.prog (w.alloc A).drew = .ok (.string (strOfNums xs)) (w.alloc A).drew := fun A => conv_ints (HI.out.below' (BL1.out A).drew)
  have q2 : ∀ A B : Obj, (convert 23 9 (.slice (some ⟨b, o, none⟩) 512 c)).run Try.prog ((w.alloc A).alloc B).drew = .ok (.string (strOfNums xs)) ((w.alloc A).alloc B).drew := fun A B => conv_ints (HI.out.below' (BL.out A B).drew)
  have q3 : ∀ A : Obj, (convert 23 9 (.slice (some ⟨w.heap.size + 1, 0, none⟩) 512 512)).run Try.prog ((w.alloc A).alloc (.cells zs512 5)).drew = .ok (.string (strOfNums zero512)) ((w.alloc A).alloc (.cells zs512 5)).drew := fun A => by
    have h := zero512_is (w.alloc A)
    have e : (w.alloc A).heap.size = w.heap.size + 1 := by simp [go_sem]
    rw [e] at h
    exact conv_ints (h.below fun _ _ _ => rfl)
  have E : Hid (((strOfNums xs).toList == (strOfNums zero512).toList) = decide (zerosIn xs = 512)) := Lib.hid (by
    have h := zero512_iff hb hx
    by_cases hz : zerosIn xs = 512
    · rw [h.2 hz]; rw [h.2 hz] at hz; simp [hz]
    · rw [str_ne hb (fun x hx => by unfold zero512 at hx; have := (List.mem_replicate.1 hx).2; omega) (fun e => hz (h.1 e))]; simp [hz])
  generalize strOfNums xs = S1 at *
  generalize strOfNums zero512 = S2 at *
  clear hx hi hb
  by_cases hz : zerosIn xs = 512
  · have e1 : (S1.toList == S2.toList) = true := by rw [E.out]; exact decide_eq_true hz
    go_enter Try.func12, Try.ntmps12
    have E1 : Hid (openE xs = 0 ∧ openN xs = 0 ∧ openB xs = List.replicate 500 0) := Lib.hid (by unfold openE openN openB; simp [HX.out, hz])
    have B3 : Hid (Below w.heap.size w ((w.alloc (.cells #[.int .u64 0, .slice none 0 0] 25)).alloc (.cells zs512 5)).drew) := Lib.hid (BL.out _ _).drew
    have R3 : Hid (Row ((w.alloc (.cells #[.int .u64 0, .slice none 0 0] 25)).alloc (.cells zs512 5)).drew w.heap.size #[.int .u64 0, .slice none 0 0] 25) := Lib.hid ((Row.made w _ _).only ((Only.refl [] _).alloc _).drew (by simp))
    clear hz
    go_wp2_with fail
    go_region_with fail
    all_goals
      clear q1 q2 q3 mk
      go_wp2_with fail
      refine (rblank_any _).mono ?_
      rintro _ w4 ⟨g, rfl, hg, hr, ho⟩
      have R4 := Lib.hid (R3.out.only ho (by simp))
      have B4 := Lib.hid (B3.out.trans (ho.toBelow B3.out.size (by simp)))
      have G4 : Hid (w.heap.size < g) := Lib.hid (Nat.lt_of_lt_of_le R3.out.lt hg)
      have Z4 := Lib.hid hr
      have c0 : w4.cell? ⟨w.heap.size, 0, none⟩ = some (.int .u64 0) := R4.out.cell 0
      have c1 : w4.cell? ⟨w.heap.size, 1, none⟩ = some (.slice none 0 0) := R4.out.cell 1
      have f0 := R4.out.free 0
      have f1 := R4.out.free 1
      clear hg hr ho R3 B3
      go_wp2_with fail
      refine bodyPost_ret (results_paper2 rfl _ _ w.heap.size (.int .u64 0) (.slice (some ⟨g, 0, none⟩) 500 500) rfl ?_) rfl ?_
      · exact stored_row R4.out
      · obtain ⟨h1, h2, h3⟩ := E1.out
        refine ⟨.slice (some ⟨g, 0, none⟩) 500 500, by rw [h1, h2]; rfl, ?_, (B4.out.setCell (by simp) _).setCell (by simp) _⟩
        rw [h3]
        exact own_stored (zs_own Z4.out (Nat.le_of_lt G4.out)) fun k hk => by simp [Value.ownBlock] at hk; have := G4.out; omega
  · have e1 : (S1.toList == S2.toList) = false := by rw [E.out]; exact decide_eq_false hz
    have E1 : Hid (openE xs = (if sumOk xs then 0 else 14) ∧ openN xs = (if sumOk xs then leN ((xs.drop 4).take 8) else 0) ∧ openB xs = (if sumOk xs then xs.drop 12 else [])) := Lib.hid (by unfold openE openN openB; simp [HX.out, hz])
    have t4 : (c - 4 : Nat) ≠ 0 := by omega
    have t12 : (c - 12 : Nat) ≠ 0 := by omega
    have cc : (512 : Int) ≤ (c : Int) := by omega
    have OI : Hid (OInv tRf w (((w.alloc (.cells #[.int .u64 0, .slice none 0 0] 25)).alloc (.cells zs512 5)).alloc (.cells #[.slice (some ⟨b, o, none⟩) 512 c, .int .i64 0] 66)).drew b o c (w.heap.size + 1 + 1) xs xs) := Lib.hid (by
      obtain ⟨b', o', c', hv, hcell⟩ := HI.out.shape (by rw [HX.out]; omega)
      simp only [Value.slice.injEq, Option.some.injEq, Addr.mk.injEq] at hv
      obtain ⟨⟨rfl, rfl, _⟩, _, rfl⟩ := hv
      have hbl : b < w.heap.size := World.block_lt_of_cell? w _ (hcell 0 (by rw [HX.out]; omega))
      have B3 : Below w.heap.size w (((w.alloc (.cells #[.int .u64 0, .slice none 0 0] 25)).alloc (.cells zs512 5)).alloc (.cells #[.slice (some ⟨b, o, none⟩) 512 c, .int .i64 0] 66)).drew := ((BL.out _ _).alloc (by simp [go_sem]; omega) _).drew
      have hcs : ∀ i, i < xs.length → (((w.alloc (.cells #[.int .u64 0, .slice none 0 0] 25)).alloc (.cells zs512 5)).alloc (.cells #[.slice (some ⟨b, o, none⟩) 512 c, .int .i64 0] 66)).drew.cell? ⟨b, o + i, none⟩ = some (.int .u8 (xs[i]?.getD 0)) := fun i hi => (B3.cell (p := ⟨b, o + i, none⟩) hbl).trans (hcell i hi)
      have hr : Row ((w.alloc (.cells #[.int .u64 0, .slice none 0 0] 25)).alloc (.cells zs512 5) |>.alloc (.cells #[.slice (some ⟨b, o, none⟩) 512 c, .int .i64 0] 66)) (w.heap.size + 1 + 1) #[.slice (some ⟨b, o, none⟩) 512 c, .int .i64 0] tRf := by
        have h := Row.made ((w.alloc (.cells #[.int .u64 0, .slice none 0 0] 25)).alloc (.cells zs512 5)) #[.slice (some ⟨b, o, none⟩) 512 c, .int .i64 0] tRf
        have e : ((w.alloc (.cells #[.int .u64 0, .slice none 0 0] 25)).alloc (.cells zs512 5)).heap.size = w.heap.size + 1 + 1 := by simp [go_sem]
        rw [e] at h
        exact h
      refine ⟨⟨⟨b, o, c, by rw [HX.out]; exact hr, hcs, by omega, by rw [HX.out]; exact hc, hc2⟩⟩, hcs, ?_, B3, by omega, hbl⟩
      exact (((Row.made w _ _).only ((Only.refl [] _).alloc _) (by simp)).only ((Only.refl [] _).alloc _) (by simp)).only ((Only.refl [] _).drew) (by simp))
    have L4 : Hid ((xs.drop 4).length = 508) := Lib.hid (by rw [List.length_drop, HX.out])
    have BY4 : Hid (IsBy (xs.drop 4)) := Lib.hid fun x hx => HB.out x (List.mem_of_mem_drop hx)
    have UK := Lib.hid fun (y : World) (r : Nat) (h : RdAt tRf y r xs) => by
      have := num_any r xs 4 y h HB.out (by omega) (by rw [HX.out]; omega)
      unfold FixedPost at this
      exact this
    have SK := Lib.hid fun (y : World) (h : Ints .u8 y (.slice (some ⟨b, o + 4, none⟩) 508 (c - 4)) (xs.drop 4)) => rsum_any _ _ _ _ y L4.out h BY4.out (by omega)
    have HS : Hid (sumOk xs ↔ leN (xs.take 4) = ((sumI (xs.drop 4) : Nat) : Int)) := Lib.hid Iff.rfl
    have PL := sumI_lt (xs.drop 4)
    generalize leN (xs.take 4) = T at *
    generalize sumI (xs.drop 4) = S at *
    have ws : (S : Int) % 18446744073709551616 = (S : Int) := by omega
    clear hz PL
    go_enter Try.func12, Try.ntmps12
    go_wp2_with fail
    go_region_with fail
    all_goals
      clear q1 q2 q3 mk
      go_wp2_with fail
      refine (UK.out _ _ OI.out.rd).mono ?_
      rintro _ w6 ⟨rfl, hr6, k6⟩
      have I6 := Lib.hid (OI.out.read hr6 k6)
      clear hr6 k6 OI
      generalize w.heap.size + 1 + 1 = r at *
      go_wp2_with fail
      refine (SK.out w6 (I6.out.ints 4 508 _ HX.out.symm)).mono ?_
      rintro _ w7 ⟨rfl, hw7⟩
      subst w7
      by_cases hT : T = (S : Int)
      · have E2 : Hid (openE xs = 0 ∧ openN xs = leN ((xs.drop 4).take 8) ∧ openB xs = xs.drop 12) := Lib.hid (by
          have h := HS.out.2 hT
          have h1 := E1.out
          rw [if_pos h, if_pos h, if_pos h] at h1
          exact h1)
        have e2 : (T != (S : Int)) = false := by simp [hT]
        have VK := Lib.hid fun (y : World) (h : RdAt tRf y r (xs.drop 4)) => by
          have := num_any r (xs.drop 4) 8 y h BY4.out (by omega) (by rw [L4.out]; omega)
          unfold FixedPost at this
          exact this
        have L12 : Hid ((xs.drop 12).length = 500) := Lib.hid (by rw [List.length_drop, HX.out])
        generalize leN ((xs.drop 4).take 8) = N8 at *
        clear hT UK SK E1 HS
        go_wp2_with fail
        refine (VK.out w6 I6.out.rd).mono ?_
        rintro _ w8 ⟨rfl, hr8, k8⟩
        have I8 := Lib.hid (I6.out.read hr8 k8)
        clear hr8 k8
        obtain ⟨v9, w9, hrun, ho9, hb9, _, _⟩ := append_ints (w := w8.alloc (.cells #[] 5)) (base := w8.heap.size) (ys := []) (World.ownsRow_made w8 #[] 0 (Nat.le_refl _) (by unfold maxLen; omega) rfl) (some ⟨b, o + 12, none⟩) 500 (c - 12) (xs.drop 12) ((I8.out.ints 12 500 _ HX.out.symm).below' ((Below.refl _ _).alloc (Nat.le_refl _) _)) L12.out (by omega) (by omega) (by simp [go_sem])
        rw [Nat.zero_add, List.nil_append, ← L12.out] at ho9
        obtain ⟨g, c9, rfl, hg1, hg2, _⟩ := own_parts ho9 (by rw [L12.out]; omega)
        have OV : Hid (w9.ownsRow w8.heap.size 5 1 (.slice (some ⟨g, 0, none⟩) (xs.drop 12).length c9) (xs.drop 12).length ((xs.drop 12).map (Value.int .u8))) := Lib.hid ho9
        have BB : Hid (Below w8.heap.size w8 w9) := Lib.hid (((Below.refl _ _).alloc (Nat.le_refl _) _).trans hb9)
        have I9 := Lib.hid (I8.out.below (by rw [List.length_drop, L4.out]; omega) BB.out)
        have GR : Hid (w8.heap.size ≤ g) := Lib.hid hg1
        have hlt : Hid (w.heap.size < w8.heap.size) := Lib.hid I8.out.res.lt
        rw [L12.out] at hrun
        have c0 : w9.cell? ⟨w.heap.size, 0, none⟩ = some (.int .u64 0) := I9.out.res.cell 0
        have c1 : w9.cell? ⟨w.heap.size, 1, none⟩ = some (.slice none 0 0) := I9.out.res.cell 1
        have f0 := I9.out.res.free 0
        have f1 := I9.out.res.free 1
        clear ho9 hb9 hg1 hg2 VK
        go_wp2_with (at_builtin; refine wpList_append_eq rfl (.tmp 29) (.tmp 31) 23 rfl (.slice (some ⟨w8.heap.size, 0, none⟩) 0 0) (.slice (some ⟨b, o + 12, none⟩) 500 (c - 12)) (.slice (some ⟨g, 0, none⟩) 500 c9) w9 rfl rfl hrun ?_)
        refine bodyPost_ret (results_paper2 rfl _ _ w.heap.size (.int .u64 N8) (.slice (some ⟨g, 0, none⟩) 500 c9) rfl (stored_row I9.out.res)) rfl ?_
        obtain ⟨h1, h2, h3⟩ := E2.out
        refine ⟨_, by rw [h1, h2]; rfl, ?_, (I9.out.bl.setCell (by simp) _).setCell (by simp) _⟩
        rw [h3]
        have hov := OV.out
        rw [L12.out] at hov ⊢
        exact own_stored (own_lower hov (Nat.le_of_lt hlt.out)) fun k hk => by simp [Value.ownBlock] at hk; have := GR.out; have := hlt.out; omega
      · have E2 : Hid (openE xs = 14 ∧ openN xs = 0 ∧ openB xs = []) := Lib.hid (by
          have h : ¬ sumOk xs := fun h => hT (HS.out.1 h)
          have h1 := E1.out
          rw [if_neg h, if_neg h, if_neg h] at h1
          exact h1)
        have e2 : (T != (S : Int)) = true := by simp [hT]
        have c0 : w6.cell? ⟨w.heap.size, 0, none⟩ = some (.int .u64 0) := I6.out.res.cell 0
        have c1 : w6.cell? ⟨w.heap.size, 1, none⟩ = some (.slice none 0 0) := I6.out.res.cell 1
        have f0 := I6.out.res.free 0
        have f1 := I6.out.res.free 1
        clear UK SK E1 HS
        go_wp2_with fail
        refine bodyPost_ret (results_paper2 rfl _ _ w.heap.size (.int .u64 0) (.slice none 0 0) rfl (stored_row I6.out.res)) rfl ?_
        obtain ⟨h1, h2, h3⟩ := E2.out
        refine ⟨.slice none 0 0, by rw [h1, h2]; rfl, by rw [h3]; exact World.ownsRow_nil _ _ _ _, (I6.out.bl.setCell (by simp) _).setCell (by simp) _⟩
theorem ropen_all (a : Option Addr) (n c : Nat) (xs : List Int) (w : World) (hx : xs.length = n) (hi : Ints .u8 w (.slice a n c) xs) (hb : IsBy xs) (hc : n ≤ c) (hc2 : c ≤ 9223372036854775807) :
    Calls Try.prog 12 #[.slice a n c] w (OpenPost xs w) := by
  by_cases hn : n = 512
  · subst hn
    obtain ⟨b, o, c', hv, hcell⟩ := hi.shape (by omega)
    have hv' := hv
    simp only [Value.slice.injEq] at hv'
    obtain ⟨rfl, _, rfl⟩ := hv'
    exact ropen_any b o c xs w hx hi hb hc hc2
  · exact ropen_len a n c xs w hx hn
end Go.Proofs.Ytomhflkjnldeoaa
