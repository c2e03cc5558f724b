/- slices.Sort at uint64: partialInsertionSort (printed by gen_pins.py). -/
import Derived.Test.YtmbmkfhdiljalaaGreatSoG
namespace Go.Proofs.YtmbmkfhdiljalaaGreat
open Go.RowKit Go.ChangeShapes Go.WideShapes Go.ChangeAt
open Go.Sort (swp ltInt)
set_option linter.unusedVariables false
set_option linter.unusedSimpArgs false

theorem scanS_stop {d : Array Int} {b i : Nat} (h : ¬ i < b ∨ ltInt d[i]! d[i - 1]! = true) : Sort.scanSorted ltInt d b i = i := by
  rw [Sort.scanSorted, if_neg]
  rcases h with h | h
  · simp; intro h2; omega
  · simp [h]
theorem scanS_go {d : Array Int} {b i : Nat} (h : i < b) (hp : ltInt d[i]! d[i - 1]! = false) : Sort.scanSorted ltInt d b i = Sort.scanSorted ltInt d b (i + 1) := by
  rw [Sort.scanSorted, if_pos (by simp [h, hp])]
theorem shiftD_stop {d : Array Int} {j : Nat} (h : ¬ 1 ≤ j ∨ ltInt d[j]! d[j - 1]! = false) : Sort.shiftDown ltInt j d = d := by
  cases j with
  | zero => rfl
  | succ j =>
    rw [Sort.shiftDown, if_pos]
    rcases h with h | h
    · omega
    · simp at h; simp [h]
theorem shiftD_go {d : Array Int} {j : Nat} (h : 1 ≤ j) (hp : ltInt d[j]! d[j - 1]! = true) : Sort.shiftDown ltInt j d = Sort.shiftDown ltInt (j - 1) (swp d j (j - 1)) := by
  cases j with
  | zero => omega
  | succ j =>
    rw [Sort.shiftDown, if_neg]
    · rfl
    · simp at hp; simp [hp]
theorem shiftU_stop {d : Array Int} {b j : Nat} (h : ¬ j < b ∨ ltInt d[j]! d[j - 1]! = false) : Sort.shiftUp ltInt b j d = d := by
  rw [Sort.shiftUp]
  rcases h with h | h
  · rw [if_neg h]
  · split
    · rw [if_pos (by simp [h])]
    · rfl
theorem shiftU_go {d : Array Int} {b j : Nat} (h : j < b) (hp : ltInt d[j]! d[j - 1]! = true) : Sort.shiftUp ltInt b j d = Sort.shiftUp ltInt b (j + 1) (swp d j (j - 1)) := by
  rw [Sort.shiftUp, if_pos h, if_neg (by simp [hp])]
def PiTo (w : World) (B g cap n : Nat) (r : Array Int × Bool) (e : Ending) (w' : World) : Prop := e = .returned (.bool r.2) ∧ UT w w' B g cap n r.1
set_option maxRecDepth 100000 in
set_option maxHeartbeats 16000000 in
theorem pins_on {B g cap n : Nat} {d : Array Int} {w : World} (h : UA w B g cap n d) (hn : n ≤ 1000000) (a b : Nat) (hab : a + 12 < b) (hb : b ≤ n) :
    Calls Tryz.prog 99 #[.slice (some ⟨g, 0, none⟩) n cap, .int .i64 (a : Int), .int .i64 (b : Int)] w (PiTo w B g cap n (Sort.partialInsertionSort ltInt d a b)) := by
  obtain ⟨i0, hi0⟩ : ∃ i0, a + 1 = i0 := ⟨_, rfl⟩
  have e1 : IntKind.i64.wrap ((a : Int) + 1) = (i0 : Int) := by rw [w_inc _ (by omega), hi0]
  have HF : Hid (a < b ∧ b ≤ n ∧ n ≤ 1000000) := Lib.hid (by omega)
  have I0 : Hid (∃ D, UT w w B g cap n D ∧ Sort.partialInsertionSort ltInt d a b = Sort.partialIns ltInt a b (5 - 0) i0 D) := Lib.hid ⟨d, UT.refl h, by unfold Sort.partialInsertionSort; rw [hi0]⟩
  have HI0 : Hid (a < i0 ∧ i0 ≤ b) := Lib.hid (by omega)
  obtain ⟨l, hl⟩ : ∃ l, b - a = l := ⟨_, rfl⟩
  have el : IntKind.i64.wrap ((b : Int) - (a : Int)) = (l : Int) := by rw [w_sub _ _ (by omega) (by omega), hl]
  have HL9 := Lib.hid hl
  generalize hR : Sort.partialInsertionSort ltInt d a b = R at *
  clear h hn hab hb hi0 hl hR
  go_enter Tryz.func99, Tryz.ntmps99
  go_wp2_with fail
  go_loopw [7, 8] (fun u v wr => ∃ i t : Nat, (u = .int .i64 (i : Int) ∧ v = .int .i64 (t : Int)) ∧ Hid (t ≤ 5 ∧ a < i ∧ i ≤ b) ∧ Hid (∃ D, UT w wr B g cap n D ∧ R = Sort.partialIns ltInt a b (5 - t) i D)) (fun _ v _ => (5 - intOf v).toNat)
  case atStart => exact ⟨i0, 0, ⟨rfl, rfl⟩, Lib.hid ⟨by omega, HI0.out.1, HI0.out.2⟩, I0⟩
  case round =>
    obtain ⟨i, t, ⟨rfl, rfl⟩, HT, hR⟩ := hrel
    clear I0
    obtain ⟨D, hu, hd⟩ := hR.out
    have HU := Lib.hid hu
    have HE := Lib.hid hd
    clear hu hd hR
    by_cases ht : t < 5
    · have d1 : decide ((t : Int) < 5) = true := decide_eq_true (by omega)
      have d1' : decide (t < 5) = true := decide_eq_true ht
      obtain ⟨s, hs⟩ : ∃ s, 5 - t = s + 1 := ⟨4 - t, by omega⟩
      have HS0 : Hid (5 - (t + 1) = s ∧ t < 5) := Lib.hid (by omega)
      have et : IntKind.i64.wrap ((t : Int) + 1) = ((t + 1 : Nat) : Int) := w_inc _ (by omega)
      have HE2 : Hid (R = if Sort.scanSorted ltInt D b i = b then (D, true) else if b - a < 50 then (D, false) else
        Sort.partialIns ltInt a b s (Sort.scanSorted ltInt D b i) (Sort.fixUp ltInt b (Sort.scanSorted ltInt D b i) (Sort.fixDown ltInt a (Sort.scanSorted ltInt D b i) (swp D (Sort.scanSorted ltInt D b i) (Sort.scanSorted ltInt D b i - 1))))) := Lib.hid (by rw [HE.out, hs, Sort.partialIns_succ])
      clear hs ht HE
      go_upto_block 2 with fail
      go_cut [7] from 17 to 32 (fun s7 wc => ∃ k : Nat, s7 = .int .i64 (k : Int) ∧ Hid (a < k ∧ k ≤ b) ∧ Hid (Sort.scanSorted ltInt D b i = k) ∧ Hid (UT w wc B g cap n D))
      case first =>
        go_wp2_with fail
        go_loopw [7] (fun u wr => ∃ k : Nat, u = .int .i64 (k : Int) ∧ Hid (a < k ∧ k ≤ b) ∧ Hid (UT w wr B g cap n D) ∧ Hid (Sort.scanSorted ltInt D b i = Sort.scanSorted ltInt D b k)) (fun u _ => b - (intOf u).toNat)
        case atStart => exact ⟨i, rfl, Lib.hid (by have := HT.out; omega), HU, Lib.hid rfl⟩
        case round =>
          obtain ⟨k, rfl, HR, HU, HE⟩ := hrel
          by_cases hk : k < b
          · have d1 : decide ((k : Int) < (b : Int)) = true := decide_eq_true (by omega)
            have d1' : decide (k < b) = true := decide_eq_true hk
            have HK := Lib.hid hk
            clear hk
            have kn : k < n := by have := HF.out; have := HK.out; omega
            have e5 : IntKind.i64.wrap ((k : Int) + 1) = ((k + 1 : Nat) : Int) := w_inc _ (by have := HF.out; omega)
            obtain ⟨m, hm⟩ : ∃ m, k - 1 = m := ⟨_, rfl⟩
            have HM := Lib.hid hm
            have e6 : IntKind.i64.wrap ((k : Int) - 1) = (m : Int) := by rw [w_dec _ (by have := HF.out; omega) (by have := HR.out; omega), hm]
            clear hm
            have mn : m < n := by have := HM.out; omega
            have c1 := HU.out.row.cell k kn
            have c2 := HU.out.row.cell m mn
            generalize hx : D[k]! = x at c1
            generalize hy : D[m]! = y at c2
            have HX := Lib.hid hx
            have HY := Lib.hid hy
            clear hx hy
            cases hl : ltInt x y
            · have HL := Lib.hid hl
              clear hl
              go_upto_region 5 with fail
              go_quiet ((go_at_call 100; exact Calls.quiet_of_same (less_is _ _ _ HL.out _)))
              have HU := Lib.hid (HU.out.drewN nq)
              go_wp2_with fail
              go_roundw
              case rel => exact ⟨k + 1, by go_num, Lib.hid (by have := HR.out; have := HK.out; omega), HU, Lib.hid (by rw [HE.out, scanS_go HK.out (by rw [HM.out, HX.out, HY.out]; exact HL.out)])⟩
              case measure => simp [intOf]; have := HK.out; omega
            · have HL := Lib.hid hl
              clear hl
              go_upto_region 5 with fail
              go_quiet ((go_at_call 100; exact Calls.quiet_of_same (less_is _ _ _ HL.out _)))
              have HU := Lib.hid (HU.out.drewN nq)
              go_wp2_with fail
              go_meet
              exact ⟨k, rfl, HR, Lib.hid (by rw [HE.out, scanS_stop (.inr (by rw [HM.out, HX.out, HY.out]; exact HL.out))]), HU⟩
          · have d1 : decide ((k : Int) < (b : Int)) = false := decide_eq_false (by omega)
            have d1' : decide (k < b) = false := decide_eq_false hk
            have HK := Lib.hid hk
            clear hk
            go_upto_region 5 with fail
            go_quiet (fail)
            have HU := Lib.hid (HU.out.drewN nq)
            go_wp2_with fail
            go_meet
            exact ⟨k, rfl, HR, Lib.hid (by rw [HE.out, scanS_stop (.inl HK.out)]), HU⟩
      case rest =>
        obtain ⟨k, rfl, HR, HK, HU⟩ := hcut
        have HE3 := Lib.hid HE2.out
        rw [HK.out] at HE3
        clear HE2
        by_cases hkb : k = b
        · have HKB := Lib.hid hkb
          have dd : decide ((k : Int) = (b : Int)) = true := decide_eq_true (by omega)
          have dd1 : ((k : Int) == (b : Int)) = true := by simp; omega
          have dd2 : decide (k = b) = true := decide_eq_true hkb
          clear hkb
          go_wp2_with fail
          go_ret
          exact ⟨by rw [HE3.out, if_pos HKB.out]; rfl, by rw [HE3.out, if_pos HKB.out]; exact HU.out⟩
        · have HKB := Lib.hid hkb
          have dd : decide ((k : Int) = (b : Int)) = false := decide_eq_false (by omega)
          have dd1 : ((k : Int) == (b : Int)) = false := by simp; omega
          have dd2 : decide (k = b) = false := decide_eq_false hkb
          clear hkb
          by_cases h50 : l < 50
          · have d5 : decide ((l : Int) < 50) = true := decide_eq_true (by omega)
            have d5' : decide (l < 50) = true := decide_eq_true h50
            have H50 := Lib.hid h50
            clear h50
            go_wp2_with fail
            go_ret
            exact ⟨by rw [HE3.out, if_neg HKB.out, if_pos (by rw [HL9.out]; exact H50.out)]; rfl, by rw [HE3.out, if_neg HKB.out, if_pos (by rw [HL9.out]; exact H50.out)]; exact HU.out⟩
          · have d5 : decide ((l : Int) < 50) = false := decide_eq_false (by omega)
            have d5' : decide (l < 50) = false := decide_eq_false h50
            have HE4 : Hid (R = Sort.partialIns ltInt a b s k (Sort.fixUp ltInt b k (Sort.fixDown ltInt a k (swp D k (k - 1))))) := Lib.hid (by rw [HE3.out, if_neg HKB.out, if_neg (by rw [HL9.out]; exact h50)])
            clear h50 HE3
            obtain ⟨m, hm⟩ : ∃ m, k - 1 = m := ⟨_, rfl⟩
            have HM := Lib.hid hm
            have e6 : IntKind.i64.wrap ((k : Int) - 1) = (m : Int) := by rw [w_dec _ (by have := HF.out; have := HR.out; omega) (by have := HR.out; omega), hm]
            rw [hm] at HE4
            clear hm
            have kn : k < n := by have := HF.out; have := HR.out; have := HKB.out; omega
            have mn : m < n := by have := HM.out; omega
            go_upto_region 11 with fail
            go_cut [7] from 42 to 57 (fun s8 wc => s8 = .int .i64 (k : Int) ∧ Hid (UT w wc B g cap n (swp D k m)))
            case first =>
              have c1 := HU.out.row.cell k kn
              have c2 := HU.out.row.cell m mn
              have q1 := HU.out.row.free k
              have q2 := HU.out.row.free m
              generalize hx : (D)[k]! = x9 at c1
              generalize hy : (D)[m]! = y9 at c2
              have HS := Lib.hid (HU.out.swap k m hx hy).drew
              have hij : ¬ k = m := (by have := HM.out; have := HR.out; omega)
              have ne1 : ¬ k = m := hij
              have ne2 : ¬ m = k := fun e => hij e.symm
              clear hij hx hy
              go_region
              go_wp2_with fail
              go_meet
              exact ⟨rfl, HS⟩
            case rest =>
              obtain ⟨rfl, HU⟩ := hcut
              generalize hD : swp D k m = D1 at *
              clear hD
              obtain ⟨c, hc⟩ : ∃ c, k - a = c := ⟨_, rfl⟩
              have HC := Lib.hid hc
              have e7 : IntKind.i64.wrap ((k : Int) - (a : Int)) = (c : Int) := by rw [w_sub _ _ (by have := HR.out; omega) (by have := HF.out; omega), hc]
              clear hc
              go_upto_if 61 with fail
              go_cut [7] from 61 to 94 (fun s8 wc => s8 = .int .i64 (k : Int) ∧ Hid (UT w wc B g cap n (Sort.fixDown ltInt a k D1)))
              case first =>
                by_cases h2 : 2 ≤ c
                · have d6 : decide ((2 : Int) ≤ (c : Int)) = true := decide_eq_true (by omega)
                  have d6' : decide (2 ≤ c) = true := decide_eq_true h2
                  have h2i : (2 : Int) ≤ (c : Int) := by omega
                  have HFX : Hid (Sort.fixDown ltInt a k D1 = Sort.shiftDown ltInt m D1) := Lib.hid (by unfold Sort.fixDown; rw [if_pos (by rw [HC.out]; exact h2), HM.out])
                  go_wp2_with fail
                  go_loopw [9] (fun u wr => ∃ j : Nat, u = .int .i64 (j : Int) ∧ Hid (j < n) ∧ Hid (∃ D2, UT w wr B g cap n D2 ∧ Sort.shiftDown ltInt m D1 = Sort.shiftDown ltInt j D2)) (fun u _ => (intOf u).toNat)
                  case atStart => exact ⟨m, rfl, Lib.hid mn, Lib.hid ⟨D1, HU.out, rfl⟩⟩
                  case round =>
                    obtain ⟨j, rfl, HJ, hR⟩ := hrel
                    clear HU
                    obtain ⟨D2, hu, hd⟩ := hR.out
                    have HU := Lib.hid hu
                    have HE := Lib.hid hd
                    clear hu hd hR
                    by_cases h1 : 1 ≤ j
                    · have d7 : decide ((1 : Int) ≤ (j : Int)) = true := decide_eq_true (by omega)
                      have d7' : decide (1 ≤ j) = true := decide_eq_true h1
                      have H1 := Lib.hid h1
                      clear h1
                      obtain ⟨q, hq⟩ : ∃ q, j - 1 = q := ⟨_, rfl⟩
                      have HQ := Lib.hid hq
                      have e10 : IntKind.i64.wrap ((j : Int) - 1) = (q : Int) := by rw [w_dec _ (by have := HF.out; have := HJ.out; omega) H1.out, hq]
                      clear hq
                      have jn : j < n := HJ.out
                      have qn : q < n := by have := HQ.out; omega
                      have ne1 : ¬ j = q := by have := HQ.out; have := H1.out; omega
                      have ne2 : ¬ q = j := by have := HQ.out; have := H1.out; omega
                      have c1 := HU.out.row.cell j jn
                      have c2 := HU.out.row.cell q qn
                      generalize hx : D2[j]! = x at c1
                      generalize hy : D2[q]! = y at c2
                      have HX := Lib.hid hx
                      have HY := Lib.hid hy
                      clear hx hy
                      cases hl : ltInt x y
                      · have HL := Lib.hid hl
                        clear hl
                        go_upto_region 16 with fail
                        go_quiet ((go_at_call 100; exact Calls.quiet_of_same (less_is _ _ _ HL.out _)))
                        have HU := Lib.hid (HU.out.drewN nq)
                        go_wp2_with fail
                        go_meet
                        exact ⟨rfl, Lib.hid (by rw [HFX.out, HE.out, shiftD_stop (.inr (by rw [HQ.out, HX.out, HY.out]; exact HL.out))]; exact HU.out)⟩
                      · have HL := Lib.hid hl
                        clear hl
                        go_upto_region 16 with fail
                        rename World => wq
                        go_quiet ((go_at_call 100; exact Calls.quiet_of_same (less_is _ _ _ HL.out _)))
                        have HU := Lib.hid (HU.out.drewN nq)
                        generalize wq.drewN nq = w5 at *
                        clear c1 c2
                        have c1 := HU.out.row.cell j jn
                        have c2 := HU.out.row.cell q qn
                        have q1 := HU.out.row.free j
                        have q2 := HU.out.row.free q
                        rw [HX.out] at c1
                        rw [HY.out] at c2
                        have HS : Hid (UT w ((w5.setCell ⟨g, j, none⟩ (.int .u64 y)).setCell ⟨g, q, none⟩ (.int .u64 x)).drew B g cap n (swp D2 j q)) := Lib.hid (HU.out.swap j q HX.out HY.out).drew
                        go_upto_region 17 with fail
                        go_region
                        go_wp2_with fail
                        go_roundw
                        case rel => exact ⟨q, rfl, Lib.hid (by have := HQ.out; have := HJ.out; have := H1.out; have := HQ.out; omega), Lib.hid ⟨_, HS.out, by rw [HE.out, shiftD_go H1.out (by rw [HQ.out, HX.out, HY.out]; exact HL.out), HQ.out]⟩⟩
                        case measure => simp [intOf]; have := HQ.out; have := H1.out; have := H1.out; have := HQ.out; omega
                    · have d7 : decide ((1 : Int) ≤ (j : Int)) = false := decide_eq_false (by omega)
                      have d7' : decide (1 ≤ j) = false := decide_eq_false h1
                      have H1 := Lib.hid h1
                      clear h1
                      go_wp2_with fail
                      go_meet
                      exact ⟨rfl, Lib.hid (by rw [HFX.out, HE.out, shiftD_stop (.inl H1.out)]; exact HU.out)⟩
                · have d6 : decide ((2 : Int) ≤ (c : Int)) = false := decide_eq_false (by omega)
                  have d6' : decide (2 ≤ c) = false := decide_eq_false h2
                  have h2i : ¬ (2 : Int) ≤ (c : Int) := by omega
                  have HFX : Hid (Sort.fixDown ltInt a k D1 = D1) := Lib.hid (by unfold Sort.fixDown; rw [if_neg (by rw [HC.out]; exact h2)])
                  go_wp2_with fail
                  go_meet
                  exact ⟨rfl, Lib.hid (by rw [HFX.out]; exact HU.out)⟩
              case rest =>
                obtain ⟨rfl, HU⟩ := hcut
                generalize hD : Sort.fixDown ltInt a k D1 = D3 at *
                clear hD e7 HC
                obtain ⟨c2, hc⟩ : ∃ c2, b - k = c2 := ⟨_, rfl⟩
                have HC := Lib.hid hc
                have e7 : IntKind.i64.wrap ((b : Int) - (k : Int)) = (c2 : Int) := by rw [w_sub _ _ (by have := HR.out; omega) (by have := HF.out; omega), hc]
                clear hc
                by_cases h2 : 2 ≤ c2
                · have d6 : decide ((2 : Int) ≤ (c2 : Int)) = true := decide_eq_true (by omega)
                  have d6' : decide (2 ≤ c2) = true := decide_eq_true h2
                  have HFX : Hid (Sort.fixUp ltInt b k D3 = Sort.shiftUp ltInt b (k + 1) D3) := Lib.hid (by unfold Sort.fixUp; rw [if_pos (by rw [HC.out]; exact h2)])
                  obtain ⟨k1, hk1⟩ : ∃ k1, k + 1 = k1 := ⟨_, rfl⟩
                  have HK1 : Hid (a < k1 ∧ k1 ≤ b) := Lib.hid (by have := HR.out; have := HKB.out; omega)
                  have e8 : IntKind.i64.wrap ((k : Int) + 1) = (k1 : Int) := by rw [w_inc _ (by have := HF.out; have := HR.out; omega), hk1]
                  rw [hk1] at HFX
                  clear h2 hk1
                  go_wp2_with fail
                  go_loopw [10] (fun u wr => ∃ j : Nat, u = .int .i64 (j : Int) ∧ Hid (a < j ∧ j ≤ b) ∧ Hid (∃ D2, UT w wr B g cap n D2 ∧ Sort.shiftUp ltInt b k1 D3 = Sort.shiftUp ltInt b j D2)) (fun u _ => b - (intOf u).toNat)
                  case atStart => exact ⟨k1, rfl, HK1, Lib.hid ⟨D3, HU.out, rfl⟩⟩
                  case round =>
                    obtain ⟨j, rfl, HJ0, hR⟩ := hrel
                    clear HU
                    obtain ⟨D2, hu, hd⟩ := hR.out
                    have HU := Lib.hid hu
                    have HE := Lib.hid hd
                    clear hu hd hR
                    by_cases h1 : j < b
                    · have d7 : decide ((j : Int) < (b : Int)) = true := decide_eq_true (by omega)
                      have d7' : decide (j < b) = true := decide_eq_true h1
                      have HB1 := Lib.hid h1
                      have HJ : Hid (j < n) := Lib.hid (by have := HF.out; omega)
                      have H1 : Hid (1 ≤ j) := Lib.hid (by have := HJ0.out; omega)
                      have e9 : IntKind.i64.wrap ((j : Int) + 1) = ((j + 1 : Nat) : Int) := w_inc _ (by have := HF.out; omega)
                      clear h1
                      obtain ⟨q, hq⟩ : ∃ q, j - 1 = q := ⟨_, rfl⟩
                      have HQ := Lib.hid hq
                      have e10 : IntKind.i64.wrap ((j : Int) - 1) = (q : Int) := by rw [w_dec _ (by have := HF.out; have := HJ.out; omega) H1.out, hq]
                      clear hq
                      have jn : j < n := HJ.out
                      have qn : q < n := by have := HQ.out; omega
                      have ne1 : ¬ j = q := by have := HQ.out; have := H1.out; omega
                      have ne2 : ¬ q = j := by have := HQ.out; have := H1.out; omega
                      have c1 := HU.out.row.cell j jn
                      have c2 := HU.out.row.cell q qn
                      generalize hx : D2[j]! = x at c1
                      generalize hy : D2[q]! = y at c2
                      have HX := Lib.hid hx
                      have HY := Lib.hid hy
                      clear hx hy
                      cases hl : ltInt x y
                      · have HL := Lib.hid hl
                        clear hl
                        go_upto_region 22 with fail
                        go_quiet ((go_at_call 100; exact Calls.quiet_of_same (less_is _ _ _ HL.out _)))
                        have HU := Lib.hid (HU.out.drewN nq)
                        go_wp2_with fail
                        go_roundw
                        case rel => exact ⟨k, t + 1, ⟨rfl, by go_num⟩, Lib.hid (by have := HS0.out; have := HR.out; omega), Lib.hid ⟨_, HU.out, by rw [HE4.out, HS0.out.1, HFX.out, HE.out, shiftU_stop (.inr (by rw [HQ.out, HX.out, HY.out]; exact HL.out))]⟩⟩
                        case measure => simp [intOf]; have := HS0.out; omega
                      · have HL := Lib.hid hl
                        clear hl
                        go_upto_region 22 with fail
                        rename World => wq
                        go_quiet ((go_at_call 100; exact Calls.quiet_of_same (less_is _ _ _ HL.out _)))
                        have HU := Lib.hid (HU.out.drewN nq)
                        generalize wq.drewN nq = w5 at *
                        clear c1 c2
                        have c1 := HU.out.row.cell j jn
                        have c2 := HU.out.row.cell q qn
                        have q1 := HU.out.row.free j
                        have q2 := HU.out.row.free q
                        rw [HX.out] at c1
                        rw [HY.out] at c2
                        have HS : Hid (UT w ((w5.setCell ⟨g, j, none⟩ (.int .u64 y)).setCell ⟨g, q, none⟩ (.int .u64 x)).drew B g cap n (swp D2 j q)) := Lib.hid (HU.out.swap j q HX.out HY.out).drew
                        go_upto_region 23 with fail
                        go_region
                        go_wp2_with fail
                        go_roundw
                        case rel => exact ⟨j + 1, by first | go_num | rw [HQ.out], Lib.hid (by have := HQ.out; have := HJ.out; have := HB1.out; have := HJ0.out; omega), Lib.hid ⟨_, HS.out, by rw [HE.out, shiftU_go HB1.out (by rw [HQ.out, HX.out, HY.out]; exact HL.out), HQ.out]⟩⟩
                        case measure => simp [intOf]; have := HQ.out; have := H1.out; have := HB1.out; have := HJ0.out; omega
                    · have d7 : decide ((j : Int) < (b : Int)) = false := decide_eq_false (by omega)
                      have d7' : decide (j < b) = false := decide_eq_false h1
                      have H1 := Lib.hid h1
                      clear h1
                      go_wp2_with fail
                      go_roundw
                      case rel => exact ⟨k, t + 1, ⟨rfl, by go_num⟩, Lib.hid (by have := HS0.out; have := HR.out; omega), Lib.hid ⟨_, HU.out, by rw [HE4.out, HS0.out.1, HFX.out, HE.out, shiftU_stop (.inl H1.out)]⟩⟩
                      case measure => simp [intOf]; have := HS0.out; omega
                · have d6 : decide ((2 : Int) ≤ (c2 : Int)) = false := decide_eq_false (by omega)
                  have d6' : decide (2 ≤ c2) = false := decide_eq_false h2
                  have HFX : Hid (Sort.fixUp ltInt b k D3 = D3) := Lib.hid (by unfold Sort.fixUp; rw [if_neg (by rw [HC.out]; exact h2)])
                  clear h2
                  go_wp2_with fail
                  go_roundw
                  case rel => exact ⟨k, t + 1, ⟨rfl, by go_num⟩, Lib.hid (by have := HS0.out; have := HR.out; omega), Lib.hid ⟨_, HU.out, by rw [HE4.out, HS0.out.1, HFX.out]⟩⟩
                  case measure => simp [intOf]; have := HS0.out; omega
    · have d1 : decide ((t : Int) < 5) = false := decide_eq_false (by omega)
      have d1' : decide (t < 5) = false := decide_eq_false ht
      have HE2 : Hid (R = (D, false)) := Lib.hid (by rw [HE.out, show 5 - t = 0 by omega]; rfl)
      clear ht
      go_wp2_with fail
      go_ret
      exact ⟨by rw [HE2.out]; rfl, by rw [HE2.out]; exact HU.out⟩
end Go.Proofs.YtmbmkfhdiljalaaGreat

/- slices.Sort at uint64: the plain steps of pdqsort's round. -/
namespace Go.Proofs.YtmbmkfhdiljalaaGreat
open Go.Sort (swp ltInt PermIn SortedIn)
set_option linter.unusedVariables false
set_option linter.unusedSimpArgs false

theorem lt_iff {x y : Int} : ltInt x y = true ↔ x < y := by simp [ltInt]
theorem nlt_iff {x y : Int} : ltInt x y = false ↔ y ≤ x := by simp [ltInt]
/-- What a round goes on with: the part from a' to b' is to be sorted; once it is, all is. -/
structure PdInv (a b : Nat) (d : Array Int) (a' b' : Nat) (D : Array Int) : Prop where
  h1 : a ≤ a'
  h2 : a' ≤ b'
  h3 : b' ≤ b
  perm : PermIn a b d D
  bel : ∀ i, a' ≤ i → i < b' → a' = 0 ∨ D[a' - 1]! ≤ D[i]!
  cont : ∀ D', PermIn a' b' D D' → SortedIn ltInt a' b' D' → SortedIn ltInt a b D'
theorem bel_of {a b : Nat} {d : Array Int} (h : Sort.Below ltInt a b d) : ∀ i, a ≤ i → i < b → a = 0 ∨ d[a - 1]! ≤ d[i]! := fun i h1 h2 => by
  rcases h with h | h
  · exact .inl h
  · exact .inr (nlt_iff.1 (h i h1 h2))
theorem bel_to {a b : Nat} {d : Array Int} (h : ∀ i, a ≤ i → i < b → a = 0 ∨ d[a - 1]! ≤ d[i]!) : Sort.Below ltInt a b d := by
  by_cases h0 : a = 0
  · exact .inl h0
  · exact .inr fun i h1 h2 => nlt_iff.2 ((h i h1 h2).resolve_left h0)
theorem PdInv.start {a b : Nat} {d : Array Int} (hab : a ≤ b) (h : Sort.Below ltInt a b d) : PdInv a b d a b d :=
  ⟨Nat.le_refl _, hab, Nat.le_refl _, Sort.permIn_refl _ _ _, bel_of h, fun _ _ h => h⟩
theorem perm_out {a b : Nat} {d d' : Array Int} (h : PermIn a b d d') (i : Nat) (hi : i < a ∨ b ≤ i) : d'[i]! = d[i]! := h.2.1 i hi
theorem perm_all {a b : Nat} {d d' : Array Int} (hb : b ≤ d.size) (h : PermIn a b d d') (p : Int → Prop) (hp : ∀ i, a ≤ i → i < b → p d[i]!) : ∀ i, a ≤ i → i < b → p d'[i]! := Sort.permIn_all d d' a b p hb h hp
theorem PdInv.perm' {a b : Nat} {d : Array Int} {a' b' : Nat} {D D' : Array Int} (h : PdInv a b d a' b' D) (hs : b ≤ D.size) (hp : PermIn a' b' D D') : PdInv a b d a' b' D' := by
  refine ⟨h.h1, h.h2, h.h3, Sort.permIn_trans _ _ _ _ _ h.perm (Sort.permIn_mono _ _ _ _ _ _ h.h1 h.h3 hs hp), ?_, fun D2 hp2 hs2 => h.cont D2 (Sort.permIn_trans _ _ _ _ _ hp hp2) hs2⟩
  intro i h1 h2
  by_cases h0 : a' = 0
  · exact .inl h0
  · refine .inr ?_
    rw [perm_out hp (a' - 1) (.inl (by omega))]
    exact perm_all (by have := h.h3; omega) hp (fun x => D[a' - 1]! ≤ x) (fun i h1 h2 => (h.bel i h1 h2).resolve_left h0) i h1 h2
theorem PdInv.done {a b : Nat} {d : Array Int} {a' b' : Nat} {D D' : Array Int} (h : PdInv a b d a' b' D) (hs : b ≤ D.size) (hp : PermIn a' b' D D') (hd : SortedIn ltInt a' b' D') : PermIn a b d D' ∧ SortedIn ltInt a b D' :=
  ⟨(h.perm' hs hp).perm, h.cont D' hp hd⟩
/-- Behind partitionEqual: go on behind what is level with the pivot. -/
theorem PdInv.eq {a b : Nat} {d : Array Int} {a' b' p : Nat} {D : Array Int} (h : PdInv a b d a' b' D) (hs : b ≤ D.size) (hp1 : a' ≤ p) (hp2 : p < b') (h0 : 0 < a') (hl : ltInt D[a' - 1]! D[p]! = false) :
    ∃ hm : a' < (Sort.partitionEqual ltInt D a' b' p).1 ∧ (Sort.partitionEqual ltInt D a' b' p).1 ≤ b', PdInv a b d (Sort.partitionEqual ltInt D a' b' p).1 b' (Sort.partitionEqual ltInt D a' b' p).2 := by
  have hall : ∀ i, a' ≤ i → i < b' → ltInt D[i]! D[p]! = false := fun i h1 h2 => by
    have := (h.bel i h1 h2).resolve_left (by omega)
    rw [nlt_iff] at hl ⊢
    omega
  obtain ⟨k1, k2, kp, kl, kr⟩ := Sort.partitionEqual_holds (lt := ltInt) ltInt_swo D a' b' p hp1 hp2 (by have := h.h3; omega) hall
  generalize (Sort.partitionEqual ltInt D a' b' p).1 = m at *
  generalize (Sort.partitionEqual ltInt D a' b' p).2 = D4 at *
  have hge : ∀ i, a' ≤ i → i < b' → D[p]! ≤ D4[i]! := perm_all (by have := h.h3; omega) kp (fun x => D[p]! ≤ x) fun i h1 h2 => nlt_iff.1 (hall i h1 h2)
  refine ⟨⟨k1, k2⟩, ⟨by have := h.h1; omega, k2, h.h3, (h.perm' hs kp).perm, fun i h1 h2 => .inr ?_, fun D' hp hd => ?_⟩⟩
  · have a1 := lt_iff.1 (kr i h1 h2)
    have a2 := nlt_iff.1 (kl (m - 1) (by omega) (by omega))
    omega
  · have hsz : D4.size = D.size := kp.1
    have hr : ∀ i, m ≤ i → i < b' → D[p]! < D'[i]! := perm_all (by have := h.h3; omega) hp (fun x => D[p]! < x) fun i h1 h2 => lt_iff.1 (kr i h1 h2)
    refine h.cont D' (Sort.permIn_trans _ _ _ _ _ kp (Sort.permIn_mono _ _ _ _ _ _ (by omega) (Nat.le_refl _) (by have := h.h3; omega) hp)) ?_
    intro i j h1 h2 h3
    rw [nlt_iff]
    by_cases hi : i < m
    · rw [perm_out hp i (.inl hi)]
      have b1 := nlt_iff.1 (kl i h1 hi)
      by_cases hj : j < m
      · rw [perm_out hp j (.inl hj)]
        have := hge j (by omega) h3
        omega
      · have := hr j (by omega) h3
        omega
    · exact nlt_iff.1 (hd i j (by omega) h2 h3)
/-- Behind partition: what it told, in words of ≤. -/
structure Parted (a' b' m : Nat) (D4 : Array Int) : Prop where
  m1 : a' ≤ m
  m2 : m < b'
  left : ∀ i, a' ≤ i → i < m → D4[i]! < D4[m]!
  right : ∀ i, m < i → i < b' → D4[m]! ≤ D4[i]!
theorem parted_of {a' b' p : Nat} {D : Array Int} (hp1 : a' ≤ p) (hp2 : p < b') (hb : b' ≤ D.size) : Parted a' b' (Sort.partition ltInt D a' b' p).1 (Sort.partition ltInt D a' b' p).2.2 ∧ PermIn a' b' D (Sort.partition ltInt D a' b' p).2.2 := by
  obtain ⟨k1, k2, kp, kl, kr⟩ := Sort.partition_holds (lt := ltInt) ltInt_swo D a' b' p hp1 hp2 hb
  exact ⟨⟨k1, k2, fun i h1 h2 => lt_iff.1 (kl i h1 h2), fun i h1 h2 => nlt_iff.1 (kr i h1 h2)⟩, kp⟩
theorem three {a' b' m : Nat} {D4 D' : Array Int} (k : Parted a' b' m D4) (hb : b' ≤ D4.size) {E : Array Int} (pl : PermIn a' m D4 E) (sl : SortedIn ltInt a' m E) (hp : PermIn (m + 1) b' E D') (hd : SortedIn ltInt (m + 1) b' D') : SortedIn ltInt a' b' D' := by
  have k1 := k.m1
  have k2 := k.m2
  have hsz : E.size = D4.size := pl.1
  have hm : D'[m]! = D4[m]! := by rw [perm_out hp m (.inl (by omega)), perm_out pl m (.inr (Nat.le_refl _))]
  have hl : ∀ i, a' ≤ i → i < m → E[i]! < D4[m]! := perm_all (by omega) pl (fun x => x < D4[m]!) k.left
  have hr : ∀ i, m + 1 ≤ i → i < b' → D4[m]! ≤ D'[i]! := perm_all (by omega) hp (fun x => D4[m]! ≤ x) fun i h1 h2 => by
    rw [perm_out pl i (.inr (by omega))]
    exact k.right i (by omega) h2
  intro i j h1 h2 h3
  rw [nlt_iff]
  rcases Nat.lt_trichotomy i m with hi | hi | hi
  · rw [perm_out hp i (.inl (by omega))]
    have b1 := hl i h1 hi
    rcases Nat.lt_trichotomy j m with hj | hj | hj
    · rw [perm_out hp j (.inl (by omega))]
      exact nlt_iff.1 (sl i j h1 h2 hj)
    · subst hj; rw [hm]; omega
    · have := hr j hj h3; omega
  · subst hi
    rw [hm]
    exact hr j h2 h3
  · exact nlt_iff.1 (hd i j hi h2 h3)
/-- The left one is sorted first. -/
theorem PdInv.left {a b : Nat} {d : Array Int} {a' b' m : Nat} {D E : Array Int} (h : PdInv a b d a' b' D) (hs : b ≤ D.size) (k : Parted a' b' m D) (pl : PermIn a' m D E) (sl : SortedIn ltInt a' m E) : PdInv a b d (m + 1) b' E := by
  have k1 := k.m1
  have k2 := k.m2
  have hP : PermIn a' b' D E := Sort.permIn_mono _ _ _ _ _ _ (Nat.le_refl _) (by omega) (by have := h.h3; omega) pl
  have hsz : E.size = D.size := pl.1
  refine ⟨by have := h.h1; omega, by omega, h.h3, (h.perm' hs hP).perm, fun i h1 h2 => .inr ?_, fun D' hp hd => ?_⟩
  · rw [show m + 1 - 1 = m by omega, perm_out pl m (.inr (Nat.le_refl _)), perm_out pl i (.inr (by omega))]
    exact k.right i (by omega) h2
  · exact h.cont D' (Sort.permIn_trans _ _ _ _ _ hP (Sort.permIn_mono _ _ _ _ _ _ (by omega) (Nat.le_refl _) (by have := h.h3; omega) hp)) (three k (by have := h.h3; omega) pl sl hp hd)
/-- The right one is sorted first. -/
theorem PdInv.right {a b : Nat} {d : Array Int} {a' b' m : Nat} {D E : Array Int} (h : PdInv a b d a' b' D) (hs : b ≤ D.size) (k : Parted a' b' m D) (pr : PermIn (m + 1) b' D E) (sr : SortedIn ltInt (m + 1) b' E) : PdInv a b d a' m E := by
  have k1 := k.m1
  have k2 := k.m2
  have hP : PermIn a' b' D E := Sort.permIn_mono _ _ _ _ _ _ (by omega) (Nat.le_refl _) (by have := h.h3; omega) pr
  have hsz : E.size = D.size := pr.1
  have h' := h.perm' hs hP
  refine ⟨h.h1, k1, by have := h.h3; omega, h'.perm, fun i h1 h2 => h'.bel i h1 (by omega), fun D' hp hd => ?_⟩
  have hP2 : PermIn a' b' E D' := Sort.permIn_mono _ _ _ _ _ _ (Nat.le_refl _) (by omega) (by have := h.h3; omega) hp
  refine h.cont D' (Sort.permIn_trans _ _ _ _ _ hP hP2) ?_
  have hm : D'[m]! = D[m]! := by rw [perm_out hp m (.inr (Nat.le_refl _)), perm_out pr m (.inl (by omega))]
  have hl : ∀ i, a' ≤ i → i < m → D'[i]! < D[m]! := perm_all (by have := h.h3; omega) hp (fun x => x < D[m]!) fun i h1 h2 => by
    rw [perm_out pr i (.inl (by omega))]
    exact k.left i h1 h2
  have hr : ∀ i, m + 1 ≤ i → i < b' → D[m]! ≤ E[i]! := perm_all (by have := h.h3; omega) pr (fun x => D[m]! ≤ x) fun i h1 h2 => k.right i (by omega) h2
  intro i j h1 h2 h3
  rw [nlt_iff]
  rcases Nat.lt_trichotomy i m with hi | hi | hi
  · have b1 := hl i h1 hi
    rcases Nat.lt_trichotomy j m with hj | hj | hj
    · exact nlt_iff.1 (hd i j h1 h2 hj)
    · subst hj; rw [hm]; omega
    · rw [perm_out hp j (.inr (by omega))]
      have := hr j hj h3; omega
  · subst hi
    rw [hm, perm_out hp j (.inr (by omega))]
    exact hr j h2 h3
  · rw [perm_out hp j (.inr (by omega)), perm_out hp i (.inr (by omega))]
    exact nlt_iff.1 (sr i j hi h2 h3)
end Go.Proofs.YtmbmkfhdiljalaaGreat

/- slices.Sort at uint64: pdqsort, Sort. -/
namespace Go.Proofs.YtmbmkfhdiljalaaGreat
open Go.RowKit Go.ChangeShapes Go.WideShapes Go.ChangeAt
open Go.Sort (swp ltInt PermIn SortedIn)
set_option linter.unusedVariables false
set_option linter.unusedSimpArgs false

def PdTo (w : World) (B g cap n a b : Nat) (d : Array Int) (e : Ending) (w' : World) : Prop := e = .returned (.tuple #[]) ∧ ∃ d', UT w w' B g cap n d' ∧ PermIn a b d d' ∧ SortedIn ltInt a b d'
def PdAt (B g cap n m : Nat) : Prop := ∀ (a b : Nat) (z : Int) (d : Array Int) (w : World), b - a < m → a ≤ b → b ≤ n → 0 ≤ z → z ≤ 1000 → UA w B g cap n d → Sort.Below ltInt a b d →
    Calls Tryz.prog 87 #[.slice (some ⟨g, 0, none⟩) n cap, .int .i64 (a : Int), .int .i64 (b : Int), .int .i64 z] w (PdTo w B g cap n a b d)
set_option maxRecDepth 100000 in
set_option maxHeartbeats 32000000 in
theorem pdq_step {B g cap n m : Nat} (hn : n ≤ 1000000) (IH : PdAt B g cap n m) : PdAt B g cap n (m + 1) := by
  intro a b z d w hm hab hb hz hz2 h hbel
  have HIH := Lib.hid IH
  have HF : Hid (b - a ≤ m ∧ b ≤ n ∧ n ≤ 1000000) := Lib.hid (by omega)
  have I0 : Hid (∃ D, UT w w B g cap n D ∧ PdInv a b d a b D) := Lib.hid ⟨d, UT.refl h, PdInv.start hab hbel⟩
  have HZ0 := Lib.hid (And.intro hz hz2)
  clear IH h hbel hm hab hb hn hz hz2
  go_enter Tryz.func87, Tryz.ntmps87
  go_wp2_with fail
  go_loopw [1, 2, 3, 8, 9] (fun u1 u2 u3 u8 u9 wr => ∃ (a' b' : Nat) (z : Int) (wb wp : Bool), (u1 = .int .i64 (a' : Int) ∧ u2 = .int .i64 (b' : Int) ∧ u3 = .int .i64 z ∧ u8 = .bool wb ∧ u9 = .bool wp) ∧ Hid (0 ≤ z ∧ z ≤ 1000) ∧ Hid (∃ D, UT w wr B g cap n D ∧ PdInv a b d a' b' D)) (fun u1 u2 _ _ _ _ => (intOf u2 - intOf u1).toNat)
  case atStart => exact ⟨a, b, z, true, true, ⟨rfl, rfl, rfl, rfl, rfl⟩, HZ0, I0⟩
  case round =>
    obtain ⟨a', b', z, wb, wp, ⟨rfl, rfl, rfl, rfl, rfl⟩, HZ, hR⟩ := hrel
    clear I0
    obtain ⟨D, hu, hd⟩ := hR.out
    have HU := Lib.hid hu
    have HD := Lib.hid hd
    have HSZ : Hid (D.size = n) := Lib.hid hu.row.size
    have HR : Hid (a ≤ a' ∧ a' ≤ b' ∧ b' ≤ b ∧ b ≤ n ∧ n ≤ 1000000 ∧ b - a ≤ m) := Lib.hid ⟨hd.h1, hd.h2, hd.h3, HF.out.2.1, HF.out.2.2, HF.out.1⟩
    clear hu hd hR
    obtain ⟨l, hl⟩ : ∃ l, b' - a' = l := ⟨_, rfl⟩
    have HL := Lib.hid hl
    have el : IntKind.i64.wrap ((b' : Int) - (a' : Int)) = (l : Int) := by rw [w_sub _ _ (by have := HR.out; omega) (by have := HR.out; omega), hl]
    clear hl
    by_cases h12 : l ≤ 12
    · have d1 : decide ((l : Int) ≤ 12) = true := decide_eq_true (by omega)
      have d1' : decide (l ≤ 12) = true := decide_eq_true h12
      have S := Lib.hid (insertion_on HU.out.row HF.out.2.2 a' b' HR.out.2.1 (by have := HR.out; omega))
      have HS := Lib.hid (Sort.insertionSort_holds (lt := ltInt) ltInt_swo D a' b' HR.out.2.1 (by rw [HSZ.out]; have := HR.out; omega))
      clear h12
      go_wp2_with fail
      refine S.out.mono ?_
      rintro _ w2 ⟨rfl, ht⟩
      have HT := Lib.hid (HU.out.trans ht)
      clear ht S
      go_wp2_with fail
      refine bodyPost_ret (results_none rfl _ _ _) rfl ?_
      exact ⟨rfl, _, HT.out, HD.out.done (by rw [HSZ.out]; exact HF.out.2.1) HS.out.1 HS.out.2⟩
    · have d1 : decide ((l : Int) ≤ 12) = false := decide_eq_false (by omega)
      have d1' : decide (l ≤ 12) = false := decide_eq_false h12
      have H12 : Hid (a' + 12 < b') := Lib.hid (by have := HL.out; omega)
      clear h12
      by_cases hz0 : z = 0
      · subst hz0
        have S := Lib.hid (heap_on HU.out.row HF.out.2.2 a' b' (by have := H12.out; omega) (by have := HR.out; omega))
        have HS := Lib.hid (Sort.heapSort_holds (lt := ltInt) ltInt_swo D a' b' HR.out.2.1 (by rw [HSZ.out]; have := HR.out; omega))
        go_wp2_with fail
        refine S.out.mono ?_
        rintro _ w2 ⟨rfl, ht⟩
        have HT := Lib.hid (HU.out.trans ht)
        clear ht S
        go_wp2_with fail
        refine bodyPost_ret (results_none rfl _ _ _) rfl ?_
        exact ⟨rfl, _, HT.out, HD.out.done (by rw [HSZ.out]; exact HF.out.2.1) HS.out.1 HS.out.2⟩
      · have dz : decide (z = 0) = false := decide_eq_false hz0
        have dz' : (z == 0) = false := by simpa using hz0
        have ez : IntKind.i64.wrap (z - 1) = z - 1 := IntWalk.i64_in _ (by have := HZ.out; omega)
        have HZ1 : Hid (1 ≤ z ∧ z ≤ 1000) := Lib.hid (by have := HZ.out; omega)
        clear hz0
        have K0 : Hid (PermIn a' b' D D) := Lib.hid (Sort.permIn_refl _ _ _)
        go_upto_if 35 with fail
        go_cut [3, 8] from 35 to 41 (fun s3 s8 wc => ∃ (z' : Int) (D1 : Array Int), (s3 = .int .i64 z' ∧ s8 = .bool wb) ∧ Hid (0 ≤ z' ∧ z' ≤ 1000) ∧ Hid (UT w wc B g cap n D1) ∧ Hid (PermIn a' b' D D1))
        case first =>
          cases wb
          · have S := Lib.hid (break_on HU.out.row HF.out.2.2 a' b' H12.out (by have := HR.out; omega))
            unfold BrTo at S
            go_wp2_with fail
            refine S.out.mono ?_
            rintro _ w2 ⟨rfl, d2, ht, hp⟩
            have HT := Lib.hid (HU.out.trans ht)
            have HP := Lib.hid hp
            clear ht S hp
            go_wp2_with fail
            go_meet
            exact ⟨z - 1, d2, ⟨rfl, rfl⟩, Lib.hid (by have := HZ1.out; omega), HT, HP⟩
          · go_wp2_with fail
            go_meet
            exact ⟨z, D, ⟨rfl, rfl⟩, HZ, HU, K0⟩
        case rest =>
          obtain ⟨z', D1, ⟨rfl, rfl⟩, HZ, HU, HP1⟩ := hcut
          have S := Lib.hid (pivot_on HU.out.row HF.out.2.2 a' b' H12.out (by have := HR.out; omega))
          unfold PivTo at S
          clear el d1 d1' dz dz' ez
          go_wp2_with fail
          refine S.out.mono ?_
          rintro _ w2 ⟨p, h, rfl, hp, hh, hbl⟩
          have HU : Hid (UT w w2 B g cap n D1) := Lib.hid ⟨HU.out.row.only ((Only.refl [] _).below hbl) (by simp), HU.out.only.below hbl⟩
          have HPV := Lib.hid hp
          clear hp hbl S
          go_upto_if 50 with fail
          go_cut [11, 12] from 50 to 60 (fun s11 s12 wc => ∃ (p' : Nat) (h' : Int) (D2 : Array Int), (s11 = .int .i64 (p' : Int) ∧ s12 = .int .i64 h') ∧ Hid (a' ≤ p' ∧ p' < b') ∧ Hid (UT w wc B g cap n D2) ∧ Hid (PermIn a' b' D D2))
          case first =>
            by_cases h2 : h = 2
            · subst h2
              have S := Lib.hid (reverse_on HU.out.row HF.out.2.2 a' b' (by have := H12.out; omega) (by have := HR.out; omega))
              have HRV := Lib.hid (Sort.reverseRange_holds (α := Int) D1 a' b' HR.out.2.1 (by rw [HU.out.row.size]; have := HR.out; omega))
              have f1 : IntKind.i64.wrap ((b' : Int) - 1) = ((b' - 1 : Nat) : Int) := w_dec _ (by have := HR.out; omega) (by have := H12.out; omega)
              have f2 : IntKind.i64.wrap ((p : Int) - (a' : Int)) = ((p - a' : Nat) : Int) := w_sub _ _ HPV.out.1 (by have := HPV.out; have := HR.out; omega)
              have f3 : IntKind.i64.wrap (((b' - 1 : Nat) : Int) - ((p - a' : Nat) : Int)) = ((b' - 1 - (p - a') : Nat) : Int) := w_sub _ _ (by have := HPV.out; omega) (by have := HR.out; omega)
              go_wp2_with fail
              refine S.out.mono ?_
              rintro _ w3 ⟨rfl, ht⟩
              have HT := Lib.hid (HU.out.trans ht)
              clear ht S
              go_wp2_with fail
              go_meet
              exact ⟨b' - 1 - (p - a'), 1, _, ⟨rfl, rfl⟩, Lib.hid (by have := HPV.out; omega), HT, Lib.hid (Sort.permIn_trans _ _ _ _ _ HP1.out HRV.out)⟩
            · have dh : decide (h = 2) = false := decide_eq_false h2
              have dh' : (h == 2) = false := by simpa using h2
              clear hh
              go_wp2_with fail
              go_meet
              exact ⟨p, h, D1, ⟨rfl, rfl⟩, HPV, HU, HP1⟩
          case rest =>
            obtain ⟨p', h', D2, ⟨rfl, rfl⟩, HPV, HU, HP2⟩ := hcut
            clear HP1 hh
            go_upto_region 15 with fail
            go_cut [8, 9, 68] from 61 to 67 (fun s8 s9 s68 wc => ∃ c : Bool, (s8 = .bool wb ∧ s9 = .bool wp ∧ s68 = .bool c) ∧ Hid (UT w wc B g cap n D2))
            case first =>
              by_cases h1 : h' = 1
              · subst h1
                cases wb <;> cases wp <;> (go_wp2_with fail; go_meet; exact ⟨_, ⟨rfl, rfl, rfl⟩, HU⟩)
              · have dh : decide (h' = 1) = false := decide_eq_false h1
                have dh' : (h' == 1) = false := by simpa using h1
                cases wb <;> cases wp <;> (go_wp2_with fail; go_meet; exact ⟨_, ⟨rfl, rfl, rfl⟩, HU⟩)
            case rest =>
              obtain ⟨c, ⟨rfl, rfl, rfl⟩, HU⟩ := hcut
              go_upto_if 68 with fail
              go_cut [3] from 68 to 72 (fun s3 wc => ∃ D3 : Array Int, s3 = .int .i64 z' ∧ Hid (UT w wc B g cap n D3) ∧ Hid (PermIn a' b' D D3))
              case first =>
                cases c
                · go_wp2_with fail
                  go_meet
                  exact ⟨D2, rfl, HU, HP2⟩
                · have S := Lib.hid (pins_on HU.out.row HF.out.2.2 a' b' H12.out (by have := HR.out; omega))
                  unfold PiTo at S
                  have HPI := Lib.hid (Sort.partialInsertionSort_holds (lt := ltInt) ltInt_swo D2 a' b' (by have := H12.out; omega) (by rw [HU.out.row.size]; have := HR.out; omega) (bel_to (HD.out.perm' (by rw [HSZ.out]; exact HF.out.2.1) HP2.out).bel))
                  generalize Sort.partialInsertionSort ltInt D2 a' b' = r at *
                  obtain ⟨D3, ok⟩ := r
                  simp only at S HPI
                  cases ok
                  · go_wp2_with fail
                    refine S.out.mono ?_
                    rintro _ w3 ⟨rfl, ht⟩
                    have HT := Lib.hid (HU.out.trans ht)
                    clear ht S
                    go_wp2_with fail
                    go_meet
                    exact ⟨D3, rfl, HT, Lib.hid (Sort.permIn_trans _ _ _ _ _ HP2.out HPI.out.1)⟩
                  · go_wp2_with fail
                    refine S.out.mono ?_
                    rintro _ w3 ⟨rfl, ht⟩
                    have HT := Lib.hid (HU.out.trans ht)
                    clear ht S
                    go_wp2_with fail
                    refine bodyPost_ret (results_none rfl _ _ _) rfl ?_
                    exact ⟨rfl, _, HT.out, HD.out.done (by rw [HSZ.out]; exact HF.out.2.1) (Sort.permIn_trans _ _ _ _ _ HP2.out HPI.out.1) (HPI.out.2 trivial)⟩
              case rest =>
                obtain ⟨D3, rfl, HU, HP3⟩ := hcut
                have HD3 := Lib.hid (HD.out.perm' (by rw [HSZ.out]; exact HF.out.2.1) HP3.out)
                have HS3 : Hid (D3.size = n) := Lib.hid HU.out.row.size
                clear HP2 HD HP3 K0 HSZ
                have pn : p' < n := by have := HPV.out; have := HR.out; omega
                have PART : Hid (∀ y, UT w y B g cap n D3 → Calls Tryz.prog 102 #[.slice (some ⟨g, 0, none⟩) n cap, .int .i64 (a' : Int), .int .i64 (b' : Int), .int .i64 (p' : Int)] y (PnTo y B g cap n (Sort.partition ltInt D3 a' b' p'))) := Lib.hid fun y hy => part_on hy.row HF.out.2.2 a' b' p' HPV.out.1 HPV.out.2 (by have := HR.out; omega)
                have HK := Lib.hid (parted_of HPV.out.1 HPV.out.2 (D := D3) (by rw [HS3.out]; have := HR.out; omega))
                unfold PnTo at PART
                go_upto_region 17 with fail
                go_cut [8, 87] from 73 to 86 (fun s8 s87 wc => ∃ c : Bool, (s8 = .bool wb ∧ s87 = .bool c) ∧ Hid (c = true → 0 < a' ∧ ltInt D3[a' - 1]! D3[p']! = false) ∧ Hid (UT w wc B g cap n D3))
                case first =>
                  by_cases h0 : 0 < a'
                  · have d9 : decide ((0 : Int) < (a' : Int)) = true := decide_eq_true (by omega)
                    have d9' : decide (0 < a') = true := decide_eq_true h0
                    obtain ⟨q, hq⟩ : ∃ q, a' - 1 = q := ⟨_, rfl⟩
                    have HQ := Lib.hid hq
                    have eq : IntKind.i64.wrap ((a' : Int) - 1) = (q : Int) := by rw [w_dec _ (by have := HR.out; omega) (by omega), hq]
                    have qn : q < n := by have := HR.out; omega
                    have H0 := Lib.hid h0
                    clear hq h0
                    have c1 := HU.out.row.cell q qn
                    have c2 := HU.out.row.cell p' pn
                    generalize hx : D3[q]! = x at c1
                    generalize hy : D3[p']! = y at c2
                    have HX := Lib.hid hx
                    have HY := Lib.hid hy
                    clear hx hy
                    cases hl : ltInt x y
                    · have HL2 := Lib.hid hl
                      clear hl
                      go_quiet ((go_at_call 100; exact Calls.quiet_of_same (less_is _ _ _ HL2.out _)))
                      have HU := Lib.hid (HU.out.drewN nq)
                      go_wp2_with fail
                      go_meet
                      exact ⟨true, ⟨rfl, rfl⟩, Lib.hid (fun _ => ⟨H0.out, by rw [HQ.out, HX.out, HY.out]; exact HL2.out⟩), HU⟩
                    · have HL2 := Lib.hid hl
                      clear hl
                      go_quiet ((go_at_call 100; exact Calls.quiet_of_same (less_is _ _ _ HL2.out _)))
                      have HU := Lib.hid (HU.out.drewN nq)
                      go_wp2_with fail
                      go_meet
                      exact ⟨false, ⟨rfl, rfl⟩, Lib.hid (fun h => by cases h), HU⟩
                  · have d9 : decide ((0 : Int) < (a' : Int)) = false := decide_eq_false (by omega)
                    have d9' : decide (0 < a') = false := decide_eq_false h0
                    clear h0
                    go_quiet (fail)
                    have HU := Lib.hid (HU.out.drewN nq)
                    go_wp2_with fail
                    go_meet
                    exact ⟨false, ⟨rfl, rfl⟩, Lib.hid (fun h => by cases h), HU⟩
                case rest =>
                  obtain ⟨c, ⟨rfl, rfl⟩, HCc, HU⟩ := hcut
                  cases c
                  · clear HCc
                    go_wp2_with fail
                    refine (PART.out _ HU.out).mono ?_
                    obtain ⟨⟨mm, al, D4⟩, hR⟩ : ∃ r, Sort.partition ltInt D3 a' b' p' = r := ⟨_, rfl⟩
                    rw [hR] at HK ⊢
                    simp only at HK ⊢
                    rintro _ w3 ⟨rfl, ht⟩
                    have HU := Lib.hid (HU.out.trans ht)
                    have HD4 := Lib.hid (HD3.out.perm' (by rw [HS3.out]; exact HF.out.2.1) HK.out.2)
                    have HPA := Lib.hid HK.out.1
                    have HS4 : Hid (D4.size = n) := Lib.hid HU.out.row.size
                    have HM : Hid (a' ≤ mm ∧ mm < b') := Lib.hid ⟨HPA.out.m1, HPA.out.m2⟩
                    clear ht hR PART HK HD3 HS3 HPV pn
                    have g1 : IntKind.i64.wrap ((mm : Int) - (a' : Int)) = ((mm - a' : Nat) : Int) := w_sub _ _ HM.out.1 (by have := HM.out; have := HR.out; omega)
                    have g2 : IntKind.i64.wrap ((b' : Int) - (mm : Int)) = ((b' - mm : Nat) : Int) := w_sub _ _ (by have := HM.out; omega) (by have := HR.out; omega)
                    have g3 : IntKind.i64.wrap ((mm : Int) + 1) = ((mm + 1 : Nat) : Int) := w_inc _ (by have := HM.out; have := HR.out; omega)
                    obtain ⟨x, hx⟩ : ∃ x, mm - a' = x := ⟨_, rfl⟩
                    obtain ⟨y, hy⟩ : ∃ y, b' - mm = y := ⟨_, rfl⟩
                    have HXY : Hid (x + a' = mm ∧ y + mm = b') := Lib.hid (by have := HM.out; omega)
                    rw [hx] at g1
                    rw [hy] at g2
                    obtain ⟨q8, hq8⟩ : ∃ q8, l / 8 = q8 := ⟨_, rfl⟩
                    have g4 : Int.tdiv (l : Int) 8 = (q8 : Int) := by rw [← hq8]; rfl
                    have g5 : IntKind.i64.wrap (q8 : Int) = (q8 : Int) := w_id q8 (by have := HL.out; have := HR.out; clear g1 g2 g3 g4; omega)
                    clear hx hy hq8
                    by_cases hxy : x < y
                    · have d9 : decide ((x : Int) < (y : Int)) = true := decide_eq_true (by clear g1 g2 g3 g4 g5; omega)
                      have d9' : decide (x < y) = true := decide_eq_true hxy
                      clear hxy
                      have S := Lib.hid (HIH.out a' mm z' D4 w3 (by have := HR.out; have := HM.out; clear g1 g2 g3 g4 g5; omega) HM.out.1 (by have := HR.out; have := HM.out; clear g1 g2 g3 g4 g5; omega) HZ.out.1 HZ.out.2 HU.out.row (bel_to fun i h1 h2 => HD4.out.bel i h1 (by have := HM.out; omega)))
                      unfold PdTo at S
                      go_wp2_with fail
                      refine S.out.mono ?_
                      rintro _ w4 ⟨rfl, E, ht, hp, hs⟩
                      have HT := Lib.hid (HU.out.trans ht)
                      have HE := Lib.hid (HD4.out.left (by rw [HS4.out]; exact HF.out.2.1) HPA.out hp hs)
                      clear ht hp hs S
                      go_wp2_with fail
                      go_roundw
                      case rel => exact ⟨mm + 1, b', z', _, _, ⟨by go_num, rfl, rfl, rfl, rfl⟩, HZ, Lib.hid ⟨E, HT.out, HE.out⟩⟩
                      case measure => simp [intOf]; have := HM.out; omega
                    · have d9 : decide ((x : Int) < (y : Int)) = false := decide_eq_false (by clear g1 g2 g3 g4 g5; omega)
                      have d9' : decide (x < y) = false := decide_eq_false hxy
                      clear hxy
                      have S := Lib.hid (HIH.out (mm + 1) b' z' D4 w3 (by have := HR.out; have := HM.out; clear g1 g2 g3 g4 g5; omega) (by have := HM.out; omega) (by have := HR.out; have := HM.out; clear g1 g2 g3 g4 g5; omega) HZ.out.1 HZ.out.2 HU.out.row (bel_to fun i h1 h2 => .inr (HPA.out.right i (by omega) h2)))
                      unfold PdTo at S
                      obtain ⟨m1, hm1⟩ : ∃ m1, mm + 1 = m1 := ⟨_, rfl⟩
                      have HM1 := Lib.hid hm1
                      rw [hm1] at g3 S
                      clear hm1
                      go_wp2_with fail
                      refine S.out.mono ?_
                      rintro _ w4 ⟨rfl, E, ht, hp, hs⟩
                      have HT := Lib.hid (HU.out.trans ht)
                      have HE := Lib.hid (HD4.out.right (by rw [HS4.out]; exact HF.out.2.1) HPA.out (by rw [HM1.out]; exact hp) (by rw [HM1.out]; exact hs))
                      clear ht hp hs S
                      go_wp2_with fail
                      go_roundw
                      case rel => exact ⟨a', mm, z', _, _, ⟨rfl, rfl, rfl, rfl, rfl⟩, HZ, Lib.hid ⟨E, HT.out, HE.out⟩⟩
                      case measure => simp [intOf]; have := HM.out; omega
                  · have HH := Lib.hid (HCc.out rfl)
                    have S := Lib.hid (partEq_on HU.out.row HF.out.2.2 a' b' p' HPV.out.1 HPV.out.2 (by have := HR.out; omega))
                    have HE := Lib.hid (HD3.out.eq (by rw [HS3.out]; exact HF.out.2.1) HPV.out.1 HPV.out.2 HH.out.1 HH.out.2)
                    obtain ⟨⟨mm, D4⟩, hR⟩ : ∃ r, Sort.partitionEqual ltInt D3 a' b' p' = r := ⟨_, rfl⟩
                    rw [hR] at S HE
                    unfold PqTo at S
                    simp only at S HE
                    clear hR HCc
                    go_wp2_with fail
                    refine S.out.mono ?_
                    rintro _ w3 ⟨rfl, ht⟩
                    have HT := Lib.hid (HU.out.trans ht)
                    obtain ⟨hmm, hpd⟩ := HE.out
                    have HPD := Lib.hid hpd
                    have HMM := Lib.hid hmm
                    clear ht S hmm hpd
                    go_wp2_with fail
                    go_roundw
                    case rel => exact ⟨mm, b', z', _, _, ⟨rfl, rfl, rfl, rfl, rfl⟩, HZ, Lib.hid ⟨D4, HT.out, HPD.out⟩⟩
                    case measure => simp [intOf]; have := HMM.out; omega
end Go.Proofs.YtmbmkfhdiljalaaGreat
