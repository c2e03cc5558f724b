/- slices.Sort at uint64: nextPowerOfTwo, xorshift, breakPatterns. -/
import Derived.Test.YtmbmkfhdiljalaaGreatMg04
import Derived.Test.YtmbmkfhdiljalaaGreatSoL
import Derived.Laws.BitsAllLaws
namespace Go.Proofs.YtmbmkfhdiljalaaGreat
open Go.RowKit Go.ChangeShapes Go.WideShapes Go.ChangeAt
open Go.Sort (swp ltInt)
set_option linter.unusedVariables false
set_option linter.unusedSimpArgs false

theorem bitLen_pow : ∀ (k n : Nat), n < 2 ^ k → ∀ f, k ≤ f → n < 2 ^ Lib.bitLenAux f n ∧ (n ≠ 0 → 2 ^ Lib.bitLenAux f n ≤ 2 * n)
  | 0, n, h, f, _ => by
    have h0 : n = 0 := by simpa using h
    subst h0
    cases f <;> simp [Lib.bitLenAux]
  | k + 1, n, h, f, hf => by
    obtain ⟨f', rfl⟩ : ∃ f', f = f' + 1 := ⟨f - 1, by omega⟩
    by_cases h0 : n = 0
    · subst h0; simp [Lib.bitLenAux]
    · simp only [Lib.bitLenAux, if_neg h0]
      have hh : n / 2 < 2 ^ k := by rw [Nat.pow_succ] at h; omega
      obtain ⟨h1, h2⟩ := bitLen_pow k (n / 2) hh f' (by omega)
      rw [Nat.add_comm, Nat.pow_succ]
      refine ⟨by omega, fun _ => ?_⟩
      by_cases h3 : n / 2 = 0
      · have : n = 1 := by omega
        subst this
        cases f' <;> simp [Lib.bitLenAux]
      · have := h2 h3
        omega
theorem bitLen_small (n : Nat) (hn : n ≤ 1000000) : Lib.bitLen n ≤ 20 := by
  have : n < 2 ^ 20 := by omega
  unfold Lib.bitLen
  exact Lib.bitLenAux_le 64 n 20 this
set_option maxRecDepth 100000 in
set_option maxHeartbeats 4000000 in
theorem nextPow_on (n : Nat) (hn : n ≤ 1000000) (w : World) :
    Calls Tryz.prog 111 #[.int .i64 (n : Int)] w fun e w' => (∃ m : Nat, e = .returned (.int .u64 (m : Int)) ∧ n < m ∧ (0 < n → m ≤ 2 * n)) ∧ w' = w := by
  have L := Lib.hid (bits_Len (n : Int) w (by omega) (by omega))
  have e1 : IntKind.u64.wrap (n : Int) = (n : Int) := IntWalk.u64_in _ (by omega)
  have hp := bitLen_pow 20 n (by omega) 64 (by omega)
  have hs := bitLen_small n hn
  simp only [Int.toNat_natCast] at L
  unfold Lib.bitLen at L hs
  obtain ⟨k, hk⟩ : ∃ k, Lib.bitLenAux 64 n = k := ⟨_, rfl⟩
  rw [hk] at L hp hs
  have HP := Lib.hid hp
  have HS := Lib.hid hs
  clear hp hs hk hn
  go_enter Tryz.func111, Tryz.ntmps111
  go_wp2_with fail
  refine L.out.mono ?_
  rintro _ w1 ⟨rfl, hw1⟩
  subst w1
  go_wp2_with fail
  go_ret
  have hs := HS.out
  have hp := HP.out
  have h20 : (2 : Nat) ^ k ≤ 2 ^ 20 := Nat.pow_le_pow_right (by omega) hs
  have h20' : (2 : Nat) ^ 20 = 1048576 := by decide
  have hz : (0 : Nat) < 2 ^ k := Nat.two_pow_pos k
  refine ⟨⟨2 ^ k, ?_, hp.1, ?_⟩, rfl⟩
  · refine ret_int ?_
    rw [show min k 64 = k by omega]
    have e : ((2 : Int) ^ k) = ((2 ^ k : Nat) : Int) := by norm_cast
    rw [e]
    exact IntWalk.u64_in _ (by omega)
  · exact fun h => hp.2 (by omega)
abbrev tXs : TypeId := 154
theorem xor_range (a b : Int) : 0 ≤ bits .xor .u64 a b ∧ bits .xor .u64 a b < 18446744073709551616 := by
  show 0 ≤ IntKind.u64.wrap (((BitVec.ofInt 64 a ^^^ BitVec.ofInt 64 b).toNat : Nat) : Int) ∧ IntKind.u64.wrap (((BitVec.ofInt 64 a ^^^ BitVec.ofInt 64 b).toNat : Nat) : Int) < _
  simp only [IntKind.wrap, IntKind.bits, IntKind.signed]
  simp
  omega
def XsTo (s : Nat) (w : World) (e : Ending) (w' : World) : Prop := ∃ r : Int, e = .returned (.int .u64 r) ∧ (0 ≤ r ∧ r < 18446744073709551616) ∧ Row w' s #[.int .u64 r] tXs ∧ Only [s] w w'
set_option maxRecDepth 100000 in
set_option maxHeartbeats 4000000 in
theorem xor_on {w : World} {s : Nat} {r : Int} (h : Row w s #[.int .u64 r] tXs) :
    Calls Tryz.prog 112 #[.pointer (some ⟨s, 0, none⟩)] w (XsTo s w) := by
  have c0 : w.cell? ⟨s, 0, none⟩ = some (.int .u64 r) := h.cell 0
  have q0 := h.free 0
  have HR := Lib.hid h
  clear h
  go_enter Tryz.func112, Tryz.ntmps112
  go_upto_region 1 with fail
  go_region
  generalize bits BinOp.xor IntKind.u64 r (IntKind.u64.wrap (r * 8192)) = r1
  have R1 : Hid (Row (w.setCell ⟨s, 0, none⟩ (.int .u64 r1)).drew s #[.int .u64 r1] tXs) := Lib.hid ((HR.out.set 0 (.int .u64 r1)).only (Only.refl [] _).drew (by simp))
  have K1 : Hid (Only [s] w (w.setCell ⟨s, 0, none⟩ (.int .u64 r1)).drew) := Lib.hid ((Only.refl [s] w).setCell (.inl (by simp)) _).drew
  clear c0 q0
  generalize (w.setCell ⟨s, 0, none⟩ (.int .u64 r1)).drew = w1 at *
  have c0 : w1.cell? ⟨s, 0, none⟩ = some (.int .u64 r1) := R1.out.cell 0
  have q0 := R1.out.free 0
  go_upto_region 2 with fail
  go_region
  generalize hr2 : bits BinOp.xor IntKind.u64 r1 _ = r2
  clear hr2
  have R2 : Hid (Row (w1.setCell ⟨s, 0, none⟩ (.int .u64 r2)).drew s #[.int .u64 r2] tXs) := Lib.hid ((R1.out.set 0 (.int .u64 r2)).only (Only.refl [] _).drew (by simp))
  have K2 : Hid (Only [s] w (w1.setCell ⟨s, 0, none⟩ (.int .u64 r2)).drew) := Lib.hid (K1.out.setCell (.inl (by simp)) _).drew
  clear c0 q0
  generalize (w1.setCell ⟨s, 0, none⟩ (.int .u64 r2)).drew = w2 at *
  have c0 : w2.cell? ⟨s, 0, none⟩ = some (.int .u64 r2) := R2.out.cell 0
  have q0 := R2.out.free 0
  go_upto_region 3 with fail
  go_region
  have hx := xor_range r2 (IntKind.u64.wrap (r2 * 131072))
  generalize bits BinOp.xor IntKind.u64 r2 (IntKind.u64.wrap (r2 * 131072)) = r3 at *
  have HX := Lib.hid hx
  clear hx
  have R3 : Hid (Row (w2.setCell ⟨s, 0, none⟩ (.int .u64 r3)).drew s #[.int .u64 r3] tXs) := Lib.hid ((R2.out.set 0 (.int .u64 r3)).only (Only.refl [] _).drew (by simp))
  have K3 : Hid (Only [s] w (w2.setCell ⟨s, 0, none⟩ (.int .u64 r3)).drew) := Lib.hid (K2.out.setCell (.inl (by simp)) _).drew
  clear c0 q0
  generalize (w2.setCell ⟨s, 0, none⟩ (.int .u64 r3)).drew = w3 at *
  have c0 : w3.cell? ⟨s, 0, none⟩ = some (.int .u64 r3) := R3.out.cell 0
  go_wp2_with fail
  go_ret
  exact ⟨r3, rfl, HX.out, R3.out, K3.out⟩
def BrTo (w : World) (B g cap n : Nat) (a b : Nat) (d : Array Int) (e : Ending) (w' : World) : Prop := e = .returned (.tuple #[]) ∧ ∃ d', UT w w' B g cap n d' ∧ Sort.PermIn a b d d'
theorem and_low (a m : Nat) (ha : a < 18446744073709551616) (hm : m < 18446744073709551616) : ∃ o : Nat, bits .and .u64 (a : Int) (m : Int) = (o : Int) ∧ o ≤ m :=
  ⟨a &&& m, u64_and_nat a m ha hm, Nat.and_le_right⟩
set_option maxRecDepth 100000 in
set_option maxHeartbeats 8000000 in
theorem break_on {B g cap n : Nat} {d : Array Int} {w : World} (h : UA w B g cap n d) (hn : n ≤ 1000000) (a b : Nat) (hab : a + 12 < b) (hb : b ≤ n) :
    Calls Tryz.prog 96 #[.slice (some ⟨g, 0, none⟩) n cap, .int .i64 (a : Int), .int .i64 (b : Int)] w (BrTo w B g cap n a b d) := by
  obtain ⟨l, hl⟩ : ∃ l, b - a = l := ⟨_, rfl⟩
  have e1 : IntKind.i64.wrap ((b : Int) - (a : Int)) = (l : Int) := by rw [w_sub _ _ (by omega) (by omega), hl]
  obtain ⟨q, hq⟩ : ∃ q, l / 4 = q := ⟨_, rfl⟩
  have e2 : Int.tdiv (l : Int) 4 = (q : Int) := by rw [← hq]; rfl
  have hq4 : q ≤ 1000000 := by omega
  have e3 : IntKind.i64.wrap (q : Int) = (q : Int) := w_id q (by omega)
  obtain ⟨q2, hq2⟩ : ∃ x, q * 2 = x := ⟨_, rfl⟩
  have e4 : IntKind.i64.wrap ((q : Int) * 2) = (q2 : Int) := by rw [show ((q : Int) * 2) = (q2 : Int) by omega]; exact w_id _ (by omega)
  obtain ⟨m, hm⟩ : ∃ x, a + q2 = x := ⟨_, rfl⟩
  have e5 : IntKind.i64.wrap ((a : Int) + (q2 : Int)) = (m : Int) := by rw [w_add _ _ (by omega), hm]
  obtain ⟨m0, hm0⟩ : ∃ x, m - 1 = x := ⟨_, rfl⟩
  obtain ⟨m1, hm1⟩ : ∃ x, m + 1 = x := ⟨_, rfl⟩
  have e6 : IntKind.i64.wrap ((m : Int) - 1) = (m0 : Int) := by rw [w_dec _ (by omega) (by omega), hm0]
  have e7 : IntKind.i64.wrap ((m : Int) + 1) = (m1 : Int) := by rw [w_inc _ (by omega), hm1]
  have d1 : decide ((8 : Int) ≤ (l : Int)) = true := decide_eq_true (by clear e1 e2 e3 e4 e5 e6 e7; omega)
  have d1' : decide (8 ≤ l) = true := decide_eq_true (by clear e1 e2 e3 e4 e5 e6 e7 d1; omega)
  have HN : Hid (a ≤ m0 ∧ m0 + 2 = m1 ∧ m1 < b ∧ b ≤ n ∧ n ≤ 1000000 ∧ a + l = b ∧ 0 < l) := Lib.hid (by
    clear e1 e2 e3 e4 e5 e6 e7 d1 d1'
    have h4 : 4 * q ≤ l ∧ l < 4 * q + 4 := by omega
    refine ⟨?_, ?_, ?_, hb, hn, ?_, ?_⟩ <;> omega)
  have e8 : IntKind.u64.wrap (l : Int) = (l : Int) := IntWalk.u64_in _ (by clear e1 e2 e3 e4 e5 e6 e7 d1 d1'; omega)
  have HH := Lib.hid h
  have HG : Hid (w.heap.size ≠ g) := Lib.hid (by have := h.lt; omega)
  have HP := Lib.hid (nextPow_on l (by clear e1 e2 e3 e4 e5 e6 e7 e8 d1 d1'; omega))
  clear h hn hb hab hl hq hq2 hm hm0 hm1 hq4
  have R0 : Hid (Row (w.alloc (.cells #[.int .u64 (l : Int)] tXs)) w.heap.size #[.int .u64 (l : Int)] tXs) := Lib.hid (Row.made _ _ _)
  have K0 : Hid (Only [] w (w.alloc (.cells #[.int .u64 (l : Int)] tXs))) := Lib.hid ((Only.refl [] w).alloc _)
  go_enter Tryz.func96, Tryz.ntmps96
  go_wp2_with fail
  generalize w.alloc (.cells #[.int .u64 (l : Int)] tXs) = w0 at *
  refine (HP.out w0).mono ?_
  rintro _ w1 ⟨⟨M, rfl, hM1, hM2⟩, hw1⟩
  subst w1
  have HM : Hid (l < M ∧ M ≤ 2 * l ∧ M ≤ 2000000) := Lib.hid ⟨hM1, hM2 HN.out.2.2.2.2.2.2, by have := HN.out; have := hM2 HN.out.2.2.2.2.2.2; omega⟩
  have eM : IntKind.u64.wrap ((M : Int) - 1) = ((M - 1 : Nat) : Int) := by have := HM.out; rw [IntWalk.u64_in _ (by omega)]; omega
  obtain ⟨M', hM'⟩ : ∃ x, M - 1 = x := ⟨_, rfl⟩
  have HM' := Lib.hid hM'
  rw [hM'] at eM
  clear hM1 hM2 HP hM'
  go_wp2_with fail
  go_loopw [9] (fun u wr => ∃ i : Nat, u = .int .i64 (i : Int) ∧ Hid (m0 ≤ i ∧ i ≤ m1 + 1) ∧ Hid (∃ d' r, UT w wr B g cap n d' ∧ Sort.PermIn a b d d' ∧ Row wr w.heap.size #[.int .u64 r] tXs)) (fun u _ => m1 + 1 - (intOf u).toNat)
  case atStart => exact ⟨m0, rfl, Lib.hid (by have := HN.out; omega), Lib.hid ⟨d, l, ⟨HH.out.only K0.out (by simp), K0.out.mono (by simp)⟩, Sort.permIn_refl _ _ _, R0.out⟩⟩
  case round =>
    obtain ⟨i, rfl, HI, hR⟩ := hrel
    obtain ⟨d', r, hu, hp, hr⟩ := hR.out
    have HU := Lib.hid hu
    have HD := Lib.hid hp
    have HR := Lib.hid hr
    clear hu hp hr hR
    by_cases hl : i ≤ m1
    · have d1 : decide ((i : Int) ≤ (m1 : Int)) = true := decide_eq_true (by omega)
      have d1' : decide (i ≤ m1) = true := decide_eq_true hl
      have HL := Lib.hid hl
      clear hl
      have e9 : IntKind.i64.wrap ((i : Int) + 1) = ((i + 1 : Nat) : Int) := w_inc _ (by have := HN.out; have := HL.out; omega)
      have X := Lib.hid (xor_on HR.out)
      unfold XsTo at X
      go_wp2_with fail
      refine X.out.mono ?_
      rintro _ w2 ⟨r2, rfl, hr2, hrow, hk⟩
      have R2 := Lib.hid hrow
      have U2 : Hid (UT w w2 B g cap n d') := Lib.hid ⟨HU.out.row.only hk (by simpa using fun e => HG.out e.symm), HU.out.only.trans hk (by simp)⟩
      obtain ⟨x, rfl⟩ := Int.eq_ofNat_of_zero_le hr2.1
      obtain ⟨o, ho, hoM⟩ := and_low x M' (by omega) (by have := HM.out; have := HM'.out; omega)
      have HO : Hid (o ≤ M') := Lib.hid hoM
      have ec : IntKind.i64.wrap (o : Int) = (o : Int) := w_id o (by have := HM.out; have := HM'.out; omega)
      clear hr2 hrow hk hoM X
      have swapped : ∀ o' : Nat, o' < l → ∀ (j : Nat), a + o' = j → Hid (i < n ∧ j < n ∧ a ≤ i ∧ i < b ∧ a ≤ j ∧ j < b) := fun o' h1 j h2 => Lib.hid (by have := HN.out; have := HI.out; have := HL.out; omega)
      by_cases hol : l ≤ o
      · have d2 : decide ((l : Int) ≤ (o : Int)) = true := decide_eq_true (by omega)
        have d2' : decide (l ≤ o) = true := decide_eq_true hol
        obtain ⟨p, hp⟩ : ∃ x, o - l = x := ⟨_, rfl⟩
        have es : IntKind.i64.wrap ((o : Int) - (l : Int)) = (p : Int) := by rw [w_sub _ _ hol (by have := HO.out; have := HM.out; have := HM'.out; omega), hp]
        have hpl : p < l := by have := HO.out; have := HM.out; have := HM'.out; omega
        clear hol hp
        obtain ⟨j, hj⟩ : ∃ x, a + p = x := ⟨_, rfl⟩
        have HJ := swapped p hpl j hj
        have ej : IntKind.i64.wrap ((a : Int) + (p : Int)) = (j : Int) := by rw [w_add _ _ (by have := HJ.out; have := HN.out; omega), hj]
        clear hj hpl swapped
        have c1 := U2.out.row.cell i HJ.out.1
        have c2 := U2.out.row.cell j HJ.out.2.1
        have q1 := U2.out.row.free i
        have q2 := U2.out.row.free j
        have inn := HJ.out.1
        have jn := HJ.out.2.1
        generalize hx : d'[i]! = x9 at c1
        generalize hy : d'[j]! = y9 at c2
        have HS : Hid (UT w ((w2.setCell ⟨g, i, none⟩ (.int .u64 y9)).setCell ⟨g, j, none⟩ (.int .u64 x9)).drew B g cap n (swp d' i j)) := Lib.hid (U2.out.swap i j hx hy).drew
        have HS2 : Hid (Row ((w2.setCell ⟨g, i, none⟩ (.int .u64 y9)).setCell ⟨g, j, none⟩ (.int .u64 x9)).drew w.heap.size #[.int .u64 (x : Int)] tXs) := Lib.hid ((R2.out.only (((Only.refl [g] w2).setCell (.inl (by simp)) _).setCell (.inl (by simp)) _) (by simpa using HG.out)).only (Only.refl [] _).drew (by simp))
        have HD2 : Hid (Sort.PermIn a b d (swp d' i j)) := Lib.hid (Sort.permIn_trans _ _ _ _ _ HD.out (Sort.swp_permIn _ _ _ _ _ HJ.out.2.2.1 HJ.out.2.2.2.1 HJ.out.2.2.2.2.1 HJ.out.2.2.2.2.2 (by rw [U2.out.row.size]; exact HN.out.2.2.2.1)))
        by_cases hij : i = j
        · subst hij
          have hxy : y9 = x9 := by rw [← hx, ← hy]
          subst hxy
          clear hx hy
          go_upto_region 10 with fail
          go_region
          go_wp2_with fail
          go_roundw
          case rel => exact ⟨i + 1, by go_num, Lib.hid (by have := HI.out; have := HL.out; omega), Lib.hid ⟨_, _, HS.out, HD2.out, HS2.out⟩⟩
          case measure => simp [intOf]; have := HL.out; omega
        · have ne1 : ¬ i = j := hij
          have ne2 : ¬ j = i := fun e => hij e.symm
          clear hij hx hy
          go_upto_region 10 with fail
          go_region
          go_wp2_with fail
          go_roundw
          case rel => exact ⟨i + 1, by go_num, Lib.hid (by have := HI.out; have := HL.out; omega), Lib.hid ⟨_, _, HS.out, HD2.out, HS2.out⟩⟩
          case measure => simp [intOf]; have := HL.out; omega
      · have d2 : decide ((l : Int) ≤ (o : Int)) = false := decide_eq_false (by omega)
        have d2' : decide (l ≤ o) = false := decide_eq_false hol
        have hpl : o < l := by omega
        clear hol
        obtain ⟨j, hj⟩ : ∃ x, a + o = x := ⟨_, rfl⟩
        have HJ := swapped o hpl j hj
        have ej : IntKind.i64.wrap ((a : Int) + (o : Int)) = (j : Int) := by rw [w_add _ _ (by have := HJ.out; have := HN.out; omega), hj]
        clear hj hpl swapped
        have c1 := U2.out.row.cell i HJ.out.1
        have c2 := U2.out.row.cell j HJ.out.2.1
        have q1 := U2.out.row.free i
        have q2 := U2.out.row.free j
        have inn := HJ.out.1
        have jn := HJ.out.2.1
        generalize hx : d'[i]! = x9 at c1
        generalize hy : d'[j]! = y9 at c2
        have HS : Hid (UT w ((w2.setCell ⟨g, i, none⟩ (.int .u64 y9)).setCell ⟨g, j, none⟩ (.int .u64 x9)).drew B g cap n (swp d' i j)) := Lib.hid (U2.out.swap i j hx hy).drew
        have HS2 : Hid (Row ((w2.setCell ⟨g, i, none⟩ (.int .u64 y9)).setCell ⟨g, j, none⟩ (.int .u64 x9)).drew w.heap.size #[.int .u64 (x : Int)] tXs) := Lib.hid ((R2.out.only (((Only.refl [g] w2).setCell (.inl (by simp)) _).setCell (.inl (by simp)) _) (by simpa using HG.out)).only (Only.refl [] _).drew (by simp))
        have HD2 : Hid (Sort.PermIn a b d (swp d' i j)) := Lib.hid (Sort.permIn_trans _ _ _ _ _ HD.out (Sort.swp_permIn _ _ _ _ _ HJ.out.2.2.1 HJ.out.2.2.2.1 HJ.out.2.2.2.2.1 HJ.out.2.2.2.2.2 (by rw [U2.out.row.size]; exact HN.out.2.2.2.1)))
        by_cases hij : i = j
        · subst hij
          have hxy : y9 = x9 := by rw [← hx, ← hy]
          subst hxy
          clear hx hy
          go_upto_region 10 with fail
          go_region
          go_wp2_with fail
          go_roundw
          case rel => exact ⟨i + 1, by go_num, Lib.hid (by have := HI.out; have := HL.out; omega), Lib.hid ⟨_, _, HS.out, HD2.out, HS2.out⟩⟩
          case measure => simp [intOf]; have := HL.out; omega
        · have ne1 : ¬ i = j := hij
          have ne2 : ¬ j = i := fun e => hij e.symm
          clear hij hx hy
          go_upto_region 10 with fail
          go_region
          go_wp2_with fail
          go_roundw
          case rel => exact ⟨i + 1, by go_num, Lib.hid (by have := HI.out; have := HL.out; omega), Lib.hid ⟨_, _, HS.out, HD2.out, HS2.out⟩⟩
          case measure => simp [intOf]; have := HL.out; omega
    · have d1 : decide ((i : Int) ≤ (m1 : Int)) = false := decide_eq_false (by omega)
      have d1' : decide (i ≤ m1) = false := decide_eq_false hl
      clear hl
      go_wp2_with fail
      go_end0
      exact ⟨rfl, _, HU.out, HD.out⟩
end Go.Proofs.YtmbmkfhdiljalaaGreat
