/- wal: sector; a master and a piece, read. -/
import Derived.Test.YtekdogmhgijocaaMg16
import Derived.Test.YtekdogmhgijocaaMg18
import Derived.Test.YtekdogmhgijocaaMg15
import Derived.Deep.RegionHeld3
import Derived.Test.YtekdogmhgijocaaWaT
set_option linter.unusedSimpArgs false
namespace Go.Proofs.Ytekdogmhgijocaa
open Go.RowKit Go.ChangeShapes Go.WideShapes Go.ChangeAt
open Go.Proofs.Ytekdogmhgijocaa.dk (Dk Dev sectorD)
set_option linter.unusedVariables false

def secL (L : Lg) (n : Int) : Int := L.at_ + 2 + n / 2 % L.count
set_option maxHeartbeats 4000000 in
theorem sector_on {w : World} {q p : Nat} {L : Lg} {tail : Value} (h : LgRow w q L p tail) (n : Int) (h0 : 0 ≤ n) (h1 : n < 1152921504606846976) (hc : 0 < L.count ∧ L.count ≤ 8192) (ha : 0 ≤ L.at_ ∧ L.at_ ≤ 65536) : Calls Try.prog 36 #[.pointer (some ⟨q, 0, none⟩), .int .u64 n] w fun e w' => e = .returned (.int .i64 (secL L n)) ∧ Only [] w w' := by
  have c1 : w.cell? ⟨q, 1, none⟩ = some (.int .i64 L.at_) := h.cell 1
  have c2 : w.cell? ⟨q, 2, none⟩ = some (.int .i64 L.count) := h.cell 2
  have wu : ∀ x : Int, 0 ≤ x → x < 18446744073709551616 → IntKind.u64.wrap x = x := fun x h0 h1 => by rw [show IntKind.u64.wrap x = x % 18446744073709551616 from rfl]; omega
  have m1 := Int.emod_nonneg (n / 2) (show L.count ≠ 0 by omega)
  have m2 := Int.emod_lt_of_pos (n / 2) hc.1
  have e0 : n.tdiv 2 = n / 2 := Int.tdiv_eq_ediv_of_nonneg h0
  have e1 : IntKind.u64.wrap (n / 2) = n / 2 := wu _ (by omega) (by omega)
  have e2 : IntKind.u64.wrap L.count = L.count := wu _ (by omega) (by omega)
  have e3 : (n / 2).tmod L.count = n / 2 % L.count := Int.tmod_eq_emod_of_nonneg (by omega)
  obtain ⟨M, hM⟩ : ∃ M, n / 2 % L.count = M := ⟨_, rfl⟩
  have S : Hid (secL L n = L.at_ + 2 + M) := Lib.hid (by unfold secL; rw [hM])
  rw [hM] at m1 m2 e3
  have e4 : wrap64 M = M := by unfold wrap64; omega
  have e4' : IntKind.i64.wrap M = M := IntWalk.i64_in _ (by omega)
  have e4u : IntKind.u64.wrap M = M := wu _ (by omega) (by omega)
  have e5 : IntKind.i64.wrap (L.at_ + 2) = L.at_ + 2 := IntWalk.i64_in _ (by omega)
  have e6 : IntKind.i64.wrap (L.at_ + 2 + M) = L.at_ + 2 + M := IntWalk.i64_in _ (by omega)
  have z0 : (L.count == 0) = false := by simp; omega
  have z1 : ¬ L.count = 0 := by omega
  have z2 : decide (L.count = 0) = false := decide_eq_false z1
  clear h hM m1 m2 hc ha wu h0 h1
  go_enter Try.func36, Try.ntmps36
  go_upto_region 1 with fail
  go_quiet (fail)
  go_wp2_with fail
  go_ret
  exact ⟨by rw [S.out]; rfl, (Only.refl [] w).drewN _⟩
/-- The first results lie in a block of five cells. -/
theorem masSize : (Try.prog.info? 64).map (·.size) = some 5 := by kernel_rfl
theorem pieSize : (Try.prog.info? 75).map (·.size) = some 3 := by kernel_rfl
theorem results_mas {fn : Func} {p : Tmp} (h : fn.results = #[.cell p 64]) (tmps : Array Value) (w : World) (g : Nat) (R : Array Value) (hR : R.size = 5) (hp : tmps.getD p undef = .pointer (some ⟨g, 0, none⟩)) (hg : Row w g R 64) : (results fn tmps).run Try.prog w = .ok (.agg R) w := by
  have hp' : tmps[p]?.getD undef = .pointer (some ⟨g, 0, none⟩) := by simpa using hp
  simp only [results, h]
  simp [Sem.run_bind, hp', asAddr, Result.andThen, run_loadVar_row w g _ _ _ _ _ hg Try.underlying64 rfl (by rw [masSize, hR])]
theorem results_pie {fn : Func} {p : Tmp} (h : fn.results = #[.cell p 75]) (tmps : Array Value) (w : World) (g : Nat) (R : Array Value) (hR : R.size = 3) (hp : tmps.getD p undef = .pointer (some ⟨g, 0, none⟩)) (hg : Row w g R 75) : (results fn tmps).run Try.prog w = .ok (.agg R) w := by
  have hp' : tmps[p]?.getD undef = .pointer (some ⟨g, 0, none⟩) := by simpa using hp
  simp only [results, h]
  simp [Sem.run_bind, hp', asAddr, Result.andThen, run_loadVar_row w g _ _ _ _ _ hg Try.underlying75 rfl (by rw [pieSize, hR])]
theorem results_pie2 {fn : Func} {p u : Tmp} (h : fn.results = #[.cell p 75, .tmp u]) (tmps : Array Value) (w : World) (g : Nat) (R : Array Value) (hR : R.size = 3) (hp : tmps.getD p undef = .pointer (some ⟨g, 0, none⟩)) (hg : Row w g R 75) : (results fn tmps).run Try.prog w = .ok (.tuple #[.agg R, tmps.getD u undef]) w := by
  have hp' : tmps[p]?.getD undef = .pointer (some ⟨g, 0, none⟩) := by simpa using hp
  simp only [results, h]
  simp [Sem.run_bind, hp', asAddr, Result.andThen, run_loadVar_row w g _ _ _ _ _ hg Try.underlying75 rfl (by rw [pieSize, hR])]
/-- A call with a result's block and a reader. -/
structure SInv (Z : Array Value) (T : TypeId) (w wr : World) (r : Nat) (rest : List Int) : Prop where
  rd : RdAt tRd wr r rest
  res : Row wr w.heap.size Z T
  bl : Below w.heap.size w wr
  hr : w.heap.size < r
theorem SInv.below {Z : Array Value} {T : TypeId} {w wr w' : World} {r : Nat} {rest : List Int} (h : SInv Z T w wr r rest) (hp : 0 < rest.length) (k : Below wr.heap.size wr w') : SInv Z T w w' r rest :=
  ⟨h.rd.below hp k, h.res.of_block (k.block _ h.res.lt), h.bl.trans (k.mono h.bl.size), h.hr⟩
theorem SInv.read {Z : Array Value} {T : TypeId} {w wr w' : World} {r : Nat} {rest rest' : List Int} (h : SInv Z T w wr r rest) (hr : RdAt tRd w' r rest') (k : Only [r] wr w') : SInv Z T w w' r rest' :=
  ⟨hr, h.res.only k (by simp; have := h.hr; omega), h.bl.trans (k.toBelow h.bl.size fun i hi => by simp at hi; have := h.hr; omega), h.hr⟩
theorem SInv.drew {Z : Array Value} {T : TypeId} {w wr : World} {r : Nat} {rest : List Int} (h : SInv Z T w wr r rest) : SInv Z T w wr.drew r rest :=
  ⟨⟨h.rd.at_⟩, h.res, h.bl.drew, h.hr⟩
/-- The master that 128 bytes tell. -/
def fld (b : List Int) (o k : Nat) : Int := leN ((b.drop o).take k)
def masO (b : List Int) : Array Value := if leN (b.take 4) = 1735347286 then masR (fld b 4 8) (fld b 12 4) (fld b 16 8) (fld b 24 8) (fld b 32 8) else masR 0 0 0 0 0
def MasRPost (b : List Int) (w : World) (e : Ending) (w' : World) : Prop := e = .returned (.agg (masO b)) ∧ Below w.heap.size w w'
set_option maxRecDepth 100000 in
set_option maxHeartbeats 8000000 in
theorem mread_any (g o c : Nat) (b : List Int) (w : World) (hl : b.length = 128) (hi : Ints .u8 w (.slice (some ⟨g, o, none⟩) 128 c) b) (hb : IsBy b) : Calls Try.prog 31 #[.slice (some ⟨g, o, none⟩) 128 c] w (MasRPost b w) := by
  obtain ⟨b1, h1⟩ : ∃ x, b.drop 4 = x := ⟨_, rfl⟩
  obtain ⟨b2, h2⟩ : ∃ x, b1.drop 8 = x := ⟨_, rfl⟩
  obtain ⟨b3, h3⟩ : ∃ x, b2.drop 4 = x := ⟨_, rfl⟩
  obtain ⟨b4, h4⟩ : ∃ x, b3.drop 8 = x := ⟨_, rfl⟩
  obtain ⟨b5, h5⟩ : ∃ x, b4.drop 8 = x := ⟨_, rfl⟩
  have l1 : b1.length = 124 := by rw [← h1, List.length_drop]; omega
  have l2 : b2.length = 116 := by rw [← h2, List.length_drop]; omega
  have l3 : b3.length = 112 := by rw [← h3, List.length_drop]; omega
  have l4 : b4.length = 104 := by rw [← h4, List.length_drop]; omega
  have l5 : b5.length = 96 := by rw [← h5, List.length_drop]; omega
  have y1 : IsBy b1 := by rw [← h1]; exact fun x hx => hb x (List.mem_of_mem_drop hx)
  have y2 : IsBy b2 := by rw [← h2]; exact fun x hx => y1 x (List.mem_of_mem_drop hx)
  have y3 : IsBy b3 := by rw [← h3]; exact fun x hx => y2 x (List.mem_of_mem_drop hx)
  have y4 : IsBy b4 := by rw [← h4]; exact fun x hx => y3 x (List.mem_of_mem_drop hx)
  have y5 : IsBy b5 := by rw [← h5]; exact fun x hx => y4 x (List.mem_of_mem_drop hx)
  have q1 : leN (b1.take 8) = fld b 4 8 := by rw [← h1]; rfl
  have q2 : leN (b2.take 4) = fld b 12 4 := by rw [← h2, ← h1, List.drop_drop]; rfl
  have q3 : leN (b3.take 8) = fld b 16 8 := by rw [← h3, ← h2, ← h1, List.drop_drop, List.drop_drop]; rfl
  have q4 : leN (b4.take 8) = fld b 24 8 := by rw [← h4, ← h3, ← h2, ← h1, List.drop_drop, List.drop_drop, List.drop_drop]; rfl
  have q5 : leN (b5.take 8) = fld b 32 8 := by rw [← h5, ← h4, ← h3, ← h2, ← h1, List.drop_drop, List.drop_drop, List.drop_drop, List.drop_drop]; rfl
  have NR := Lib.hid fun (y : World) (k : Below w.heap.size w y) => newrd_any g o 128 c b y hl (hi.below' k) (by omega) (by omega)
  have U0 := Lib.hid fun (y : World) (r : Nat) (h : RdAt tRd y r b) => u32r_any r b y h hb (by omega)
  have U1 := Lib.hid fun (y : World) (r : Nat) (h : RdAt tRd y r b1) => u64r_any r b1 y h y1 (by omega)
  have U2 := Lib.hid fun (y : World) (r : Nat) (h : RdAt tRd y r b2) => u32r_any r b2 y h y2 (by omega)
  have U3 := Lib.hid fun (y : World) (r : Nat) (h : RdAt tRd y r b3) => u64r_any r b3 y h y3 (by omega)
  have U4 := Lib.hid fun (y : World) (r : Nat) (h : RdAt tRd y r b4) => u64r_any r b4 y h y4 (by omega)
  have U5 := Lib.hid fun (y : World) (r : Nat) (h : RdAt tRd y r b5) => u64r_any r b5 y h y5 (by omega)
  rw [h1] at U0
  rw [q1, h2] at U1
  rw [q2, h3] at U2
  rw [q3, h4] at U3
  rw [q4, h5] at U4
  rw [q5] at U5
  have MO : Hid (masO b = if leN (b.take 4) = 1735347286 then masR (fld b 4 8) (fld b 12 4) (fld b 16 8) (fld b 24 8) (fld b 32 8) else masR 0 0 0 0 0) := Lib.hid rfl
  generalize leN (b.take 4) = M at *
  generalize fld b 4 8 = F1 at *
  generalize fld b 12 4 = F2 at *
  generalize fld b 16 8 = F3 at *
  generalize fld b 24 8 = F4 at *
  generalize fld b 32 8 = F5 at *
  clear h1 h2 h3 h4 h5 l1 l2 l3 l4 l5 y1 y2 y3 y4 y5 q1 q2 q3 q4 q5 hi hb hl
  go_enter Try.func31, Try.ntmps31
  go_upto_region 1 with fail
  have R1 : Hid (Row (w.alloc (.cells #[.int .u64 0, .int .u32 0, .int .u64 0, .int .u64 0, .int .u64 0] 64)) w.heap.size (masR 0 0 0 0 0) 64) := Lib.hid (Row.made _ _ _)
  have B1 : Hid (Below w.heap.size w (w.alloc (.cells #[.int .u64 0, .int .u32 0, .int .u64 0, .int .u64 0, .int .u64 0] 64))) := Lib.hid ((Below.refl _ _).alloc (Nat.le_refl _) _)
  generalize w.alloc (.cells #[.int .u64 0, .int .u32 0, .int .u64 0, .int .u64 0, .int .u64 0] 64) = w1 at *
  go_wp2_with fail
  refine (NR.out w1 B1.out).mono ?_
  rintro _ w2 ⟨r, rfl, hr2, hb2, hrg⟩
  have I2 : Hid (SInv (masR 0 0 0 0 0) 64 w w2 r b) := Lib.hid ⟨hr2, R1.out.of_block (hb2.block _ R1.out.lt), B1.out.trans (hb2.mono B1.out.size), Nat.lt_of_lt_of_le R1.out.lt hrg⟩
  clear hr2 hb2 hrg NR R1 B1
  go_wp2_with fail
  refine (U0.out _ r I2.out.rd).mono ?_
  rintro _ w3 ⟨rfl, hr3, k3⟩
  have I3 := Lib.hid (I2.out.read hr3 k3)
  clear hr3 k3 I2 U0
  by_cases hM : M = 1735347286
  · have e1 : (M != 1735347286) = false := by simp [hM]
    have MO1 : Hid (masO b = masR F1 F2 F3 F4 F5) := Lib.hid (by rw [MO.out, if_pos hM])
    clear hM MO
    go_wp2_with fail
    refine (U1.out _ r I3.out.rd).mono ?_
    rintro _ w4 ⟨rfl, hr4, k4⟩
    have I4 := Lib.hid (I3.out.read hr4 k4)
    clear hr4 k4 I3
    go_wp2_with fail
    refine (U2.out _ r I4.out.rd).mono ?_
    rintro _ w5 ⟨rfl, hr5, k5⟩
    have I5 := Lib.hid (I4.out.read hr5 k5)
    clear hr5 k5 I4
    go_wp2_with fail
    refine (U3.out _ r I5.out.rd).mono ?_
    rintro _ w6 ⟨rfl, hr6, k6⟩
    have I6 := Lib.hid (I5.out.read hr6 k6)
    clear hr6 k6 I5
    go_wp2_with fail
    refine (U4.out _ r I6.out.rd).mono ?_
    rintro _ w7 ⟨rfl, hr7, k7⟩
    have I7 := Lib.hid (I6.out.read hr7 k7)
    clear hr7 k7 I6
    go_wp2_with fail
    refine (U5.out _ r I7.out.rd).mono ?_
    rintro _ w8 ⟨rfl, hr8, k8⟩
    have I8 := Lib.hid (I7.out.read hr8 k8)
    have f0 := I8.out.res.free 0
    have f1 := I8.out.res.free 1
    have f2 := I8.out.res.free 2
    have f3 := I8.out.res.free 3
    have f4 := I8.out.res.free 4
    have z0 : w8.cell? ⟨w.heap.size, 0, none⟩ = some (.int .u64 0) := I8.out.res.cell 0
    have z1 : w8.cell? ⟨w.heap.size, 1, none⟩ = some (.int .u32 0) := I8.out.res.cell 1
    have z2 : w8.cell? ⟨w.heap.size, 2, none⟩ = some (.int .u64 0) := I8.out.res.cell 2
    have z3 : w8.cell? ⟨w.heap.size, 3, none⟩ = some (.int .u64 0) := I8.out.res.cell 3
    have z4 : w8.cell? ⟨w.heap.size, 4, none⟩ = some (.int .u64 0) := I8.out.res.cell 4
    clear hr8 k8 I7 U1 U2 U3 U4 U5
    go_wp2_with fail
    refine bodyPost_ret (results_mas rfl _ _ w.heap.size (masR F1 F2 F3 F4 F5) rfl rfl ?_) rfl ?_
    · have h := ((((I8.out.res.set 0 (.int .u64 F1)).set 1 (.int .u32 F2)).set 2 (.int .u64 F3)).set 3 (.int .u64 F4)).set 4 (.int .u64 F5)
      simpa [masR] using h
    · exact ⟨by rw [MO1.out], ((((I8.out.bl.setCell (Nat.le_refl _) _).setCell (Nat.le_refl _) _).setCell (Nat.le_refl _) _).setCell (Nat.le_refl _) _).setCell (Nat.le_refl _) _⟩
  · have e1 : (M != 1735347286) = true := by simp [hM]
    have MO1 : Hid (masO b = masR 0 0 0 0 0) := Lib.hid (by rw [MO.out, if_neg hM])
    have f0 := I3.out.res.free 0
    have f1 := I3.out.res.free 1
    have f2 := I3.out.res.free 2
    have f3 := I3.out.res.free 3
    have f4 := I3.out.res.free 4
    have z0 : w3.cell? ⟨w.heap.size, 0, none⟩ = some (.int .u64 0) := I3.out.res.cell 0
    have z1 : w3.cell? ⟨w.heap.size, 1, none⟩ = some (.int .u32 0) := I3.out.res.cell 1
    have z2 : w3.cell? ⟨w.heap.size, 2, none⟩ = some (.int .u64 0) := I3.out.res.cell 2
    have z3 : w3.cell? ⟨w.heap.size, 3, none⟩ = some (.int .u64 0) := I3.out.res.cell 3
    have z4 : w3.cell? ⟨w.heap.size, 4, none⟩ = some (.int .u64 0) := I3.out.res.cell 4
    clear hM MO
    go_wp2_with fail
    refine bodyPost_ret (results_mas rfl _ _ w.heap.size (masR 0 0 0 0 0) rfl rfl ?_) rfl ?_
    · have h := ((((I3.out.res.set 0 (.int .u64 0)).set 1 (.int .u32 0)).set 2 (.int .u64 0)).set 3 (.int .u64 0)).set 4 (.int .u64 0)
      simpa [masR] using h
    · exact ⟨by rw [MO1.out], ((((I3.out.bl.setCell (Nat.le_refl _) _).setCell (Nat.le_refl _) _).setCell (Nat.le_refl _) _).setCell (Nat.le_refl _) _).setCell (Nat.le_refl _) _⟩
end Go.Proofs.Ytekdogmhgijocaa

/- wal: a piece, opened and read. -/
namespace Go.Proofs.Ytekdogmhgijocaa
open Go.RowKit Go.ChangeShapes Go.WideShapes Go.ChangeAt
open Go.Proofs.Ytekdogmhgijocaa.dk (Dk Dev sectorD Bytes read_dev ReadTo)
set_option linter.unusedVariables false

/-- What 64 bytes tell of a piece. -/
def pieN (b : List Int) : Int := leN (b.take 8) / 256
def pieE (b : List Int) : Int := fld b 8 4
def pieL (b : List Int) : Nat := min 52 (leN (b.take 8) % 256).toNat
def pieB (b : List Int) : List Int := (b.drop 12).take (pieL b)
theorem and255 (x : Int) (h0 : 0 ≤ x) (h1 : x < 18446744073709551616) : bits .and .u64 x 255 = x % 256 := by
  obtain ⟨n, rfl⟩ := Int.eq_ofNat_of_zero_le h0
  have h : bits .and .u64 (n : Int) 255 = ((n &&& 255 : Nat) : Int) := bits_and_u64_nat n 255 (by omega) (by omega)
  rw [h, show (255 : Nat) = 2 ^ 8 - 1 from rfl, Nat.and_two_pow_sub_one_eq_mod]
  omega
structure HeadP (H : Int) (c m ln t : Nat) (N : Int) : Prop where
  nn : H / 256 = N
  ll : min 52 m = ln
  tl : t - 12 = ln
  wN : IntKind.u64.wrap N = N
  aa : bits .and .u64 H 255 = (m : Int)
  w1 : IntKind.i64.wrap (m : Int) = (m : Int)
  w2 : wrap64 (m : Int) = (m : Int)
  mi : min (52 : Int) (m : Int) = (ln : Int)
  wt : IntKind.i64.wrap (12 + (ln : Int)) = (t : Int)
  k1 : (12 : Int) ≤ (t : Int)
  k2 : (t : Int) ≤ (c : Int)
theorem head_parts (H : Int) (c : Nat) (r0 : 0 ≤ H) (r1 : H < 18446744073709551616) (hc : 64 ≤ c) : ∃ (ln t : Nat) (N : Int), HeadP H c (H % 256).toNat ln t N := by
  have a1 : bits .and .u64 H 255 = (((H % 256).toNat : Nat) : Int) := by
    have h := and255 H r0 r1
    rw [h]
    clear h
    omega
  have hm : (H % 256).toNat < 256 := by clear a1; omega
  generalize (H % 256).toNat = m at *
  have wt : IntKind.i64.wrap (12 + ((min 52 m : Nat) : Int)) = ((12 + min 52 m : Nat) : Int) := by
    have e : (12 : Int) + ((min 52 m : Nat) : Int) = ((12 + min 52 m : Nat) : Int) := by clear a1; omega
    rw [e]
    exact IntWalk.i64_in _ (by clear a1 e; omega)
  have wN : IntKind.u64.wrap (H / 256) = H / 256 := by
    rw [show IntKind.u64.wrap (H / 256) = H / 256 % 18446744073709551616 from rfl]
    clear a1 wt
    omega
  have e1 : 12 + min 52 m - 12 = min 52 m := by clear a1 wt wN; omega
  have e2 : IntKind.i64.wrap (m : Int) = (m : Int) := IntWalk.i64_in _ (by clear a1 wt wN e1; omega)
  have e3 : wrap64 (m : Int) = (m : Int) := by clear a1 wt wN e1 e2; unfold wrap64; omega
  have e4 : min (52 : Int) (m : Int) = ((min 52 m : Nat) : Int) := by clear a1 wt wN e1 e2 e3; omega
  have e5 : (12 : Int) ≤ ((12 + min 52 m : Nat) : Int) := by clear a1 wt wN e1 e2 e3 e4; omega
  have e6 : ((12 + min 52 m : Nat) : Int) ≤ (c : Int) := by clear a1 wt wN e1 e2 e3 e4 e5; omega
  exact ⟨min 52 m, 12 + min 52 m, H / 256, rfl, rfl, e1, wN, a1, e2, e3, e4, wt, e5, e6⟩
def WOpenPost (g o c : Nat) (b : List Int) (w : World) (e : Ending) (w' : World) : Prop := e = .returned (.agg #[.int .u64 (pieN b), .int .u32 (pieE b), .slice (some ⟨g, o + 12, none⟩) (pieL b) (c - 12)]) ∧ Below w.heap.size w w'
set_option maxRecDepth 100000 in
set_option maxHeartbeats 8000000 in
theorem wopen_any (g o c : Nat) (b : List Int) (w : World) (hl : b.length = 64) (hi : Ints .u8 w (.slice (some ⟨g, o, none⟩) 64 c) b) (hb : IsBy b) (hc : 64 ≤ c) : Calls Try.prog 57 #[.slice (some ⟨g, o, none⟩) 64 c] w (WOpenPost g o c b w) := by
  have SC : Hid (∃ v, ∀ y, Below w.heap.size w y → y.cell? ⟨g, o, none⟩ = some (.int .u8 v)) := Lib.hid (by
    obtain ⟨b', o', c', hv, hcc⟩ := hi.shape (by omega)
    simp only [Value.slice.injEq, Option.some.injEq, Addr.mk.injEq] at hv
    obtain ⟨⟨rfl, rfl, _⟩, _, rfl⟩ := hv
    have h0 := hcc 0 (by omega)
    exact ⟨_, fun y k => (k.cell (p := ⟨g, o, none⟩) (World.block_lt_of_cell? w _ h0)).trans h0⟩)
  obtain ⟨v0, hv0⟩ := SC.out
  have SC0 := Lib.hid hv0
  clear hv0 SC
  obtain ⟨b1, h1⟩ : ∃ x, b.drop 8 = x := ⟨_, rfl⟩
  have l1 : b1.length = 56 := by rw [← h1, List.length_drop]; omega
  have y1 : IsBy b1 := by rw [← h1]; exact fun x hx => hb x (List.mem_of_mem_drop hx)
  have q1 : leN (b1.take 4) = fld b 8 4 := by rw [← h1]; rfl
  have NR := Lib.hid fun (y : World) (k : Below w.heap.size w y) => newrd_any g o 64 c b y hl (hi.below' k) (by omega) (by omega)
  have U0 := Lib.hid fun (y : World) (r : Nat) (h : RdAt tRd y r b) => u64r_any r b y h hb (by omega)
  have U1 := Lib.hid fun (y : World) (r : Nat) (h : RdAt tRd y r b1) => u32r_any r b1 y h y1 (by omega)
  rw [h1] at U0
  rw [q1] at U1
  obtain ⟨r0, r1⟩ := leN_range (b.take 8) fun x hx => hb x (List.mem_of_mem_take hx)
  have p8 : (256 : Int) ^ 8 = 18446744073709551616 := by decide
  rw [show (b.take 8).length = 8 by simp; omega, p8] at r1
  have PO : Hid (pieN b = leN (b.take 8) / 256 ∧ pieE b = fld b 8 4 ∧ pieL b = min 52 (leN (b.take 8) % 256).toNat) := Lib.hid ⟨rfl, rfl, rfl⟩
  generalize leN (b.take 8) = H at *
  generalize fld b 8 4 = E at *
  obtain ⟨ln, t, N, HP⟩ := head_parts H c r0 r1 hc
  have PO2 : Hid (pieN b = N ∧ pieE b = E ∧ pieL b = ln) := Lib.hid ⟨by rw [PO.out.1, HP.nn], PO.out.2.1, by rw [PO.out.2.2, HP.ll]⟩
  have TL := Lib.hid HP.tl
  have kc : (64 : Int) ≤ (c : Int) := by omega
  have t12 : (c - 12 : Nat) ≠ 0 := by omega
  have c12 : ¬ c = 12 := by omega
  clear h1 l1 y1 q1 hi hb hl PO p8
  have wN := HP.wN
  have hN := HP.nn
  have a1 := HP.aa
  have wm := HP.w1
  have wm2 := HP.w2
  have dm := HP.mi
  have wt := HP.wt
  have kt1 := HP.k1
  have kt2 := HP.k2
  clear HP r0 r1
  generalize (H % 256).toNat = m at *
  go_enter Try.func57, Try.ntmps57
  go_upto_region 1 with fail
  have R1 : Hid (Row (w.alloc (.cells #[.int .u64 0, .int .u32 0, .slice none 0 0] 75)) w.heap.size #[.int .u64 0, .int .u32 0, .slice none 0 0] 75) := Lib.hid (Row.made _ _ _)
  have B1 : Hid (Below w.heap.size w (w.alloc (.cells #[.int .u64 0, .int .u32 0, .slice none 0 0] 75))) := Lib.hid ((Below.refl _ _).alloc (Nat.le_refl _) _)
  generalize w.alloc (.cells #[.int .u64 0, .int .u32 0, .slice none 0 0] 75) = w1 at *
  go_wp2_with fail
  refine (NR.out w1 B1.out).mono ?_
  rintro _ w2 ⟨r, rfl, hr2, hb2, hrg⟩
  have I2 : Hid (SInv #[.int .u64 0, .int .u32 0, .slice none 0 0] 75 w w2 r b) := Lib.hid ⟨hr2, R1.out.of_block (hb2.block _ R1.out.lt), B1.out.trans (hb2.mono B1.out.size), Nat.lt_of_lt_of_le R1.out.lt hrg⟩
  clear hr2 hb2 hrg NR R1 B1
  go_wp2_with fail
  refine (U0.out _ r I2.out.rd).mono ?_
  rintro _ w3 ⟨rfl, hr3, k3⟩
  have I3 := Lib.hid (I2.out.read hr3 k3).drew
  clear hr3 k3 I2 U0
  go_upto_region 3 with fail
  go_region_held3 (fun x => x.cell? ⟨g, o, none⟩ = some (.int .u8 v0)) (first | exact SC0.out _ I4.out.bl | exact SC0.out _ I3.out.bl | exact SC0.out _ (((I4.out.bl.setCell (Nat.le_refl _) _).setCell (Nat.le_refl _) _).setCell (Nat.le_refl _) _)) (first | (go_at_call 48; refine (U1.out _ r I3.out.rd).mono ?_; rintro _ w4 ⟨rfl, hr4, k4⟩; have I4 := Lib.hid (I3.out.read hr4 k4); have f0 := I4.out.res.free 0; have f1 := I4.out.res.free 1; have f2 := I4.out.res.free 2; have z0 : w4.cell? ⟨w.heap.size, 0, none⟩ = some (.int .u64 0) := I4.out.res.cell 0; have z1 : w4.cell? ⟨w.heap.size, 1, none⟩ = some (.int .u32 0) := I4.out.res.cell 1; have z2 : w4.cell? ⟨w.heap.size, 2, none⟩ = some (.slice none 0 0) := I4.out.res.cell 2; clear hr4 k4))
  all_goals go_wp2_with fail
  all_goals refine bodyPost_ret (results_pie rfl _ _ w.heap.size #[.int .u64 N, .int .u32 E, .slice (some ⟨g, o + 12, none⟩) (t - 12) (c - 12)] rfl rfl (by
    have h := ((I4.out.res.set 0 (.int .u64 N)).set 1 (.int .u32 E)).set 2 (.slice (some ⟨g, o + 12, none⟩) (t - 12) (c - 12))
    simpa using h)) rfl ?_
  all_goals exact ⟨by rw [PO2.out.1, PO2.out.2.1, PO2.out.2.2, ← TL.out], ((I4.out.bl.setCell (Nat.le_refl _) _).setCell (Nat.le_refl _) _).setCell (Nat.le_refl _) _⟩
end Go.Proofs.Ytekdogmhgijocaa

/- wal: piece. -/
namespace Go.Proofs.Ytekdogmhgijocaa
open Go.RowKit Go.ChangeShapes Go.WideShapes Go.ChangeAt
open Go.Proofs.Ytekdogmhgijocaa.dk (Dk Dev sectorD Bytes read_dev ReadTo sectorD_is IsSec)
set_option linter.unusedVariables false

/-- The 64 bytes of a piece's place. -/
def halfD (D : Dk) (L : Lg) (n : Int) : List Int := ((sectorD D (secL L n)).drop (64 * (n % 2)).toNat).take 64
theorem halfD_len {D : Dk} (h : D.Fine) (L : Lg) (n : Int) : (halfD D L n).length = 64 := by
  unfold halfD
  rw [List.length_take, List.length_drop, (sectorD_is h _).1]
  omega
theorem halfD_by {D : Dk} (h : D.Fine) (L : Lg) (n : Int) : IsBy (halfD D L n) := fun x hx => by
  have := (sectorD_is h (secL L n)).2 x (List.mem_of_mem_drop (List.mem_of_mem_take hx))
  omega
def PiecePost (D : Dk) (L : Lg) (n : Int) (w : World) (e : Ending) (w' : World) : Prop := ∃ g o cc : Nat, e = .returned (.tuple #[.agg #[.int .u64 (pieN (halfD D L n)), .int .u32 (pieE (halfD D L n)), .slice (some ⟨g, o, none⟩) (pieL (halfD D L n)) cc], .int .i64 0]) ∧ Ints .u8 w' (.slice (some ⟨g, o, none⟩) (pieL (halfD D L n)) cc) (pieB (halfD D L n)) ∧ pieL (halfD D L n) ≤ cc ∧ Only [] w w' ∧ w.heap.size ≤ g
theorem pie_ints {w : World} {g o c : Nat} {b : List Int} (hl : b.length = 64) (hi : Ints .u8 w (.slice (some ⟨g, o, none⟩) 64 c) b) : Ints .u8 w (.slice (some ⟨g, o + 12, none⟩) (pieL b) (c - 12)) (pieB b) ∧ (pieB b).length = pieL b := by
  have hlb : (pieB b).length = pieL b := by
    unfold pieB
    have : pieL b ≤ 52 := by unfold pieL; omega
    rw [List.length_take, List.length_drop]
    omega
  refine ⟨.inr ⟨g, o + 12, c - 12, by rw [hlb], fun i hi' => ?_⟩, hlb⟩
  obtain ⟨b', o', c', hv, hc⟩ := hi.shape (by omega)
  simp only [Value.slice.injEq, Option.some.injEq, Addr.mk.injEq] at hv
  obtain ⟨⟨rfl, rfl, _⟩, _, rfl⟩ := hv
  rw [hlb] at hi'
  have : pieL b ≤ 52 := by unfold pieL; omega
  rw [Nat.add_assoc, hc (12 + i) (by omega)]
  unfold pieB
  rw [List.getElem?_take, if_pos hi', List.getElem?_drop]
set_option maxRecDepth 100000 in
set_option maxHeartbeats 8000000 in
theorem piece_on {W w : World} {p q : Nat} {D : Dk} {F : List Nat} {L : Lg} {tail : Value} (h : LgAt W w p q D F L tail) (ho : D.off = false) (n : Int) (h0 : 0 ≤ n) (h1 : n < 1152921504606846976) (hc : 0 < L.count ∧ L.count ≤ 8192) (ha : 0 ≤ L.at_ ∧ L.at_ + 2 + L.count ≤ D.sectors) :
    Calls Try.prog 34 #[.pointer (some ⟨q, 0, none⟩), .int .u64 n] w (PiecePost D L n w) := by
  have S1 := h.dev.fine.s1
  have m1 := Int.emod_nonneg (n / 2) (show L.count ≠ 0 by omega)
  have m2 := Int.emod_lt_of_pos (n / 2) hc.1
  have FN := Lib.hid h.dev.fine
  have H := Lib.hid h
  have SK := Lib.hid fun (y : World) (k : Only [] w y) => sector_on (h.row.only k (by simp)) n h0 h1 hc (by omega)
  have RK := Lib.hid fun (y : World) (k : Only [] w y) => read_dev (k := secL L n) (h.dev.none k) ho (by unfold secL; omega) (by unfold secL; omega)
  unfold ReadTo at RK
  obtain ⟨K, hK⟩ : ∃ K, secL L n = K := ⟨_, rfl⟩
  have HK := Lib.hid hK
  rw [hK] at SK RK
  have par : n % 2 = 0 ∨ n % 2 = 1 := by omega
  have et : n.tmod 2 = n % 2 := Int.tmod_eq_emod_of_nonneg h0
  have QW : Hid (q < w.heap.size) := Lib.hid h.row.lt
  clear h S1 m1 m2 hc ha h0 h1 hK ho
  go_enter Try.func34, Try.ntmps34
  go_upto_region 1 with fail
  have R1 : Hid (Row (w.alloc (.cells #[.int .u64 0, .int .u32 0, .slice none 0 0] 75)) w.heap.size #[.int .u64 0, .int .u32 0, .slice none 0 0] 75) := Lib.hid (Row.made _ _ _)
  have K1 : Hid (Only [] w (w.alloc (.cells #[.int .u64 0, .int .u32 0, .slice none 0 0] 75)).drew) := Lib.hid ((Only.refl [] w).alloc _).drew
  have R1' : Hid (Row (w.alloc (.cells #[.int .u64 0, .int .u32 0, .slice none 0 0] 75)).drew w.heap.size #[.int .u64 0, .int .u32 0, .slice none 0 0] 75) := Lib.hid R1.out
  generalize w.alloc (.cells #[.int .u64 0, .int .u32 0, .slice none 0 0] 75) = w1 at *
  have SC : Hid (∀ y, Only [] w y → y.cell? ⟨q, 0, none⟩ = some (.pointer (some ⟨p, 0, none⟩))) := Lib.hid fun y k => (k.cell QW.out (by simp)).trans (H.out.row.cell 0)
  go_region_held3 (fun x => x.cell? ⟨q, 0, none⟩ = some (.pointer (some ⟨p, 0, none⟩))) (first | exact SC.out _ K4.out | exact SC.out _ K3.out | exact SC.out _ K1.out)
    (first
      | (go_at_call 30; refine (RK.out w3 K3.out).mono ?_; rintro _ w4 ⟨rfl, hb4, d4, k4, s4⟩; have B4 := Lib.hid hb4; have K4 := Lib.hid (K3.out.and k4); have R4 := Lib.hid (R3.out.only k4 (by simp)); clear hb4 d4 k4 s4)
      | (go_at_call 36; refine (SK.out _ K1.out).mono ?_; rintro _ w3 ⟨rfl, k3⟩; have K3 := Lib.hid (K1.out.and k3); have R3 := Lib.hid (R1'.out.only k3 (by simp)); clear k3))
  obtain ⟨g, hg⟩ : ∃ g, w3.heap.size = g := ⟨_, rfl⟩
  have GW : Hid (w.heap.size < g) := Lib.hid (by rw [← hg]; exact R3.out.lt)
  rw [hg] at B4
  rw [hg]
  have HI : Hid (∀ hh c : Nat, (64 * (n % 2)).toNat = hh → Ints .u8 w4 (.slice (some ⟨g, hh, none⟩) 64 c) (halfD D L n)) := Lib.hid fun hh c e => by
    have hl := halfD_len FN.out L n
    refine .inr ⟨g, hh, c, by rw [hl], fun i hi => ?_⟩
    have hlt : i < 64 := by rw [hl] at hi; exact hi
    have hs := (sectorD_is FN.out K).1
    have h2 := B4.out (hh + i) (.int .u8 ((halfD D L n)[i]?.getD 0)) (by
      unfold halfD
      rw [HK.out, e, List.getElem?_map, List.getElem?_take, if_pos hlt, List.getElem?_drop, List.getElem?_eq_getElem (by omega)]
      rfl)
    rw [Nat.zero_add] at h2
    exact h2
  rcases par with hp | hp
  ·
    have et0 : n.tmod 2 = 0 := by rw [et, hp]
    have OPK : Hid (Calls Try.prog 57 #[.slice (some ⟨g, 0, none⟩) 64 128] w4 (WOpenPost g 0 128 (halfD D L n) w4)) := Lib.hid (wopen_any g 0 128 (halfD D L n) w4 (halfD_len FN.out L n) (HI.out 0 128 (by rw [hp]; rfl)) (halfD_by FN.out L n) (by omega))
    have PI := Lib.hid (pie_ints (halfD_len FN.out L n) (HI.out 0 128 (by rw [hp]; rfl)))
    have PL : Hid (pieL (halfD D L n) ≤ 128 - 12) := Lib.hid (by unfold pieL; omega)
    unfold WOpenPost at OPK
    generalize hN : pieN (halfD D L n) = N at *
    generalize hE : pieE (halfD D L n) = E at *
    generalize hln : pieL (halfD D L n) = ln at *
    have NN : Hid (pieN (halfD D L n) = N ∧ pieE (halfD D L n) = E ∧ pieL (halfD D L n) = ln) := Lib.hid ⟨hN, hE, hln⟩
    clear hN hE hln
    clear et hp HI SK RK
    go_wp2_with fail
    refine OPK.out.mono ?_
    rintro _ w5 ⟨rfl, b5⟩
    have K5 : Hid (Only [] w w5) := Lib.hid (K4.out.below b5)
    have R5 := Lib.hid (R4.out.of_block (b5.block _ R4.out.lt))
    have I5 := Lib.hid (PI.out.1.below' b5)
    have f0 := R5.out.free 0
    have f1 := R5.out.free 1
    have f2 := R5.out.free 2
    have z0 : w5.cell? ⟨w.heap.size, 0, none⟩ = some (.int .u64 0) := R5.out.cell 0
    have z1 : w5.cell? ⟨w.heap.size, 1, none⟩ = some (.int .u32 0) := R5.out.cell 1
    have z2 : w5.cell? ⟨w.heap.size, 2, none⟩ = some (.slice none 0 0) := R5.out.cell 2
    clear b5 OPK
    go_wp2_with fail
    have kk : Only [w.heap.size] w5 (((w5.setCell ⟨w.heap.size, 0, none⟩ (.int .u64 N)).setCell ⟨w.heap.size, 1, none⟩ (.int .u32 E)).setCell ⟨w.heap.size, 2, none⟩ (.slice (some ⟨g, 0 + 12, none⟩) ln (128 - 12))) := (((Only.refl [w.heap.size] w5).setCell (.inl (by simp)) _).setCell (.inl (by simp)) _).setCell (.inl (by simp)) _
    refine bodyPost_ret (results_pie2 rfl _ _ w.heap.size #[.int .u64 N, .int .u32 E, .slice (some ⟨g, 0 + 12, none⟩) ln (128 - 12)] rfl rfl (by
      have h := ((R5.out.set 0 (.int .u64 N)).set 1 (.int .u32 E)).set 2 (.slice (some ⟨g, 0 + 12, none⟩) ln (128 - 12))
      simpa using h)) rfl ?_
    rw [PiecePost, NN.out.1, NN.out.2.1, NN.out.2.2]
    refine ⟨g, 0 + 12, 128 - 12, rfl, ?_, PL.out, (K5.out.mono (by simp)).trans kk fun i hi => .inr (by simp at hi; omega), Nat.le_of_lt GW.out⟩
    rcases I5.out with h | ⟨b', o', c', hv, hcc⟩
    · exact .inl h
    · refine .inr ⟨b', o', c', hv, fun i hi => ?_⟩
      have hb' : b' = g := by simp only [Value.slice.injEq, Option.some.injEq, Addr.mk.injEq] at hv; exact hv.1.1.symm
      have h2 := hcc i hi
      have h3 := World.block_lt_of_cell? w5 _ h2
      rw [kk.cell h3 (by simp; have := GW.out; omega)]
      exact h2
  ·
    have et0 : n.tmod 2 = 1 := by rw [et, hp]
    have OPK : Hid (Calls Try.prog 57 #[.slice (some ⟨g, 64, none⟩) 64 64] w4 (WOpenPost g 64 64 (halfD D L n) w4)) := Lib.hid (wopen_any g 64 64 (halfD D L n) w4 (halfD_len FN.out L n) (HI.out 64 64 (by rw [hp]; rfl)) (halfD_by FN.out L n) (by omega))
    have PI := Lib.hid (pie_ints (halfD_len FN.out L n) (HI.out 64 64 (by rw [hp]; rfl)))
    have PL : Hid (pieL (halfD D L n) ≤ 64 - 12) := Lib.hid (by unfold pieL; omega)
    unfold WOpenPost at OPK
    generalize hN : pieN (halfD D L n) = N at *
    generalize hE : pieE (halfD D L n) = E at *
    generalize hln : pieL (halfD D L n) = ln at *
    have NN : Hid (pieN (halfD D L n) = N ∧ pieE (halfD D L n) = E ∧ pieL (halfD D L n) = ln) := Lib.hid ⟨hN, hE, hln⟩
    clear hN hE hln
    clear et hp HI SK RK
    go_wp2_with fail
    refine OPK.out.mono ?_
    rintro _ w5 ⟨rfl, b5⟩
    have K5 : Hid (Only [] w w5) := Lib.hid (K4.out.below b5)
    have R5 := Lib.hid (R4.out.of_block (b5.block _ R4.out.lt))
    have I5 := Lib.hid (PI.out.1.below' b5)
    have f0 := R5.out.free 0
    have f1 := R5.out.free 1
    have f2 := R5.out.free 2
    have z0 : w5.cell? ⟨w.heap.size, 0, none⟩ = some (.int .u64 0) := R5.out.cell 0
    have z1 : w5.cell? ⟨w.heap.size, 1, none⟩ = some (.int .u32 0) := R5.out.cell 1
    have z2 : w5.cell? ⟨w.heap.size, 2, none⟩ = some (.slice none 0 0) := R5.out.cell 2
    clear b5 OPK
    go_wp2_with fail
    have kk : Only [w.heap.size] w5 (((w5.setCell ⟨w.heap.size, 0, none⟩ (.int .u64 N)).setCell ⟨w.heap.size, 1, none⟩ (.int .u32 E)).setCell ⟨w.heap.size, 2, none⟩ (.slice (some ⟨g, 64 + 12, none⟩) ln (64 - 12))) := (((Only.refl [w.heap.size] w5).setCell (.inl (by simp)) _).setCell (.inl (by simp)) _).setCell (.inl (by simp)) _
    refine bodyPost_ret (results_pie2 rfl _ _ w.heap.size #[.int .u64 N, .int .u32 E, .slice (some ⟨g, 64 + 12, none⟩) ln (64 - 12)] rfl rfl (by
      have h := ((R5.out.set 0 (.int .u64 N)).set 1 (.int .u32 E)).set 2 (.slice (some ⟨g, 64 + 12, none⟩) ln (64 - 12))
      simpa using h)) rfl ?_
    rw [PiecePost, NN.out.1, NN.out.2.1, NN.out.2.2]
    refine ⟨g, 64 + 12, 64 - 12, rfl, ?_, PL.out, (K5.out.mono (by simp)).trans kk fun i hi => .inr (by simp at hi; omega), Nat.le_of_lt GW.out⟩
    rcases I5.out with h | ⟨b', o', c', hv, hcc⟩
    · exact .inl h
    · refine .inr ⟨b', o', c', hv, fun i hi => ?_⟩
      have hb' : b' = g := by simp only [Value.slice.injEq, Option.some.injEq, Addr.mk.injEq] at hv; exact hv.1.1.symm
      have h2 := hcc i hi
      have h3 := World.block_lt_of_cell? w5 _ h2
      rw [kk.cell h3 (by simp; have := GW.out; omega)]
      exact h2
end Go.Proofs.Ytekdogmhgijocaa
