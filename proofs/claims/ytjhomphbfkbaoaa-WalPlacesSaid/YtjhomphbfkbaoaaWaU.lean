/- wal: sector; a master and a piece, read. -/
import Derived.Test.YtjhomphbfkbaoaaWaL
import Derived.Test.YtjhomphbfkbaoaaWaO
namespace Go.Proofs.Ytjhomphbfkbaoaa
open Go.RowKit Go.ChangeShapes Go.WideShapes Go.ChangeAt
open Go.Proofs.Ytjhomphbfkbaoaa.dk (Dk Dev sectorD)
set_option linter.unusedVariables false

def secL (L : Lg) (n : Int) : Int := L.at_ + 2 + n / 2 % L.count
set_option maxHeartbeats 4000000 in
theorem sector_on {w : World} {q p : Nat} {L : Lg} {tail : Value} (h : LgRow w q L p tail) (n : Int) (h0 : 0 ≤ n) (h1 : n < 1152921504606846976) (hc : 0 < L.count ∧ L.count ≤ 8192) (ha : 0 ≤ L.at_ ∧ L.at_ ≤ 65536) : Calls Try.prog 31 #[.pointer (some ⟨q, 0, none⟩), .int .u64 n] w fun e w' => e = .returned (.int .i64 (secL L n)) ∧ Only [] w w' := by
  have c1 : w.cell? ⟨q, 1, none⟩ = some (.int .i64 L.at_) := h.cell 1
  have c2 : w.cell? ⟨q, 2, none⟩ = some (.int .i64 L.count) := h.cell 2
  have wu : ∀ x : Int, 0 ≤ x → x < 18446744073709551616 → IntKind.u64.wrap x = x := fun x h0 h1 => by rw [show IntKind.u64.wrap x = x % 18446744073709551616 from rfl]; omega
  have m1 := Int.emod_nonneg (n / 2) (show L.count ≠ 0 by omega)
  have m2 := Int.emod_lt_of_pos (n / 2) hc.1
  have e0 : n.tdiv 2 = n / 2 := Int.tdiv_eq_ediv_of_nonneg h0
  have e1 : IntKind.u64.wrap (n / 2) = n / 2 := wu _ (by omega) (by omega)
  have e2 : IntKind.u64.wrap L.count = L.count := wu _ (by omega) (by omega)
  have e3 : (n / 2).tmod L.count = n / 2 % L.count := Int.tmod_eq_emod_of_nonneg (by omega)
  obtain ⟨M, hM⟩ : ∃ M, n / 2 % L.count = M := ⟨_, rfl⟩
  have S : Hid (secL L n = L.at_ + 2 + M) := Lib.hid (by unfold secL; rw [hM])
  rw [hM] at m1 m2 e3
  have e4 : wrap64 M = M := by unfold wrap64; omega
  have e4' : IntKind.i64.wrap M = M := IntWalk.i64_in _ (by omega)
  have e4u : IntKind.u64.wrap M = M := wu _ (by omega) (by omega)
  have e5 : IntKind.i64.wrap (L.at_ + 2) = L.at_ + 2 := IntWalk.i64_in _ (by omega)
  have e6 : IntKind.i64.wrap (L.at_ + 2 + M) = L.at_ + 2 + M := IntWalk.i64_in _ (by omega)
  have z0 : (L.count == 0) = false := by simp; omega
  have z1 : ¬ L.count = 0 := by omega
  have z2 : decide (L.count = 0) = false := decide_eq_false z1
  clear h hM m1 m2 hc ha wu h0 h1
  go_enter Try.func31, Try.ntmps31
  go_upto_region 1 with fail
  go_quiet (fail)
  go_wp2_with fail
  go_ret
  exact ⟨by rw [S.out]; rfl, (Only.refl [] w).drewN _⟩
/-- The first results lie in a block of five cells. -/
theorem masSize : (Try.prog.info? 64).map (·.size) = some 5 := by kernel_rfl
theorem pieSize : (Try.prog.info? 73).map (·.size) = some 3 := by kernel_rfl
theorem results_mas {fn : Func} {p : Tmp} (h : fn.results = #[.cell p 64]) (tmps : Array Value) (w : World) (g : Nat) (R : Array Value) (hR : R.size = 5) (hp : tmps.getD p undef = .pointer (some ⟨g, 0, none⟩)) (hg : Row w g R 64) : (results fn tmps).run Try.prog w = .ok (.agg R) w := by
  have hp' : tmps[p]?.getD undef = .pointer (some ⟨g, 0, none⟩) := by simpa using hp
  simp only [results, h]
  simp [Sem.run_bind, hp', asAddr, Result.andThen, run_loadVar_row w g _ _ _ _ _ hg Try.underlying64 rfl (by rw [masSize, hR])]
theorem results_pie {fn : Func} {p : Tmp} (h : fn.results = #[.cell p 73]) (tmps : Array Value) (w : World) (g : Nat) (R : Array Value) (hR : R.size = 3) (hp : tmps.getD p undef = .pointer (some ⟨g, 0, none⟩)) (hg : Row w g R 73) : (results fn tmps).run Try.prog w = .ok (.agg R) w := by
  have hp' : tmps[p]?.getD undef = .pointer (some ⟨g, 0, none⟩) := by simpa using hp
  simp only [results, h]
  simp [Sem.run_bind, hp', asAddr, Result.andThen, run_loadVar_row w g _ _ _ _ _ hg Try.underlying73 rfl (by rw [pieSize, hR])]
theorem results_pie2 {fn : Func} {p u : Tmp} (h : fn.results = #[.cell p 73, .tmp u]) (tmps : Array Value) (w : World) (g : Nat) (R : Array Value) (hR : R.size = 3) (hp : tmps.getD p undef = .pointer (some ⟨g, 0, none⟩)) (hg : Row w g R 73) : (results fn tmps).run Try.prog w = .ok (.tuple #[.agg R, tmps.getD u undef]) w := by
  have hp' : tmps[p]?.getD undef = .pointer (some ⟨g, 0, none⟩) := by simpa using hp
  simp only [results, h]
  simp [Sem.run_bind, hp', asAddr, Result.andThen, run_loadVar_row w g _ _ _ _ _ hg Try.underlying73 rfl (by rw [pieSize, hR])]
/-- A call with a result's block and a reader. -/
structure SInv (Z : Array Value) (T : TypeId) (w wr : World) (r : Nat) (rest : List Int) : Prop where
  rd : RdAt tRd wr r rest
  res : Row wr w.heap.size Z T
  bl : Below w.heap.size w wr
  hr : w.heap.size < r
theorem SInv.below {Z : Array Value} {T : TypeId} {w wr w' : World} {r : Nat} {rest : List Int} (h : SInv Z T w wr r rest) (hp : 0 < rest.length) (k : Below wr.heap.size wr w') : SInv Z T w w' r rest :=
  ⟨h.rd.below hp k, h.res.of_block (k.block _ h.res.lt), h.bl.trans (k.mono h.bl.size), h.hr⟩
theorem SInv.read {Z : Array Value} {T : TypeId} {w wr w' : World} {r : Nat} {rest rest' : List Int} (h : SInv Z T w wr r rest) (hr : RdAt tRd w' r rest') (k : Only [r] wr w') : SInv Z T w w' r rest' :=
  ⟨hr, h.res.only k (by simp; have := h.hr; omega), h.bl.trans (k.toBelow h.bl.size fun i hi => by simp at hi; have := h.hr; omega), h.hr⟩
theorem SInv.drew {Z : Array Value} {T : TypeId} {w wr : World} {r : Nat} {rest : List Int} (h : SInv Z T w wr r rest) : SInv Z T w wr.drew r rest :=
  ⟨⟨h.rd.at_⟩, h.res, h.bl.drew, h.hr⟩
/-- The master that 128 bytes tell. -/
def fld (b : List Int) (o k : Nat) : Int := leN ((b.drop o).take k)
def masO (b : List Int) : Array Value := if leN (b.take 4) = 1735347286 then masR (fld b 4 8) (fld b 12 4) (fld b 16 8) (fld b 24 8) (fld b 32 8) else masR 0 0 0 0 0
def MasRPost (b : List Int) (w : World) (e : Ending) (w' : World) : Prop := e = .returned (.agg (masO b)) ∧ Below w.heap.size w w'
set_option maxRecDepth 100000 in
set_option maxHeartbeats 8000000 in
theorem mread_any (g o c : Nat) (b : List Int) (w : World) (hl : b.length = 128) (hi : Ints .u8 w (.slice (some ⟨g, o, none⟩) 128 c) b) (hb : IsBy b) : Calls Try.prog 38 #[.slice (some ⟨g, o, none⟩) 128 c] w (MasRPost b w) := by
  obtain ⟨b1, h1⟩ : ∃ x, b.drop 4 = x := ⟨_, rfl⟩
  obtain ⟨b2, h2⟩ : ∃ x, b1.drop 8 = x := ⟨_, rfl⟩
  obtain ⟨b3, h3⟩ : ∃ x, b2.drop 4 = x := ⟨_, rfl⟩
  obtain ⟨b4, h4⟩ : ∃ x, b3.drop 8 = x := ⟨_, rfl⟩
  obtain ⟨b5, h5⟩ : ∃ x, b4.drop 8 = x := ⟨_, rfl⟩
  have l1 : b1.length = 124 := by rw [← h1, List.length_drop]; omega
  have l2 : b2.length = 116 := by rw [← h2, List.length_drop]; omega
  have l3 : b3.length = 112 := by rw [← h3, List.length_drop]; omega
  have l4 : b4.length = 104 := by rw [← h4, List.length_drop]; omega
  have l5 : b5.length = 96 := by rw [← h5, List.length_drop]; omega
  have y1 : IsBy b1 := by rw [← h1]; exact fun x hx => hb x (List.mem_of_mem_drop hx)
  have y2 : IsBy b2 := by rw [← h2]; exact fun x hx => y1 x (List.mem_of_mem_drop hx)
  have y3 : IsBy b3 := by rw [← h3]; exact fun x hx => y2 x (List.mem_of_mem_drop hx)
  have y4 : IsBy b4 := by rw [← h4]; exact fun x hx => y3 x (List.mem_of_mem_drop hx)
  have y5 : IsBy b5 := by rw [← h5]; exact fun x hx => y4 x (List.mem_of_mem_drop hx)
  have q1 : leN (b1.take 8) = fld b 4 8 := by rw [← h1]; rfl
  have q2 : leN (b2.take 4) = fld b 12 4 := by rw [← h2, ← h1, List.drop_drop]; rfl
  have q3 : leN (b3.take 8) = fld b 16 8 := by rw [← h3, ← h2, ← h1, List.drop_drop, List.drop_drop]; rfl
  have q4 : leN (b4.take 8) = fld b 24 8 := by rw [← h4, ← h3, ← h2, ← h1, List.drop_drop, List.drop_drop, List.drop_drop]; rfl
  have q5 : leN (b5.take 8) = fld b 32 8 := by rw [← h5, ← h4, ← h3, ← h2, ← h1, List.drop_drop, List.drop_drop, List.drop_drop, List.drop_drop]; rfl
  have NR := Lib.hid fun (y : World) (k : Below w.heap.size w y) => newrd_any g o 128 c b y hl (hi.below' k) (by omega) (by omega)
  have U0 := Lib.hid fun (y : World) (r : Nat) (h : RdAt tRd y r b) => u32r_any r b y h hb (by omega)
  have U1 := Lib.hid fun (y : World) (r : Nat) (h : RdAt tRd y r b1) => u64r_any r b1 y h y1 (by omega)
  have U2 := Lib.hid fun (y : World) (r : Nat) (h : RdAt tRd y r b2) => u32r_any r b2 y h y2 (by omega)
  have U3 := Lib.hid fun (y : World) (r : Nat) (h : RdAt tRd y r b3) => u64r_any r b3 y h y3 (by omega)
  have U4 := Lib.hid fun (y : World) (r : Nat) (h : RdAt tRd y r b4) => u64r_any r b4 y h y4 (by omega)
  have U5 := Lib.hid fun (y : World) (r : Nat) (h : RdAt tRd y r b5) => u64r_any r b5 y h y5 (by omega)
  rw [h1] at U0
  rw [q1, h2] at U1
  rw [q2, h3] at U2
  rw [q3, h4] at U3
  rw [q4, h5] at U4
  rw [q5] at U5
  have MO : Hid (masO b = if leN (b.take 4) = 1735347286 then masR (fld b 4 8) (fld b 12 4) (fld b 16 8) (fld b 24 8) (fld b 32 8) else masR 0 0 0 0 0) := Lib.hid rfl
  generalize leN (b.take 4) = M at *
  generalize fld b 4 8 = F1 at *
  generalize fld b 12 4 = F2 at *
  generalize fld b 16 8 = F3 at *
  generalize fld b 24 8 = F4 at *
  generalize fld b 32 8 = F5 at *
  clear h1 h2 h3 h4 h5 l1 l2 l3 l4 l5 y1 y2 y3 y4 y5 q1 q2 q3 q4 q5 hi hb hl
  go_enter Try.func38, Try.ntmps38
  go_upto_region 1 with fail
  have R1 : Hid (Row (w.alloc (.cells #[.int .u64 0, .int .u32 0, .int .u64 0, .int .u64 0, .int .u64 0] 64)) w.heap.size (masR 0 0 0 0 0) 64) := Lib.hid (Row.made _ _ _)
  have B1 : Hid (Below w.heap.size w (w.alloc (.cells #[.int .u64 0, .int .u32 0, .int .u64 0, .int .u64 0, .int .u64 0] 64))) := Lib.hid ((Below.refl _ _).alloc (Nat.le_refl _) _)
  generalize w.alloc (.cells #[.int .u64 0, .int .u32 0, .int .u64 0, .int .u64 0, .int .u64 0] 64) = w1 at *
  go_wp2_with fail
  refine (NR.out w1 B1.out).mono ?_
  rintro _ w2 ⟨r, rfl, hr2, hb2, hrg⟩
  have I2 : Hid (SInv (masR 0 0 0 0 0) 64 w w2 r b) := Lib.hid ⟨hr2, R1.out.of_block (hb2.block _ R1.out.lt), B1.out.trans (hb2.mono B1.out.size), Nat.lt_of_lt_of_le R1.out.lt hrg⟩
  clear hr2 hb2 hrg NR R1 B1
  go_wp2_with fail
  refine (U0.out _ r I2.out.rd).mono ?_
  rintro _ w3 ⟨rfl, hr3, k3⟩
  have I3 := Lib.hid (I2.out.read hr3 k3)
  clear hr3 k3 I2 U0
  by_cases hM : M = 1735347286
  · have e1 : (M != 1735347286) = false := by simp [hM]
    have MO1 : Hid (masO b = masR F1 F2 F3 F4 F5) := Lib.hid (by rw [MO.out, if_pos hM])
    clear hM MO
    go_wp2_with fail
    refine (U1.out _ r I3.out.rd).mono ?_
    rintro _ w4 ⟨rfl, hr4, k4⟩
    have I4 := Lib.hid (I3.out.read hr4 k4)
    clear hr4 k4 I3
    go_wp2_with fail
    refine (U2.out _ r I4.out.rd).mono ?_
    rintro _ w5 ⟨rfl, hr5, k5⟩
    have I5 := Lib.hid (I4.out.read hr5 k5)
    clear hr5 k5 I4
    go_wp2_with fail
    refine (U3.out _ r I5.out.rd).mono ?_
    rintro _ w6 ⟨rfl, hr6, k6⟩
    have I6 := Lib.hid (I5.out.read hr6 k6)
    clear hr6 k6 I5
    go_wp2_with fail
    refine (U4.out _ r I6.out.rd).mono ?_
    rintro _ w7 ⟨rfl, hr7, k7⟩
    have I7 := Lib.hid (I6.out.read hr7 k7)
    clear hr7 k7 I6
    go_wp2_with fail
    refine (U5.out _ r I7.out.rd).mono ?_
    rintro _ w8 ⟨rfl, hr8, k8⟩
    have I8 := Lib.hid (I7.out.read hr8 k8)
    have f0 := I8.out.res.free 0
    have f1 := I8.out.res.free 1
    have f2 := I8.out.res.free 2
    have f3 := I8.out.res.free 3
    have f4 := I8.out.res.free 4
    have z0 : w8.cell? ⟨w.heap.size, 0, none⟩ = some (.int .u64 0) := I8.out.res.cell 0
    have z1 : w8.cell? ⟨w.heap.size, 1, none⟩ = some (.int .u32 0) := I8.out.res.cell 1
    have z2 : w8.cell? ⟨w.heap.size, 2, none⟩ = some (.int .u64 0) := I8.out.res.cell 2
    have z3 : w8.cell? ⟨w.heap.size, 3, none⟩ = some (.int .u64 0) := I8.out.res.cell 3
    have z4 : w8.cell? ⟨w.heap.size, 4, none⟩ = some (.int .u64 0) := I8.out.res.cell 4
    clear hr8 k8 I7 U1 U2 U3 U4 U5
    go_wp2_with fail
    refine bodyPost_ret (results_mas rfl _ _ w.heap.size (masR F1 F2 F3 F4 F5) rfl rfl ?_) rfl ?_
    · have h := ((((I8.out.res.set 0 (.int .u64 F1)).set 1 (.int .u32 F2)).set 2 (.int .u64 F3)).set 3 (.int .u64 F4)).set 4 (.int .u64 F5)
      simpa [masR] using h
    · exact ⟨by rw [MO1.out], ((((I8.out.bl.setCell (Nat.le_refl _) _).setCell (Nat.le_refl _) _).setCell (Nat.le_refl _) _).setCell (Nat.le_refl _) _).setCell (Nat.le_refl _) _⟩
  · have e1 : (M != 1735347286) = true := by simp [hM]
    have MO1 : Hid (masO b = masR 0 0 0 0 0) := Lib.hid (by rw [MO.out, if_neg hM])
    have f0 := I3.out.res.free 0
    have f1 := I3.out.res.free 1
    have f2 := I3.out.res.free 2
    have f3 := I3.out.res.free 3
    have f4 := I3.out.res.free 4
    have z0 : w3.cell? ⟨w.heap.size, 0, none⟩ = some (.int .u64 0) := I3.out.res.cell 0
    have z1 : w3.cell? ⟨w.heap.size, 1, none⟩ = some (.int .u32 0) := I3.out.res.cell 1
    have z2 : w3.cell? ⟨w.heap.size, 2, none⟩ = some (.int .u64 0) := I3.out.res.cell 2
    have z3 : w3.cell? ⟨w.heap.size, 3, none⟩ = some (.int .u64 0) := I3.out.res.cell 3
    have z4 : w3.cell? ⟨w.heap.size, 4, none⟩ = some (.int .u64 0) := I3.out.res.cell 4
    clear hM MO
    go_wp2_with fail
    refine bodyPost_ret (results_mas rfl _ _ w.heap.size (masR 0 0 0 0 0) rfl rfl ?_) rfl ?_
    · have h := ((((I3.out.res.set 0 (.int .u64 0)).set 1 (.int .u32 0)).set 2 (.int .u64 0)).set 3 (.int .u64 0)).set 4 (.int .u64 0)
      simpa [masR] using h
    · exact ⟨by rw [MO1.out], ((((I3.out.bl.setCell (Nat.le_refl _) _).setCell (Nat.le_refl _) _).setCell (Nat.le_refl _) _).setCell (Nat.le_refl _) _).setCell (Nat.le_refl _) _⟩
end Go.Proofs.Ytjhomphbfkbaoaa
