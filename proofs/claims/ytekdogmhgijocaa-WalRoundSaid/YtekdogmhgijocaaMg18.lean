/- logrec.Read of what is undone wholly. -/
import Derived.Test.YtekdogmhgijocaaMg15
import Derived.Test.YtekdogmhgijocaaWaN
import Derived.Laws.ResultCell
import Derived.Deep.RegionHeld3
import Derived.Test.YtekdogmhgijocaaMg16
set_option linter.unusedSimpArgs false
namespace Go.Proofs.Ytekdogmhgijocaa
open Go.RowKit Go.ChangeShapes Go.WideShapes Go.ChangeAt
set_option linter.unusedVariables false

theorem leN_leB (k : Nat) : ∀ n : Int, 0 ≤ n → n < 256 ^ k → leN (leB n k) = n := by
  intro n h0 h1
  obtain ⟨m, rfl⟩ := Int.eq_ofNat_of_zero_le h0
  have key : ∀ j, j ≤ k → leN (leB (m : Int) j) = ((m : Int) % 256 ^ j) := by
    intro j
    induction j with
    | zero => intro _; simp [leB, leN]
    | succ j ih =>
      intro hj
      rw [leB_succ, leN_append, ih (by omega), leB_len]
      simp only [leN, leAt]
      rw [show (2 : Int) ^ (8 * j) = 256 ^ j by rw [Int.pow_mul]; rfl, Int.pow_succ]
      have e1 : (m : Int) % 256 ^ j = ((m % 256 ^ j : Nat) : Int) := by rw [Int.natCast_emod, Int.natCast_pow]; rfl
      have e2 : (m : Int) / 256 ^ j % 256 = ((m / 256 ^ j % 256 : Nat) : Int) := by rw [Int.natCast_emod, Int.natCast_ediv, Int.natCast_pow]; rfl
      have e3 : (m : Int) % (256 ^ j * 256) = ((m % (256 ^ j * 256) : Nat) : Int) := by rw [Int.natCast_emod, Int.natCast_mul, Int.natCast_pow]; rfl
      rw [e1, e2, e3, Nat.mod_mul, Int.natCast_add, Int.natCast_mul, Int.natCast_pow, Int.mul_zero, Int.add_zero]
      rfl
  rw [key k (Nat.le_refl _)]
  exact Int.emod_eq_of_lt h0 h1
/-- The first results lie in a block, the others in slots. -/
theorem results_rec3 {fn : Func} {p u v : Tmp} (h : fn.results = #[.cell p 43, .tmp u, .tmp v]) (tmps : Array Value) (w : World) (g : Nat) (R : Array Value) (hR : R.size = 15) (hp : tmps.getD p undef = .pointer (some ⟨g, 0, none⟩)) (hg : Row w g R 43) : (results fn tmps).run Try.prog w = .ok (.tuple #[.agg R, tmps.getD u undef, tmps.getD v undef]) w := by
  have hp' : tmps[p]?.getD undef = .pointer (some ⟨g, 0, none⟩) := by simpa using hp
  simp only [results, h]
  simp [Sem.run_bind, hp', asAddr, Result.andThen, run_loadVar_row w g _ _ _ _ _ hg Try.underlying43 rfl (by rw [recSize, hR])]
theorem RdAt.below {T : TypeId} {w w' : World} {r : Nat} {xs : List Int} (h : RdAt T w r xs) (hp : 0 < xs.length) (k : Below w.heap.size w w') : RdAt T w' r xs := by
  obtain ⟨g, o, c, h1, h2, h3, h4, h5⟩ := h.at_
  refine ⟨⟨g, o, c, h1.of_block (k.block _ h1.lt), fun i hi => ?_, h3, h4, h5⟩⟩
  exact (k.cell (p := ⟨g, o + i, none⟩) (World.block_lt_of_cell? w _ (h2 i hi))).trans (h2 i hi)
def rec0 : Array Value := recR 0 0 0 0 0 0 (.slice none 0 0) (.slice none 0 0)
/-- A call that reads a record: its result's block, its reader. -/
structure RInv (w wr : World) (r : Nat) (rest : List Int) : Prop where
  rd : RdAt tRd wr r rest
  res : Row wr w.heap.size rec0 43
  bl : Below w.heap.size w wr
  hr : w.heap.size < r
theorem RInv.below {w wr w' : World} {r : Nat} {rest : List Int} (h : RInv w wr r rest) (hp : 0 < rest.length) (k : Below wr.heap.size wr w') : RInv w w' r rest :=
  ⟨h.rd.below hp k, h.res.of_block (k.block _ h.res.lt), h.bl.trans (k.mono h.bl.size), h.hr⟩
theorem RInv.read {w wr w' : World} {r : Nat} {rest rest' : List Int} (h : RInv w wr r rest) (hr : RdAt tRd w' r rest') (k : Only [r] wr w') : RInv w w' r rest' :=
  ⟨hr, h.res.only k (by simp; have := h.hr; omega), h.bl.trans (k.toBelow h.bl.size fun i hi => by simp at hi; have := h.hr; omega), h.hr⟩
theorem RInv.drew {w wr : World} {r : Nat} {rest : List Int} (h : RInv w wr r rest) : RInv w wr.drew r rest :=
  ⟨⟨h.rd.at_⟩, h.res, h.bl.drew, h.hr⟩
/-- What formD's bytes hold. -/
theorem formD_len (lsn ep txn : Int) : (formD lsn ep txn).length = 27 := by simp [formD, wrapB_len, headB_len, leB_len]
theorem formD_by (lsn ep txn : Int) : IsBy (formD lsn ep txn) := by
  unfold formD wrapB
  refine by_append (leB_by _ _) (midB_by (by_append (by_append (by_append (leB_by _ _) (leB_by _ _)) fun x hx => ?_) (leB_by _ _)))
  simp at hx; omega
structure DFacts (lsn ep txn : Int) (S : Nat) (x0 x1 x2 x3 x4 x5 : List Int) : Prop where
  e0 : x0 = formD lsn ep txn
  d1 : x0.drop 4 = x1
  d2 : x1.drop 2 = x2
  d3 : x2.drop 8 = x3
  d4 : x3.drop 4 = x4
  d5 : x4.drop 1 = x5
  l0 : x0.length = 27
  l1 : x1.length = 23
  l2 : x2.length = 21
  l3 : x3.length = 13
  l4 : x4.length = 9
  l5 : x5.length = 8
  b0 : IsBy x0
  b1 : IsBy x1
  b2 : IsBy x2
  b3 : IsBy x3
  b4 : IsBy x4
  b5 : IsBy x5
  s : leN (x0.take 4) = (S : Int)
  t2 : leN (x2.take 8) = lsn
  t3 : leN (x3.take 4) = ep
  t4 : leN (x4.take 1) = 4
  t5 : leN x5 = txn
  sum : sumI x1 = S
  g4 : x0[4]? = some 27
  g5 : x0[5]? = some 0
theorem dfacts (lsn ep txn : Int) (h0 : 0 ≤ lsn) (h1 : lsn < 18446744073709551616) (h2 : 0 ≤ ep) (h3 : ep < 4294967296) (h4 : 0 ≤ txn) (h5 : txn < 18446744073709551616) : ∃ S x0 x1 x2 x3 x4 x5, DFacts lsn ep txn S x0 x1 x2 x3 x4 x5 := by
  have p8 : (256 : Int) ^ 8 = 18446744073709551616 := by decide
  have p4 : (256 : Int) ^ 4 = 4294967296 := by decide
  have hb0 := formD_by lsn ep txn
  have hl0 := formD_len lsn ep txn
  have e0 : formD lsn ep txn = leB (sumI (midB (headB 4 lsn ep ++ leB txn 8)) : Nat) 4 ++ midB (headB 4 lsn ep ++ leB txn 8) := rfl
  have e1 : midB (headB 4 lsn ep ++ leB txn 8) = leB 27 2 ++ (headB 4 lsn ep ++ leB txn 8) := by unfold midB; simp [headB_len, leB_len]
  have eh : headB 4 lsn ep ++ leB txn 8 = leB lsn 8 ++ (leB ep 4 ++ ([4] ++ leB txn 8)) := by simp [headB]
  have s1 : sumI (midB (headB 4 lsn ep ++ leB txn 8)) < 4294967296 := sumI_lt _
  have q0 : (formD lsn ep txn).take 4 = leB (sumI (midB (headB 4 lsn ep ++ leB txn 8)) : Nat) 4 := by rw [e0, List.take_left' (leB_len _ _)]
  have q1 : (formD lsn ep txn).drop 4 = midB (headB 4 lsn ep ++ leB txn 8) := by rw [e0, List.drop_left' (leB_len _ _)]
  refine ⟨_, _, _, _, _, _, _, ⟨rfl, q1, by rw [e1, List.drop_left' (leB_len _ _)], by rw [eh, List.drop_left' (leB_len _ _)], List.drop_left' (leB_len _ _), List.drop_left' (l₁ := [4]) rfl, hl0, ?_, ?_, ?_, ?_, leB_len _ _, hb0, ?_, ?_, ?_, ?_, leB_by _ _, ?_, ?_, ?_, ?_, leN_leB 8 _ h4 (by omega), rfl, ?_, ?_⟩⟩
  · simp [midB_len, headB_len, leB_len]
  · simp [headB_len, leB_len]
  · simp [leB_len]
  · simp [leB_len]
  · rw [← q1]; exact fun x hx => hb0 x (List.mem_of_mem_drop hx)
  · have := hb0; rw [e0, e1] at this; exact fun x hx => this x (List.mem_append_right _ (List.mem_append_right _ hx))
  · have := hb0; rw [e0, e1, eh] at this; exact fun x hx => this x (List.mem_append_right _ (List.mem_append_right _ (List.mem_append_right _ hx)))
  · have := hb0; rw [e0, e1, eh] at this; exact fun x hx => this x (List.mem_append_right _ (List.mem_append_right _ (List.mem_append_right _ (List.mem_append_right _ hx))))
  · rw [q0]; exact leN_leB 4 _ (Int.natCast_nonneg _) (by omega)
  · rw [eh, List.take_left' (leB_len _ _)]; exact leN_leB 8 _ h0 (by omega)
  · rw [List.take_left' (leB_len _ _)]; exact leN_leB 4 _ h2 (by omega)
  · rfl
  · rw [e0, List.getElem?_append_right (by rw [leB_len]; omega), leB_len, e1]; rfl
  · rw [e0, List.getElem?_append_right (by rw [leB_len]; omega), leB_len, e1]; rfl
theorem rec_stored {w : World} {g : Nat} (h : Row w g rec0 43) (a0 a1 a2 a3 a4 a5 a6 a7 a8 a9 a10 a11 a12 a13 a14 : Value) : Row (((((((((((((((w.setCell ⟨g, 0, none⟩ a0).setCell ⟨g, 1, none⟩ a1).setCell ⟨g, 2, none⟩ a2).setCell ⟨g, 3, none⟩ a3).setCell ⟨g, 4, none⟩ a4).setCell ⟨g, 5, none⟩ a5).setCell ⟨g, 6, none⟩ a6).setCell ⟨g, 7, none⟩ a7).setCell ⟨g, 8, none⟩ a8).setCell ⟨g, 9, none⟩ a9).setCell ⟨g, 10, none⟩ a10).setCell ⟨g, 11, none⟩ a11).setCell ⟨g, 12, none⟩ a12).setCell ⟨g, 13, none⟩ a13).setCell ⟨g, 14, none⟩ a14) g #[a0, a1, a2, a3, a4, a5, a6, a7, a8, a9, a10, a11, a12, a13, a14] 43 := by
  have h' := (((((((((((((((h.set 0 a0).set 1 a1).set 2 a2).set 3 a3).set 4 a4).set 5 a5).set 6 a6).set 7 a7).set 8 a8).set 9 a9).set 10 a10).set 11 a11).set 12 a12).set 13 a13).set 14 a14)
  simpa [rec0, recR] using h'
theorem rec_below {W w : World} {B g : Nat} (h : Below B W w) (hB : B ≤ g) (a0 a1 a2 a3 a4 a5 a6 a7 a8 a9 a10 a11 a12 a13 a14 : Value) : Below B W (((((((((((((((w.setCell ⟨g, 0, none⟩ a0).setCell ⟨g, 1, none⟩ a1).setCell ⟨g, 2, none⟩ a2).setCell ⟨g, 3, none⟩ a3).setCell ⟨g, 4, none⟩ a4).setCell ⟨g, 5, none⟩ a5).setCell ⟨g, 6, none⟩ a6).setCell ⟨g, 7, none⟩ a7).setCell ⟨g, 8, none⟩ a8).setCell ⟨g, 9, none⟩ a9).setCell ⟨g, 10, none⟩ a10).setCell ⟨g, 11, none⟩ a11).setCell ⟨g, 12, none⟩ a12).setCell ⟨g, 13, none⟩ a13).setCell ⟨g, 14, none⟩ a14) :=
  (((((((((((((((h.setCell hB _).setCell hB _).setCell hB _).setCell hB _).setCell hB _).setCell hB _).setCell hB _).setCell hB _).setCell hB _).setCell hB _).setCell hB _).setCell hB _).setCell hB _).setCell hB _).setCell hB _)
end Go.Proofs.Ytekdogmhgijocaa

/- logrec.Read of what is undone wholly: the walk. -/
namespace Go.Proofs.Ytekdogmhgijocaa
open Go.RowKit Go.ChangeShapes Go.WideShapes Go.ChangeAt
set_option linter.unusedVariables false

def ReadPost (lsn ep txn : Int) (w : World) (e : Ending) (w' : World) : Prop := e = .returned (.tuple #[.agg (recR 4 lsn ep txn 0 0 (.slice none 0 0) (.slice none 0 0)), .int .i64 27, .int .i64 0]) ∧ Below w.heap.size w w'
set_option maxRecDepth 100000 in
set_option maxHeartbeats 8000000 in
theorem read_done (lsn ep txn : Int) (h0 : 0 ≤ lsn) (h1 : lsn < 18446744073709551616) (h2 : 0 ≤ ep) (h3 : ep < 4294967296) (h4 : 0 < txn) (h5 : txn < 18446744073709551616) (b o n c : Nat) (rest : List Int) (w : World) (hn : n = 27 + rest.length) (hi : Ints .u8 w (.slice (some ⟨b, o, none⟩) n c) (formD lsn ep txn ++ rest)) (hc : n ≤ c) (hm : n ≤ 9223372036854775807) :
    Calls Try.prog 33 #[.slice (some ⟨b, o, none⟩) n c] w (ReadPost lsn ep txn w) := by
  obtain ⟨S, x0, x1, x2, x3, x4, x5, hF⟩ := dfacts lsn ep txn h0 h1 h2 h3 (by omega) h5
  have MAY := Lib.hid fun y => may_done lsn ep txn y (by omega)
  have FRM : Hid (∀ y, Calls Try.prog 46 #[.agg (recR 4 lsn ep txn 0 0 (.slice none 0 0) (.slice none 0 0))] y fun e w' => ∃ g cc, e = .returned (.slice (some ⟨g, 0, none⟩) 27 cc) ∧ Ints .u8 w' (.slice (some ⟨g, 0, none⟩) 27 cc) x0 ∧ Below y.heap.size y w') := Lib.hid fun y => (form_done lsn ep txn y h0 h1 h2 h3 (by omega) h5).mono fun e w' ⟨v, e1, o1, b1⟩ => by
    obtain ⟨g, cc, rfl, _⟩ := gives_shape o1 (by rw [formD_len]; omega)
    have h := ints_own' o1 rfl
    rw [formD_len] at h e1
    exact ⟨g, cc, e1, by rw [hF.e0]; exact h, b1⟩
  have CEL : Hid (∀ y, Below w.heap.size w y → ∀ i, i < 27 → y.cell? ⟨b, o + i, none⟩ = some (.int .u8 (x0[i]?.getD 0))) := Lib.hid fun y k i hi27 => by
    obtain ⟨b', o', c', hv, hcc⟩ := (hi.below' k).shape (by rw [List.length_append, formD_len]; omega)
    simp only [Value.slice.injEq, Option.some.injEq, Addr.mk.injEq] at hv
    obtain ⟨⟨rfl, rfl, _⟩, _, rfl⟩ := hv
    rw [hcc i (by rw [List.length_append, formD_len]; omega), List.getElem?_append_left (by rw [formD_len]; omega), hF.e0]
  have INT : Hid (∀ y, Below w.heap.size w y → Ints .u8 y (.slice (some ⟨b, o, none⟩) 27 c) x0) := Lib.hid fun y k => .inr ⟨b, o, c, by rw [hF.l0], fun i hi27 => CEL.out y k i (by rw [hF.l0] at hi27; exact hi27)⟩
  have INT4 : Hid (∀ y, Below w.heap.size w y → Ints .u8 y (.slice (some ⟨b, o + 4, none⟩) 23 (c - 4)) x1) := Lib.hid fun y k => .inr ⟨b, o + 4, c - 4, by rw [hF.l1], fun i hi23 => by
    rw [hF.l1] at hi23
    rw [Nat.add_assoc, CEL.out y k (4 + i) (by omega), ← hF.d1, List.getElem?_drop]⟩
  have HF := Lib.hid hF
  have kc : (27 : Int) ≤ (c : Int) := by omega
  have kc5 : (5 : Int) < (n : Int) := by omega
  have kc4 : (4 : Int) < (n : Int) := by omega
  have t4 : (c - 4 : Nat) ≠ 0 := by omega
  have dn6 : decide ((n : Int) < 6) = false := decide_eq_false (by omega)
  have dn27 : decide ((n : Int) < 27) = false := decide_eq_false (by omega)
  have bo : bits .or .i64 27 0 = 27 := by kernel_rfl
  clear h0 h1 h2 h3 h4 h5 hi hF hn
  go_enter Try.func33, Try.ntmps33
  go_upto_region 1 with fail
  have R1 : Hid (Row (w.alloc (.cells #[Value.int .i64 0, .int .u64 0, .int .u32 0, .int .u64 0, .int .u32 0, .int .u16 0, .slice none 0 0, .slice none 0 0, .slice none 0 0, .int .u64 0, .int .u64 0, .bool false, .int .u64 0, .slice none 0 0, .slice none 0 0] 43)) w.heap.size rec0 43) := Lib.hid (Row.made _ _ _)
  have B1 : Hid (Below w.heap.size w (w.alloc (.cells #[Value.int .i64 0, .int .u64 0, .int .u32 0, .int .u64 0, .int .u32 0, .int .u16 0, .slice none 0 0, .slice none 0 0, .slice none 0 0, .int .u64 0, .int .u64 0, .bool false, .int .u64 0, .slice none 0 0, .slice none 0 0] 43))) := Lib.hid ((Below.refl _ _).alloc (Nat.le_refl _) _)
  generalize w.alloc (.cells #[Value.int .i64 0, .int .u64 0, .int .u32 0, .int .u64 0, .int .u32 0, .int .u16 0, .slice none 0 0, .slice none 0 0, .slice none 0 0, .int .u64 0, .int .u64 0, .bool false, .int .u64 0, .slice none 0 0, .slice none 0 0] 43) = w1 at *
  have g4 : w1.cell? ⟨b, o + 4, none⟩ = some (.int .u8 27) := by rw [CEL.out w1 B1.out 4 (by omega), HF.out.g4]; rfl
  have g5 : w1.cell? ⟨b, o + 5, none⟩ = some (.int .u8 0) := by rw [CEL.out w1 B1.out 5 (by omega), HF.out.g5]; rfl
  go_upto_region 3 with fail
  go_quiet (fail)
  clear g4 g5
  have B2 : Hid (∀ k, Below w.heap.size w (w1.drewN k)) := Lib.hid fun k => ⟨B1.out.os, B1.out.tape, B1.out.output, B1.out.size, B1.out.block⟩
  have R2 : Hid (∀ k, Row (w1.drewN k) w.heap.size rec0 43) := Lib.hid fun k => R1.out
  go_wp2_with fail
  refine (newrd_any b o 27 c x0 (w1.drewN _) HF.out.l0 (INT.out _ (B2.out _)) (by omega) (by omega)).mono ?_
  rintro _ w2 ⟨r, rfl, hr2, hb2, hrg⟩
  have I2 : Hid (RInv w w2 r x0) := Lib.hid ⟨hr2, (R2.out _).of_block (hb2.block _ (R2.out _).lt), (B2.out _).trans (hb2.mono (B2.out _).size), Nat.lt_of_lt_of_le (R2.out _).lt hrg⟩
  clear hr2 hb2 hrg R2 B2 R1 B1
  have U1 := Lib.hid fun (y : World) (h : RdAt tRd y r x0) => u32r_any r x0 y h HF.out.b0 (by rw [HF.out.l0]; omega)
  have U2 := Lib.hid fun (y : World) (h : RdAt tRd y r x1) => u16r_any r x1 y h HF.out.b1 (by rw [HF.out.l1]; omega)
  have U3 := Lib.hid fun (y : World) (h : RdAt tRd y r x2) => u64r_any r x2 y h HF.out.b2 (by rw [HF.out.l2]; omega)
  have U4 := Lib.hid fun (y : World) (h : RdAt tRd y r x3) => u32r_any r x3 y h HF.out.b3 (by rw [HF.out.l3]; omega)
  have U5 := Lib.hid fun (y : World) (h : RdAt tRd y r x4) => u8r_any r x4 y h HF.out.b4 (by rw [HF.out.l4]; omega)
  have U6 := Lib.hid fun (y : World) (h : RdAt tRd y r x5) => u64r_end r x5 y h HF.out.b5 HF.out.l5
  rw [HF.out.s, HF.out.d1] at U1
  rw [HF.out.d2] at U2
  rw [HF.out.t2, HF.out.d3] at U3
  rw [HF.out.t3, HF.out.d4] at U4
  rw [HF.out.t4, HF.out.d5] at U5
  unfold EndPost at U6
  rw [HF.out.t5] at U6
  have SK := Lib.hid fun (y : World) (h : Ints .u8 y (.slice (some ⟨b, o + 4, none⟩) 23 (c - 4)) x1) => by
    have := sum_any _ _ _ _ y HF.out.l1 h HF.out.b1 (by omega)
    unfold SumPost at this
    rw [HF.out.sum] at this
    exact this
  generalize leN (x1.take 2) = T2 at *
  go_wp2_with fail
  refine (U1.out _ I2.out.rd).mono ?_
  rintro _ w3 ⟨rfl, hr3, k3⟩
  have I3 := Lib.hid (I2.out.read hr3 k3)
  clear hr3 k3
  go_wp2_with fail
  refine (U2.out _ I3.out.rd).mono ?_
  rintro _ w4 ⟨rfl, hr4, k4⟩
  have I4 := Lib.hid (I3.out.read hr4 k4)
  clear hr4 k4
  go_wp2_with fail
  refine (SK.out _ (INT4.out _ I4.out.bl)).mono ?_
  rintro _ w5 ⟨rfl, hb5⟩
  have I5 := Lib.hid (I4.out.below (by rw [HF.out.l2]; omega) hb5)
  clear hb5
  go_wp2_with fail
  refine (U3.out _ I5.out.rd).mono ?_
  rintro _ w6 ⟨rfl, hr6, k6⟩
  have I6 := Lib.hid (I5.out.read hr6 k6)
  clear hr6 k6
  go_wp2_with fail
  refine (U4.out _ I6.out.rd).mono ?_
  rintro _ w7 ⟨rfl, hr7, k7⟩
  have I7 := Lib.hid (I6.out.read hr7 k7)
  clear hr7 k7
  go_wp2_with fail
  refine (U5.out _ I7.out.rd).mono ?_
  rintro _ w8 ⟨rfl, hr8, k8⟩
  have I8 := Lib.hid (I7.out.read hr8 k8)
  clear hr8 k8
  go_upto_region 19 with fail
  have R9 : Hid (Row (w8.alloc (.cells #[Value.int .i64 4, .int .u64 lsn, .int .u32 ep, .int .u64 0, .int .u32 0, .int .u16 0, .slice none 0 0, .slice none 0 0, .slice none 0 0, .int .u64 0, .int .u64 0, .bool false, .int .u64 0, .slice none 0 0, .slice none 0 0] 43)) w8.heap.size (recR 4 lsn ep 0 0 0 (.slice none 0 0) (.slice none 0 0)) 43) := Lib.hid (Row.made _ _ _)
  have I9 : Hid (RInv w (w8.alloc (.cells #[Value.int .i64 4, .int .u64 lsn, .int .u32 ep, .int .u64 0, .int .u32 0, .int .u16 0, .slice none 0 0, .slice none 0 0, .slice none 0 0, .int .u64 0, .int .u64 0, .bool false, .int .u64 0, .slice none 0 0, .slice none 0 0] 43)) r x5) := Lib.hid (I8.out.below (by rw [HF.out.l5]; omega) ((Below.refl _ _).alloc (Nat.le_refl _) _))
  have XR : Hid (r < w8.heap.size ∧ w.heap.size ≤ w8.heap.size) := Lib.hid ⟨by obtain ⟨_, _, _, h, _⟩ := I8.out.rd.at_; exact h.lt, I8.out.bl.size⟩
  generalize w8.alloc (.cells #[Value.int .i64 4, .int .u64 lsn, .int .u32 ep, .int .u64 0, .int .u32 0, .int .u16 0, .slice none 0 0, .slice none 0 0, .slice none 0 0, .int .u64 0, .int .u64 0, .bool false, .int .u64 0, .slice none 0 0, .slice none 0 0] 43) = w9 at *
  generalize w8.heap.size = x at *
  go_wp2_with fail
  refine (U6.out _ I9.out.rd).mono ?_
  rintro _ w10 ⟨rfl, hr10, k10⟩
  have R10 := Lib.hid (R9.out.only k10 (by simp; have := XR.out; omega))
  have E10 := Lib.hid hr10
  have Z10 := Lib.hid (I9.out.res.only k10 (by simp; have := I9.out.hr; omega))
  have B10 := Lib.hid (I9.out.bl.trans (k10.toBelow I9.out.bl.size fun i hi => by simp at hi; have := I9.out.hr; omega))
  have HR : Hid (w.heap.size < r) := Lib.hid I9.out.hr
  have f3 := R10.out.free 3
  have m3 : w10.cell? ⟨x, 3, none⟩ = some (.int .u64 0) := R10.out.cell 3
  clear hr10 k10 I9 R9 I2 I3 I4 I5 I6 I7 I8 U1 U2 U3 U4 U5 U6 SK
  go_upto_region 29 with fail
  have kk : Only [x] w10 (w10.setCell ⟨x, 3, none⟩ (.int .u64 txn)) := (Only.refl [x] w10).setCell (.inl (by simp)) _
  have R11 : Hid (Row (w10.setCell ⟨x, 3, none⟩ (.int .u64 txn)) x (recR 4 lsn ep txn 0 0 (.slice none 0 0) (.slice none 0 0)) 43) := Lib.hid (R10.out.set 3 (.int .u64 txn))
  have E11 : Hid (RdEnd (w10.setCell ⟨x, 3, none⟩ (.int .u64 txn)) r) := Lib.hid (by obtain ⟨v, h⟩ := E10.out; exact ⟨v, h.only kk (by simp; have := XR.out; omega)⟩)
  have Z11 := Lib.hid (Z10.out.only kk (by simp; have := XR.out; have := HR.out; omega))
  have B11 := Lib.hid (B10.out.trans (kk.toBelow B10.out.size fun i hi => by simp at hi; have := XR.out; omega))
  clear kk f3 m3 R10 E10 Z10 B10
  generalize w10.setCell ⟨x, 3, none⟩ (.int .u64 txn) = w11 at *
  obtain ⟨ve, hE⟩ := E11.out
  have EK := Lib.hid fun (y : World) (k : Below w11.heap.size w11 y) => err_any r ve y (hE.of_block (k.block _ hE.lt))
  have SO : Hid (∀ y, Below w11.heap.size w11 y → y.cell? ⟨x, 0, none⟩ = some (.int .i64 4) ∧ y.cell? ⟨x, 1, none⟩ = some (.int .u64 lsn) ∧ y.cell? ⟨x, 2, none⟩ = some (.int .u32 ep) ∧ y.cell? ⟨x, 3, none⟩ = some (.int .u64 txn) ∧ y.cell? ⟨x, 4, none⟩ = some (.int .u32 0) ∧ y.cell? ⟨x, 5, none⟩ = some (.int .u16 0) ∧ y.cell? ⟨x, 6, none⟩ = some (.slice none 0 0) ∧ y.cell? ⟨x, 7, none⟩ = some (.slice none 0 0) ∧ y.cell? ⟨x, 8, none⟩ = some (.slice none 0 0) ∧ y.cell? ⟨x, 9, none⟩ = some (.int .u64 0) ∧ y.cell? ⟨x, 10, none⟩ = some (.int .u64 0) ∧ y.cell? ⟨x, 11, none⟩ = some (.bool false) ∧ y.cell? ⟨x, 12, none⟩ = some (.int .u64 0) ∧ y.cell? ⟨x, 13, none⟩ = some (.slice none 0 0) ∧ y.cell? ⟨x, 14, none⟩ = some (.slice none 0 0)) := Lib.hid fun y k => by
    have h := R11.out.of_block (k.block _ R11.out.lt)
    exact ⟨h.cell 0, h.cell 1, h.cell 2, h.cell 3, h.cell 4, h.cell 5, h.cell 6, h.cell 7, h.cell 8, h.cell 9, h.cell 10, h.cell 11, h.cell 12, h.cell 13, h.cell 14⟩
  have B0 : Hid (Below w11.heap.size w11 w11.drew) := Lib.hid (Below.refl _ _).drew
  have EQ : Hid (∀ (y : World) (g cc : Nat), Below w11.heap.size w11 y → Ints .u8 y (.slice (some ⟨g, 0, none⟩) 27 cc) x0 → Calls Try.prog 56 #[.slice (some ⟨g, 0, none⟩) 27 cc, .slice (some ⟨b, o, none⟩) 27 c] y fun e w' => e = .returned (.bool true) ∧ w' = y) := Lib.hid fun y g cc k j => equal_same _ _ 27 cc c x0 y HF.out.l0 (by omega) j (INT.out y (B11.out.trans (k.mono B11.out.size)))
  clear hE E11
  go_region_held3 (fun y => y.cell? ⟨x, 0, none⟩ = some (.int .i64 4) ∧ y.cell? ⟨x, 1, none⟩ = some (.int .u64 lsn) ∧ y.cell? ⟨x, 2, none⟩ = some (.int .u32 ep) ∧ y.cell? ⟨x, 3, none⟩ = some (.int .u64 txn) ∧ y.cell? ⟨x, 4, none⟩ = some (.int .u32 0) ∧ y.cell? ⟨x, 5, none⟩ = some (.int .u16 0) ∧ y.cell? ⟨x, 6, none⟩ = some (.slice none 0 0) ∧ y.cell? ⟨x, 7, none⟩ = some (.slice none 0 0) ∧ y.cell? ⟨x, 8, none⟩ = some (.slice none 0 0) ∧ y.cell? ⟨x, 9, none⟩ = some (.int .u64 0) ∧ y.cell? ⟨x, 10, none⟩ = some (.int .u64 0) ∧ y.cell? ⟨x, 11, none⟩ = some (.bool false) ∧ y.cell? ⟨x, 12, none⟩ = some (.int .u64 0) ∧ y.cell? ⟨x, 13, none⟩ = some (.slice none 0 0) ∧ y.cell? ⟨x, 14, none⟩ = some (.slice none 0 0))
    (first
      | exact SO.out _ X3.out
      | exact SO.out _ X2.out
      | exact SO.out _ B0.out)
    (first
      | (go_at_call 56; refine (EQ.out y3 g3 c3 X3.out J3.out).mono ?_; rintro _ y4 ⟨rfl, hy4⟩; subst y4)
      | (go_at_call 46; refine (FRM.out y2).mono ?_; rintro _ y3 ⟨g3, c3, rfl, j3, b3⟩; have J3 := Lib.hid j3; have X3 : Hid (Below w11.heap.size w11 y3) := Lib.hid (X2.out.trans (b3.mono X2.out.size)))
      | (go_at_call 45; refine (MAY.out w11.drew).mono ?_; rintro _ y2 ⟨rfl, b2⟩; have X2 : Hid (Below w11.heap.size w11 y2) := Lib.hid (B0.out.trans (b2.mono B0.out.size)))
      | (go_at_call 55; refine (EK.out _ B0.out).mono ?_; rintro _ y1 ⟨rfl, hy⟩; subst hy))
  have ZY := Lib.hid (Z11.out.of_block (X3.out.block _ Z11.out.lt))
  have BY := Lib.hid (B11.out.trans (X3.out.mono B11.out.size))
  obtain ⟨k0, k1, k2, k3, k4, k5, k6, k7, k8, k9, k10, k11, k12, k13, k14⟩ := SO.out y3 X3.out
  have m0 : y3.cell? ⟨w.heap.size, 0, none⟩ = some (.int .i64 0) := ZY.out.cell 0
  have m1 : y3.cell? ⟨w.heap.size, 1, none⟩ = some (.int .u64 0) := ZY.out.cell 1
  have m2 : y3.cell? ⟨w.heap.size, 2, none⟩ = some (.int .u32 0) := ZY.out.cell 2
  have m3 : y3.cell? ⟨w.heap.size, 3, none⟩ = some (.int .u64 0) := ZY.out.cell 3
  have m4 : y3.cell? ⟨w.heap.size, 4, none⟩ = some (.int .u32 0) := ZY.out.cell 4
  have m5 : y3.cell? ⟨w.heap.size, 5, none⟩ = some (.int .u16 0) := ZY.out.cell 5
  have m6 : y3.cell? ⟨w.heap.size, 6, none⟩ = some (.slice none 0 0) := ZY.out.cell 6
  have m7 : y3.cell? ⟨w.heap.size, 7, none⟩ = some (.slice none 0 0) := ZY.out.cell 7
  have m8 : y3.cell? ⟨w.heap.size, 8, none⟩ = some (.slice none 0 0) := ZY.out.cell 8
  have m9 : y3.cell? ⟨w.heap.size, 9, none⟩ = some (.int .u64 0) := ZY.out.cell 9
  have m10 : y3.cell? ⟨w.heap.size, 10, none⟩ = some (.int .u64 0) := ZY.out.cell 10
  have m11 : y3.cell? ⟨w.heap.size, 11, none⟩ = some (.bool false) := ZY.out.cell 11
  have m12 : y3.cell? ⟨w.heap.size, 12, none⟩ = some (.int .u64 0) := ZY.out.cell 12
  have m13 : y3.cell? ⟨w.heap.size, 13, none⟩ = some (.slice none 0 0) := ZY.out.cell 13
  have m14 : y3.cell? ⟨w.heap.size, 14, none⟩ = some (.slice none 0 0) := ZY.out.cell 14
  have f0 := ZY.out.free 0
  have f1 := ZY.out.free 1
  have f2 := ZY.out.free 2
  have f3 := ZY.out.free 3
  have f4 := ZY.out.free 4
  have f5 := ZY.out.free 5
  have f6 := ZY.out.free 6
  have f7 := ZY.out.free 7
  have f8 := ZY.out.free 8
  have f9 := ZY.out.free 9
  have f10 := ZY.out.free 10
  have f11 := ZY.out.free 11
  have f12 := ZY.out.free 12
  have f13 := ZY.out.free 13
  have f14 := ZY.out.free 14
  have hwx : w.heap.size < x := Nat.lt_trans HR.out XR.out.1
  clear b2 b3 j3
  go_wp2_with fail
  refine bodyPost_ret (results_rec3 rfl _ _ w.heap.size (recR 4 lsn ep txn 0 0 (.slice none 0 0) (.slice none 0 0)) rfl rfl ?_) rfl ?_
  · exact rec_stored ZY.out _ _ _ _ _ _ _ _ _ _ _ _ _ _ _
  · exact ⟨rfl, rec_below BY.out (Nat.le_refl _) _ _ _ _ _ _ _ _ _ _ _ _ _ _ _⟩
end Go.Proofs.Ytekdogmhgijocaa

/- wal: Read of what is undone wholly, out of the tail. -/
namespace Go.Proofs.Ytekdogmhgijocaa
open Go.RowKit Go.ChangeShapes Go.WideShapes Go.ChangeAt
open Go.Proofs.Ytekdogmhgijocaa.dk (Dk Dev)
set_option linter.unusedVariables false

def LReadPost (lsn ep txn : Int) (w : World) (e : Ending) (w' : World) : Prop := e = .returned (.tuple #[.agg (recR 4 lsn ep txn 0 0 (.slice none 0 0) (.slice none 0 0)), .int .u64 (lsn + 27), .int .i64 0]) ∧ Below w.heap.size w w'
set_option maxRecDepth 100000 in
set_option maxHeartbeats 8000000 in
theorem lread_tail {W w : World} {p q : Nat} {D : Dk} {F : List Nat} {L : Lg} {tail : Value} {zs : List Int} (h : LgAt W w p q D F L tail) (ht : TailAt W w q F tail zs) (hd : L.down = false) (lsn ep txn : Int) (fr lo : Nat) (rest : List Int)
    (h0 : 0 ≤ lsn) (h1 : lsn < 1152921504606846976) (h2 : 0 ≤ ep) (h3 : ep < 4294967296) (h4 : 0 < txn) (h5 : txn < 18446744073709551616)
    (hst : L.st ≤ lsn) (hen : lsn < L.end_) (hfl : 0 ≤ L.fl) (hfl2 : L.fl < 1152921504606846976) (hfr : L.fl / 52 * 52 = (fr : Int)) (hlo : lsn = (fr : Int) + lo) (hz : zs.length ≤ 1000000) (hrest : zs.drop lo = formD lsn ep txn ++ rest) :
    Calls Try.prog 15 #[.pointer (some ⟨q, 0, none⟩), .int .u64 lsn] w (LReadPost lsn ep txn w) := by
  have H := Lib.hid h
  have HT := Lib.hid ht
  have HLEN : Hid (zs.length = lo + 27 + rest.length) := Lib.hid (by
    have := congrArg List.length hrest
    rw [List.length_drop, List.length_append, formD_len] at this
    omega)
  have HR := Lib.hid hrest
  have RD := Lib.hid fun (y : World) (g n c : Nat) (hn : n = 27 + rest.length) (hi : Ints .u8 y (.slice (some ⟨g, 0, none⟩) n c) (formD lsn ep txn ++ rest)) (hc : n ≤ c) (hm : n ≤ 9223372036854775807) => ((read_done lsn ep txn h0 (by omega) h2 h3 h4 h5 g 0 n c rest y hn hi hc hm).mono fun e w' h => ⟨h.1, h.2⟩ : Calls Try.prog 33 #[.slice (some ⟨g, 0, none⟩) n c] y fun e w' => e = .returned (.tuple #[.agg #[Value.int .i64 4, .int .u64 lsn, .int .u32 ep, .int .u64 txn, .int .u32 0, .int .u16 0, .slice none 0 0, .slice none 0 0, .slice none 0 0, .int .u64 0, .int .u64 0, .bool false, .int .u64 0, .slice none 0 0, .slice none 0 0], .int .i64 27, .int .i64 0]) ∧ Below y.heap.size y w')
  have QW : Hid (q < w.heap.size) := Lib.hid h.row.lt
  obtain ⟨g, cc, htv, hgw, hgl, hgc, hgm, _⟩ := own_parts ht.own (by have := HLEN.out; omega)
  have c5 : L.fl.tdiv 52 = L.fl / 52 := Int.tdiv_eq_ediv_of_nonneg hfl
  have wu : ∀ x : Int, 0 ≤ x → x < 18446744073709551616 → IntKind.u64.wrap x = x := fun x h0 h1 => by rw [show IntKind.u64.wrap x = x % 18446744073709551616 from rfl]; omega
  have e1 : IntKind.u64.wrap (L.fl / 52) = L.fl / 52 := wu _ (by omega) (by omega)
  have e2 : IntKind.u64.wrap (L.fl / 52 * 52) = (fr : Int) := by rw [hfr]; exact wu _ (by omega) (by omega)
  have e3 : IntKind.u64.wrap (lsn - (fr : Int)) = (lo : Int) := by rw [show lsn - (fr : Int) = (lo : Int) by omega]; exact wu _ (by omega) (by omega)
  have e4 : IntKind.u64.wrap (lsn + 27) = lsn + 27 := wu _ (by omega) (by omega)
  have d1 : decide (lsn < L.st) = false := decide_eq_false (by omega)
  have d2 : decide (L.end_ ≤ lsn) = false := decide_eq_false (by omega)
  have d3 : decide (lsn < (fr : Int)) = false := decide_eq_false (by omega)
  have d4 : decide ((fr : Int) ≤ lsn) = true := decide_eq_true (by omega)
  have n1 : (lo : Int) ≤ (zs.length : Int) := by have := HLEN.out; omega
  have n2 : (zs.length : Int) ≤ (cc : Int) := by omega
  have n3 : (cc - lo : Nat) ≠ 0 := by have := HLEN.out; omega
  have lo0 : (0 : Int) ≤ (lo : Int) := by omega
  have HGC := Lib.hid hgc
  have HGM := Lib.hid hgm
  clear h ht hst hen h1 h2 h3 h4 h5 hfl hfl2 hfr hlo hrest hgw hgl hgc hgm
  go_enter Try.func15, Try.ntmps15
  go_upto_region 1 with fail
  have R1 : Hid (Row (w.alloc (.cells #[Value.int .i64 0, .int .u64 0, .int .u32 0, .int .u64 0, .int .u32 0, .int .u16 0, .slice none 0 0, .slice none 0 0, .slice none 0 0, .int .u64 0, .int .u64 0, .bool false, .int .u64 0, .slice none 0 0, .slice none 0 0] 43)) w.heap.size rec0 43) := Lib.hid (Row.made _ _ _)
  have B1 : Hid (Below w.heap.size w (w.alloc (.cells #[Value.int .i64 0, .int .u64 0, .int .u32 0, .int .u64 0, .int .u32 0, .int .u16 0, .slice none 0 0, .slice none 0 0, .slice none 0 0, .int .u64 0, .int .u64 0, .bool false, .int .u64 0, .slice none 0 0, .slice none 0 0] 43))) := Lib.hid ((Below.refl _ _).alloc (Nat.le_refl _) _)
  generalize w.alloc (.cells #[Value.int .i64 0, .int .u64 0, .int .u32 0, .int .u64 0, .int .u32 0, .int .u16 0, .slice none 0 0, .slice none 0 0, .slice none 0 0, .int .u64 0, .int .u64 0, .bool false, .int .u64 0, .slice none 0 0, .slice none 0 0] 43) = w1 at *
  have K1 : Hid (Only [] w w1) := Lib.hid ((Only.refl [] w).below B1.out)
  have H1 := Lib.hid (H.out.only K1.out (by simp))
  have T1 := Lib.hid (HT.out.only K1.out (by simp))
  have TH := Lib.hid (there_on H1.out.row hd)
  go_wp2_with fail
  refine TH.out.mono ?_
  rintro _ w2 ⟨rfl, hw2⟩
  subst hw2
  have k5 : w2.cell? ⟨q, 5, none⟩ = some (.int .u64 L.st) := H1.out.row.cell 5
  have k8 : w2.cell? ⟨q, 8, none⟩ = some (.int .u64 L.end_) := H1.out.row.cell 8
  have k9 : w2.cell? ⟨q, 9, none⟩ = some (.int .u64 L.fl) := H1.out.row.cell 9
  have k11 : w2.cell? ⟨q, 11, none⟩ = some tail := H1.out.row.cell 11
  rw [htv] at k11
  go_wp2_with fail
  go_loopw [8, 10, 11, 12] (fun s8 s10 _ _ wr => s8 = .slice none 0 0 ∧ s10 = .int .u64 lsn ∧ Hid (wr = w2)) (fun _ _ _ _ _ => 0)
  case atStart => exact ⟨rfl, rfl, Lib.hid rfl⟩
  case round =>
    obtain ⟨rfl, rfl, HW⟩ := hrel
    obtain rfl := HW.out
    have HL := HLEN.out
    have hX : (formD lsn ep txn ++ rest).length = zs.length - lo := by rw [List.length_append, formD_len]; omega
    have hI : Ints .u8 wr (.slice (some ⟨g, lo, none⟩) (zs.length - lo) (cc - lo)) (formD lsn ep txn ++ rest) := by
      refine .inr ⟨g, lo, cc - lo, by rw [hX], fun i hi => ?_⟩
      rw [hX] at hi
      have h0 := T1.out.own
      rw [htv] at h0
      have h := h0.cellAt (lo + i) (by omega)
      rw [show wr.cell? ⟨g, lo + i, none⟩ = _ from h, ← HR.out, List.getElem?_drop]
      simp [show lo + i < zs.length by omega]
    obtain ⟨v', w5, hrun, ho5, hb5, _⟩ := append_ints (n := 0) (ys := []) (World.ownsRow_nil (w := wr) w.heap.size 5 1) (some ⟨g, lo, none⟩) (zs.length - lo) (cc - lo) (formD lsn ep txn ++ rest) hI hX (by omega) (by omega) B1.out.size
    have hb5' : Below wr.heap.size wr w5 := by
      obtain ⟨v2, w2', r2, _, b2, _⟩ := append_ints (n := 0) (ys := []) (World.ownsRow_nil (w := wr) wr.heap.size 5 1) (some ⟨g, lo, none⟩) (zs.length - lo) (cc - lo) (formD lsn ep txn ++ rest) hI hX (by omega) (by omega) (Nat.le_refl _)
      rw [hrun] at r2
      injection r2 with r3 r4
      rw [r4]
      exact b2
    rw [Nat.zero_add, List.nil_append] at ho5
    have ho5' := ho5
    rw [← hX] at ho5'
    obtain ⟨g5, c5', hv5, _, _, hc5, hm5, _⟩ := own_parts ho5' (by omega)
    rw [hX] at hv5 hc5
    subst hv5
    have I5 := Lib.hid (ints_own' ho5 hX)
    have HC5 := Lib.hid hc5
    have HM5 := Lib.hid hm5
    have B5 := Lib.hid (B1.out.trans hb5)
    clear hI ho5 ho5' hb5 HL hX hc5 hm5
    go_wp2_with (at_builtin; refine wpList_append_eq rfl _ _ 32 rfl (.slice none 0 0) (.slice (some ⟨g, lo, none⟩) (zs.length - lo) (cc - lo)) (.slice (some ⟨g5, 0, none⟩) (zs.length - lo) c5') w5 rfl rfl hrun ?_)
    have Z5 := Lib.hid (R1.out.of_block (hb5'.block _ R1.out.lt))
    refine (RD.out w5 g5 (zs.length - lo) c5' (by have := HLEN.out; omega) I5.out HC5.out (by have := HLEN.out; omega)).mono ?_
    rintro _ w6 ⟨rfl, b6⟩
    have B6 := Lib.hid (B5.out.trans (b6.mono B5.out.size))
    have Z6 := Lib.hid (Z5.out.of_block (b6.block _ Z5.out.lt))
    clear b6 RD I5
    go_upto_region 18 with fail
    have X7 : Hid (Row (w6.alloc (.cells #[Value.int .i64 4, .int .u64 lsn, .int .u32 ep, .int .u64 txn, .int .u32 0, .int .u16 0, .slice none 0 0, .slice none 0 0, .slice none 0 0, .int .u64 0, .int .u64 0, .bool false, .int .u64 0, .slice none 0 0, .slice none 0 0] 43)) w6.heap.size (recR 4 lsn ep txn 0 0 (.slice none 0 0) (.slice none 0 0)) 43) := Lib.hid (Row.made _ _ _)
    have B7 : Hid (Below w.heap.size w (w6.alloc (.cells #[Value.int .i64 4, .int .u64 lsn, .int .u32 ep, .int .u64 txn, .int .u32 0, .int .u16 0, .slice none 0 0, .slice none 0 0, .slice none 0 0, .int .u64 0, .int .u64 0, .bool false, .int .u64 0, .slice none 0 0, .slice none 0 0] 43))) := Lib.hid (B6.out.alloc B6.out.size _)
    have Z7 : Hid (Row (w6.alloc (.cells #[Value.int .i64 4, .int .u64 lsn, .int .u32 ep, .int .u64 txn, .int .u32 0, .int .u16 0, .slice none 0 0, .slice none 0 0, .slice none 0 0, .int .u64 0, .int .u64 0, .bool false, .int .u64 0, .slice none 0 0, .slice none 0 0] 43)) w.heap.size rec0 43) := Lib.hid (Z6.out.only ((Only.refl [] _).alloc _) (by simp))
    have hwx : w.heap.size < w6.heap.size := Z6.out.lt
    generalize w6.alloc (.cells #[Value.int .i64 4, .int .u64 lsn, .int .u32 ep, .int .u64 txn, .int .u32 0, .int .u16 0, .slice none 0 0, .slice none 0 0, .slice none 0 0, .int .u64 0, .int .u64 0, .bool false, .int .u64 0, .slice none 0 0, .slice none 0 0] 43) = w7 at *
    generalize w6.heap.size = x at *
    have k0 : w7.cell? ⟨x, 0, none⟩ = some (.int .i64 4) := X7.out.cell 0
    have k1 : w7.cell? ⟨x, 1, none⟩ = some (.int .u64 lsn) := X7.out.cell 1
    have k2 : w7.cell? ⟨x, 2, none⟩ = some (.int .u32 ep) := X7.out.cell 2
    have k3 : w7.cell? ⟨x, 3, none⟩ = some (.int .u64 txn) := X7.out.cell 3
    have k4 : w7.cell? ⟨x, 4, none⟩ = some (.int .u32 0) := X7.out.cell 4
    have k5 : w7.cell? ⟨x, 5, none⟩ = some (.int .u16 0) := X7.out.cell 5
    have k6 : w7.cell? ⟨x, 6, none⟩ = some (.slice none 0 0) := X7.out.cell 6
    have k7 : w7.cell? ⟨x, 7, none⟩ = some (.slice none 0 0) := X7.out.cell 7
    have k8 : w7.cell? ⟨x, 8, none⟩ = some (.slice none 0 0) := X7.out.cell 8
    have k9 : w7.cell? ⟨x, 9, none⟩ = some (.int .u64 0) := X7.out.cell 9
    have k10 : w7.cell? ⟨x, 10, none⟩ = some (.int .u64 0) := X7.out.cell 10
    have k11 : w7.cell? ⟨x, 11, none⟩ = some (.bool false) := X7.out.cell 11
    have k12 : w7.cell? ⟨x, 12, none⟩ = some (.int .u64 0) := X7.out.cell 12
    have k13 : w7.cell? ⟨x, 13, none⟩ = some (.slice none 0 0) := X7.out.cell 13
    have k14 : w7.cell? ⟨x, 14, none⟩ = some (.slice none 0 0) := X7.out.cell 14
    have m0 : w7.cell? ⟨w.heap.size, 0, none⟩ = some (.int .i64 0) := Z7.out.cell 0
    have m1 : w7.cell? ⟨w.heap.size, 1, none⟩ = some (.int .u64 0) := Z7.out.cell 1
    have m2 : w7.cell? ⟨w.heap.size, 2, none⟩ = some (.int .u32 0) := Z7.out.cell 2
    have m3 : w7.cell? ⟨w.heap.size, 3, none⟩ = some (.int .u64 0) := Z7.out.cell 3
    have m4 : w7.cell? ⟨w.heap.size, 4, none⟩ = some (.int .u32 0) := Z7.out.cell 4
    have m5 : w7.cell? ⟨w.heap.size, 5, none⟩ = some (.int .u16 0) := Z7.out.cell 5
    have m6 : w7.cell? ⟨w.heap.size, 6, none⟩ = some (.slice none 0 0) := Z7.out.cell 6
    have m7 : w7.cell? ⟨w.heap.size, 7, none⟩ = some (.slice none 0 0) := Z7.out.cell 7
    have m8 : w7.cell? ⟨w.heap.size, 8, none⟩ = some (.slice none 0 0) := Z7.out.cell 8
    have m9 : w7.cell? ⟨w.heap.size, 9, none⟩ = some (.int .u64 0) := Z7.out.cell 9
    have m10 : w7.cell? ⟨w.heap.size, 10, none⟩ = some (.int .u64 0) := Z7.out.cell 10
    have m11 : w7.cell? ⟨w.heap.size, 11, none⟩ = some (.bool false) := Z7.out.cell 11
    have m12 : w7.cell? ⟨w.heap.size, 12, none⟩ = some (.int .u64 0) := Z7.out.cell 12
    have m13 : w7.cell? ⟨w.heap.size, 13, none⟩ = some (.slice none 0 0) := Z7.out.cell 13
    have m14 : w7.cell? ⟨w.heap.size, 14, none⟩ = some (.slice none 0 0) := Z7.out.cell 14
    have f0 := Z7.out.free 0
    have f1 := Z7.out.free 1
    have f2 := Z7.out.free 2
    have f3 := Z7.out.free 3
    have f4 := Z7.out.free 4
    have f5 := Z7.out.free 5
    have f6 := Z7.out.free 6
    have f7 := Z7.out.free 7
    have f8 := Z7.out.free 8
    have f9 := Z7.out.free 9
    have f10 := Z7.out.free 10
    have f11 := Z7.out.free 11
    have f12 := Z7.out.free 12
    have f13 := Z7.out.free 13
    have f14 := Z7.out.free 14
    go_wp2_with fail
    refine bodyPost_ret (results_rec3 rfl _ _ w.heap.size (recR 4 lsn ep txn 0 0 (.slice none 0 0) (.slice none 0 0)) rfl rfl ?_) rfl ?_
    · exact rec_stored Z7.out _ _ _ _ _ _ _ _ _ _ _ _ _ _ _
    · exact ⟨rfl, rec_below B7.out (Nat.le_refl _) _ _ _ _ _ _ _ _ _ _ _ _ _ _ _⟩
end Go.Proofs.Ytekdogmhgijocaa
