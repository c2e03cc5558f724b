/- logrec.Read of what is undone wholly: the walk. -/
import Derived.Test.YtjhomphbfkbaoaaWaO
namespace Go.Proofs.Ytjhomphbfkbaoaa
open Go.RowKit Go.ChangeShapes Go.WideShapes Go.ChangeAt
set_option linter.unusedVariables false

def ReadPost (lsn ep txn : Int) (w : World) (e : Ending) (w' : World) : Prop := e = .returned (.tuple #[.agg (recR 4 lsn ep txn 0 0 (.slice none 0 0) (.slice none 0 0)), .int .i64 27, .int .i64 0]) ∧ Below w.heap.size w w'
set_option maxRecDepth 100000 in
set_option maxHeartbeats 8000000 in
theorem read_done (lsn ep txn : Int) (h0 : 0 ≤ lsn) (h1 : lsn < 18446744073709551616) (h2 : 0 ≤ ep) (h3 : ep < 4294967296) (h4 : 0 < txn) (h5 : txn < 18446744073709551616) (b o n c : Nat) (rest : List Int) (w : World) (hn : n = 27 + rest.length) (hi : Ints .u8 w (.slice (some ⟨b, o, none⟩) n c) (formD lsn ep txn ++ rest)) (hc : n ≤ c) (hm : n ≤ 9223372036854775807) :
    Calls Try.prog 37 #[.slice (some ⟨b, o, none⟩) n c] w (ReadPost lsn ep txn w) := by
  obtain ⟨S, x0, x1, x2, x3, x4, x5, hF⟩ := dfacts lsn ep txn h0 h1 h2 h3 (by omega) h5
  have MAY := Lib.hid fun y => may_done lsn ep txn y (by omega)
  have FRM : Hid (∀ y, Calls Try.prog 46 #[.agg (recR 4 lsn ep txn 0 0 (.slice none 0 0) (.slice none 0 0))] y fun e w' => ∃ g cc, e = .returned (.slice (some ⟨g, 0, none⟩) 27 cc) ∧ Ints .u8 w' (.slice (some ⟨g, 0, none⟩) 27 cc) x0 ∧ Below y.heap.size y w') := Lib.hid fun y => (form_done lsn ep txn y h0 h1 h2 h3 (by omega) h5).mono fun e w' ⟨v, e1, o1, b1⟩ => by
    obtain ⟨g, cc, rfl, _⟩ := gives_shape o1 (by rw [formD_len]; omega)
    have h := ints_own' o1 rfl
    rw [formD_len] at h e1
    exact ⟨g, cc, e1, by rw [hF.e0]; exact h, b1⟩
  have CEL : Hid (∀ y, Below w.heap.size w y → ∀ i, i < 27 → y.cell? ⟨b, o + i, none⟩ = some (.int .u8 (x0[i]?.getD 0))) := Lib.hid fun y k i hi27 => by
    obtain ⟨b', o', c', hv, hcc⟩ := (hi.below' k).shape (by rw [List.length_append, formD_len]; omega)
    simp only [Value.slice.injEq, Option.some.injEq, Addr.mk.injEq] at hv
    obtain ⟨⟨rfl, rfl, _⟩, _, rfl⟩ := hv
    rw [hcc i (by rw [List.length_append, formD_len]; omega), List.getElem?_append_left (by rw [formD_len]; omega), hF.e0]
  have INT : Hid (∀ y, Below w.heap.size w y → Ints .u8 y (.slice (some ⟨b, o, none⟩) 27 c) x0) := Lib.hid fun y k => .inr ⟨b, o, c, by rw [hF.l0], fun i hi27 => CEL.out y k i (by rw [hF.l0] at hi27; exact hi27)⟩
  have INT4 : Hid (∀ y, Below w.heap.size w y → Ints .u8 y (.slice (some ⟨b, o + 4, none⟩) 23 (c - 4)) x1) := Lib.hid fun y k => .inr ⟨b, o + 4, c - 4, by rw [hF.l1], fun i hi23 => by
    rw [hF.l1] at hi23
    rw [Nat.add_assoc, CEL.out y k (4 + i) (by omega), ← hF.d1, List.getElem?_drop]⟩
  have HF := Lib.hid hF
  have kc : (27 : Int) ≤ (c : Int) := by omega
  have kc5 : (5 : Int) < (n : Int) := by omega
  have kc4 : (4 : Int) < (n : Int) := by omega
  have t4 : (c - 4 : Nat) ≠ 0 := by omega
  have dn6 : decide ((n : Int) < 6) = false := decide_eq_false (by omega)
  have dn27 : decide ((n : Int) < 27) = false := decide_eq_false (by omega)
  have bo : bits .or .i64 27 0 = 27 := by kernel_rfl
  clear h0 h1 h2 h3 h4 h5 hi hF hn
  go_enter Try.func37, Try.ntmps37
  go_upto_region 1 with fail
  have R1 : Hid (Row (w.alloc (.cells #[Value.int .i64 0, .int .u64 0, .int .u32 0, .int .u64 0, .int .u32 0, .int .u16 0, .slice none 0 0, .slice none 0 0, .slice none 0 0, .int .u64 0, .int .u64 0, .bool false, .int .u64 0, .slice none 0 0, .slice none 0 0] 43)) w.heap.size rec0 43) := Lib.hid (Row.made _ _ _)
  have B1 : Hid (Below w.heap.size w (w.alloc (.cells #[Value.int .i64 0, .int .u64 0, .int .u32 0, .int .u64 0, .int .u32 0, .int .u16 0, .slice none 0 0, .slice none 0 0, .slice none 0 0, .int .u64 0, .int .u64 0, .bool false, .int .u64 0, .slice none 0 0, .slice none 0 0] 43))) := Lib.hid ((Below.refl _ _).alloc (Nat.le_refl _) _)
  generalize w.alloc (.cells #[Value.int .i64 0, .int .u64 0, .int .u32 0, .int .u64 0, .int .u32 0, .int .u16 0, .slice none 0 0, .slice none 0 0, .slice none 0 0, .int .u64 0, .int .u64 0, .bool false, .int .u64 0, .slice none 0 0, .slice none 0 0] 43) = w1 at *
  have g4 : w1.cell? ⟨b, o + 4, none⟩ = some (.int .u8 27) := by rw [CEL.out w1 B1.out 4 (by omega), HF.out.g4]; rfl
  have g5 : w1.cell? ⟨b, o + 5, none⟩ = some (.int .u8 0) := by rw [CEL.out w1 B1.out 5 (by omega), HF.out.g5]; rfl
  go_upto_region 3 with fail
  go_quiet (fail)
  clear g4 g5
  have B2 : Hid (∀ k, Below w.heap.size w (w1.drewN k)) := Lib.hid fun k => ⟨B1.out.os, B1.out.tape, B1.out.output, B1.out.size, B1.out.block⟩
  have R2 : Hid (∀ k, Row (w1.drewN k) w.heap.size rec0 43) := Lib.hid fun k => R1.out
  go_wp2_with fail
  refine (newrd_any b o 27 c x0 (w1.drewN _) HF.out.l0 (INT.out _ (B2.out _)) (by omega) (by omega)).mono ?_
  rintro _ w2 ⟨r, rfl, hr2, hb2, hrg⟩
  have I2 : Hid (RInv w w2 r x0) := Lib.hid ⟨hr2, (R2.out _).of_block (hb2.block _ (R2.out _).lt), (B2.out _).trans (hb2.mono (B2.out _).size), Nat.lt_of_lt_of_le (R2.out _).lt hrg⟩
  clear hr2 hb2 hrg R2 B2 R1 B1
  have U1 := Lib.hid fun (y : World) (h : RdAt tRd y r x0) => u32r_any r x0 y h HF.out.b0 (by rw [HF.out.l0]; omega)
  have U2 := Lib.hid fun (y : World) (h : RdAt tRd y r x1) => u16r_any r x1 y h HF.out.b1 (by rw [HF.out.l1]; omega)
  have U3 := Lib.hid fun (y : World) (h : RdAt tRd y r x2) => u64r_any r x2 y h HF.out.b2 (by rw [HF.out.l2]; omega)
  have U4 := Lib.hid fun (y : World) (h : RdAt tRd y r x3) => u32r_any r x3 y h HF.out.b3 (by rw [HF.out.l3]; omega)
  have U5 := Lib.hid fun (y : World) (h : RdAt tRd y r x4) => u8r_any r x4 y h HF.out.b4 (by rw [HF.out.l4]; omega)
  have U6 := Lib.hid fun (y : World) (h : RdAt tRd y r x5) => u64r_end r x5 y h HF.out.b5 HF.out.l5
  rw [HF.out.s, HF.out.d1] at U1
  rw [HF.out.d2] at U2
  rw [HF.out.t2, HF.out.d3] at U3
  rw [HF.out.t3, HF.out.d4] at U4
  rw [HF.out.t4, HF.out.d5] at U5
  unfold EndPost at U6
  rw [HF.out.t5] at U6
  have SK := Lib.hid fun (y : World) (h : Ints .u8 y (.slice (some ⟨b, o + 4, none⟩) 23 (c - 4)) x1) => by
    have := sum_any _ _ _ _ y HF.out.l1 h HF.out.b1 (by omega)
    unfold SumPost at this
    rw [HF.out.sum] at this
    exact this
  generalize leN (x1.take 2) = T2 at *
  go_wp2_with fail
  refine (U1.out _ I2.out.rd).mono ?_
  rintro _ w3 ⟨rfl, hr3, k3⟩
  have I3 := Lib.hid (I2.out.read hr3 k3)
  clear hr3 k3
  go_wp2_with fail
  refine (U2.out _ I3.out.rd).mono ?_
  rintro _ w4 ⟨rfl, hr4, k4⟩
  have I4 := Lib.hid (I3.out.read hr4 k4)
  clear hr4 k4
  go_wp2_with fail
  refine (SK.out _ (INT4.out _ I4.out.bl)).mono ?_
  rintro _ w5 ⟨rfl, hb5⟩
  have I5 := Lib.hid (I4.out.below (by rw [HF.out.l2]; omega) hb5)
  clear hb5
  go_wp2_with fail
  refine (U3.out _ I5.out.rd).mono ?_
  rintro _ w6 ⟨rfl, hr6, k6⟩
  have I6 := Lib.hid (I5.out.read hr6 k6)
  clear hr6 k6
  go_wp2_with fail
  refine (U4.out _ I6.out.rd).mono ?_
  rintro _ w7 ⟨rfl, hr7, k7⟩
  have I7 := Lib.hid (I6.out.read hr7 k7)
  clear hr7 k7
  go_wp2_with fail
  refine (U5.out _ I7.out.rd).mono ?_
  rintro _ w8 ⟨rfl, hr8, k8⟩
  have I8 := Lib.hid (I7.out.read hr8 k8)
  clear hr8 k8
  go_upto_region 19 with fail
  have R9 : Hid (Row (w8.alloc (.cells #[Value.int .i64 4, .int .u64 lsn, .int .u32 ep, .int .u64 0, .int .u32 0, .int .u16 0, .slice none 0 0, .slice none 0 0, .slice none 0 0, .int .u64 0, .int .u64 0, .bool false, .int .u64 0, .slice none 0 0, .slice none 0 0] 43)) w8.heap.size (recR 4 lsn ep 0 0 0 (.slice none 0 0) (.slice none 0 0)) 43) := Lib.hid (Row.made _ _ _)
  have I9 : Hid (RInv w (w8.alloc (.cells #[Value.int .i64 4, .int .u64 lsn, .int .u32 ep, .int .u64 0, .int .u32 0, .int .u16 0, .slice none 0 0, .slice none 0 0, .slice none 0 0, .int .u64 0, .int .u64 0, .bool false, .int .u64 0, .slice none 0 0, .slice none 0 0] 43)) r x5) := Lib.hid (I8.out.below (by rw [HF.out.l5]; omega) ((Below.refl _ _).alloc (Nat.le_refl _) _))
  have XR : Hid (r < w8.heap.size ∧ w.heap.size ≤ w8.heap.size) := Lib.hid ⟨by obtain ⟨_, _, _, h, _⟩ := I8.out.rd.at_; exact h.lt, I8.out.bl.size⟩
  generalize w8.alloc (.cells #[Value.int .i64 4, .int .u64 lsn, .int .u32 ep, .int .u64 0, .int .u32 0, .int .u16 0, .slice none 0 0, .slice none 0 0, .slice none 0 0, .int .u64 0, .int .u64 0, .bool false, .int .u64 0, .slice none 0 0, .slice none 0 0] 43) = w9 at *
  generalize w8.heap.size = x at *
  go_wp2_with fail
  refine (U6.out _ I9.out.rd).mono ?_
  rintro _ w10 ⟨rfl, hr10, k10⟩
  have R10 := Lib.hid (R9.out.only k10 (by simp; have := XR.out; omega))
  have E10 := Lib.hid hr10
  have Z10 := Lib.hid (I9.out.res.only k10 (by simp; have := I9.out.hr; omega))
  have B10 := Lib.hid (I9.out.bl.trans (k10.toBelow I9.out.bl.size fun i hi => by simp at hi; have := I9.out.hr; omega))
  have HR : Hid (w.heap.size < r) := Lib.hid I9.out.hr
  have f3 := R10.out.free 3
  have m3 : w10.cell? ⟨x, 3, none⟩ = some (.int .u64 0) := R10.out.cell 3
  clear hr10 k10 I9 R9 I2 I3 I4 I5 I6 I7 I8 U1 U2 U3 U4 U5 U6 SK
  go_upto_region 29 with fail
  have kk : Only [x] w10 (w10.setCell ⟨x, 3, none⟩ (.int .u64 txn)) := (Only.refl [x] w10).setCell (.inl (by simp)) _
  have R11 : Hid (Row (w10.setCell ⟨x, 3, none⟩ (.int .u64 txn)) x (recR 4 lsn ep txn 0 0 (.slice none 0 0) (.slice none 0 0)) 43) := Lib.hid (R10.out.set 3 (.int .u64 txn))
  have E11 : Hid (RdEnd (w10.setCell ⟨x, 3, none⟩ (.int .u64 txn)) r) := Lib.hid (by obtain ⟨v, h⟩ := E10.out; exact ⟨v, h.only kk (by simp; have := XR.out; omega)⟩)
  have Z11 := Lib.hid (Z10.out.only kk (by simp; have := XR.out; have := HR.out; omega))
  have B11 := Lib.hid (B10.out.trans (kk.toBelow B10.out.size fun i hi => by simp at hi; have := XR.out; omega))
  clear kk f3 m3 R10 E10 Z10 B10
  generalize w10.setCell ⟨x, 3, none⟩ (.int .u64 txn) = w11 at *
  obtain ⟨ve, hE⟩ := E11.out
  have EK := Lib.hid fun (y : World) (k : Below w11.heap.size w11 y) => err_any r ve y (hE.of_block (k.block _ hE.lt))
  have SO : Hid (∀ y, Below w11.heap.size w11 y → y.cell? ⟨x, 0, none⟩ = some (.int .i64 4) ∧ y.cell? ⟨x, 1, none⟩ = some (.int .u64 lsn) ∧ y.cell? ⟨x, 2, none⟩ = some (.int .u32 ep) ∧ y.cell? ⟨x, 3, none⟩ = some (.int .u64 txn) ∧ y.cell? ⟨x, 4, none⟩ = some (.int .u32 0) ∧ y.cell? ⟨x, 5, none⟩ = some (.int .u16 0) ∧ y.cell? ⟨x, 6, none⟩ = some (.slice none 0 0) ∧ y.cell? ⟨x, 7, none⟩ = some (.slice none 0 0) ∧ y.cell? ⟨x, 8, none⟩ = some (.slice none 0 0) ∧ y.cell? ⟨x, 9, none⟩ = some (.int .u64 0) ∧ y.cell? ⟨x, 10, none⟩ = some (.int .u64 0) ∧ y.cell? ⟨x, 11, none⟩ = some (.bool false) ∧ y.cell? ⟨x, 12, none⟩ = some (.int .u64 0) ∧ y.cell? ⟨x, 13, none⟩ = some (.slice none 0 0) ∧ y.cell? ⟨x, 14, none⟩ = some (.slice none 0 0)) := Lib.hid fun y k => by
    have h := R11.out.of_block (k.block _ R11.out.lt)
    exact ⟨h.cell 0, h.cell 1, h.cell 2, h.cell 3, h.cell 4, h.cell 5, h.cell 6, h.cell 7, h.cell 8, h.cell 9, h.cell 10, h.cell 11, h.cell 12, h.cell 13, h.cell 14⟩
  have B0 : Hid (Below w11.heap.size w11 w11.drew) := Lib.hid (Below.refl _ _).drew
  have EQ : Hid (∀ (y : World) (g cc : Nat), Below w11.heap.size w11 y → Ints .u8 y (.slice (some ⟨g, 0, none⟩) 27 cc) x0 → Calls Try.prog 60 #[.slice (some ⟨g, 0, none⟩) 27 cc, .slice (some ⟨b, o, none⟩) 27 c] y fun e w' => e = .returned (.bool true) ∧ w' = y) := Lib.hid fun y g cc k j => equal_same _ _ 27 cc c x0 y HF.out.l0 (by omega) j (INT.out y (B11.out.trans (k.mono B11.out.size)))
  clear hE E11
  go_region_held3 (fun y => y.cell? ⟨x, 0, none⟩ = some (.int .i64 4) ∧ y.cell? ⟨x, 1, none⟩ = some (.int .u64 lsn) ∧ y.cell? ⟨x, 2, none⟩ = some (.int .u32 ep) ∧ y.cell? ⟨x, 3, none⟩ = some (.int .u64 txn) ∧ y.cell? ⟨x, 4, none⟩ = some (.int .u32 0) ∧ y.cell? ⟨x, 5, none⟩ = some (.int .u16 0) ∧ y.cell? ⟨x, 6, none⟩ = some (.slice none 0 0) ∧ y.cell? ⟨x, 7, none⟩ = some (.slice none 0 0) ∧ y.cell? ⟨x, 8, none⟩ = some (.slice none 0 0) ∧ y.cell? ⟨x, 9, none⟩ = some (.int .u64 0) ∧ y.cell? ⟨x, 10, none⟩ = some (.int .u64 0) ∧ y.cell? ⟨x, 11, none⟩ = some (.bool false) ∧ y.cell? ⟨x, 12, none⟩ = some (.int .u64 0) ∧ y.cell? ⟨x, 13, none⟩ = some (.slice none 0 0) ∧ y.cell? ⟨x, 14, none⟩ = some (.slice none 0 0))
    (first
      | exact SO.out _ X3.out
      | exact SO.out _ X2.out
      | exact SO.out _ B0.out)
    (first
      | (go_at_call 60; refine (EQ.out y3 g3 c3 X3.out J3.out).mono ?_; rintro _ y4 ⟨rfl, hy4⟩; subst y4)
      | (go_at_call 46; refine (FRM.out y2).mono ?_; rintro _ y3 ⟨g3, c3, rfl, j3, b3⟩; have J3 := Lib.hid j3; have X3 : Hid (Below w11.heap.size w11 y3) := Lib.hid (X2.out.trans (b3.mono X2.out.size)))
      | (go_at_call 45; refine (MAY.out w11.drew).mono ?_; rintro _ y2 ⟨rfl, b2⟩; have X2 : Hid (Below w11.heap.size w11 y2) := Lib.hid (B0.out.trans (b2.mono B0.out.size)))
      | (go_at_call 59; refine (EK.out _ B0.out).mono ?_; rintro _ y1 ⟨rfl, hy⟩; subst hy))
  have ZY := Lib.hid (Z11.out.of_block (X3.out.block _ Z11.out.lt))
  have BY := Lib.hid (B11.out.trans (X3.out.mono B11.out.size))
  obtain ⟨k0, k1, k2, k3, k4, k5, k6, k7, k8, k9, k10, k11, k12, k13, k14⟩ := SO.out y3 X3.out
  have m0 : y3.cell? ⟨w.heap.size, 0, none⟩ = some (.int .i64 0) := ZY.out.cell 0
  have m1 : y3.cell? ⟨w.heap.size, 1, none⟩ = some (.int .u64 0) := ZY.out.cell 1
  have m2 : y3.cell? ⟨w.heap.size, 2, none⟩ = some (.int .u32 0) := ZY.out.cell 2
  have m3 : y3.cell? ⟨w.heap.size, 3, none⟩ = some (.int .u64 0) := ZY.out.cell 3
  have m4 : y3.cell? ⟨w.heap.size, 4, none⟩ = some (.int .u32 0) := ZY.out.cell 4
  have m5 : y3.cell? ⟨w.heap.size, 5, none⟩ = some (.int .u16 0) := ZY.out.cell 5
  have m6 : y3.cell? ⟨w.heap.size, 6, none⟩ = some (.slice none 0 0) := ZY.out.cell 6
  have m7 : y3.cell? ⟨w.heap.size, 7, none⟩ = some (.slice none 0 0) := ZY.out.cell 7
  have m8 : y3.cell? ⟨w.heap.size, 8, none⟩ = some (.slice none 0 0) := ZY.out.cell 8
  have m9 : y3.cell? ⟨w.heap.size, 9, none⟩ = some (.int .u64 0) := ZY.out.cell 9
  have m10 : y3.cell? ⟨w.heap.size, 10, none⟩ = some (.int .u64 0) := ZY.out.cell 10
  have m11 : y3.cell? ⟨w.heap.size, 11, none⟩ = some (.bool false) := ZY.out.cell 11
  have m12 : y3.cell? ⟨w.heap.size, 12, none⟩ = some (.int .u64 0) := ZY.out.cell 12
  have m13 : y3.cell? ⟨w.heap.size, 13, none⟩ = some (.slice none 0 0) := ZY.out.cell 13
  have m14 : y3.cell? ⟨w.heap.size, 14, none⟩ = some (.slice none 0 0) := ZY.out.cell 14
  have f0 := ZY.out.free 0
  have f1 := ZY.out.free 1
  have f2 := ZY.out.free 2
  have f3 := ZY.out.free 3
  have f4 := ZY.out.free 4
  have f5 := ZY.out.free 5
  have f6 := ZY.out.free 6
  have f7 := ZY.out.free 7
  have f8 := ZY.out.free 8
  have f9 := ZY.out.free 9
  have f10 := ZY.out.free 10
  have f11 := ZY.out.free 11
  have f12 := ZY.out.free 12
  have f13 := ZY.out.free 13
  have f14 := ZY.out.free 14
  have hwx : w.heap.size < x := Nat.lt_trans HR.out XR.out.1
  clear b2 b3 j3
  go_wp2_with fail
  refine bodyPost_ret (results_rec3 rfl _ _ w.heap.size (recR 4 lsn ep txn 0 0 (.slice none 0 0) (.slice none 0 0)) rfl rfl ?_) rfl ?_
  · exact rec_stored ZY.out _ _ _ _ _ _ _ _ _ _ _ _ _ _ _
  · exact ⟨rfl, rec_below BY.out (Nat.le_refl _) _ _ _ _ _ _ _ _ _ _ _ _ _ _ _⟩
end Go.Proofs.Ytjhomphbfkbaoaa
