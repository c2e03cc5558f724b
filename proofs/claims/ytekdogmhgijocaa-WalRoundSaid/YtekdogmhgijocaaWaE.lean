/- May at records of a write and of what is undone wholly. -/
import Derived.Test.YtekdogmhgijocaaMg12
import Derived.Deep.Cut
set_option linter.unusedSimpArgs false
namespace Go.Proofs.Ytekdogmhgijocaa
open Go.RowKit Go.ChangeShapes Go.WideShapes Go.ChangeAt
set_option linter.unusedVariables false

theorem recSize : (Try.prog.info? 43).map (·.size) = some 15 := by kernel_rfl
theorem recR_size (kind lsn ep txn pg off : Int) (v1 v2 : Value) : (recR kind lsn ep txn pg off v1 v2).size = 15 := rfl
theorem load_rec {w : World} {q : Nat} {kind lsn ep txn pg off : Int} {v1 v2 : Value} (h : Row w q (recR kind lsn ep txn pg off v1 v2) 43) : (Instr.loadAt 43 (.pointer (some ⟨q, 0, none⟩))).run Try.prog w = .ok (.agg (recR kind lsn ep txn pg off v1 v2)) w := by
  have := run_loadAt_cells (P := Try.prog) (ty := 43) h.cells Try.underlying43 rfl (by rw [recSize]; rfl)
  simpa using this
set_option maxRecDepth 100000 in
set_option maxHeartbeats 4000000 in
theorem may_write (lsn ep pg off : Int) (a1 a2 : Option Addr) (n c1 c2 : Nat) (w : World) (hp : 0 < n) (hn : n ≤ 500) (h0 : 0 ≤ off) (ho : off + n ≤ 500) : Calls Try.prog 45 #[.agg (recR 1 lsn ep 0 pg off (.slice a1 n c1) (.slice a2 n c2))] w fun e w' => e = .returned (.bool true) ∧ Below w.heap.size w w' := by
  have d1 : decide ((0 : Int) < (n : Int)) = true := decide_eq_true (by omega)
  have d2 : decide ((n : Int) ≤ 500) = true := decide_eq_true (by omega)
  have e1 : IntKind.i64.wrap off = off := IntWalk.i64_in _ (by omega)
  have e2 : IntKind.i64.wrap (off + n) = off + n := IntWalk.i64_in _ (by omega)
  have d3 : decide (off + (n : Int) ≤ 500) = true := decide_eq_true (by omega)
  have d4 : ((n : Int) == (n : Int)) = true := by simp
  clear h0 ho
  obtain ⟨R, hR⟩ : ∃ R, recR 1 lsn ep 0 pg off (.slice a1 n c1) (.slice a2 n c2) = R := ⟨_, rfl⟩
  have R1 : Hid (Row (w.alloc (.cells R 43)) w.heap.size (recR 1 lsn ep 0 pg off (.slice a1 n c1) (.slice a2 n c2)) 43) := Lib.hid (by rw [hR]; exact Row.made _ _ _)
  have HR := Lib.hid hR
  rw [hR]
  clear hR
  go_enter Try.func45, Try.ntmps45
  go_upto_region 1 with fail
  have B1 : Hid (Below w.heap.size w (w.alloc (.cells R 43))) := Lib.hid ((Below.refl _ _).alloc (Nat.le_refl _) _)
  generalize w.alloc (.cells R 43) = w1 at *
  have k0 : w1.cell? ⟨w.heap.size, 0, none⟩ = some (.int .i64 1) := R1.out.cell 0
  have k1 : w1.cell? ⟨w.heap.size, 1, none⟩ = some (.int .u64 lsn) := R1.out.cell 1
  have k2 : w1.cell? ⟨w.heap.size, 2, none⟩ = some (.int .u32 ep) := R1.out.cell 2
  have k3 : w1.cell? ⟨w.heap.size, 3, none⟩ = some (.int .u64 0) := R1.out.cell 3
  have k4 : w1.cell? ⟨w.heap.size, 4, none⟩ = some (.int .u32 pg) := R1.out.cell 4
  have k5 : w1.cell? ⟨w.heap.size, 5, none⟩ = some (.int .u16 off) := R1.out.cell 5
  have k6 : w1.cell? ⟨w.heap.size, 6, none⟩ = some (.slice a1 n c1) := R1.out.cell 6
  have k7 : w1.cell? ⟨w.heap.size, 7, none⟩ = some (.slice a2 n c2) := R1.out.cell 7
  have k8 : w1.cell? ⟨w.heap.size, 8, none⟩ = some (.slice none 0 0) := R1.out.cell 8
  have k9 : w1.cell? ⟨w.heap.size, 9, none⟩ = some (.int .u64 0) := R1.out.cell 9
  have k10 : w1.cell? ⟨w.heap.size, 10, none⟩ = some (.int .u64 0) := R1.out.cell 10
  have k11 : w1.cell? ⟨w.heap.size, 11, none⟩ = some (.bool false) := R1.out.cell 11
  have k12 : w1.cell? ⟨w.heap.size, 12, none⟩ = some (.int .u64 0) := R1.out.cell 12
  have k13 : w1.cell? ⟨w.heap.size, 13, none⟩ = some (.slice none 0 0) := R1.out.cell 13
  have k14 : w1.cell? ⟨w.heap.size, 14, none⟩ = some (.slice none 0 0) := R1.out.cell 14
  have hq : w.heap.size < w1.heap.size := R1.out.lt
  go_wp2_with fail
  refine (none_ww lsn ep pg off a1 a2 n c1 n c2 w1.heap.size (w1.alloc (.cells #[.int .i64 1] 37)) (by simp [go_sem]) (by simp [go_sem])).mono ?_
  rintro _ w2 ⟨rfl, hb⟩
  have B2 : Hid (Below w.heap.size w w2) := Lib.hid ((B1.out.alloc B1.out.size _).trans (hb.mono (Nat.le_trans B1.out.size (by simp))))
  have R2 := Lib.hid (R1.out.of_block ((hb.block _ (Nat.lt_of_lt_of_le R1.out.lt (by simp))).trans (Below.heap_alloc _ _ _ R1.out.lt)))
  clear hb k0 k1 k2 k3 k4 k5 k6 k7 k8 k9 k10 k11 k12 k13 k14 hq
  have k0 : w2.cell? ⟨w.heap.size, 0, none⟩ = some (.int .i64 1) := R2.out.cell 0
  have k1 : w2.cell? ⟨w.heap.size, 1, none⟩ = some (.int .u64 lsn) := R2.out.cell 1
  have k2 : w2.cell? ⟨w.heap.size, 2, none⟩ = some (.int .u32 ep) := R2.out.cell 2
  have k3 : w2.cell? ⟨w.heap.size, 3, none⟩ = some (.int .u64 0) := R2.out.cell 3
  have k4 : w2.cell? ⟨w.heap.size, 4, none⟩ = some (.int .u32 pg) := R2.out.cell 4
  have k5 : w2.cell? ⟨w.heap.size, 5, none⟩ = some (.int .u16 off) := R2.out.cell 5
  have k6 : w2.cell? ⟨w.heap.size, 6, none⟩ = some (.slice a1 n c1) := R2.out.cell 6
  have k7 : w2.cell? ⟨w.heap.size, 7, none⟩ = some (.slice a2 n c2) := R2.out.cell 7
  have k8 : w2.cell? ⟨w.heap.size, 8, none⟩ = some (.slice none 0 0) := R2.out.cell 8
  have k9 : w2.cell? ⟨w.heap.size, 9, none⟩ = some (.int .u64 0) := R2.out.cell 9
  have k10 : w2.cell? ⟨w.heap.size, 10, none⟩ = some (.int .u64 0) := R2.out.cell 10
  have k11 : w2.cell? ⟨w.heap.size, 11, none⟩ = some (.bool false) := R2.out.cell 11
  have k12 : w2.cell? ⟨w.heap.size, 12, none⟩ = some (.int .u64 0) := R2.out.cell 12
  have k13 : w2.cell? ⟨w.heap.size, 13, none⟩ = some (.slice none 0 0) := R2.out.cell 13
  have k14 : w2.cell? ⟨w.heap.size, 14, none⟩ = some (.slice none 0 0) := R2.out.cell 14
  have hq : w.heap.size < w2.heap.size := R2.out.lt
  go_wp2_with fail
  refine (none_we lsn ep pg off a1 a2 n c1 n c2 w2.heap.size (w2.alloc (.cells #[.int .i64 2] 37)) (by simp [go_sem]) (by simp [go_sem])).mono ?_
  rintro _ w3 ⟨rfl, hb⟩
  have B3 : Hid (Below w.heap.size w w3) := Lib.hid ((B2.out.alloc B2.out.size _).trans (hb.mono (Nat.le_trans B2.out.size (by simp))))
  have R3 := Lib.hid (R2.out.of_block ((hb.block _ (Nat.lt_of_lt_of_le R2.out.lt (by simp))).trans (Below.heap_alloc _ _ _ R2.out.lt)))
  clear hb k0 k1 k2 k3 k4 k5 k6 k7 k8 k9 k10 k11 k12 k13 k14 hq
  have k0 : w3.cell? ⟨w.heap.size, 0, none⟩ = some (.int .i64 1) := R3.out.cell 0
  have k1 : w3.cell? ⟨w.heap.size, 1, none⟩ = some (.int .u64 lsn) := R3.out.cell 1
  have k2 : w3.cell? ⟨w.heap.size, 2, none⟩ = some (.int .u32 ep) := R3.out.cell 2
  have k3 : w3.cell? ⟨w.heap.size, 3, none⟩ = some (.int .u64 0) := R3.out.cell 3
  have k4 : w3.cell? ⟨w.heap.size, 4, none⟩ = some (.int .u32 pg) := R3.out.cell 4
  have k5 : w3.cell? ⟨w.heap.size, 5, none⟩ = some (.int .u16 off) := R3.out.cell 5
  have k6 : w3.cell? ⟨w.heap.size, 6, none⟩ = some (.slice a1 n c1) := R3.out.cell 6
  have k7 : w3.cell? ⟨w.heap.size, 7, none⟩ = some (.slice a2 n c2) := R3.out.cell 7
  have k8 : w3.cell? ⟨w.heap.size, 8, none⟩ = some (.slice none 0 0) := R3.out.cell 8
  have k9 : w3.cell? ⟨w.heap.size, 9, none⟩ = some (.int .u64 0) := R3.out.cell 9
  have k10 : w3.cell? ⟨w.heap.size, 10, none⟩ = some (.int .u64 0) := R3.out.cell 10
  have k11 : w3.cell? ⟨w.heap.size, 11, none⟩ = some (.bool false) := R3.out.cell 11
  have k12 : w3.cell? ⟨w.heap.size, 12, none⟩ = some (.int .u64 0) := R3.out.cell 12
  have k13 : w3.cell? ⟨w.heap.size, 13, none⟩ = some (.slice none 0 0) := R3.out.cell 13
  have k14 : w3.cell? ⟨w.heap.size, 14, none⟩ = some (.slice none 0 0) := R3.out.cell 14
  have hq : w.heap.size < w3.heap.size := R3.out.lt
  go_wp2_with fail
  refine (none_wx lsn ep pg off a1 a2 n c1 n c2 w3.heap.size (w3.alloc (.cells #[.int .i64 2, .int .i64 3, .int .i64 4] 37)) (by simp [go_sem]) (by simp [go_sem])).mono ?_
  rintro _ w4 ⟨rfl, hb⟩
  have B4 : Hid (Below w.heap.size w w4) := Lib.hid ((B3.out.alloc B3.out.size _).trans (hb.mono (Nat.le_trans B3.out.size (by simp))))
  have R4 := Lib.hid (R3.out.of_block ((hb.block _ (Nat.lt_of_lt_of_le R3.out.lt (by simp))).trans (Below.heap_alloc _ _ _ R3.out.lt)))
  clear hb k0 k1 k2 k3 k4 k5 k6 k7 k8 k9 k10 k11 k12 k13 k14 hq
  have k0 : w4.cell? ⟨w.heap.size, 0, none⟩ = some (.int .i64 1) := R4.out.cell 0
  have k1 : w4.cell? ⟨w.heap.size, 1, none⟩ = some (.int .u64 lsn) := R4.out.cell 1
  have k2 : w4.cell? ⟨w.heap.size, 2, none⟩ = some (.int .u32 ep) := R4.out.cell 2
  have k3 : w4.cell? ⟨w.heap.size, 3, none⟩ = some (.int .u64 0) := R4.out.cell 3
  have k4 : w4.cell? ⟨w.heap.size, 4, none⟩ = some (.int .u32 pg) := R4.out.cell 4
  have k5 : w4.cell? ⟨w.heap.size, 5, none⟩ = some (.int .u16 off) := R4.out.cell 5
  have k6 : w4.cell? ⟨w.heap.size, 6, none⟩ = some (.slice a1 n c1) := R4.out.cell 6
  have k7 : w4.cell? ⟨w.heap.size, 7, none⟩ = some (.slice a2 n c2) := R4.out.cell 7
  have k8 : w4.cell? ⟨w.heap.size, 8, none⟩ = some (.slice none 0 0) := R4.out.cell 8
  have k9 : w4.cell? ⟨w.heap.size, 9, none⟩ = some (.int .u64 0) := R4.out.cell 9
  have k10 : w4.cell? ⟨w.heap.size, 10, none⟩ = some (.int .u64 0) := R4.out.cell 10
  have k11 : w4.cell? ⟨w.heap.size, 11, none⟩ = some (.bool false) := R4.out.cell 11
  have k12 : w4.cell? ⟨w.heap.size, 12, none⟩ = some (.int .u64 0) := R4.out.cell 12
  have k13 : w4.cell? ⟨w.heap.size, 13, none⟩ = some (.slice none 0 0) := R4.out.cell 13
  have k14 : w4.cell? ⟨w.heap.size, 14, none⟩ = some (.slice none 0 0) := R4.out.cell 14
  have hq : w.heap.size < w4.heap.size := R4.out.lt
  go_wp2_with fail
  refine (none_wc lsn ep pg off a1 a2 n c1 n c2 w4.heap.size (w4.alloc (.cells #[.int .i64 3] 37)) (by simp [go_sem]) (by simp [go_sem])).mono ?_
  rintro _ w5 ⟨rfl, hb⟩
  have B5 : Hid (Below w.heap.size w w5) := Lib.hid ((B4.out.alloc B4.out.size _).trans (hb.mono (Nat.le_trans B4.out.size (by simp))))
  have R5 := Lib.hid (R4.out.of_block ((hb.block _ (Nat.lt_of_lt_of_le R4.out.lt (by simp))).trans (Below.heap_alloc _ _ _ R4.out.lt)))
  clear hb k0 k1 k2 k3 k4 k5 k6 k7 k8 k9 k10 k11 k12 k13 k14 hq
  have k0 : w5.cell? ⟨w.heap.size, 0, none⟩ = some (.int .i64 1) := R5.out.cell 0
  have k1 : w5.cell? ⟨w.heap.size, 1, none⟩ = some (.int .u64 lsn) := R5.out.cell 1
  have k2 : w5.cell? ⟨w.heap.size, 2, none⟩ = some (.int .u32 ep) := R5.out.cell 2
  have k3 : w5.cell? ⟨w.heap.size, 3, none⟩ = some (.int .u64 0) := R5.out.cell 3
  have k4 : w5.cell? ⟨w.heap.size, 4, none⟩ = some (.int .u32 pg) := R5.out.cell 4
  have k5 : w5.cell? ⟨w.heap.size, 5, none⟩ = some (.int .u16 off) := R5.out.cell 5
  have k6 : w5.cell? ⟨w.heap.size, 6, none⟩ = some (.slice a1 n c1) := R5.out.cell 6
  have k7 : w5.cell? ⟨w.heap.size, 7, none⟩ = some (.slice a2 n c2) := R5.out.cell 7
  have k8 : w5.cell? ⟨w.heap.size, 8, none⟩ = some (.slice none 0 0) := R5.out.cell 8
  have k9 : w5.cell? ⟨w.heap.size, 9, none⟩ = some (.int .u64 0) := R5.out.cell 9
  have k10 : w5.cell? ⟨w.heap.size, 10, none⟩ = some (.int .u64 0) := R5.out.cell 10
  have k11 : w5.cell? ⟨w.heap.size, 11, none⟩ = some (.bool false) := R5.out.cell 11
  have k12 : w5.cell? ⟨w.heap.size, 12, none⟩ = some (.int .u64 0) := R5.out.cell 12
  have k13 : w5.cell? ⟨w.heap.size, 13, none⟩ = some (.slice none 0 0) := R5.out.cell 13
  have k14 : w5.cell? ⟨w.heap.size, 14, none⟩ = some (.slice none 0 0) := R5.out.cell 14
  have hq : w.heap.size < w5.heap.size := R5.out.lt
  go_wp2_with fail
  refine (none_wp lsn ep pg off a1 a2 n c1 n c2 w5.heap.size (w5.alloc (.cells #[.int .i64 5] 37)) (by simp [go_sem]) (by simp [go_sem])).mono ?_
  rintro _ w6 ⟨rfl, hb⟩
  have B6 : Hid (Below w.heap.size w w6) := Lib.hid ((B5.out.alloc B5.out.size _).trans (hb.mono (Nat.le_trans B5.out.size (by simp))))
  have R6 := Lib.hid (R5.out.of_block ((hb.block _ (Nat.lt_of_lt_of_le R5.out.lt (by simp))).trans (Below.heap_alloc _ _ _ R5.out.lt)))
  clear hb k0 k1 k2 k3 k4 k5 k6 k7 k8 k9 k10 k11 k12 k13 k14 hq
  have k0 : w6.cell? ⟨w.heap.size, 0, none⟩ = some (.int .i64 1) := R6.out.cell 0
  have k1 : w6.cell? ⟨w.heap.size, 1, none⟩ = some (.int .u64 lsn) := R6.out.cell 1
  have k2 : w6.cell? ⟨w.heap.size, 2, none⟩ = some (.int .u32 ep) := R6.out.cell 2
  have k3 : w6.cell? ⟨w.heap.size, 3, none⟩ = some (.int .u64 0) := R6.out.cell 3
  have k4 : w6.cell? ⟨w.heap.size, 4, none⟩ = some (.int .u32 pg) := R6.out.cell 4
  have k5 : w6.cell? ⟨w.heap.size, 5, none⟩ = some (.int .u16 off) := R6.out.cell 5
  have k6 : w6.cell? ⟨w.heap.size, 6, none⟩ = some (.slice a1 n c1) := R6.out.cell 6
  have k7 : w6.cell? ⟨w.heap.size, 7, none⟩ = some (.slice a2 n c2) := R6.out.cell 7
  have k8 : w6.cell? ⟨w.heap.size, 8, none⟩ = some (.slice none 0 0) := R6.out.cell 8
  have k9 : w6.cell? ⟨w.heap.size, 9, none⟩ = some (.int .u64 0) := R6.out.cell 9
  have k10 : w6.cell? ⟨w.heap.size, 10, none⟩ = some (.int .u64 0) := R6.out.cell 10
  have k11 : w6.cell? ⟨w.heap.size, 11, none⟩ = some (.bool false) := R6.out.cell 11
  have k12 : w6.cell? ⟨w.heap.size, 12, none⟩ = some (.int .u64 0) := R6.out.cell 12
  have k13 : w6.cell? ⟨w.heap.size, 13, none⟩ = some (.slice none 0 0) := R6.out.cell 13
  have k14 : w6.cell? ⟨w.heap.size, 14, none⟩ = some (.slice none 0 0) := R6.out.cell 14
  have hq : w.heap.size < w6.heap.size := R6.out.lt
  go_wp2_with fail
  go_ret
  exact ⟨rfl, B6.out⟩
set_option maxRecDepth 100000 in
set_option maxHeartbeats 4000000 in
theorem may_done (lsn ep txn : Int) (w : World) (ht : txn ≠ 0) : Calls Try.prog 45 #[.agg (recR 4 lsn ep txn 0 0 (.slice none 0 0) (.slice none 0 0))] w fun e w' => e = .returned (.bool true) ∧ Below w.heap.size w w' := by
  have d1 : (txn != 0) = true := by simpa using ht
  clear ht
  obtain ⟨R, hR⟩ : ∃ R, recR 4 lsn ep txn 0 0 (.slice none 0 0) (.slice none 0 0) = R := ⟨_, rfl⟩
  have R1 : Hid (Row (w.alloc (.cells R 43)) w.heap.size (recR 4 lsn ep txn 0 0 (.slice none 0 0) (.slice none 0 0)) 43) := Lib.hid (by rw [hR]; exact Row.made _ _ _)
  have HR := Lib.hid hR
  rw [hR]
  clear hR
  go_enter Try.func45, Try.ntmps45
  go_upto_region 1 with fail
  have B1 : Hid (Below w.heap.size w (w.alloc (.cells R 43))) := Lib.hid ((Below.refl _ _).alloc (Nat.le_refl _) _)
  generalize w.alloc (.cells R 43) = w1 at *
  have k0 : w1.cell? ⟨w.heap.size, 0, none⟩ = some (.int .i64 4) := R1.out.cell 0
  have k1 : w1.cell? ⟨w.heap.size, 1, none⟩ = some (.int .u64 lsn) := R1.out.cell 1
  have k2 : w1.cell? ⟨w.heap.size, 2, none⟩ = some (.int .u32 ep) := R1.out.cell 2
  have k3 : w1.cell? ⟨w.heap.size, 3, none⟩ = some (.int .u64 txn) := R1.out.cell 3
  have k4 : w1.cell? ⟨w.heap.size, 4, none⟩ = some (.int .u32 0) := R1.out.cell 4
  have k5 : w1.cell? ⟨w.heap.size, 5, none⟩ = some (.int .u16 0) := R1.out.cell 5
  have k6 : w1.cell? ⟨w.heap.size, 6, none⟩ = some (.slice none 0 0) := R1.out.cell 6
  have k7 : w1.cell? ⟨w.heap.size, 7, none⟩ = some (.slice none 0 0) := R1.out.cell 7
  have k8 : w1.cell? ⟨w.heap.size, 8, none⟩ = some (.slice none 0 0) := R1.out.cell 8
  have k9 : w1.cell? ⟨w.heap.size, 9, none⟩ = some (.int .u64 0) := R1.out.cell 9
  have k10 : w1.cell? ⟨w.heap.size, 10, none⟩ = some (.int .u64 0) := R1.out.cell 10
  have k11 : w1.cell? ⟨w.heap.size, 11, none⟩ = some (.bool false) := R1.out.cell 11
  have k12 : w1.cell? ⟨w.heap.size, 12, none⟩ = some (.int .u64 0) := R1.out.cell 12
  have k13 : w1.cell? ⟨w.heap.size, 13, none⟩ = some (.slice none 0 0) := R1.out.cell 13
  have k14 : w1.cell? ⟨w.heap.size, 14, none⟩ = some (.slice none 0 0) := R1.out.cell 14
  have hq : w.heap.size < w1.heap.size := R1.out.lt
  go_wp2_with fail
  refine (none_dw lsn ep txn w1.heap.size (w1.alloc (.cells #[.int .i64 1] 37)) (by simp [go_sem]) (by simp [go_sem])).mono ?_
  rintro _ w2 ⟨rfl, hb⟩
  have B2 : Hid (Below w.heap.size w w2) := Lib.hid ((B1.out.alloc B1.out.size _).trans (hb.mono (Nat.le_trans B1.out.size (by simp))))
  have R2 := Lib.hid (R1.out.of_block ((hb.block _ (Nat.lt_of_lt_of_le R1.out.lt (by simp))).trans (Below.heap_alloc _ _ _ R1.out.lt)))
  clear hb k0 k1 k2 k3 k4 k5 k6 k7 k8 k9 k10 k11 k12 k13 k14 hq
  have k0 : w2.cell? ⟨w.heap.size, 0, none⟩ = some (.int .i64 4) := R2.out.cell 0
  have k1 : w2.cell? ⟨w.heap.size, 1, none⟩ = some (.int .u64 lsn) := R2.out.cell 1
  have k2 : w2.cell? ⟨w.heap.size, 2, none⟩ = some (.int .u32 ep) := R2.out.cell 2
  have k3 : w2.cell? ⟨w.heap.size, 3, none⟩ = some (.int .u64 txn) := R2.out.cell 3
  have k4 : w2.cell? ⟨w.heap.size, 4, none⟩ = some (.int .u32 0) := R2.out.cell 4
  have k5 : w2.cell? ⟨w.heap.size, 5, none⟩ = some (.int .u16 0) := R2.out.cell 5
  have k6 : w2.cell? ⟨w.heap.size, 6, none⟩ = some (.slice none 0 0) := R2.out.cell 6
  have k7 : w2.cell? ⟨w.heap.size, 7, none⟩ = some (.slice none 0 0) := R2.out.cell 7
  have k8 : w2.cell? ⟨w.heap.size, 8, none⟩ = some (.slice none 0 0) := R2.out.cell 8
  have k9 : w2.cell? ⟨w.heap.size, 9, none⟩ = some (.int .u64 0) := R2.out.cell 9
  have k10 : w2.cell? ⟨w.heap.size, 10, none⟩ = some (.int .u64 0) := R2.out.cell 10
  have k11 : w2.cell? ⟨w.heap.size, 11, none⟩ = some (.bool false) := R2.out.cell 11
  have k12 : w2.cell? ⟨w.heap.size, 12, none⟩ = some (.int .u64 0) := R2.out.cell 12
  have k13 : w2.cell? ⟨w.heap.size, 13, none⟩ = some (.slice none 0 0) := R2.out.cell 13
  have k14 : w2.cell? ⟨w.heap.size, 14, none⟩ = some (.slice none 0 0) := R2.out.cell 14
  have hq : w.heap.size < w2.heap.size := R2.out.lt
  go_wp2_with fail
  refine (none_de lsn ep txn w2.heap.size (w2.alloc (.cells #[.int .i64 2] 37)) (by simp [go_sem]) (by simp [go_sem])).mono ?_
  rintro _ w3 ⟨rfl, hb⟩
  have B3 : Hid (Below w.heap.size w w3) := Lib.hid ((B2.out.alloc B2.out.size _).trans (hb.mono (Nat.le_trans B2.out.size (by simp))))
  have R3 := Lib.hid (R2.out.of_block ((hb.block _ (Nat.lt_of_lt_of_le R2.out.lt (by simp))).trans (Below.heap_alloc _ _ _ R2.out.lt)))
  clear hb k0 k1 k2 k3 k4 k5 k6 k7 k8 k9 k10 k11 k12 k13 k14 hq
  have k0 : w3.cell? ⟨w.heap.size, 0, none⟩ = some (.int .i64 4) := R3.out.cell 0
  have k1 : w3.cell? ⟨w.heap.size, 1, none⟩ = some (.int .u64 lsn) := R3.out.cell 1
  have k2 : w3.cell? ⟨w.heap.size, 2, none⟩ = some (.int .u32 ep) := R3.out.cell 2
  have k3 : w3.cell? ⟨w.heap.size, 3, none⟩ = some (.int .u64 txn) := R3.out.cell 3
  have k4 : w3.cell? ⟨w.heap.size, 4, none⟩ = some (.int .u32 0) := R3.out.cell 4
  have k5 : w3.cell? ⟨w.heap.size, 5, none⟩ = some (.int .u16 0) := R3.out.cell 5
  have k6 : w3.cell? ⟨w.heap.size, 6, none⟩ = some (.slice none 0 0) := R3.out.cell 6
  have k7 : w3.cell? ⟨w.heap.size, 7, none⟩ = some (.slice none 0 0) := R3.out.cell 7
  have k8 : w3.cell? ⟨w.heap.size, 8, none⟩ = some (.slice none 0 0) := R3.out.cell 8
  have k9 : w3.cell? ⟨w.heap.size, 9, none⟩ = some (.int .u64 0) := R3.out.cell 9
  have k10 : w3.cell? ⟨w.heap.size, 10, none⟩ = some (.int .u64 0) := R3.out.cell 10
  have k11 : w3.cell? ⟨w.heap.size, 11, none⟩ = some (.bool false) := R3.out.cell 11
  have k12 : w3.cell? ⟨w.heap.size, 12, none⟩ = some (.int .u64 0) := R3.out.cell 12
  have k13 : w3.cell? ⟨w.heap.size, 13, none⟩ = some (.slice none 0 0) := R3.out.cell 13
  have k14 : w3.cell? ⟨w.heap.size, 14, none⟩ = some (.slice none 0 0) := R3.out.cell 14
  have hq : w.heap.size < w3.heap.size := R3.out.lt
  go_wp2_with fail
  refine (none_dx lsn ep txn w3.heap.size (w3.alloc (.cells #[.int .i64 2, .int .i64 3, .int .i64 4] 37)) (by simp [go_sem]) (by simp [go_sem])).mono ?_
  rintro _ w4 ⟨rfl, hb⟩
  have B4 : Hid (Below w.heap.size w w4) := Lib.hid ((B3.out.alloc B3.out.size _).trans (hb.mono (Nat.le_trans B3.out.size (by simp))))
  have R4 := Lib.hid (R3.out.of_block ((hb.block _ (Nat.lt_of_lt_of_le R3.out.lt (by simp))).trans (Below.heap_alloc _ _ _ R3.out.lt)))
  clear hb k0 k1 k2 k3 k4 k5 k6 k7 k8 k9 k10 k11 k12 k13 k14 hq
  have k0 : w4.cell? ⟨w.heap.size, 0, none⟩ = some (.int .i64 4) := R4.out.cell 0
  have k1 : w4.cell? ⟨w.heap.size, 1, none⟩ = some (.int .u64 lsn) := R4.out.cell 1
  have k2 : w4.cell? ⟨w.heap.size, 2, none⟩ = some (.int .u32 ep) := R4.out.cell 2
  have k3 : w4.cell? ⟨w.heap.size, 3, none⟩ = some (.int .u64 txn) := R4.out.cell 3
  have k4 : w4.cell? ⟨w.heap.size, 4, none⟩ = some (.int .u32 0) := R4.out.cell 4
  have k5 : w4.cell? ⟨w.heap.size, 5, none⟩ = some (.int .u16 0) := R4.out.cell 5
  have k6 : w4.cell? ⟨w.heap.size, 6, none⟩ = some (.slice none 0 0) := R4.out.cell 6
  have k7 : w4.cell? ⟨w.heap.size, 7, none⟩ = some (.slice none 0 0) := R4.out.cell 7
  have k8 : w4.cell? ⟨w.heap.size, 8, none⟩ = some (.slice none 0 0) := R4.out.cell 8
  have k9 : w4.cell? ⟨w.heap.size, 9, none⟩ = some (.int .u64 0) := R4.out.cell 9
  have k10 : w4.cell? ⟨w.heap.size, 10, none⟩ = some (.int .u64 0) := R4.out.cell 10
  have k11 : w4.cell? ⟨w.heap.size, 11, none⟩ = some (.bool false) := R4.out.cell 11
  have k12 : w4.cell? ⟨w.heap.size, 12, none⟩ = some (.int .u64 0) := R4.out.cell 12
  have k13 : w4.cell? ⟨w.heap.size, 13, none⟩ = some (.slice none 0 0) := R4.out.cell 13
  have k14 : w4.cell? ⟨w.heap.size, 14, none⟩ = some (.slice none 0 0) := R4.out.cell 14
  have hq : w.heap.size < w4.heap.size := R4.out.lt
  go_wp2_with fail
  refine (none_dc lsn ep txn w4.heap.size (w4.alloc (.cells #[.int .i64 3] 37)) (by simp [go_sem]) (by simp [go_sem])).mono ?_
  rintro _ w5 ⟨rfl, hb⟩
  have B5 : Hid (Below w.heap.size w w5) := Lib.hid ((B4.out.alloc B4.out.size _).trans (hb.mono (Nat.le_trans B4.out.size (by simp))))
  have R5 := Lib.hid (R4.out.of_block ((hb.block _ (Nat.lt_of_lt_of_le R4.out.lt (by simp))).trans (Below.heap_alloc _ _ _ R4.out.lt)))
  clear hb k0 k1 k2 k3 k4 k5 k6 k7 k8 k9 k10 k11 k12 k13 k14 hq
  have k0 : w5.cell? ⟨w.heap.size, 0, none⟩ = some (.int .i64 4) := R5.out.cell 0
  have k1 : w5.cell? ⟨w.heap.size, 1, none⟩ = some (.int .u64 lsn) := R5.out.cell 1
  have k2 : w5.cell? ⟨w.heap.size, 2, none⟩ = some (.int .u32 ep) := R5.out.cell 2
  have k3 : w5.cell? ⟨w.heap.size, 3, none⟩ = some (.int .u64 txn) := R5.out.cell 3
  have k4 : w5.cell? ⟨w.heap.size, 4, none⟩ = some (.int .u32 0) := R5.out.cell 4
  have k5 : w5.cell? ⟨w.heap.size, 5, none⟩ = some (.int .u16 0) := R5.out.cell 5
  have k6 : w5.cell? ⟨w.heap.size, 6, none⟩ = some (.slice none 0 0) := R5.out.cell 6
  have k7 : w5.cell? ⟨w.heap.size, 7, none⟩ = some (.slice none 0 0) := R5.out.cell 7
  have k8 : w5.cell? ⟨w.heap.size, 8, none⟩ = some (.slice none 0 0) := R5.out.cell 8
  have k9 : w5.cell? ⟨w.heap.size, 9, none⟩ = some (.int .u64 0) := R5.out.cell 9
  have k10 : w5.cell? ⟨w.heap.size, 10, none⟩ = some (.int .u64 0) := R5.out.cell 10
  have k11 : w5.cell? ⟨w.heap.size, 11, none⟩ = some (.bool false) := R5.out.cell 11
  have k12 : w5.cell? ⟨w.heap.size, 12, none⟩ = some (.int .u64 0) := R5.out.cell 12
  have k13 : w5.cell? ⟨w.heap.size, 13, none⟩ = some (.slice none 0 0) := R5.out.cell 13
  have k14 : w5.cell? ⟨w.heap.size, 14, none⟩ = some (.slice none 0 0) := R5.out.cell 14
  have hq : w.heap.size < w5.heap.size := R5.out.lt
  go_wp2_with fail
  refine (none_dp lsn ep txn w5.heap.size (w5.alloc (.cells #[.int .i64 5] 37)) (by simp [go_sem]) (by simp [go_sem])).mono ?_
  rintro _ w6 ⟨rfl, hb⟩
  have B6 : Hid (Below w.heap.size w w6) := Lib.hid ((B5.out.alloc B5.out.size _).trans (hb.mono (Nat.le_trans B5.out.size (by simp))))
  have R6 := Lib.hid (R5.out.of_block ((hb.block _ (Nat.lt_of_lt_of_le R5.out.lt (by simp))).trans (Below.heap_alloc _ _ _ R5.out.lt)))
  clear hb k0 k1 k2 k3 k4 k5 k6 k7 k8 k9 k10 k11 k12 k13 k14 hq
  have k0 : w6.cell? ⟨w.heap.size, 0, none⟩ = some (.int .i64 4) := R6.out.cell 0
  have k1 : w6.cell? ⟨w.heap.size, 1, none⟩ = some (.int .u64 lsn) := R6.out.cell 1
  have k2 : w6.cell? ⟨w.heap.size, 2, none⟩ = some (.int .u32 ep) := R6.out.cell 2
  have k3 : w6.cell? ⟨w.heap.size, 3, none⟩ = some (.int .u64 txn) := R6.out.cell 3
  have k4 : w6.cell? ⟨w.heap.size, 4, none⟩ = some (.int .u32 0) := R6.out.cell 4
  have k5 : w6.cell? ⟨w.heap.size, 5, none⟩ = some (.int .u16 0) := R6.out.cell 5
  have k6 : w6.cell? ⟨w.heap.size, 6, none⟩ = some (.slice none 0 0) := R6.out.cell 6
  have k7 : w6.cell? ⟨w.heap.size, 7, none⟩ = some (.slice none 0 0) := R6.out.cell 7
  have k8 : w6.cell? ⟨w.heap.size, 8, none⟩ = some (.slice none 0 0) := R6.out.cell 8
  have k9 : w6.cell? ⟨w.heap.size, 9, none⟩ = some (.int .u64 0) := R6.out.cell 9
  have k10 : w6.cell? ⟨w.heap.size, 10, none⟩ = some (.int .u64 0) := R6.out.cell 10
  have k11 : w6.cell? ⟨w.heap.size, 11, none⟩ = some (.bool false) := R6.out.cell 11
  have k12 : w6.cell? ⟨w.heap.size, 12, none⟩ = some (.int .u64 0) := R6.out.cell 12
  have k13 : w6.cell? ⟨w.heap.size, 13, none⟩ = some (.slice none 0 0) := R6.out.cell 13
  have k14 : w6.cell? ⟨w.heap.size, 14, none⟩ = some (.slice none 0 0) := R6.out.cell 14
  have hq : w.heap.size < w6.heap.size := R6.out.lt
  go_wp2_with fail
  go_ret
  exact ⟨rfl, B6.out⟩
end Go.Proofs.Ytekdogmhgijocaa
