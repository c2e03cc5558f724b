/- logrec.Bytes of a write and of what is undone wholly. -/
import Derived.Test.YtjhomphbfkbaoaaWaF
namespace Go.Proofs.Ytjhomphbfkbaoaa
open Go.RowKit Go.ChangeShapes Go.WideShapes Go.ChangeAt
set_option linter.unusedVariables false

def GivesE (zs : List Int) (w : World) (e : Ending) (w' : World) : Prop := ∃ v, e = .returned (.tuple #[v, .int .i64 0]) ∧ w'.ownsRow w.heap.size 5 1 v zs.length (zs.map (Value.int .u8)) ∧ Below w.heap.size w w'
set_option maxRecDepth 100000 in
set_option maxHeartbeats 4000000 in
theorem bytes_done (lsn ep txn : Int) (w : World) (h0 : 0 ≤ lsn) (h1 : lsn < 18446744073709551616) (h2 : 0 ≤ ep) (h3 : ep < 4294967296) (h4 : 0 < txn) (h5 : txn < 18446744073709551616) : Calls Try.prog 29 #[.agg (recR 4 lsn ep txn 0 0 (.slice none 0 0) (.slice none 0 0))] w (GivesE (formD lsn ep txn) w) := by
  have MAY := Lib.hid fun y => may_done lsn ep txn y (by omega)
  have FRM := Lib.hid fun y => form_done lsn ep txn y h0 h1 h2 h3 (by omega) h5
  clear h0 h1 h2 h3 h4 h5
  obtain ⟨R, hR⟩ : ∃ R, recR 4 lsn ep txn 0 0 (.slice none 0 0) (.slice none 0 0) = R := ⟨_, rfl⟩
  have R1 : Hid (Row (w.alloc (.cells R 43)) w.heap.size (recR 4 lsn ep txn 0 0 (.slice none 0 0) (.slice none 0 0)) 43) := Lib.hid (by rw [hR]; exact Row.made _ _ _)
  have HR := Lib.hid hR
  rw [hR]
  clear hR
  go_enter Try.func29, Try.ntmps29
  go_upto_region 1 with fail
  have B1 : Hid (Below w.heap.size w (w.alloc (.cells R 43))) := Lib.hid ((Below.refl _ _).alloc (Nat.le_refl _) _)
  generalize w.alloc (.cells R 43) = w1 at *
  have k0 : w1.cell? ⟨w.heap.size, 0, none⟩ = some (.int .i64 4) := R1.out.cell 0
  have k1 : w1.cell? ⟨w.heap.size, 1, none⟩ = some (.int .u64 lsn) := R1.out.cell 1
  have k2 : w1.cell? ⟨w.heap.size, 2, none⟩ = some (.int .u32 ep) := R1.out.cell 2
  have k3 : w1.cell? ⟨w.heap.size, 3, none⟩ = some (.int .u64 txn) := R1.out.cell 3
  have k4 : w1.cell? ⟨w.heap.size, 4, none⟩ = some (.int .u32 0) := R1.out.cell 4
  have k5 : w1.cell? ⟨w.heap.size, 5, none⟩ = some (.int .u16 0) := R1.out.cell 5
  have k6 : w1.cell? ⟨w.heap.size, 6, none⟩ = some (.slice none 0 0) := R1.out.cell 6
  have k7 : w1.cell? ⟨w.heap.size, 7, none⟩ = some (.slice none 0 0) := R1.out.cell 7
  have k8 : w1.cell? ⟨w.heap.size, 8, none⟩ = some (.slice none 0 0) := R1.out.cell 8
  have k9 : w1.cell? ⟨w.heap.size, 9, none⟩ = some (.int .u64 0) := R1.out.cell 9
  have k10 : w1.cell? ⟨w.heap.size, 10, none⟩ = some (.int .u64 0) := R1.out.cell 10
  have k11 : w1.cell? ⟨w.heap.size, 11, none⟩ = some (.bool false) := R1.out.cell 11
  have k12 : w1.cell? ⟨w.heap.size, 12, none⟩ = some (.int .u64 0) := R1.out.cell 12
  have k13 : w1.cell? ⟨w.heap.size, 13, none⟩ = some (.slice none 0 0) := R1.out.cell 13
  have k14 : w1.cell? ⟨w.heap.size, 14, none⟩ = some (.slice none 0 0) := R1.out.cell 14
  have hq : w.heap.size < w1.heap.size := R1.out.lt
  go_wp2_with fail
  refine (MAY.out w1).mono ?_
  rintro _ w2 ⟨rfl, b2⟩
  have B2 : Hid (Below w.heap.size w w2) := Lib.hid (B1.out.trans (b2.mono B1.out.size))
  have R2 := Lib.hid (R1.out.of_block (b2.block _ R1.out.lt))
  clear b2 k0 k1 k2 k3 k4 k5 k6 k7 k8 k9 k10 k11 k12 k13 k14 hq
  have k0 : w2.cell? ⟨w.heap.size, 0, none⟩ = some (.int .i64 4) := R2.out.cell 0
  have k1 : w2.cell? ⟨w.heap.size, 1, none⟩ = some (.int .u64 lsn) := R2.out.cell 1
  have k2 : w2.cell? ⟨w.heap.size, 2, none⟩ = some (.int .u32 ep) := R2.out.cell 2
  have k3 : w2.cell? ⟨w.heap.size, 3, none⟩ = some (.int .u64 txn) := R2.out.cell 3
  have k4 : w2.cell? ⟨w.heap.size, 4, none⟩ = some (.int .u32 0) := R2.out.cell 4
  have k5 : w2.cell? ⟨w.heap.size, 5, none⟩ = some (.int .u16 0) := R2.out.cell 5
  have k6 : w2.cell? ⟨w.heap.size, 6, none⟩ = some (.slice none 0 0) := R2.out.cell 6
  have k7 : w2.cell? ⟨w.heap.size, 7, none⟩ = some (.slice none 0 0) := R2.out.cell 7
  have k8 : w2.cell? ⟨w.heap.size, 8, none⟩ = some (.slice none 0 0) := R2.out.cell 8
  have k9 : w2.cell? ⟨w.heap.size, 9, none⟩ = some (.int .u64 0) := R2.out.cell 9
  have k10 : w2.cell? ⟨w.heap.size, 10, none⟩ = some (.int .u64 0) := R2.out.cell 10
  have k11 : w2.cell? ⟨w.heap.size, 11, none⟩ = some (.bool false) := R2.out.cell 11
  have k12 : w2.cell? ⟨w.heap.size, 12, none⟩ = some (.int .u64 0) := R2.out.cell 12
  have k13 : w2.cell? ⟨w.heap.size, 13, none⟩ = some (.slice none 0 0) := R2.out.cell 13
  have k14 : w2.cell? ⟨w.heap.size, 14, none⟩ = some (.slice none 0 0) := R2.out.cell 14
  have hq : w.heap.size < w2.heap.size := R2.out.lt
  go_wp2_with fail
  refine (FRM.out w2).mono ?_
  rintro _ w3 ⟨v3, rfl, o3, b3⟩
  have B3 : Hid (Below w.heap.size w w3) := Lib.hid (B2.out.trans (b3.mono B2.out.size))
  have O3 := Lib.hid (own_lower o3 B2.out.size)
  clear o3 b3 k0 k1 k2 k3 k4 k5 k6 k7 k8 k9 k10 k11 k12 k13 k14 hq
  go_wp2_with fail
  go_ret2
  exact ⟨v3, rfl, O3.out, B3.out⟩
set_option maxRecDepth 100000 in
set_option maxHeartbeats 4000000 in
theorem bytes_write (lsn ep pg off : Int) (a1 a2 : Option Addr) (n c1 c2 : Nat) (xs ys : List Int) (w : World) (h0 : 0 ≤ lsn) (h1 : lsn < 18446744073709551616) (h2 : 0 ≤ ep) (h3 : ep < 4294967296) (h4 : 0 ≤ pg ∧ pg < 4294967296) (h5 : 0 ≤ off ∧ off + n ≤ 500) (hx : xs.length = n) (hy : ys.length = n) (hi : Ints .u8 w (.slice a1 n c1) xs) (hj : Ints .u8 w (.slice a2 n c2) ys) (bx : IsBy xs) (by_ : IsBy ys) (hp : 0 < n) (hn : n ≤ 500) : Calls Try.prog 29 #[.agg (recR 1 lsn ep 0 pg off (.slice a1 n c1) (.slice a2 n c2))] w (GivesE (formW lsn ep pg off xs ys) w) := by
  have MAY := Lib.hid fun y => may_write lsn ep pg off a1 a2 n c1 c2 y hp hn h5.1 h5.2
  have FRM := Lib.hid fun (y : World) (k : Below w.heap.size w y) => form_write lsn ep pg off a1 a2 n c1 c2 xs ys y h0 h1 h2 h3 h4 (by omega) hx hy (hi.below' k) (hj.below' k) bx by_ hp hn
  clear h0 h1 h2 h3 h4 h5 hx hy hi hj bx by_ hp hn
  obtain ⟨R, hR⟩ : ∃ R, recR 1 lsn ep 0 pg off (.slice a1 n c1) (.slice a2 n c2) = R := ⟨_, rfl⟩
  have R1 : Hid (Row (w.alloc (.cells R 43)) w.heap.size (recR 1 lsn ep 0 pg off (.slice a1 n c1) (.slice a2 n c2)) 43) := Lib.hid (by rw [hR]; exact Row.made _ _ _)
  have HR := Lib.hid hR
  rw [hR]
  clear hR
  go_enter Try.func29, Try.ntmps29
  go_upto_region 1 with fail
  have B1 : Hid (Below w.heap.size w (w.alloc (.cells R 43))) := Lib.hid ((Below.refl _ _).alloc (Nat.le_refl _) _)
  generalize w.alloc (.cells R 43) = w1 at *
  have k0 : w1.cell? ⟨w.heap.size, 0, none⟩ = some (.int .i64 1) := R1.out.cell 0
  have k1 : w1.cell? ⟨w.heap.size, 1, none⟩ = some (.int .u64 lsn) := R1.out.cell 1
  have k2 : w1.cell? ⟨w.heap.size, 2, none⟩ = some (.int .u32 ep) := R1.out.cell 2
  have k3 : w1.cell? ⟨w.heap.size, 3, none⟩ = some (.int .u64 0) := R1.out.cell 3
  have k4 : w1.cell? ⟨w.heap.size, 4, none⟩ = some (.int .u32 pg) := R1.out.cell 4
  have k5 : w1.cell? ⟨w.heap.size, 5, none⟩ = some (.int .u16 off) := R1.out.cell 5
  have k6 : w1.cell? ⟨w.heap.size, 6, none⟩ = some (.slice a1 n c1) := R1.out.cell 6
  have k7 : w1.cell? ⟨w.heap.size, 7, none⟩ = some (.slice a2 n c2) := R1.out.cell 7
  have k8 : w1.cell? ⟨w.heap.size, 8, none⟩ = some (.slice none 0 0) := R1.out.cell 8
  have k9 : w1.cell? ⟨w.heap.size, 9, none⟩ = some (.int .u64 0) := R1.out.cell 9
  have k10 : w1.cell? ⟨w.heap.size, 10, none⟩ = some (.int .u64 0) := R1.out.cell 10
  have k11 : w1.cell? ⟨w.heap.size, 11, none⟩ = some (.bool false) := R1.out.cell 11
  have k12 : w1.cell? ⟨w.heap.size, 12, none⟩ = some (.int .u64 0) := R1.out.cell 12
  have k13 : w1.cell? ⟨w.heap.size, 13, none⟩ = some (.slice none 0 0) := R1.out.cell 13
  have k14 : w1.cell? ⟨w.heap.size, 14, none⟩ = some (.slice none 0 0) := R1.out.cell 14
  have hq : w.heap.size < w1.heap.size := R1.out.lt
  go_wp2_with fail
  refine (MAY.out w1).mono ?_
  rintro _ w2 ⟨rfl, b2⟩
  have B2 : Hid (Below w.heap.size w w2) := Lib.hid (B1.out.trans (b2.mono B1.out.size))
  have R2 := Lib.hid (R1.out.of_block (b2.block _ R1.out.lt))
  clear b2 k0 k1 k2 k3 k4 k5 k6 k7 k8 k9 k10 k11 k12 k13 k14 hq
  have k0 : w2.cell? ⟨w.heap.size, 0, none⟩ = some (.int .i64 1) := R2.out.cell 0
  have k1 : w2.cell? ⟨w.heap.size, 1, none⟩ = some (.int .u64 lsn) := R2.out.cell 1
  have k2 : w2.cell? ⟨w.heap.size, 2, none⟩ = some (.int .u32 ep) := R2.out.cell 2
  have k3 : w2.cell? ⟨w.heap.size, 3, none⟩ = some (.int .u64 0) := R2.out.cell 3
  have k4 : w2.cell? ⟨w.heap.size, 4, none⟩ = some (.int .u32 pg) := R2.out.cell 4
  have k5 : w2.cell? ⟨w.heap.size, 5, none⟩ = some (.int .u16 off) := R2.out.cell 5
  have k6 : w2.cell? ⟨w.heap.size, 6, none⟩ = some (.slice a1 n c1) := R2.out.cell 6
  have k7 : w2.cell? ⟨w.heap.size, 7, none⟩ = some (.slice a2 n c2) := R2.out.cell 7
  have k8 : w2.cell? ⟨w.heap.size, 8, none⟩ = some (.slice none 0 0) := R2.out.cell 8
  have k9 : w2.cell? ⟨w.heap.size, 9, none⟩ = some (.int .u64 0) := R2.out.cell 9
  have k10 : w2.cell? ⟨w.heap.size, 10, none⟩ = some (.int .u64 0) := R2.out.cell 10
  have k11 : w2.cell? ⟨w.heap.size, 11, none⟩ = some (.bool false) := R2.out.cell 11
  have k12 : w2.cell? ⟨w.heap.size, 12, none⟩ = some (.int .u64 0) := R2.out.cell 12
  have k13 : w2.cell? ⟨w.heap.size, 13, none⟩ = some (.slice none 0 0) := R2.out.cell 13
  have k14 : w2.cell? ⟨w.heap.size, 14, none⟩ = some (.slice none 0 0) := R2.out.cell 14
  have hq : w.heap.size < w2.heap.size := R2.out.lt
  go_wp2_with fail
  refine (FRM.out w2 B2.out).mono ?_
  rintro _ w3 ⟨v3, rfl, o3, b3⟩
  have B3 : Hid (Below w.heap.size w w3) := Lib.hid (B2.out.trans (b3.mono B2.out.size))
  have O3 := Lib.hid (own_lower o3 B2.out.size)
  clear o3 b3 k0 k1 k2 k3 k4 k5 k6 k7 k8 k9 k10 k11 k12 k13 k14 hq
  go_wp2_with fail
  go_ret2
  exact ⟨v3, rfl, O3.out, B3.out⟩
end Go.Proofs.Ytjhomphbfkbaoaa
