/- logrec.Bytes of a write and of what is undone wholly. -/
import Derived.Test.YtekdogmhgijocaaWaF
import Derived.Lib.AppendZerosOnto
import Derived.Deep.Cut
import Derived.Test.YtekdogmhgijocaaMg10
import Derived.Deep.RegionHeld3
import Derived.Laws.Bits64b
set_option linter.unusedSimpArgs false
namespace Go.Proofs.Ytekdogmhgijocaa
open Go.RowKit Go.ChangeShapes Go.WideShapes Go.ChangeAt
set_option linter.unusedVariables false

def GivesE (zs : List Int) (w : World) (e : Ending) (w' : World) : Prop := ∃ v, e = .returned (.tuple #[v, .int .i64 0]) ∧ w'.ownsRow w.heap.size 5 1 v zs.length (zs.map (Value.int .u8)) ∧ Below w.heap.size w w'
set_option maxRecDepth 100000 in
set_option maxHeartbeats 4000000 in
theorem bytes_done (lsn ep txn : Int) (w : World) (h0 : 0 ≤ lsn) (h1 : lsn < 18446744073709551616) (h2 : 0 ≤ ep) (h3 : ep < 4294967296) (h4 : 0 < txn) (h5 : txn < 18446744073709551616) : Calls Try.prog 29 #[.agg (recR 4 lsn ep txn 0 0 (.slice none 0 0) (.slice none 0 0))] w (GivesE (formD lsn ep txn) w) := by
  have MAY := Lib.hid fun y => may_done lsn ep txn y (by omega)
  have FRM := Lib.hid fun y => form_done lsn ep txn y h0 h1 h2 h3 (by omega) h5
  clear h0 h1 h2 h3 h4 h5
  obtain ⟨R, hR⟩ : ∃ R, recR 4 lsn ep txn 0 0 (.slice none 0 0) (.slice none 0 0) = R := ⟨_, rfl⟩
  have R1 : Hid (Row (w.alloc (.cells R 43)) w.heap.size (recR 4 lsn ep txn 0 0 (.slice none 0 0) (.slice none 0 0)) 43) := Lib.hid (by rw [hR]; exact Row.made _ _ _)
  have HR := Lib.hid hR
  rw [hR]
  clear hR
  go_enter Try.func29, Try.ntmps29
  go_upto_region 1 with fail
  have B1 : Hid (Below w.heap.size w (w.alloc (.cells R 43))) := Lib.hid ((Below.refl _ _).alloc (Nat.le_refl _) _)
  generalize w.alloc (.cells R 43) = w1 at *
  have k0 : w1.cell? ⟨w.heap.size, 0, none⟩ = some (.int .i64 4) := R1.out.cell 0
  have k1 : w1.cell? ⟨w.heap.size, 1, none⟩ = some (.int .u64 lsn) := R1.out.cell 1
  have k2 : w1.cell? ⟨w.heap.size, 2, none⟩ = some (.int .u32 ep) := R1.out.cell 2
  have k3 : w1.cell? ⟨w.heap.size, 3, none⟩ = some (.int .u64 txn) := R1.out.cell 3
  have k4 : w1.cell? ⟨w.heap.size, 4, none⟩ = some (.int .u32 0) := R1.out.cell 4
  have k5 : w1.cell? ⟨w.heap.size, 5, none⟩ = some (.int .u16 0) := R1.out.cell 5
  have k6 : w1.cell? ⟨w.heap.size, 6, none⟩ = some (.slice none 0 0) := R1.out.cell 6
  have k7 : w1.cell? ⟨w.heap.size, 7, none⟩ = some (.slice none 0 0) := R1.out.cell 7
  have k8 : w1.cell? ⟨w.heap.size, 8, none⟩ = some (.slice none 0 0) := R1.out.cell 8
  have k9 : w1.cell? ⟨w.heap.size, 9, none⟩ = some (.int .u64 0) := R1.out.cell 9
  have k10 : w1.cell? ⟨w.heap.size, 10, none⟩ = some (.int .u64 0) := R1.out.cell 10
  have k11 : w1.cell? ⟨w.heap.size, 11, none⟩ = some (.bool false) := R1.out.cell 11
  have k12 : w1.cell? ⟨w.heap.size, 12, none⟩ = some (.int .u64 0) := R1.out.cell 12
  have k13 : w1.cell? ⟨w.heap.size, 13, none⟩ = some (.slice none 0 0) := R1.out.cell 13
  have k14 : w1.cell? ⟨w.heap.size, 14, none⟩ = some (.slice none 0 0) := R1.out.cell 14
  have hq : w.heap.size < w1.heap.size := R1.out.lt
  go_wp2_with fail
  refine (MAY.out w1).mono ?_
  rintro _ w2 ⟨rfl, b2⟩
  have B2 : Hid (Below w.heap.size w w2) := Lib.hid (B1.out.trans (b2.mono B1.out.size))
  have R2 := Lib.hid (R1.out.of_block (b2.block _ R1.out.lt))
  clear b2 k0 k1 k2 k3 k4 k5 k6 k7 k8 k9 k10 k11 k12 k13 k14 hq
  have k0 : w2.cell? ⟨w.heap.size, 0, none⟩ = some (.int .i64 4) := R2.out.cell 0
  have k1 : w2.cell? ⟨w.heap.size, 1, none⟩ = some (.int .u64 lsn) := R2.out.cell 1
  have k2 : w2.cell? ⟨w.heap.size, 2, none⟩ = some (.int .u32 ep) := R2.out.cell 2
  have k3 : w2.cell? ⟨w.heap.size, 3, none⟩ = some (.int .u64 txn) := R2.out.cell 3
  have k4 : w2.cell? ⟨w.heap.size, 4, none⟩ = some (.int .u32 0) := R2.out.cell 4
  have k5 : w2.cell? ⟨w.heap.size, 5, none⟩ = some (.int .u16 0) := R2.out.cell 5
  have k6 : w2.cell? ⟨w.heap.size, 6, none⟩ = some (.slice none 0 0) := R2.out.cell 6
  have k7 : w2.cell? ⟨w.heap.size, 7, none⟩ = some (.slice none 0 0) := R2.out.cell 7
  have k8 : w2.cell? ⟨w.heap.size, 8, none⟩ = some (.slice none 0 0) := R2.out.cell 8
  have k9 : w2.cell? ⟨w.heap.size, 9, none⟩ = some (.int .u64 0) := R2.out.cell 9
  have k10 : w2.cell? ⟨w.heap.size, 10, none⟩ = some (.int .u64 0) := R2.out.cell 10
  have k11 : w2.cell? ⟨w.heap.size, 11, none⟩ = some (.bool false) := R2.out.cell 11
  have k12 : w2.cell? ⟨w.heap.size, 12, none⟩ = some (.int .u64 0) := R2.out.cell 12
  have k13 : w2.cell? ⟨w.heap.size, 13, none⟩ = some (.slice none 0 0) := R2.out.cell 13
  have k14 : w2.cell? ⟨w.heap.size, 14, none⟩ = some (.slice none 0 0) := R2.out.cell 14
  have hq : w.heap.size < w2.heap.size := R2.out.lt
  go_wp2_with fail
  refine (FRM.out w2).mono ?_
  rintro _ w3 ⟨v3, rfl, o3, b3⟩
  have B3 : Hid (Below w.heap.size w w3) := Lib.hid (B2.out.trans (b3.mono B2.out.size))
  have O3 := Lib.hid (own_lower o3 B2.out.size)
  clear o3 b3 k0 k1 k2 k3 k4 k5 k6 k7 k8 k9 k10 k11 k12 k13 k14 hq
  go_wp2_with fail
  go_ret2
  exact ⟨v3, rfl, O3.out, B3.out⟩
set_option maxRecDepth 100000 in
set_option maxHeartbeats 4000000 in
theorem bytes_write (lsn ep pg off : Int) (a1 a2 : Option Addr) (n c1 c2 : Nat) (xs ys : List Int) (w : World) (h0 : 0 ≤ lsn) (h1 : lsn < 18446744073709551616) (h2 : 0 ≤ ep) (h3 : ep < 4294967296) (h4 : 0 ≤ pg ∧ pg < 4294967296) (h5 : 0 ≤ off ∧ off + n ≤ 500) (hx : xs.length = n) (hy : ys.length = n) (hi : Ints .u8 w (.slice a1 n c1) xs) (hj : Ints .u8 w (.slice a2 n c2) ys) (bx : IsBy xs) (by_ : IsBy ys) (hp : 0 < n) (hn : n ≤ 500) : Calls Try.prog 29 #[.agg (recR 1 lsn ep 0 pg off (.slice a1 n c1) (.slice a2 n c2))] w (GivesE (formW lsn ep pg off xs ys) w) := by
  have MAY := Lib.hid fun y => may_write lsn ep pg off a1 a2 n c1 c2 y hp hn h5.1 h5.2
  have FRM := Lib.hid fun (y : World) (k : Below w.heap.size w y) => form_write lsn ep pg off a1 a2 n c1 c2 xs ys y h0 h1 h2 h3 h4 (by omega) hx hy (hi.below' k) (hj.below' k) bx by_ hp hn
  clear h0 h1 h2 h3 h4 h5 hx hy hi hj bx by_ hp hn
  obtain ⟨R, hR⟩ : ∃ R, recR 1 lsn ep 0 pg off (.slice a1 n c1) (.slice a2 n c2) = R := ⟨_, rfl⟩
  have R1 : Hid (Row (w.alloc (.cells R 43)) w.heap.size (recR 1 lsn ep 0 pg off (.slice a1 n c1) (.slice a2 n c2)) 43) := Lib.hid (by rw [hR]; exact Row.made _ _ _)
  have HR := Lib.hid hR
  rw [hR]
  clear hR
  go_enter Try.func29, Try.ntmps29
  go_upto_region 1 with fail
  have B1 : Hid (Below w.heap.size w (w.alloc (.cells R 43))) := Lib.hid ((Below.refl _ _).alloc (Nat.le_refl _) _)
  generalize w.alloc (.cells R 43) = w1 at *
  have k0 : w1.cell? ⟨w.heap.size, 0, none⟩ = some (.int .i64 1) := R1.out.cell 0
  have k1 : w1.cell? ⟨w.heap.size, 1, none⟩ = some (.int .u64 lsn) := R1.out.cell 1
  have k2 : w1.cell? ⟨w.heap.size, 2, none⟩ = some (.int .u32 ep) := R1.out.cell 2
  have k3 : w1.cell? ⟨w.heap.size, 3, none⟩ = some (.int .u64 0) := R1.out.cell 3
  have k4 : w1.cell? ⟨w.heap.size, 4, none⟩ = some (.int .u32 pg) := R1.out.cell 4
  have k5 : w1.cell? ⟨w.heap.size, 5, none⟩ = some (.int .u16 off) := R1.out.cell 5
  have k6 : w1.cell? ⟨w.heap.size, 6, none⟩ = some (.slice a1 n c1) := R1.out.cell 6
  have k7 : w1.cell? ⟨w.heap.size, 7, none⟩ = some (.slice a2 n c2) := R1.out.cell 7
  have k8 : w1.cell? ⟨w.heap.size, 8, none⟩ = some (.slice none 0 0) := R1.out.cell 8
  have k9 : w1.cell? ⟨w.heap.size, 9, none⟩ = some (.int .u64 0) := R1.out.cell 9
  have k10 : w1.cell? ⟨w.heap.size, 10, none⟩ = some (.int .u64 0) := R1.out.cell 10
  have k11 : w1.cell? ⟨w.heap.size, 11, none⟩ = some (.bool false) := R1.out.cell 11
  have k12 : w1.cell? ⟨w.heap.size, 12, none⟩ = some (.int .u64 0) := R1.out.cell 12
  have k13 : w1.cell? ⟨w.heap.size, 13, none⟩ = some (.slice none 0 0) := R1.out.cell 13
  have k14 : w1.cell? ⟨w.heap.size, 14, none⟩ = some (.slice none 0 0) := R1.out.cell 14
  have hq : w.heap.size < w1.heap.size := R1.out.lt
  go_wp2_with fail
  refine (MAY.out w1).mono ?_
  rintro _ w2 ⟨rfl, b2⟩
  have B2 : Hid (Below w.heap.size w w2) := Lib.hid (B1.out.trans (b2.mono B1.out.size))
  have R2 := Lib.hid (R1.out.of_block (b2.block _ R1.out.lt))
  clear b2 k0 k1 k2 k3 k4 k5 k6 k7 k8 k9 k10 k11 k12 k13 k14 hq
  have k0 : w2.cell? ⟨w.heap.size, 0, none⟩ = some (.int .i64 1) := R2.out.cell 0
  have k1 : w2.cell? ⟨w.heap.size, 1, none⟩ = some (.int .u64 lsn) := R2.out.cell 1
  have k2 : w2.cell? ⟨w.heap.size, 2, none⟩ = some (.int .u32 ep) := R2.out.cell 2
  have k3 : w2.cell? ⟨w.heap.size, 3, none⟩ = some (.int .u64 0) := R2.out.cell 3
  have k4 : w2.cell? ⟨w.heap.size, 4, none⟩ = some (.int .u32 pg) := R2.out.cell 4
  have k5 : w2.cell? ⟨w.heap.size, 5, none⟩ = some (.int .u16 off) := R2.out.cell 5
  have k6 : w2.cell? ⟨w.heap.size, 6, none⟩ = some (.slice a1 n c1) := R2.out.cell 6
  have k7 : w2.cell? ⟨w.heap.size, 7, none⟩ = some (.slice a2 n c2) := R2.out.cell 7
  have k8 : w2.cell? ⟨w.heap.size, 8, none⟩ = some (.slice none 0 0) := R2.out.cell 8
  have k9 : w2.cell? ⟨w.heap.size, 9, none⟩ = some (.int .u64 0) := R2.out.cell 9
  have k10 : w2.cell? ⟨w.heap.size, 10, none⟩ = some (.int .u64 0) := R2.out.cell 10
  have k11 : w2.cell? ⟨w.heap.size, 11, none⟩ = some (.bool false) := R2.out.cell 11
  have k12 : w2.cell? ⟨w.heap.size, 12, none⟩ = some (.int .u64 0) := R2.out.cell 12
  have k13 : w2.cell? ⟨w.heap.size, 13, none⟩ = some (.slice none 0 0) := R2.out.cell 13
  have k14 : w2.cell? ⟨w.heap.size, 14, none⟩ = some (.slice none 0 0) := R2.out.cell 14
  have hq : w.heap.size < w2.heap.size := R2.out.lt
  go_wp2_with fail
  refine (FRM.out w2 B2.out).mono ?_
  rintro _ w3 ⟨v3, rfl, o3, b3⟩
  have B3 : Hid (Below w.heap.size w w3) := Lib.hid (B2.out.trans (b3.mono B2.out.size))
  have O3 := Lib.hid (own_lower o3 B2.out.size)
  clear o3 b3 k0 k1 k2 k3 k4 k5 k6 k7 k8 k9 k10 k11 k12 k13 k14 hq
  go_wp2_with fail
  go_ret2
  exact ⟨v3, rfl, O3.out, B3.out⟩
end Go.Proofs.Ytekdogmhgijocaa

/- wal: a master's bytes. -/
namespace Go.Proofs.Ytekdogmhgijocaa
open Go.RowKit Go.ChangeShapes Go.WideShapes Go.ChangeAt
set_option linter.unusedVariables false

def masterH (seq ep st pt ct : Int) : List Int := leB 1735347286 4 ++ leB seq 8 ++ leB ep 4 ++ leB st 8 ++ leB pt 8 ++ leB ct 8
def masterB (seq ep st pt ct : Int) : List Int := masterH seq ep st pt ct ++ List.replicate 88 0
theorem masterH_len (seq ep st pt ct : Int) : (masterH seq ep st pt ct).length = 40 := by simp [masterH, leB_len]
theorem masterB_len (seq ep st pt ct : Int) : (masterB seq ep st pt ct).length = 128 := by unfold masterB; rw [List.length_append, masterH_len, List.length_replicate]
theorem masterB_by (seq ep st pt ct : Int) : IsBy (masterB seq ep st pt ct) := by_append (by_append (by_append (by_append (by_append (by_append (leB_by _ _) (leB_by _ _)) (leB_by _ _)) (leB_by _ _)) (leB_by _ _)) (leB_by _ _)) (fun x hx => by have := (List.mem_replicate.1 hx).2; omega)
abbrev masR (seq ep st pt ct : Int) : Array Value := #[.int .u64 seq, .int .u32 ep, .int .u64 st, .int .u64 pt, .int .u64 ct]
structure MasOk (seq ep st pt ct : Int) : Prop where
  s0 : 0 ≤ seq ∧ seq < 18446744073709551616
  e0 : 0 ≤ ep ∧ ep < 4294967296
  t0 : 0 ≤ st ∧ st < 18446744073709551616
  p0 : 0 ≤ pt ∧ pt < 18446744073709551616
  c0 : 0 ≤ ct ∧ ct < 18446744073709551616
theorem gx_shape {zs : List Int} {w w' : World} {g n : Nat} (h : w'.ownsRow w.heap.size 5 1 (.slice (some ⟨g, 0, none⟩) zs.length zs.length) zs.length (zs.map (Value.int .u8))) (hl : zs.length = n) : w'.ownsRow w.heap.size 5 1 (.slice (some ⟨g, 0, none⟩) n n) n (zs.map (Value.int .u8)) := hl ▸ h
theorem zero_cells (z : Value) (hz : z.cells = #[z]) (k : Nat) : Builtin.zeroCells z.cells k = Array.replicate k z := by
  unfold Builtin.zeroCells
  rw [hz]
  apply Array.ext
  · simp
  · intro i h1 h2
    simp [Nat.mod_one]
/-- append of 88 zeros to a row of just 40 bytes. -/
theorem zeros_own {w : World} {base g : Nat} {xs : List Int} (ho : w.ownsRow base 5 1 (.slice (some ⟨g, 0, none⟩) 40 40) 40 (xs.map (Value.int .u8))) :
    ∃ c w', (Builtin.append_ #[32, 3] 32 #[.slice (some ⟨g, 0, none⟩) 40 40, .int .i64 88]).run Try.prog w = .ok (.slice (some ⟨w.heap.size, 0, none⟩) 128 c) w' ∧ w'.ownsRow w.heap.size 5 1 (.slice (some ⟨w.heap.size, 0, none⟩) 128 c) 128 ((xs ++ List.replicate 88 0).map (Value.int .u8)) ∧ Below w.heap.size w w' ∧ 128 ≤ c := by
  obtain ⟨i0', hi0, hz0, hz1, hz2⟩ := info_parts infoBy
  have hl : (xs.map (Value.int .u8)).length = 40 * i0'.size := by rw [hz1]; exact ho.1
  have hr := Lib.run_append_grow_zeros (P := Try.prog) w 32 3 32 5 i0' (.int .u8 0) .i64 .i64 Try.underlying32 Try.underlying3 hi0 hz0 (some ⟨g, 0, none⟩) 40 40 (xs.map (Value.int .u8))
    (run_firstCells_some w.drew _ _ _ _ _ _ hl fun j v hj => by
      have hlt : j < 40 := by have := (List.getElem?_eq_some_iff.1 hj).1; rw [hl, hz1] at this; omega
      rw [add_plain, Nat.zero_add]
      exact (ho.cellAt j (by omega)).trans hj) 88 (by omega) (by rw [hz1]; omega) (by omega) (by omega) (by rw [hz2]; omega) (by rw [hz2]; decide)
  have g1 := grownCap_ge w 128 40 5
  have g2 := grownCap_le_maxLen w 128 40 5 (by unfold maxLen; omega)
  refine ⟨_, _, hr, ?_, ((Below.refl _ _).drew.alloc (Nat.le_refl _) _), g1⟩
  have hx : xs.length = 40 := by have := ho.1; simpa using this
  refine ⟨by simp [hx], .inr ⟨w.heap.size, grownCap w 128 40 5, _, rfl, Nat.le_refl _, Row.made _ _ _, g1, g2, ?_, ?_⟩⟩
  · rw [zero_cells _ rfl, zero_cells _ rfl]
    simp [hx]
    first | done | omega
  · rw [zero_cells _ rfl, zero_cells _ rfl]
    simp only [Array.toList_append, Array.toList_replicate]
    rw [List.take_left' (by simp [hx]), List.map_append, List.map_replicate]
def MasPost (seq ep st pt ct : Int) (w : World) (e : Ending) (w' : World) : Prop := ∃ g c, e = .returned (.slice (some ⟨g, 0, none⟩) 128 c) ∧ w'.ownsRow w.heap.size 5 1 (.slice (some ⟨g, 0, none⟩) 128 c) 128 ((masterB seq ep st pt ct).map (Value.int .u8)) ∧ Below w.heap.size w w' ∧ 128 ≤ c ∧ w.heap.size ≤ g
set_option maxRecDepth 100000 in
set_option maxHeartbeats 8000000 in
theorem master_bytes (seq ep st pt ct : Int) (w : World) (hok : MasOk seq ep st pt ct) : Calls Try.prog 44 #[.agg (masR seq ep st pt ct)] w (MasPost seq ep st pt ct w) := by
  have OK := Lib.hid hok
  clear hok
  obtain ⟨R, hR⟩ : ∃ R, masR seq ep st pt ct = R := ⟨_, rfl⟩
  have R1 : Hid (Row (w.alloc (.cells R 64)) w.heap.size (masR seq ep st pt ct) 64) := Lib.hid (by rw [hR]; exact Row.made _ _ _)
  rw [hR]
  clear hR
  go_enter Try.func44, Try.ntmps44
  go_upto_region 1 with fail
  have B1 : Hid (Below w.heap.size w (w.alloc (.cells R 64))) := Lib.hid ((Below.refl _ _).alloc (Nat.le_refl _) _)
  generalize w.alloc (.cells R 64) = w1 at *
  obtain ⟨q, hq⟩ : ∃ q, w.heap.size = q := ⟨_, rfl⟩
  have SO1 : Hid (∀ y, Below w1.heap.size w1 y → y.cell? ⟨w.heap.size, 0, none⟩ = some (.int .u64 seq) ∧ y.cell? ⟨w.heap.size, 1, none⟩ = some (.int .u32 ep)) := Lib.hid fun y k => ⟨(k.cell (p := ⟨w.heap.size, _, none⟩) R1.out.lt).trans (R1.out.cell 0), (k.cell (p := ⟨w.heap.size, _, none⟩) R1.out.lt).trans (R1.out.cell 1)⟩
  clear hq
  go_region_held3 (fun x => x.cell? ⟨w.heap.size, 0, none⟩ = some (.int .u64 seq) ∧ x.cell? ⟨w.heap.size, 1, none⟩ = some (.int .u32 ep))
    (first
      | exact SO1.out _ X3.out
      | exact SO1.out _ X2.out
      | exact SO1.out _ X1.out
      | exact SO1.out _ (Below.refl _ w1).drew)
    (first
      | (go_at_call 58; refine (Put32_x ep OK.out.e0.1 OK.out.e0.2 (some ⟨g2, 0, none⟩) 12 12 ([] ++ leB 1735347286 4 ++ leB seq 8) w1x2 (by simp [leB_len]) J2.out (by omega)).mono ?_; rintro _ w1x3 ⟨g3, rfl, o, b⟩; have X3 : Hid (Below w1.heap.size w1 w1x3) := Lib.hid (X2.out.trans (b.mono X2.out.size)); have N3 : ([] ++ leB 1735347286 4 ++ leB seq 8 ++ leB ep 4).length = 16 := (by simp [leB_len]); have O3 := Lib.hid (gx_shape o N3); have J3 : Hid (Ints .u8 w1x3 (.slice (some ⟨g3, 0, none⟩) 16 16) ([] ++ leB 1735347286 4 ++ leB seq 8 ++ leB ep 4)) := Lib.hid (ints_own' O3.out N3); rw [N3]; clear o b N3)
      | (go_at_call 59; refine (Put64_x seq OK.out.s0.1 OK.out.s0.2 (some ⟨g1, 0, none⟩) 4 4 ([] ++ leB 1735347286 4) w1x1 (by simp [leB_len]) J1.out (by omega)).mono ?_; rintro _ w1x2 ⟨g2, rfl, o, b⟩; have X2 : Hid (Below w1.heap.size w1 w1x2) := Lib.hid (X1.out.trans (b.mono X1.out.size)); have N2 : ([] ++ leB 1735347286 4 ++ leB seq 8).length = 12 := (by simp [leB_len]); have O2 := Lib.hid (gx_shape o N2); have J2 : Hid (Ints .u8 w1x2 (.slice (some ⟨g2, 0, none⟩) 12 12) ([] ++ leB 1735347286 4 ++ leB seq 8)) := Lib.hid (ints_own' O2.out N2); rw [N2]; clear o b N2)
      | (go_at_call 58; refine (Put32_x 1735347286 (by omega) (by omega) none 0 0 [] w1.drew rfl (.inl ⟨rfl, none, 0, rfl⟩) (by omega)).mono ?_; rintro _ w1x1 ⟨g1, rfl, o, b⟩; have X1 : Hid (Below w1.heap.size w1 w1x1) := Lib.hid ((Below.refl _ w1).drew.trans b); have N1 : ([] ++ leB 1735347286 4).length = 4 := (by simp [leB_len]); have O1 := Lib.hid (gx_shape o N1); have J1 : Hid (Ints .u8 w1x1 (.slice (some ⟨g1, 0, none⟩) 4 4) ([] ++ leB 1735347286 4)) := Lib.hid (ints_own' O1.out N1); rw [N1]; clear o b N1))
  have R2 := Lib.hid (R1.out.of_block (X3.out.block _ R1.out.lt))
  have B2 : Hid (Below w.heap.size w w1x3) := Lib.hid (B1.out.trans (X3.out.mono B1.out.size))
  generalize w1x3 = w2 at *
  have J3d : Hid (Ints .u8 w2.drew (.slice (some ⟨g3, 0, none⟩) 16 16) ([] ++ leB 1735347286 4 ++ leB seq 8 ++ leB ep 4)) := Lib.hid (J3.out.below' (Below.refl _ _).drew)
  have SO2 : Hid (∀ y, Below w2.heap.size w2 y → y.cell? ⟨w.heap.size, 2, none⟩ = some (.int .u64 st) ∧ y.cell? ⟨w.heap.size, 3, none⟩ = some (.int .u64 pt) ∧ y.cell? ⟨w.heap.size, 4, none⟩ = some (.int .u64 ct)) := Lib.hid fun y k => ⟨(k.cell (p := ⟨w.heap.size, _, none⟩) R2.out.lt).trans (R2.out.cell 2), (k.cell (p := ⟨w.heap.size, _, none⟩) R2.out.lt).trans (R2.out.cell 3), (k.cell (p := ⟨w.heap.size, _, none⟩) R2.out.lt).trans (R2.out.cell 4)⟩
  clear SO1 X1 X2 X3 J1 J2 J3
  go_upto_region 2 with fail
  go_region_held3 (fun x => x.cell? ⟨w.heap.size, 2, none⟩ = some (.int .u64 st) ∧ x.cell? ⟨w.heap.size, 3, none⟩ = some (.int .u64 pt) ∧ x.cell? ⟨w.heap.size, 4, none⟩ = some (.int .u64 ct))
    (first
      | exact SO2.out _ X6.out
      | exact SO2.out _ X5.out
      | exact SO2.out _ X4.out
      | exact SO2.out _ (Below.refl _ w2).drew)
    (first
      | (go_at_call 59; refine (Put64_x ct OK.out.c0.1 OK.out.c0.2 (some ⟨g5, 0, none⟩) 32 32 ([] ++ leB 1735347286 4 ++ leB seq 8 ++ leB ep 4 ++ leB st 8 ++ leB pt 8) w2x5 (by simp [leB_len]) J5.out (by omega)).mono ?_; rintro _ w2x6 ⟨g6, rfl, o, b⟩; have X6 : Hid (Below w2.heap.size w2 w2x6) := Lib.hid (X5.out.trans (b.mono X5.out.size)); have N6 : ([] ++ leB 1735347286 4 ++ leB seq 8 ++ leB ep 4 ++ leB st 8 ++ leB pt 8 ++ leB ct 8).length = 40 := (by simp [leB_len]); have O6 := Lib.hid (gx_shape o N6); have J6 : Hid (Ints .u8 w2x6 (.slice (some ⟨g6, 0, none⟩) 40 40) ([] ++ leB 1735347286 4 ++ leB seq 8 ++ leB ep 4 ++ leB st 8 ++ leB pt 8 ++ leB ct 8)) := Lib.hid (ints_own' O6.out N6); rw [N6]; clear o b N6)
      | (go_at_call 59; refine (Put64_x pt OK.out.p0.1 OK.out.p0.2 (some ⟨g4, 0, none⟩) 24 24 ([] ++ leB 1735347286 4 ++ leB seq 8 ++ leB ep 4 ++ leB st 8) w2x4 (by simp [leB_len]) J4.out (by omega)).mono ?_; rintro _ w2x5 ⟨g5, rfl, o, b⟩; have X5 : Hid (Below w2.heap.size w2 w2x5) := Lib.hid (X4.out.trans (b.mono X4.out.size)); have N5 : ([] ++ leB 1735347286 4 ++ leB seq 8 ++ leB ep 4 ++ leB st 8 ++ leB pt 8).length = 32 := (by simp [leB_len]); have O5 := Lib.hid (gx_shape o N5); have J5 : Hid (Ints .u8 w2x5 (.slice (some ⟨g5, 0, none⟩) 32 32) ([] ++ leB 1735347286 4 ++ leB seq 8 ++ leB ep 4 ++ leB st 8 ++ leB pt 8)) := Lib.hid (ints_own' O5.out N5); rw [N5]; clear o b N5)
      | (go_at_call 59; refine (Put64_x st OK.out.t0.1 OK.out.t0.2 (some ⟨g3, 0, none⟩) 16 16 ([] ++ leB 1735347286 4 ++ leB seq 8 ++ leB ep 4) w2.drew (by simp [leB_len]) J3d.out (by omega)).mono ?_; rintro _ w2x4 ⟨g4, rfl, o, b⟩; have X4 : Hid (Below w2.heap.size w2 w2x4) := Lib.hid ((Below.refl _ w2).drew.trans b); have N4 : ([] ++ leB 1735347286 4 ++ leB seq 8 ++ leB ep 4 ++ leB st 8).length = 24 := (by simp [leB_len]); have O4 := Lib.hid (gx_shape o N4); have J4 : Hid (Ints .u8 w2x4 (.slice (some ⟨g4, 0, none⟩) 24 24) ([] ++ leB 1735347286 4 ++ leB seq 8 ++ leB ep 4 ++ leB st 8)) := Lib.hid (ints_own' O4.out N4); rw [N4]; clear o b N4))
  obtain ⟨c7, w7, run7, o7, b7, hc7⟩ := zeros_own O6.out
  have R7 := Lib.hid run7
  have B6 : Hid (Below w.heap.size w w2x6) := Lib.hid (B2.out.trans (X6.out.mono B2.out.size))
  have B7 : Hid (Below w.heap.size w w7) := Lib.hid (B6.out.trans (b7.mono B6.out.size))
  have O7 := Lib.hid (own_lower o7 B6.out.size)
  have HC := Lib.hid hc7
  clear run7 o7 b7 hc7
  have hg7 : Hid (w.heap.size ≤ w2x6.heap.size) := Lib.hid B6.out.size
  go_upto_region 3 with fail
  go_wp2_with (at_builtin; refine Lib.wpList_append_run _ rfl (.tmp 21) (.tmp 24) 32 3 rfl (.slice (some ⟨g6, 0, none⟩) 40 40) (.int .i64 88) rfl rfl (.slice (some ⟨w2x6.heap.size, 0, none⟩) 128 c7) w7 R7.out ?_)
  go_ret
  refine ⟨w2x6.heap.size, c7, rfl, ?_, B7.out, HC.out, hg7.out⟩
  have h := O7.out
  rw [show [] ++ leB 1735347286 4 ++ leB seq 8 ++ leB ep 4 ++ leB st 8 ++ leB pt 8 ++ leB ct 8 ++ List.replicate 88 0 = masterB seq ep st pt ct from by unfold masterB masterH; rw [List.nil_append]] at h
  exact h
end Go.Proofs.Ytekdogmhgijocaa

/- wal: a log in memory; find. -/
namespace Go.Proofs.Ytekdogmhgijocaa
open Go.RowKit Go.ChangeShapes Go.WideShapes Go.ChangeAt
open Go.Proofs.Ytekdogmhgijocaa.dk (Dk Dev sectors_at)
set_option linter.unusedVariables false

structure Lg where
  at_ : Int
  count : Int
  seq : Int
  ep : Int
  st : Int
  pt : Int
  ct : Int
  end_ : Int
  fl : Int
  last : Int
  down : Bool
def Lg.cells (L : Lg) (d tail : Value) : Array Value := #[d, .int .i64 L.at_, .int .i64 L.count, .int .u64 L.seq, .int .u32 L.ep, .int .u64 L.st, .int .u64 L.pt, .int .u64 L.ct, .int .u64 L.end_, .int .u64 L.fl, .int .u32 L.last, tail, .bool L.down]
def lg0 (at_ count : Int) : Lg := ⟨at_, count, 0, 0, 0, 0, 0, 0, 0, 0, false⟩
theorem sectors_dev {W w : World} {p : Nat} {D : Dk} {F : List Nat} (h : Dev W w p D F) : Calls Try.prog 42 #[.pointer (some ⟨p, 0, none⟩)] w fun e w' => e = .returned (.int .i64 D.sectors) ∧ w' = w := by
  obtain ⟨bl, bw, bn, hd, rfl, hB⟩ := h.dk
  exact sectors_at w p bl bw bn D hd
/-- Where a log may lie. -/
def LogAt (n at_ count : Int) : Prop := 16 ≤ count ∧ count ≤ 8192 ∧ 0 ≤ at_ ∧ at_ ≤ n ∧ count + 2 ≤ n - at_
def FindPost (p : Nat) (at_ count : Int) (w : World) (e : Ending) (w' : World) : Prop := e = .returned (.tuple #[.pointer (some ⟨w.heap.size, 0, none⟩), .int .i64 0]) ∧ w' = w.alloc (.cells ((lg0 at_ count).cells (.pointer (some ⟨p, 0, none⟩)) (.slice none 0 0)) 66)
set_option maxHeartbeats 4000000 in
theorem wfind_ok {W w : World} {p : Nat} {D : Dk} {F : List Nat} (h : Dev W w p D F) (at_ count : Int) (hl : LogAt D.sectors at_ count) :
    Calls Try.prog 24 #[.pointer (some ⟨p, 0, none⟩), .int .i64 at_, .int .i64 count] w (FindPost p at_ count w) := by
  obtain ⟨l0, l1, l2, l3, l4⟩ := hl
  have s1 := h.fine.s1
  have SD := Lib.hid (sectors_dev h)
  obtain ⟨s, hs⟩ : ∃ s, D.sectors = s := ⟨_, rfl⟩
  rw [hs] at SD s1 l3 l4
  clear hs h
  have d1 : decide (count < 16) = false := decide_eq_false (by omega)
  have d2 : decide (8192 < count) = false := decide_eq_false (by omega)
  have d3 : decide (at_ < 0) = false := decide_eq_false (by omega)
  have d4 : decide (s < at_) = false := decide_eq_false (by omega)
  have e0 : (s == 0) = false := by simp; omega
  have d0 : decide (s = 0) = false := decide_eq_false (by omega)
  have e1 : IntKind.i64.wrap (count + 2) = count + 2 := IntWalk.i64_in _ (by omega)
  have e2 : IntKind.i64.wrap (s - at_) = s - at_ := IntWalk.i64_in _ (by omega)
  have d5 : decide (s - at_ < count + 2) = false := decide_eq_false (by omega)
  clear l0 l1 l2 l3 l4 s1
  go_enter Try.func24, Try.ntmps24
  go_wp2_with fail
  refine SD.out.mono ?_
  rintro _ w1 ⟨rfl, hw1⟩
  subst hw1
  go_wp2_with fail
  go_ret2
  exact ⟨rfl, rfl⟩
theorem wfind_nil (at_ count : Int) (w : World) : Calls Try.prog 24 #[.pointer none, .int .i64 at_, .int .i64 count] w fun e w' => e = .returned (.tuple #[.pointer none, .int .i64 1]) ∧ w' = w := by
  have SN : Hid (∀ y, Calls Try.prog 42 #[.pointer none] y fun e w' => e = .returned (.int .i64 0) ∧ w' = y) := Lib.hid fun y => by
    go_enter Try.func42, Try.ntmps42
    go_wp2
    go_ret
    exact ⟨rfl, rfl⟩
  go_enter Try.func24, Try.ntmps24
  go_wp2_with fail
  refine (SN.out _).mono ?_
  rintro _ w1 ⟨rfl, hw1⟩
  subst hw1
  go_wp2_with fail
  go_ret2
  exact ⟨rfl, rfl⟩
end Go.Proofs.Ytekdogmhgijocaa

/- wal: tell, the power on. -/
namespace Go.Proofs.Ytekdogmhgijocaa
open Go.RowKit Go.ChangeShapes Go.WideShapes Go.ChangeAt
open Go.Proofs.Ytekdogmhgijocaa.dk (Dk Dev IsSec Bytes write_dev sync_dev putD synD errOff)
set_option linter.unusedVariables false

def toldL (L : Lg) (ep st pt ct : Int) : Lg := { L with seq := L.seq + 1, ep := ep, st := st, pt := pt, ct := ct }
def toldD (D : Dk) (L : Lg) (ep st pt ct : Int) : Dk := synD (putD D (L.at_ + (L.seq + 1) % 2) (masterB (L.seq + 1) ep st pt ct))
/-- A log in memory, its device beside it. -/
structure LgAt (W w : World) (p q : Nat) (D : Dk) (F : List Nat) (L : Lg) (tail : Value) : Prop where
  dev : Dev W w p D F
  row : Row w q (L.cells (.pointer (some ⟨p, 0, none⟩)) tail) 66
  qF : q ∉ F
  qW : W.heap.size ≤ q
theorem LgAt.only {W w w' : World} {p q : Nat} {D : Dk} {F G : List Nat} {L : Lg} {tail : Value} (h : LgAt W w p q D F L tail) (k : Only G w w') (hG : ∀ b ∈ G, b ∉ F ∧ b ≠ q ∧ W.heap.size ≤ b) : LgAt W w' p q D F L tail :=
  ⟨h.dev.only k (fun b hb => (hG b hb).1) (fun b hb => (hG b hb).2.2), h.row.only k (fun hq => (hG q hq).2.1 rfl), h.qF, h.qW⟩
def TellPost (W : World) (p q : Nat) (D : Dk) (F : List Nat) (L : Lg) (tail : Value) (ep st pt ct : Int) (w : World) (e : Ending) (w' : World) : Prop := e = .returned (.int .i64 0) ∧ LgAt W w' p q (toldD D L ep st pt ct) F (toldL L ep st pt ct) tail ∧ Only (q :: F) w w'
theorem and1 (x : Int) (h0 : 0 ≤ x) (h1 : x < 18446744073709551616) : bits .and .u64 x 1 = x % 2 := by
  obtain ⟨n, rfl⟩ := Int.eq_ofNat_of_zero_le h0
  have h : bits .and .u64 (n : Int) 1 = ((n &&& 1 : Nat) : Int) := bits_and_u64_nat n 1 (by omega) (by omega)
  rw [h, Nat.and_one_is_mod]
  omega
set_option maxRecDepth 100000 in
set_option maxHeartbeats 8000000 in
theorem tell_on {W w : World} {p q : Nat} {D : Dk} {F : List Nat} {L : Lg} {tail : Value} (h : LgAt W w p q D F L tail) (hc : dk.Calm D) (hm : D.most = D.sectors) (h0 : 0 ≤ L.at_) (h1 : L.at_ + 2 ≤ D.sectors) (hs : 0 ≤ L.seq ∧ L.seq < 18446744073709551615) (s0 ep st pt ct : Int) (hok : MasOk (L.seq + 1) ep st pt ct) :
    Calls Try.prog 26 #[.pointer (some ⟨q, 0, none⟩), .agg (masR s0 ep st pt ct)] w (TellPost W p q D F L tail ep st pt ct w) := by
  have H := Lib.hid h
  have OK := Lib.hid hok
  have S1 := h.dev.fine.s1
  have eu : IntKind.u64.wrap (L.seq + 1) = L.seq + 1 := by rw [show IntKind.u64.wrap (L.seq + 1) = (L.seq + 1) % 18446744073709551616 from rfl]; omega
  have ea := and1 (L.seq + 1) (by omega) (by omega)
  have ei : IntKind.i64.wrap ((L.seq + 1) % 2) = (L.seq + 1) % 2 := IntWalk.i64_in _ (by omega)
  have ek : IntKind.i64.wrap (L.at_ + (L.seq + 1) % 2) = L.at_ + (L.seq + 1) % 2 := IntWalk.i64_in _ (by omega)
  have k3 : w.cell? ⟨q, 3, none⟩ = some (.int .u64 L.seq) := h.row.cell 3
  have hq : q < w.heap.size := h.row.lt
  have HB := Lib.hid (show 0 ≤ L.at_ + (L.seq + 1) % 2 ∧ L.at_ + (L.seq + 1) % 2 < D.sectors by omega)
  have HC := Lib.hid hc
  have HM := Lib.hid hm
  clear h hok S1 h0 h1 hs hc hm
  go_enter Try.func26, Try.ntmps26
  go_upto_region 2 with fail
  have R1 : Hid (Row (w.alloc (.cells (masR (L.seq + 1) ep st pt ct) 64)) w.heap.size (masR (L.seq + 1) ep st pt ct) 64) := Lib.hid (Row.made _ _ _)
  have K1 : Hid (Only [] w (w.alloc (.cells (masR (L.seq + 1) ep st pt ct) 64))) := Lib.hid ((Only.refl [] w).alloc _)
  generalize w.alloc (.cells (masR (L.seq + 1) ep st pt ct) 64) = w1 at *
  have H1 := Lib.hid (H.out.only K1.out (by simp))
  have BF : Hid (w.heap.size ∉ F) := Lib.hid fun hf => by have := H.out.dev.lt _ hf; omega
  have SO : Hid (∀ y, Only F w1 y → (y.cell? ⟨q, 0, none⟩ = some (.pointer (some ⟨p, 0, none⟩)) ∧ y.cell? ⟨q, 1, none⟩ = some (.int .i64 L.at_)) ∧ (y.cell? ⟨w.heap.size, 0, none⟩ = some (.int .u64 (L.seq + 1)) ∧ y.cell? ⟨w.heap.size, 1, none⟩ = some (.int .u32 ep)) ∧ (y.cell? ⟨w.heap.size, 2, none⟩ = some (.int .u64 st) ∧ y.cell? ⟨w.heap.size, 3, none⟩ = some (.int .u64 pt) ∧ y.cell? ⟨w.heap.size, 4, none⟩ = some (.int .u64 ct))) := Lib.hid fun y k => ⟨⟨(k.cell H1.out.row.lt H1.out.qF).trans (H1.out.row.cell 0), (k.cell H1.out.row.lt H1.out.qF).trans (H1.out.row.cell 1)⟩, ⟨(k.cell R1.out.lt BF.out).trans (R1.out.cell 0), (k.cell R1.out.lt BF.out).trans (R1.out.cell 1)⟩, (k.cell R1.out.lt BF.out).trans (R1.out.cell 2), (k.cell R1.out.lt BF.out).trans (R1.out.cell 3), (k.cell R1.out.lt BF.out).trans (R1.out.cell 4)⟩
  have SEC : Hid (IsSec (masterB (L.seq + 1) ep st pt ct)) := Lib.hid ⟨masterB_len _ _ _ _ _, fun x hx => by have := masterB_by (L.seq + 1) ep st pt ct x hx; omega⟩
  have WR : Hid (∀ (y : World) (g c : Nat), Only [] w1 y → Bytes y g 0 (masterB (L.seq + 1) ep st pt ct) → 128 ≤ c → Calls Try.prog 25 #[.pointer (some ⟨p, 0, none⟩), .int .i64 (L.at_ + (L.seq + 1) % 2), .slice (some ⟨g, 0, none⟩) 128 c] y fun e w' => e = .returned (.int .i64 0) ∧ Dev W w' p (putD D (L.at_ + (L.seq + 1) % 2) (masterB (L.seq + 1) ep st pt ct)) F ∧ Only F y w') := Lib.hid fun y g c k hb hc128 => by
    have h := write_dev (k := L.at_ + (L.seq + 1) % 2) (g := g) (off := 0) (cap := c) (s := masterB (L.seq + 1) ep st pt ct) (H1.out.dev.none k) HB.out.1 HB.out.2 HM.out SEC.out hb hc128
    unfold dk.DoneTo at h
    rw [HC.out.write, (HC.out.putD _ _).off] at h
    exact h
  clear k3 hq
  go_region_held3 (fun x => (x.cell? ⟨q, 0, none⟩ = some (.pointer (some ⟨p, 0, none⟩)) ∧ x.cell? ⟨q, 1, none⟩ = some (.int .i64 L.at_)) ∧ (x.cell? ⟨w.heap.size, 0, none⟩ = some (.int .u64 (L.seq + 1)) ∧ x.cell? ⟨w.heap.size, 1, none⟩ = some (.int .u32 ep)) ∧ (x.cell? ⟨w.heap.size, 2, none⟩ = some (.int .u64 st) ∧ x.cell? ⟨w.heap.size, 3, none⟩ = some (.int .u64 pt) ∧ x.cell? ⟨w.heap.size, 4, none⟩ = some (.int .u64 ct)))
    (first
      | exact SO.out _ X2.out
      | exact SO.out _ (X1.out.mono (by simp))
      | exact SO.out _ (Only.refl F w1).drew)
    (first
      | (go_at_call 25; refine (WR.out x1 g1 c1 X1.out Y1.out C1.out).mono ?_; rintro _ x2 ⟨rfl, d2, k2⟩; have X2 : Hid (Only F w1 x2) := Lib.hid ((X1.out.mono (by simp)).and k2); have D2 := Lib.hid d2)
      | (go_at_call 44; refine (master_bytes (L.seq + 1) ep st pt ct w1.drew OK.out).mono ?_; rintro _ x1 ⟨g1, c1, rfl, o1, b1, hc1, _⟩; have X1 : Hid (Only [] w1 x1) := Lib.hid (((Only.refl [] w1).drew).below b1); have C1 := Lib.hid hc1; have Y1 : Hid (Bytes x1 g1 0 (masterB (L.seq + 1) ep st pt ct)) := Lib.hid (fun j v hj => by
          have hlt := (List.getElem?_eq_some_iff.1 hj).1
          rw [List.length_map, masterB_len] at hlt
          rw [Nat.zero_add, o1.cellAt j (by omega)]; exact hj)))
  have SY : Hid (Calls Try.prog 38 #[.pointer (some ⟨p, 0, none⟩)] x2 fun e w' => e = .returned (.int .i64 0) ∧ Dev W w' p (toldD D L ep st pt ct) F ∧ Only F x2 w') := Lib.hid (by
    have h := sync_dev D2.out
    unfold dk.DoneTo at h
    have hp := HC.out.putD (L.at_ + (L.seq + 1) % 2) (masterB (L.seq + 1) ep st pt ct)
    rw [hp.sync, (hp.synD).off] at h
    exact h)
  have u0 := (SO.out x2 X2.out).1.1
  clear WR SEC X1 C1 Y1 D2 o1 b1 d2 k2
  go_wp2_with fail
  refine SY.out.mono ?_
  rintro _ x3 ⟨rfl, d3, k3⟩
  have X3 : Hid (Only F w1 x3) := Lib.hid (X2.out.and k3)
  have D3 := Lib.hid d3
  have RQ := Lib.hid (H1.out.row.only X3.out H1.out.qF)
  obtain ⟨⟨v0, v1⟩, ⟨m0, m1⟩, m2, m3, m4⟩ := SO.out x3 X3.out
  have n3 : x3.cell? ⟨q, 3, none⟩ = some (.int .u64 L.seq) := RQ.out.cell 3
  have n4 : x3.cell? ⟨q, 4, none⟩ = some (.int .u32 L.ep) := RQ.out.cell 4
  have n5 : x3.cell? ⟨q, 5, none⟩ = some (.int .u64 L.st) := RQ.out.cell 5
  have n6 : x3.cell? ⟨q, 6, none⟩ = some (.int .u64 L.pt) := RQ.out.cell 6
  have n7 : x3.cell? ⟨q, 7, none⟩ = some (.int .u64 L.ct) := RQ.out.cell 7
  have f3 := RQ.out.free 3
  have f4 := RQ.out.free 4
  have f5 := RQ.out.free 5
  have f6 := RQ.out.free 6
  have f7 := RQ.out.free 7
  clear SY d3 k3 u0
  go_wp2_with fail
  go_ret
  have kk : Only [q] x3 (((((x3.setCell ⟨q, 3, none⟩ (.int .u64 (L.seq + 1))).setCell ⟨q, 4, none⟩ (.int .u32 ep)).setCell ⟨q, 5, none⟩ (.int .u64 st)).setCell ⟨q, 6, none⟩ (.int .u64 pt)).setCell ⟨q, 7, none⟩ (.int .u64 ct)) := (((((Only.refl [q] x3).setCell (.inl (by simp)) _).setCell (.inl (by simp)) _).setCell (.inl (by simp)) _).setCell (.inl (by simp)) _).setCell (.inl (by simp)) _
  refine ⟨rfl, ⟨D3.out.only kk (by simpa using H.out.qF) (by simpa using H.out.qW), ?_, H.out.qF, H.out.qW⟩, ?_⟩
  · have h := ((((RQ.out.set 3 (.int .u64 (L.seq + 1))).set 4 (.int .u32 ep)).set 5 (.int .u64 st)).set 6 (.int .u64 pt)).set 7 (.int .u64 ct)
    simpa [Lg.cells, toldL] using h
  · have h1 : Only (q :: F) w x3 := (K1.out.mono (by simp)).trans (X3.out.mono fun i hi => .inl (List.mem_cons_of_mem _ hi)) fun i hi => .inl hi
    exact h1.trans kk fun i hi => .inl (by simp at hi; simp [hi])
end Go.Proofs.Ytekdogmhgijocaa
