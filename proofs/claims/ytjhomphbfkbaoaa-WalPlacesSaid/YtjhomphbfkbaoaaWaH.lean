/- wal: a master's bytes. -/
import Derived.Test.YtjhomphbfkbaoaaWaG
import Derived.Lib.AppendZerosOnto
import Derived.Deep.Cut
namespace Go.Proofs.Ytjhomphbfkbaoaa
open Go.RowKit Go.ChangeShapes Go.WideShapes Go.ChangeAt
set_option linter.unusedVariables false

def masterH (seq ep st pt ct : Int) : List Int := leB 1735347286 4 ++ leB seq 8 ++ leB ep 4 ++ leB st 8 ++ leB pt 8 ++ leB ct 8
def masterB (seq ep st pt ct : Int) : List Int := masterH seq ep st pt ct ++ List.replicate 88 0
theorem masterH_len (seq ep st pt ct : Int) : (masterH seq ep st pt ct).length = 40 := by simp [masterH, leB_len]
theorem masterB_len (seq ep st pt ct : Int) : (masterB seq ep st pt ct).length = 128 := by unfold masterB; rw [List.length_append, masterH_len, List.length_replicate]
theorem masterB_by (seq ep st pt ct : Int) : IsBy (masterB seq ep st pt ct) := by_append (by_append (by_append (by_append (by_append (by_append (leB_by _ _) (leB_by _ _)) (leB_by _ _)) (leB_by _ _)) (leB_by _ _)) (leB_by _ _)) (fun x hx => by have := (List.mem_replicate.1 hx).2; omega)
abbrev masR (seq ep st pt ct : Int) : Array Value := #[.int .u64 seq, .int .u32 ep, .int .u64 st, .int .u64 pt, .int .u64 ct]
structure MasOk (seq ep st pt ct : Int) : Prop where
  s0 : 0 ≤ seq ∧ seq < 18446744073709551616
  e0 : 0 ≤ ep ∧ ep < 4294967296
  t0 : 0 ≤ st ∧ st < 18446744073709551616
  p0 : 0 ≤ pt ∧ pt < 18446744073709551616
  c0 : 0 ≤ ct ∧ ct < 18446744073709551616
theorem gx_shape {zs : List Int} {w w' : World} {g n : Nat} (h : w'.ownsRow w.heap.size 5 1 (.slice (some ⟨g, 0, none⟩) zs.length zs.length) zs.length (zs.map (Value.int .u8))) (hl : zs.length = n) : w'.ownsRow w.heap.size 5 1 (.slice (some ⟨g, 0, none⟩) n n) n (zs.map (Value.int .u8)) := hl ▸ h
theorem zero_cells (z : Value) (hz : z.cells = #[z]) (k : Nat) : Builtin.zeroCells z.cells k = Array.replicate k z := by
  unfold Builtin.zeroCells
  rw [hz]
  apply Array.ext
  · simp
  · intro i h1 h2
    simp [Nat.mod_one]
/-- append of 88 zeros to a row of just 40 bytes. -/
theorem zeros_own {w : World} {base g : Nat} {xs : List Int} (ho : w.ownsRow base 5 1 (.slice (some ⟨g, 0, none⟩) 40 40) 40 (xs.map (Value.int .u8))) :
    ∃ c w', (Builtin.append_ #[32, 3] 32 #[.slice (some ⟨g, 0, none⟩) 40 40, .int .i64 88]).run Try.prog w = .ok (.slice (some ⟨w.heap.size, 0, none⟩) 128 c) w' ∧ w'.ownsRow w.heap.size 5 1 (.slice (some ⟨w.heap.size, 0, none⟩) 128 c) 128 ((xs ++ List.replicate 88 0).map (Value.int .u8)) ∧ Below w.heap.size w w' ∧ 128 ≤ c := by
  obtain ⟨i0', hi0, hz0, hz1, hz2⟩ := info_parts infoBy
  have hl : (xs.map (Value.int .u8)).length = 40 * i0'.size := by rw [hz1]; exact ho.1
  have hr := Lib.run_append_grow_zeros (P := Try.prog) w 32 3 32 5 i0' (.int .u8 0) .i64 .i64 Try.underlying32 Try.underlying3 hi0 hz0 (some ⟨g, 0, none⟩) 40 40 (xs.map (Value.int .u8))
    (run_firstCells_some w.drew _ _ _ _ _ _ hl fun j v hj => by
      have hlt : j < 40 := by have := (List.getElem?_eq_some_iff.1 hj).1; rw [hl, hz1] at this; omega
      rw [add_plain, Nat.zero_add]
      exact (ho.cellAt j (by omega)).trans hj) 88 (by omega) (by rw [hz1]; omega) (by omega) (by omega) (by rw [hz2]; omega) (by rw [hz2]; decide)
  have g1 := grownCap_ge w 128 40 5
  have g2 := grownCap_le_maxLen w 128 40 5 (by unfold maxLen; omega)
  refine ⟨_, _, hr, ?_, ((Below.refl _ _).drew.alloc (Nat.le_refl _) _), g1⟩
  have hx : xs.length = 40 := by have := ho.1; simpa using this
  refine ⟨by simp [hx], .inr ⟨w.heap.size, grownCap w 128 40 5, _, rfl, Nat.le_refl _, Row.made _ _ _, g1, g2, ?_, ?_⟩⟩
  · rw [zero_cells _ rfl, zero_cells _ rfl]
    simp [hx]
    first | done | omega
  · rw [zero_cells _ rfl, zero_cells _ rfl]
    simp only [Array.toList_append, Array.toList_replicate]
    rw [List.take_left' (by simp [hx]), List.map_append, List.map_replicate]
def MasPost (seq ep st pt ct : Int) (w : World) (e : Ending) (w' : World) : Prop := ∃ g c, e = .returned (.slice (some ⟨g, 0, none⟩) 128 c) ∧ w'.ownsRow w.heap.size 5 1 (.slice (some ⟨g, 0, none⟩) 128 c) 128 ((masterB seq ep st pt ct).map (Value.int .u8)) ∧ Below w.heap.size w w' ∧ 128 ≤ c ∧ w.heap.size ≤ g
set_option maxRecDepth 100000 in
set_option maxHeartbeats 8000000 in
theorem master_bytes (seq ep st pt ct : Int) (w : World) (hok : MasOk seq ep st pt ct) : Calls Try.prog 44 #[.agg (masR seq ep st pt ct)] w (MasPost seq ep st pt ct w) := by
  have OK := Lib.hid hok
  clear hok
  obtain ⟨R, hR⟩ : ∃ R, masR seq ep st pt ct = R := ⟨_, rfl⟩
  have R1 : Hid (Row (w.alloc (.cells R 64)) w.heap.size (masR seq ep st pt ct) 64) := Lib.hid (by rw [hR]; exact Row.made _ _ _)
  rw [hR]
  clear hR
  go_enter Try.func44, Try.ntmps44
  go_upto_region 1 with fail
  have B1 : Hid (Below w.heap.size w (w.alloc (.cells R 64))) := Lib.hid ((Below.refl _ _).alloc (Nat.le_refl _) _)
  generalize w.alloc (.cells R 64) = w1 at *
  obtain ⟨q, hq⟩ : ∃ q, w.heap.size = q := ⟨_, rfl⟩
  have SO1 : Hid (∀ y, Below w1.heap.size w1 y → y.cell? ⟨w.heap.size, 0, none⟩ = some (.int .u64 seq) ∧ y.cell? ⟨w.heap.size, 1, none⟩ = some (.int .u32 ep)) := Lib.hid fun y k => ⟨(k.cell (p := ⟨w.heap.size, _, none⟩) R1.out.lt).trans (R1.out.cell 0), (k.cell (p := ⟨w.heap.size, _, none⟩) R1.out.lt).trans (R1.out.cell 1)⟩
  clear hq
  go_region_held3 (fun x => x.cell? ⟨w.heap.size, 0, none⟩ = some (.int .u64 seq) ∧ x.cell? ⟨w.heap.size, 1, none⟩ = some (.int .u32 ep))
    (first
      | exact SO1.out _ X3.out
      | exact SO1.out _ X2.out
      | exact SO1.out _ X1.out
      | exact SO1.out _ (Below.refl _ w1).drew)
    (first
      | (go_at_call 47; refine (Put32_x ep OK.out.e0.1 OK.out.e0.2 (some ⟨g2, 0, none⟩) 12 12 ([] ++ leB 1735347286 4 ++ leB seq 8) w1x2 (by simp [leB_len]) J2.out (by omega)).mono ?_; rintro _ w1x3 ⟨g3, rfl, o, b⟩; have X3 : Hid (Below w1.heap.size w1 w1x3) := Lib.hid (X2.out.trans (b.mono X2.out.size)); have N3 : ([] ++ leB 1735347286 4 ++ leB seq 8 ++ leB ep 4).length = 16 := (by simp [leB_len]); have O3 := Lib.hid (gx_shape o N3); have J3 : Hid (Ints .u8 w1x3 (.slice (some ⟨g3, 0, none⟩) 16 16) ([] ++ leB 1735347286 4 ++ leB seq 8 ++ leB ep 4)) := Lib.hid (ints_own' O3.out N3); rw [N3]; clear o b N3)
      | (go_at_call 48; refine (Put64_x seq OK.out.s0.1 OK.out.s0.2 (some ⟨g1, 0, none⟩) 4 4 ([] ++ leB 1735347286 4) w1x1 (by simp [leB_len]) J1.out (by omega)).mono ?_; rintro _ w1x2 ⟨g2, rfl, o, b⟩; have X2 : Hid (Below w1.heap.size w1 w1x2) := Lib.hid (X1.out.trans (b.mono X1.out.size)); have N2 : ([] ++ leB 1735347286 4 ++ leB seq 8).length = 12 := (by simp [leB_len]); have O2 := Lib.hid (gx_shape o N2); have J2 : Hid (Ints .u8 w1x2 (.slice (some ⟨g2, 0, none⟩) 12 12) ([] ++ leB 1735347286 4 ++ leB seq 8)) := Lib.hid (ints_own' O2.out N2); rw [N2]; clear o b N2)
      | (go_at_call 47; refine (Put32_x 1735347286 (by omega) (by omega) none 0 0 [] w1.drew rfl (.inl ⟨rfl, none, 0, rfl⟩) (by omega)).mono ?_; rintro _ w1x1 ⟨g1, rfl, o, b⟩; have X1 : Hid (Below w1.heap.size w1 w1x1) := Lib.hid ((Below.refl _ w1).drew.trans b); have N1 : ([] ++ leB 1735347286 4).length = 4 := (by simp [leB_len]); have O1 := Lib.hid (gx_shape o N1); have J1 : Hid (Ints .u8 w1x1 (.slice (some ⟨g1, 0, none⟩) 4 4) ([] ++ leB 1735347286 4)) := Lib.hid (ints_own' O1.out N1); rw [N1]; clear o b N1))
  have R2 := Lib.hid (R1.out.of_block (X3.out.block _ R1.out.lt))
  have B2 : Hid (Below w.heap.size w w1x3) := Lib.hid (B1.out.trans (X3.out.mono B1.out.size))
  generalize w1x3 = w2 at *
  have J3d : Hid (Ints .u8 w2.drew (.slice (some ⟨g3, 0, none⟩) 16 16) ([] ++ leB 1735347286 4 ++ leB seq 8 ++ leB ep 4)) := Lib.hid (J3.out.below' (Below.refl _ _).drew)
  have SO2 : Hid (∀ y, Below w2.heap.size w2 y → y.cell? ⟨w.heap.size, 2, none⟩ = some (.int .u64 st) ∧ y.cell? ⟨w.heap.size, 3, none⟩ = some (.int .u64 pt) ∧ y.cell? ⟨w.heap.size, 4, none⟩ = some (.int .u64 ct)) := Lib.hid fun y k => ⟨(k.cell (p := ⟨w.heap.size, _, none⟩) R2.out.lt).trans (R2.out.cell 2), (k.cell (p := ⟨w.heap.size, _, none⟩) R2.out.lt).trans (R2.out.cell 3), (k.cell (p := ⟨w.heap.size, _, none⟩) R2.out.lt).trans (R2.out.cell 4)⟩
  clear SO1 X1 X2 X3 J1 J2 J3
  go_upto_region 2 with fail
  go_region_held3 (fun x => x.cell? ⟨w.heap.size, 2, none⟩ = some (.int .u64 st) ∧ x.cell? ⟨w.heap.size, 3, none⟩ = some (.int .u64 pt) ∧ x.cell? ⟨w.heap.size, 4, none⟩ = some (.int .u64 ct))
    (first
      | exact SO2.out _ X6.out
      | exact SO2.out _ X5.out
      | exact SO2.out _ X4.out
      | exact SO2.out _ (Below.refl _ w2).drew)
    (first
      | (go_at_call 48; refine (Put64_x ct OK.out.c0.1 OK.out.c0.2 (some ⟨g5, 0, none⟩) 32 32 ([] ++ leB 1735347286 4 ++ leB seq 8 ++ leB ep 4 ++ leB st 8 ++ leB pt 8) w2x5 (by simp [leB_len]) J5.out (by omega)).mono ?_; rintro _ w2x6 ⟨g6, rfl, o, b⟩; have X6 : Hid (Below w2.heap.size w2 w2x6) := Lib.hid (X5.out.trans (b.mono X5.out.size)); have N6 : ([] ++ leB 1735347286 4 ++ leB seq 8 ++ leB ep 4 ++ leB st 8 ++ leB pt 8 ++ leB ct 8).length = 40 := (by simp [leB_len]); have O6 := Lib.hid (gx_shape o N6); have J6 : Hid (Ints .u8 w2x6 (.slice (some ⟨g6, 0, none⟩) 40 40) ([] ++ leB 1735347286 4 ++ leB seq 8 ++ leB ep 4 ++ leB st 8 ++ leB pt 8 ++ leB ct 8)) := Lib.hid (ints_own' O6.out N6); rw [N6]; clear o b N6)
      | (go_at_call 48; refine (Put64_x pt OK.out.p0.1 OK.out.p0.2 (some ⟨g4, 0, none⟩) 24 24 ([] ++ leB 1735347286 4 ++ leB seq 8 ++ leB ep 4 ++ leB st 8) w2x4 (by simp [leB_len]) J4.out (by omega)).mono ?_; rintro _ w2x5 ⟨g5, rfl, o, b⟩; have X5 : Hid (Below w2.heap.size w2 w2x5) := Lib.hid (X4.out.trans (b.mono X4.out.size)); have N5 : ([] ++ leB 1735347286 4 ++ leB seq 8 ++ leB ep 4 ++ leB st 8 ++ leB pt 8).length = 32 := (by simp [leB_len]); have O5 := Lib.hid (gx_shape o N5); have J5 : Hid (Ints .u8 w2x5 (.slice (some ⟨g5, 0, none⟩) 32 32) ([] ++ leB 1735347286 4 ++ leB seq 8 ++ leB ep 4 ++ leB st 8 ++ leB pt 8)) := Lib.hid (ints_own' O5.out N5); rw [N5]; clear o b N5)
      | (go_at_call 48; refine (Put64_x st OK.out.t0.1 OK.out.t0.2 (some ⟨g3, 0, none⟩) 16 16 ([] ++ leB 1735347286 4 ++ leB seq 8 ++ leB ep 4) w2.drew (by simp [leB_len]) J3d.out (by omega)).mono ?_; rintro _ w2x4 ⟨g4, rfl, o, b⟩; have X4 : Hid (Below w2.heap.size w2 w2x4) := Lib.hid ((Below.refl _ w2).drew.trans b); have N4 : ([] ++ leB 1735347286 4 ++ leB seq 8 ++ leB ep 4 ++ leB st 8).length = 24 := (by simp [leB_len]); have O4 := Lib.hid (gx_shape o N4); have J4 : Hid (Ints .u8 w2x4 (.slice (some ⟨g4, 0, none⟩) 24 24) ([] ++ leB 1735347286 4 ++ leB seq 8 ++ leB ep 4 ++ leB st 8)) := Lib.hid (ints_own' O4.out N4); rw [N4]; clear o b N4))
  obtain ⟨c7, w7, run7, o7, b7, hc7⟩ := zeros_own O6.out
  have R7 := Lib.hid run7
  have B6 : Hid (Below w.heap.size w w2x6) := Lib.hid (B2.out.trans (X6.out.mono B2.out.size))
  have B7 : Hid (Below w.heap.size w w7) := Lib.hid (B6.out.trans (b7.mono B6.out.size))
  have O7 := Lib.hid (own_lower o7 B6.out.size)
  have HC := Lib.hid hc7
  clear run7 o7 b7 hc7
  have hg7 : Hid (w.heap.size ≤ w2x6.heap.size) := Lib.hid B6.out.size
  go_upto_region 3 with fail
  go_wp2_with (at_builtin; refine Lib.wpList_append_run _ rfl (.tmp 21) (.tmp 24) 32 3 rfl (.slice (some ⟨g6, 0, none⟩) 40 40) (.int .i64 88) rfl rfl (.slice (some ⟨w2x6.heap.size, 0, none⟩) 128 c7) w7 R7.out ?_)
  go_ret
  refine ⟨w2x6.heap.size, c7, rfl, ?_, B7.out, HC.out, hg7.out⟩
  have h := O7.out
  rw [show [] ++ leB 1735347286 4 ++ leB seq 8 ++ leB ep 4 ++ leB st 8 ++ leB pt 8 ++ leB ct 8 ++ List.replicate 88 0 = masterB seq ep st pt ct from by unfold masterB masterH; rw [List.nil_append]] at h
  exact h
end Go.Proofs.Ytjhomphbfkbaoaa
