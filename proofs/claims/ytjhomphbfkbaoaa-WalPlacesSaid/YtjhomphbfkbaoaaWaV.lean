/- wal: a piece, opened and read. -/
import Derived.Test.YtjhomphbfkbaoaaWaU
import Derived.Test.YtjhomphbfkbaoaaWaJ
import Derived.Deep.RegionHeld3
namespace Go.Proofs.Ytjhomphbfkbaoaa
open Go.RowKit Go.ChangeShapes Go.WideShapes Go.ChangeAt
open Go.Proofs.Ytjhomphbfkbaoaa.dk (Dk Dev sectorD Bytes read_dev ReadTo)
set_option linter.unusedVariables false

/-- What 64 bytes tell of a piece. -/
def pieN (b : List Int) : Int := leN (b.take 8) / 256
def pieE (b : List Int) : Int := fld b 8 4
def pieL (b : List Int) : Nat := min 52 (leN (b.take 8) % 256).toNat
def pieB (b : List Int) : List Int := (b.drop 12).take (pieL b)
theorem and255 (x : Int) (h0 : 0 ≤ x) (h1 : x < 18446744073709551616) : bits .and .u64 x 255 = x % 256 := by
  obtain ⟨n, rfl⟩ := Int.eq_ofNat_of_zero_le h0
  have h : bits .and .u64 (n : Int) 255 = ((n &&& 255 : Nat) : Int) := bits_and_u64_nat n 255 (by omega) (by omega)
  rw [h, show (255 : Nat) = 2 ^ 8 - 1 from rfl, Nat.and_two_pow_sub_one_eq_mod]
  omega
structure HeadP (H : Int) (c m ln t : Nat) (N : Int) : Prop where
  nn : H / 256 = N
  ll : min 52 m = ln
  tl : t - 12 = ln
  wN : IntKind.u64.wrap N = N
  aa : bits .and .u64 H 255 = (m : Int)
  w1 : IntKind.i64.wrap (m : Int) = (m : Int)
  w2 : wrap64 (m : Int) = (m : Int)
  mi : min (52 : Int) (m : Int) = (ln : Int)
  wt : IntKind.i64.wrap (12 + (ln : Int)) = (t : Int)
  k1 : (12 : Int) ≤ (t : Int)
  k2 : (t : Int) ≤ (c : Int)
theorem head_parts (H : Int) (c : Nat) (r0 : 0 ≤ H) (r1 : H < 18446744073709551616) (hc : 64 ≤ c) : ∃ (ln t : Nat) (N : Int), HeadP H c (H % 256).toNat ln t N := by
  have a1 : bits .and .u64 H 255 = (((H % 256).toNat : Nat) : Int) := by
    have h := and255 H r0 r1
    rw [h]
    clear h
    omega
  have hm : (H % 256).toNat < 256 := by clear a1; omega
  generalize (H % 256).toNat = m at *
  have wt : IntKind.i64.wrap (12 + ((min 52 m : Nat) : Int)) = ((12 + min 52 m : Nat) : Int) := by
    have e : (12 : Int) + ((min 52 m : Nat) : Int) = ((12 + min 52 m : Nat) : Int) := by clear a1; omega
    rw [e]
    exact IntWalk.i64_in _ (by clear a1 e; omega)
  have wN : IntKind.u64.wrap (H / 256) = H / 256 := by
    rw [show IntKind.u64.wrap (H / 256) = H / 256 % 18446744073709551616 from rfl]
    clear a1 wt
    omega
  have e1 : 12 + min 52 m - 12 = min 52 m := by clear a1 wt wN; omega
  have e2 : IntKind.i64.wrap (m : Int) = (m : Int) := IntWalk.i64_in _ (by clear a1 wt wN e1; omega)
  have e3 : wrap64 (m : Int) = (m : Int) := by clear a1 wt wN e1 e2; unfold wrap64; omega
  have e4 : min (52 : Int) (m : Int) = ((min 52 m : Nat) : Int) := by clear a1 wt wN e1 e2 e3; omega
  have e5 : (12 : Int) ≤ ((12 + min 52 m : Nat) : Int) := by clear a1 wt wN e1 e2 e3 e4; omega
  have e6 : ((12 + min 52 m : Nat) : Int) ≤ (c : Int) := by clear a1 wt wN e1 e2 e3 e4 e5; omega
  exact ⟨min 52 m, 12 + min 52 m, H / 256, rfl, rfl, e1, wN, a1, e2, e3, e4, wt, e5, e6⟩
def WOpenPost (g o c : Nat) (b : List Int) (w : World) (e : Ending) (w' : World) : Prop := e = .returned (.agg #[.int .u64 (pieN b), .int .u32 (pieE b), .slice (some ⟨g, o + 12, none⟩) (pieL b) (c - 12)]) ∧ Below w.heap.size w w'
set_option maxRecDepth 100000 in
set_option maxHeartbeats 8000000 in
theorem wopen_any (g o c : Nat) (b : List Int) (w : World) (hl : b.length = 64) (hi : Ints .u8 w (.slice (some ⟨g, o, none⟩) 64 c) b) (hb : IsBy b) (hc : 64 ≤ c) : Calls Try.prog 50 #[.slice (some ⟨g, o, none⟩) 64 c] w (WOpenPost g o c b w) := by
  have SC : Hid (∃ v, ∀ y, Below w.heap.size w y → y.cell? ⟨g, o, none⟩ = some (.int .u8 v)) := Lib.hid (by
    obtain ⟨b', o', c', hv, hcc⟩ := hi.shape (by omega)
    simp only [Value.slice.injEq, Option.some.injEq, Addr.mk.injEq] at hv
    obtain ⟨⟨rfl, rfl, _⟩, _, rfl⟩ := hv
    have h0 := hcc 0 (by omega)
    exact ⟨_, fun y k => (k.cell (p := ⟨g, o, none⟩) (World.block_lt_of_cell? w _ h0)).trans h0⟩)
  obtain ⟨v0, hv0⟩ := SC.out
  have SC0 := Lib.hid hv0
  clear hv0 SC
  obtain ⟨b1, h1⟩ : ∃ x, b.drop 8 = x := ⟨_, rfl⟩
  have l1 : b1.length = 56 := by rw [← h1, List.length_drop]; omega
  have y1 : IsBy b1 := by rw [← h1]; exact fun x hx => hb x (List.mem_of_mem_drop hx)
  have q1 : leN (b1.take 4) = fld b 8 4 := by rw [← h1]; rfl
  have NR := Lib.hid fun (y : World) (k : Below w.heap.size w y) => newrd_any g o 64 c b y hl (hi.below' k) (by omega) (by omega)
  have U0 := Lib.hid fun (y : World) (r : Nat) (h : RdAt tRd y r b) => u64r_any r b y h hb (by omega)
  have U1 := Lib.hid fun (y : World) (r : Nat) (h : RdAt tRd y r b1) => u32r_any r b1 y h y1 (by omega)
  rw [h1] at U0
  rw [q1] at U1
  obtain ⟨r0, r1⟩ := leN_range (b.take 8) fun x hx => hb x (List.mem_of_mem_take hx)
  have p8 : (256 : Int) ^ 8 = 18446744073709551616 := by decide
  rw [show (b.take 8).length = 8 by simp; omega, p8] at r1
  have PO : Hid (pieN b = leN (b.take 8) / 256 ∧ pieE b = fld b 8 4 ∧ pieL b = min 52 (leN (b.take 8) % 256).toNat) := Lib.hid ⟨rfl, rfl, rfl⟩
  generalize leN (b.take 8) = H at *
  generalize fld b 8 4 = E at *
  obtain ⟨ln, t, N, HP⟩ := head_parts H c r0 r1 hc
  have PO2 : Hid (pieN b = N ∧ pieE b = E ∧ pieL b = ln) := Lib.hid ⟨by rw [PO.out.1, HP.nn], PO.out.2.1, by rw [PO.out.2.2, HP.ll]⟩
  have TL := Lib.hid HP.tl
  have kc : (64 : Int) ≤ (c : Int) := by omega
  have t12 : (c - 12 : Nat) ≠ 0 := by omega
  have c12 : ¬ c = 12 := by omega
  clear h1 l1 y1 q1 hi hb hl PO p8
  have wN := HP.wN
  have hN := HP.nn
  have a1 := HP.aa
  have wm := HP.w1
  have wm2 := HP.w2
  have dm := HP.mi
  have wt := HP.wt
  have kt1 := HP.k1
  have kt2 := HP.k2
  clear HP r0 r1
  generalize (H % 256).toNat = m at *
  go_enter Try.func50, Try.ntmps50
  go_upto_region 1 with fail
  have R1 : Hid (Row (w.alloc (.cells #[.int .u64 0, .int .u32 0, .slice none 0 0] 73)) w.heap.size #[.int .u64 0, .int .u32 0, .slice none 0 0] 73) := Lib.hid (Row.made _ _ _)
  have B1 : Hid (Below w.heap.size w (w.alloc (.cells #[.int .u64 0, .int .u32 0, .slice none 0 0] 73))) := Lib.hid ((Below.refl _ _).alloc (Nat.le_refl _) _)
  generalize w.alloc (.cells #[.int .u64 0, .int .u32 0, .slice none 0 0] 73) = w1 at *
  go_wp2_with fail
  refine (NR.out w1 B1.out).mono ?_
  rintro _ w2 ⟨r, rfl, hr2, hb2, hrg⟩
  have I2 : Hid (SInv #[.int .u64 0, .int .u32 0, .slice none 0 0] 73 w w2 r b) := Lib.hid ⟨hr2, R1.out.of_block (hb2.block _ R1.out.lt), B1.out.trans (hb2.mono B1.out.size), Nat.lt_of_lt_of_le R1.out.lt hrg⟩
  clear hr2 hb2 hrg NR R1 B1
  go_wp2_with fail
  refine (U0.out _ r I2.out.rd).mono ?_
  rintro _ w3 ⟨rfl, hr3, k3⟩
  have I3 := Lib.hid (I2.out.read hr3 k3).drew
  clear hr3 k3 I2 U0
  go_upto_region 3 with fail
  go_region_held3 (fun x => x.cell? ⟨g, o, none⟩ = some (.int .u8 v0)) (first | exact SC0.out _ I4.out.bl | exact SC0.out _ I3.out.bl | exact SC0.out _ (((I4.out.bl.setCell (Nat.le_refl _) _).setCell (Nat.le_refl _) _).setCell (Nat.le_refl _) _)) (first | (go_at_call 52; refine (U1.out _ r I3.out.rd).mono ?_; rintro _ w4 ⟨rfl, hr4, k4⟩; have I4 := Lib.hid (I3.out.read hr4 k4); have f0 := I4.out.res.free 0; have f1 := I4.out.res.free 1; have f2 := I4.out.res.free 2; have z0 : w4.cell? ⟨w.heap.size, 0, none⟩ = some (.int .u64 0) := I4.out.res.cell 0; have z1 : w4.cell? ⟨w.heap.size, 1, none⟩ = some (.int .u32 0) := I4.out.res.cell 1; have z2 : w4.cell? ⟨w.heap.size, 2, none⟩ = some (.slice none 0 0) := I4.out.res.cell 2; clear hr4 k4))
  all_goals go_wp2_with fail
  all_goals refine bodyPost_ret (results_pie rfl _ _ w.heap.size #[.int .u64 N, .int .u32 E, .slice (some ⟨g, o + 12, none⟩) (t - 12) (c - 12)] rfl rfl (by
    have h := ((I4.out.res.set 0 (.int .u64 N)).set 1 (.int .u32 E)).set 2 (.slice (some ⟨g, o + 12, none⟩) (t - 12) (c - 12))
    simpa using h)) rfl ?_
  all_goals exact ⟨by rw [PO2.out.1, PO2.out.2.1, PO2.out.2.2, ← TL.out], ((I4.out.bl.setCell (Nat.le_refl _) _).setCell (Nat.le_refl _) _).setCell (Nat.le_refl _) _⟩
end Go.Proofs.Ytjhomphbfkbaoaa
