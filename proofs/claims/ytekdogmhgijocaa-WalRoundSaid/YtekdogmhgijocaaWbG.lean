/- wal: Log.Read of any record, over the pieces and the tail (printed by gen_lread.py). -/
import Derived.Test.YtekdogmhgijocaaWbE
import Derived.Test.YtekdogmhgijocaaMg18
namespace Go.Proofs.Ytekdogmhgijocaa
open Go.RowKit Go.ChangeShapes Go.WideShapes Go.ChangeAt
open Go.Proofs.Ytekdogmhgijocaa.dk (Dk Dev sectorD)
set_option linter.unusedVariables false
set_option linter.unusedSimpArgs false

theorem rec_only' {F : List Nat} {W w : World} {g : Nat} (h : Only F W w) (hB : W.heap.size ≤ g) (a0 a1 a2 a3 a4 a5 a6 a7 a8 a9 a10 a11 a12 a13 a14 : Value) : Only F W (((((((((((((((w.setCell ⟨g, 0, none⟩ a0).setCell ⟨g, 1, none⟩ a1).setCell ⟨g, 2, none⟩ a2).setCell ⟨g, 3, none⟩ a3).setCell ⟨g, 4, none⟩ a4).setCell ⟨g, 5, none⟩ a5).setCell ⟨g, 6, none⟩ a6).setCell ⟨g, 7, none⟩ a7).setCell ⟨g, 8, none⟩ a8).setCell ⟨g, 9, none⟩ a9).setCell ⟨g, 10, none⟩ a10).setCell ⟨g, 11, none⟩ a11).setCell ⟨g, 12, none⟩ a12).setCell ⟨g, 13, none⟩ a13).setCell ⟨g, 14, none⟩ a14) :=
  (((((((((((((((h.setCell (.inr hB) _).setCell (.inr hB) _).setCell (.inr hB) _).setCell (.inr hB) _).setCell (.inr hB) _).setCell (.inr hB) _).setCell (.inr hB) _).setCell (.inr hB) _).setCell (.inr hB) _).setCell (.inr hB) _).setCell (.inr hB) _).setCell (.inr hB) _).setCell (.inr hB) _).setCell (.inr hB) _).setCell (.inr hB) _)
/-- What the reading of a record's bytes gives, whatever stands behind them. -/
def RdPost (kind lsn ep txn pg off : Int) (next : Value) (w : World) (e : Ending) (w' : World) : Prop := ∃ (a1 : Option Addr) (n1 d1 : Nat) (a2 : Option Addr) (n2 d2 : Nat), e = .returned (.tuple #[.agg #[Value.int .i64 kind, .int .u64 lsn, .int .u32 ep, .int .u64 txn, .int .u32 pg, .int .u16 off, .slice a1 n1 d1, .slice a2 n2 d2, .slice none 0 0, .int .u64 0, .int .u64 0, .bool false, .int .u64 0, .slice none 0 0, .slice none 0 0], next, .int .i64 0]) ∧ Below w.heap.size w w'
def Reads (Fm : List Int) (kind lsn ep txn pg off : Int) : Prop := ∀ (y : World) (sl : Sl) (rest : List Int), SlRd .u8 y sl → sl.xs = Fm ++ rest → sl.xs.length ≤ sl.c → Calls Try.prog 33 #[sl.v] y (RdPost kind lsn ep txn pg off (.int .i64 (Fm.length : Int)) y)
/-- The bytes X stand in the log: pieces that are full, and the tail. -/
structure LgX (D : Dk) (L : Lg) (s : Sl) (X : List Int) : Prop where
  len : (X.length : Int) = L.end_
  le : X.length ≤ 900000
  st : 0 ≤ L.st
  f0 : 0 ≤ L.fl ∧ L.fl ≤ L.end_
  tail : s.xs = X.drop (L.fl / 52 * 52).toNat
  pie : ∀ n : Nat, L.st / 52 ≤ (n : Int) → ((52 * n + 52 : Nat) : Int) ≤ L.fl → pieB (halfD D L n) = (X.drop (52 * n)).take 52
def LRead (kind lsn ep txn pg off nx : Int) (w : World) (e : Ending) (w' : World) : Prop := ∃ (a1 : Option Addr) (n1 d1 : Nat) (a2 : Option Addr) (n2 d2 : Nat), e = .returned (.tuple #[.agg (recR kind lsn ep txn pg off (.slice a1 n1 d1) (.slice a2 n2 d2)), .int .u64 nx, .int .i64 0]) ∧ Only [] w w'
theorem gather_step {X : List Int} {l a n a' : Nat} (h1 : l ≤ a) (hn : a / 52 = n) (ha : a' = (n + 1) * 52) (hX : a' ≤ X.length) : (X.drop l).take (a - l) ++ ((X.drop (52 * n)).take 52).drop (a % 52) = (X.drop l).take (a' - l) := by
  have e1 : ((X.drop (52 * n)).take 52).drop (a % 52) = (X.drop a).take (a' - a) := by
    rw [List.drop_take, List.drop_drop, show 52 * n + a % 52 = a by omega, show 52 - a % 52 = a' - a by omega]
  rw [e1, show a' - l = (a - l) + (a' - a) by omega, List.take_add, List.drop_drop, show l + (a - l) = a by omega]
theorem ints_drop {w : World} {g o c n r : Nat} {xs : List Int} (h : Ints .u8 w (.slice (some ⟨g, o, none⟩) n c) xs) : ∀ j v, ((xs.drop r).map (Value.int .u8))[j]? = some v → w.cell? ((⟨g, o + r, none⟩ : Addr).add j) = some v := fun j v hj => by
  rw [List.getElem?_map, Option.map_eq_some_iff] at hj
  obtain ⟨z, hz, rfl⟩ := hj
  rw [List.getElem?_drop] at hz
  have hlt := (List.getElem?_eq_some_iff.1 hz).1
  rcases h with ⟨h1, _⟩ | ⟨b, off, cap, e, hc⟩
  · rw [h1] at hlt; simp at hlt
  · simp only [Value.slice.injEq, Option.some.injEq, Addr.mk.injEq] at e
    obtain ⟨⟨rfl, rfl, _⟩, _, _⟩ := e
    rw [add_plain, Nat.add_assoc, hc (r + j) hlt, hz]
    rfl
theorem lgx_full {D : Dk} (hf : D.Fine) {L : Lg} {n : Nat} {X : List Int} (h : pieB (halfD D L n) = (X.drop (52 * n)).take 52) (hX : 52 * n + 52 ≤ X.length) : pieL (halfD D L n) = 52 := by
  have h1 := pieB_len (halfD_len hf L n)
  rw [← h1, h, List.length_take, List.length_drop]
  omega
structure Gat (W0 w wr : World) (X : List Int) (l a fr : Nat) (sl : Sl) : Prop where
  only : Only [] w wr
  bk : Bk wr sl
  xs : sl.xs = (X.drop l).take (a - l)
  new : ∀ b ∈ sl.bs, w.heap.size < b
  row : Row wr w.heap.size rec0 43
  ge : l ≤ a ∧ a ≤ X.length ∧ (a ≤ fr ∨ a = l)
set_option maxRecDepth 100000 in
set_option maxHeartbeats 8000000 in
theorem lread_on {W w : World} {p q : Nat} {D : Dk} {F : List Nat} {L : Lg} {s : Sl} {X Fm rest0 : List Int} {l : Nat} (h : LgAt W w p q D F L s.v) (ht : TlAt W w q F s s.xs) (hx : LgX D L s X) (hd : L.down = false) (ho : D.off = false) (hc : 0 < L.count ∧ L.count ≤ 8192) (ha : 0 ≤ L.at_ ∧ L.at_ + 2 + L.count ≤ D.sectors)
    (kind ep txn pg off : Int) (hst : L.st ≤ (l : Int)) (hen : l < X.length) (hr : X.drop l = Fm ++ rest0) (h16 : Fm.length ≤ 1600) (RD0 : Reads Fm kind (l : Int) ep txn pg off) :
    Calls Try.prog 15 #[.pointer (some ⟨q, 0, none⟩), .int .u64 (l : Int)] w (LRead kind (l : Int) ep txn pg off ((l + Fm.length : Nat) : Int) w) := by
  obtain ⟨lsn, hlsn⟩ : ∃ x : Int, (l : Int) = x := ⟨_, rfl⟩
  obtain ⟨nx, hnx⟩ : ∃ x : Int, ((l + Fm.length : Nat) : Int) = x := ⟨_, rfl⟩
  rw [hnx]
  rw [hlsn] at hst RD0 ⊢
  have RD := Lib.hid RD0
  have H := Lib.hid h
  have HT := Lib.hid ht
  have HX := Lib.hid hx
  have HO := Lib.hid (And.intro ho (And.intro hc ha))
  have HR := Lib.hid (And.intro hr h16)
  have QW : Hid (q < w.heap.size) := Lib.hid h.row.lt
  obtain ⟨fr, hfr⟩ : ∃ fr : Nat, L.fl / 52 * 52 = (fr : Int) := ⟨(L.fl / 52 * 52).toNat, by have := hx.f0; omega⟩
  have hxl := hx.len
  have hxe := hx.le
  have hx0 := hx.f0
  have HF : Hid (L.fl / 52 * 52 = (fr : Int) ∧ fr ≤ X.length ∧ (l : Int) = lsn ∧ l < X.length ∧ X.length ≤ 900000 ∧ L.st ≤ (l : Int)) := Lib.hid (by omega)
  have TX : Hid (s.xs = X.drop fr) := Lib.hid (by rw [hx.tail, hfr]; rfl)
  have c5 : L.fl.tdiv 52 = L.fl / 52 := Int.tdiv_eq_ediv_of_nonneg hx0.1
  have wu : ∀ x : Int, 0 ≤ x → x < 18446744073709551616 → IntKind.u64.wrap x = x := fun x h0 h1 => by rw [show IntKind.u64.wrap x = x % 18446744073709551616 from rfl]; omega
  have WU := Lib.hid wu
  have e1 : IntKind.u64.wrap (L.fl / 52) = L.fl / 52 := wu _ (by omega) (by omega)
  have e2 : IntKind.u64.wrap (L.fl / 52 * 52) = (fr : Int) := by rw [hfr]; exact wu _ (by omega) (by omega)
  have e3 : IntKind.u64.wrap (Fm.length : Int) = (Fm.length : Int) := wu _ (by omega) (by omega)
  have e4 : IntKind.u64.wrap (lsn + (Fm.length : Int)) = nx := by rw [← hlsn, ← hnx]; exact wu _ (by omega) (by omega)
  have d1 : decide (lsn < L.st) = false := decide_eq_false (by omega)
  have d2 : decide (L.end_ ≤ lsn) = false := decide_eq_false (by omega)
  obtain ⟨sa, hsa⟩ : ∃ a, s.a = a := ⟨_, rfl⟩
  obtain ⟨sn, hsn⟩ : ∃ a, s.xs.length = a := ⟨_, rfl⟩
  obtain ⟨sc, hsc⟩ : ∃ a, s.c = a := ⟨_, rfl⟩
  have SV : Hid (s.v = .slice sa sn sc ∧ s.a = sa ∧ s.xs.length = sn ∧ s.c = sc) := Lib.hid ⟨by unfold Sl.v; rw [hsa, hsn, hsc], hsa, hsn, hsc⟩
  clear h ht hx ho hc ha hst hen hr h16 RD0 hxl hxe hx0 hfr hsa hsn hsc hlsn hnx wu
  go_enter Try.func15, Try.ntmps15
  go_upto_region 1 with fail
  have R1 : Hid (Row (w.alloc (.cells #[Value.int .i64 0, .int .u64 0, .int .u32 0, .int .u64 0, .int .u32 0, .int .u16 0, .slice none 0 0, .slice none 0 0, .slice none 0 0, .int .u64 0, .int .u64 0, .bool false, .int .u64 0, .slice none 0 0, .slice none 0 0] 43)) w.heap.size rec0 43) := Lib.hid (Row.made _ _ _)
  have K1 : Hid (Only [] w (w.alloc (.cells #[Value.int .i64 0, .int .u64 0, .int .u32 0, .int .u64 0, .int .u32 0, .int .u16 0, .slice none 0 0, .slice none 0 0, .slice none 0 0, .int .u64 0, .int .u64 0, .bool false, .int .u64 0, .slice none 0 0, .slice none 0 0] 43))) := Lib.hid ((Only.refl [] w).alloc _)
  generalize w.alloc (.cells #[Value.int .i64 0, .int .u64 0, .int .u32 0, .int .u64 0, .int .u32 0, .int .u16 0, .slice none 0 0, .slice none 0 0, .slice none 0 0, .int .u64 0, .int .u64 0, .bool false, .int .u64 0, .slice none 0 0, .slice none 0 0] 43) = w1 at *
  have H1 := Lib.hid (H.out.only K1.out (by simp))
  have TH := Lib.hid (there_on H1.out.row hd)
  go_wp2_with fail
  refine TH.out.mono ?_
  rintro _ w2 ⟨rfl, hw2⟩
  subst hw2
  have k5 : w2.cell? ⟨q, 5, none⟩ = some (.int .u64 L.st) := H1.out.row.cell 5
  have k8 : w2.cell? ⟨q, 8, none⟩ = some (.int .u64 L.end_) := H1.out.row.cell 8
  have k9 : w2.cell? ⟨q, 9, none⟩ = some (.int .u64 L.fl) := H1.out.row.cell 9
  go_wp2_with fail
  go_loopw [8, 10, 11, 12] (fun s8 s10 _ _ wr => ∃ sl : Sl, ∃ a : Nat, s8 = sl.v ∧ s10 = .int .u64 (a : Int) ∧ Hid (Gat W w wr X l a fr sl)) (fun _ s10 _ _ _ => fr + 1000 - (intOf s10).toNat)
  case atStart => exact ⟨Sl.no, l, rfl, by rw [HF.out.2.2.1], Lib.hid ⟨K1.out, Bk.no _, by simp [Sl.no], by simp [Sl.bs, Sl.no], R1.out, by have := HF.out; omega⟩⟩
  case round =>
    obtain ⟨sl, a, rfl, rfl, HG⟩ := hrel
    rename World => w3
    obtain ⟨va, hva⟩ : ∃ x, sl.a = x := ⟨_, rfl⟩
    obtain ⟨vn, hvn⟩ : ∃ x, sl.xs.length = x := ⟨_, rfl⟩
    obtain ⟨vc, hvc⟩ : ∃ x, sl.c = x := ⟨_, rfl⟩
    have VV : Hid (sl.v = .slice va vn vc ∧ sl.a = va ∧ sl.xs.length = vn ∧ sl.c = vc) := Lib.hid ⟨by unfold Sl.v; rw [hva, hvn, hvc], hva, hvn, hvc⟩
    rw [VV.out.1]
    clear hva hvn hvc
    have H3 := Lib.hid (H.out.only HG.out.only (by simp))
    by_cases hgo : a < fr ∧ vn < 1600
    · have d3 : decide ((a : Int) < (fr : Int)) = true := decide_eq_true (by omega)
      have d4 : decide ((vn : Int) < 1600) = true := decide_eq_true (by omega)
      have d3' : decide (a < fr) = true := decide_eq_true (by omega)
      have d4' : decide (vn < 1600) = true := decide_eq_true (by omega)
      obtain ⟨n, hn⟩ : ∃ n, a / 52 = n := ⟨_, rfl⟩
      obtain ⟨r, hr⟩ : ∃ r, a % 52 = r := ⟨_, rfl⟩
      obtain ⟨a', ha'⟩ : ∃ x, (n + 1) * 52 = x := ⟨_, rfl⟩
      have hF := HF.out
      have hX := HX.out
      have AB : Hid (a < fr ∧ a / 52 = n ∧ a % 52 = r ∧ a' = (n + 1) * 52 ∧ a' ≤ fr ∧ a' ≤ X.length ∧ L.st / 52 ≤ (n : Int) ∧ ((52 * n + 52 : Nat) : Int) ≤ L.fl ∧ vn < 1600) := Lib.hid (by have := HG.out.ge; have := hX.f0; have := hX.st; have := hF.2.2.2.2.2; omega)
      have PO := Lib.hid (piece_on H3.out HO.out.1 (n : Int) (by omega) (by have := AB.out; have := hF; omega) HO.out.2.1 HO.out.2.2)
      have PB := Lib.hid (hX.pie n AB.out.2.2.2.2.2.2.1 AB.out.2.2.2.2.2.2.2.1)
      have g1 : (a : Int).tdiv 52 = (n : Int) := by rw [Int.tdiv_eq_ediv_of_nonneg (by omega)]; omega
      have g2 : (a : Int).tmod 52 = (r : Int) := by rw [Int.tmod_eq_emod_of_nonneg (by omega)]; omega
      have g3 : IntKind.u64.wrap (n : Int) = (n : Int) := WU.out _ (by omega) (by have := AB.out; omega)
      have g4 : IntKind.u64.wrap (r : Int) = (r : Int) := WU.out _ (by omega) (by have := AB.out; omega)
      have g5 : IntKind.u64.wrap ((n : Int) + 1) = (n : Int) + 1 := WU.out _ (by omega) (by have := AB.out; omega)
      have g6 : IntKind.u64.wrap (((n : Int) + 1) * 52) = (a' : Int) := by rw [show ((n : Int) + 1) * 52 = (a' : Int) by omega]; exact WU.out _ (by omega) (by have := AB.out; omega)
      clear hgo hn hr ha' hF hX
      go_wp2_with fail
      refine PO.out.mono ?_
      rintro _ w4 ⟨g, o, cc, rfl, hi4, hl4, k4, hg4⟩
      have HP4 := Lib.hid (And.intro hi4 (And.intro hl4 hg4))
      have K4 := Lib.hid (HG.out.only.and k4)
      have B4 := Lib.hid (HG.out.bk.only k4 (by simp))
      have Z4 := Lib.hid (HG.out.row.only k4 (by simp))
      clear hi4 hl4 hg4 k4 PO
      have PL : pieL (halfD D L n) = 52 := lgx_full H3.out.dev.fine PB.out (by have := AB.out; omega)
      rw [PL] at HP4 ⊢
      have HPI : Hid (Ints .u8 w4 (.slice (some ⟨g, o, none⟩) 52 cc) ((X.drop (52 * n)).take 52) ∧ 52 ≤ cc) := Lib.hid (by rw [← PB.out]; exact ⟨HP4.out.1, HP4.out.2.1⟩)
      generalize pieN (halfD D L ↑n) = pn at *
      generalize pieE (halfD D L ↑n) = pe at *
      clear HP4 PB PL
      go_wp2_with fail
      have X5 : Hid (Row (w4.alloc (.cells #[.int .u64 pn, .int .u32 pe, .slice (some ⟨g, o, none⟩) 52 cc] 75)) w4.heap.size #[.int .u64 pn, .int .u32 pe, .slice (some ⟨g, o, none⟩) 52 cc] 75) := Lib.hid (Row.made _ _ _)
      have KA : Hid (Only [] w4 (w4.alloc (.cells #[.int .u64 pn, .int .u32 pe, .slice (some ⟨g, o, none⟩) 52 cc] 75))) := Lib.hid ((Only.refl _ _).alloc _)
      generalize w4.alloc (.cells #[.int .u64 pn, .int .u32 pe, .slice (some ⟨g, o, none⟩) 52 cc] 75) = w5 at *
      generalize w4.heap.size = x5 at *
      have K5 := Lib.hid (K4.out.and KA.out)
      have B5 := Lib.hid (B4.out.only KA.out (by simp))
      have Z5 := Lib.hid (Z4.out.only KA.out (by simp))
      have SC5 : Hid (∀ j v, ((((X.drop (52 * n)).take 52).drop r).map (Value.int .u8))[j]? = some v → w5.cell? ((⟨g, o + r, none⟩ : Addr).add j) = some v) := Lib.hid fun j v hj => by
        have h := ints_drop HPI.out.1 (r := r) j v hj
        rw [add_plain] at h ⊢
        rw [KA.out.cell (World.block_lt_of_cell? _ _ h) (by simp)]
        exact h
      have YL : Hid ((((X.drop (52 * n)).take 52).drop r).length = 52 - r) := Lib.hid (by rw [List.length_drop, List.length_take, List.length_drop]; have := AB.out; omega)
      clear KA K4 B4 Z4
      refine (fails_ok q w5).mono ?_
      rintro _ w6 ⟨rfl, hw6⟩
      subst hw6
      obtain ⟨sl', w7, hrun, hxs, hbk, hon, hbs⟩ := B5.out.append rfl 32 32 Try.underlying32 (v := .slice (some ⟨g, o + r, none⟩) (52 - r) (cc - r)) (ys := ((X.drop (52 * n)).take 52).drop r) (.inr ⟨⟨g, o + r, none⟩, cc - r, by rw [YL.out], by simp, SC5.out⟩) (by rw [YL.out, VV.out.2.2.1]; have := AB.out; omega)
      rw [VV.out.1] at hrun
      have N7 : Hid (Gat W w w7 X l a' fr sl') := Lib.hid (by
        have hq := HG.out
        have hs := K5.out.size
        refine ⟨K5.out.trans hon fun b hb => .inr (Nat.le_of_lt (hq.new b hb)), hbk, ?_, fun b hb => ?_, Z5.out.only hon fun hb => ?_, ?_⟩
        · rw [hxs, hq.xs, ← AB.out.2.2.1]
          exact gather_step hq.ge.1 AB.out.2.1 AB.out.2.2.2.1 AB.out.2.2.2.2.2.1
        · rcases hbs b hb with h | h
          · exact hq.new b h
          · have := Z5.out.lt; omega
        · have := hq.new _ hb; omega
        · have := hq.ge; have := AB.out; omega)
      obtain ⟨ua, hua⟩ : ∃ x, sl'.a = x := ⟨_, rfl⟩
      obtain ⟨un, hun⟩ : ∃ x, sl'.xs.length = x := ⟨_, rfl⟩
      obtain ⟨uc, huc⟩ : ∃ x, sl'.c = x := ⟨_, rfl⟩
      have UV : Hid (sl'.v = .slice ua un uc) := Lib.hid (by unfold Sl.v; rw [hua, hun, huc])
      rw [UV.out] at hrun
      have x2 : w6.cell? ⟨x5, 2, none⟩ = some (.slice (some ⟨g, o, none⟩) 52 cc) := X5.out.cell 2
      have r1 : (r : Int) ≤ 52 := by have := AB.out; omega
      have r0 : (0 : Int) ≤ (r : Int) := by omega
      have r2 : (52 : Int) ≤ (cc : Int) := by have := HPI.out.2; omega
      have r3 : (cc - r : Nat) ≠ 0 := by have := HPI.out.2; have := AB.out; omega
      clear hua hun huc hxs hbk hon hbs
      go_wp2_with (at_builtin; refine wpList_append_eq rfl _ _ 32 rfl (.slice va vn vc) (.slice (some ⟨g, o + r, none⟩) (52 - r) (cc - r)) (.slice ua un uc) w7 rfl rfl hrun ?_)
      exact ⟨⟨sl', a', UV.out.symm, rfl, N7⟩, by have := AB.out; simp [intOf]; omega⟩
    · by_cases hal : fr ≤ a
      · have hF := HF.out
        have d3 : decide ((a : Int) < (fr : Int)) = false := decide_eq_false (by omega)
        have d3' : decide (a < fr) = false := decide_eq_false (by omega)
        have d5 : decide ((fr : Int) ≤ (a : Int)) = true := decide_eq_true (by omega)
        have d5' : decide (fr ≤ a) = true := decide_eq_true hal
        obtain ⟨lo, hlo⟩ : ∃ x, a - fr = x := ⟨_, rfl⟩
        have hge := HG.out.ge
        have g1 : IntKind.u64.wrap ((a : Int) - (fr : Int)) = (lo : Int) := by rw [show (a : Int) - (fr : Int) = (lo : Int) by omega]; exact WU.out _ (by omega) (by omega)
        have T3 := Lib.hid (HT.out.only HG.out.only (by simp))
        have hlen : s.xs.length = X.length - fr := by rw [TX.out, List.length_drop]
        have hls : lo ≤ s.xs.length := by omega
        have LS : Hid (lo + fr = a ∧ lo ≤ s.xs.length ∧ s.xs.length = X.length - fr) := Lib.hid ⟨by omega, hls, hlen⟩
        have CX : Hid ((s.cut lo s.xs.length).xs = X.drop a) := Lib.hid (by
          have h := LS.out
          unfold Sl.cut
          simp only
          rw [List.take_of_length_le (by rw [List.length_drop]; omega), TX.out, List.drop_drop, show fr + lo = a by omega])
        have CB := Lib.hid (T3.out.bk.tail hls)
        have RT := fun y => run_tail (P := Try.prog) Try.underlying32 infoBy .u64 s hls y
        obtain ⟨ca, cl, cc, hcv⟩ : ∃ a l c, (s.cut lo s.xs.length).v = .slice a l c := ⟨_, _, _, rfl⟩
        have RC : ∀ y, (Instr.slice 32 (.slice sa sn sc) (some (.int .u64 (lo : Int))) none none).run Try.prog y = .ok (.slice ca cl cc) y := fun y => by
          have h := RT y
          rw [hcv, SV.out.2.1, SV.out.2.2.1, SV.out.2.2.2] at h
          exact h
        have c11 : w3.cell? ⟨q, 11, none⟩ = some (.slice sa sn sc) := by rw [← SV.out.1]; exact H3.out.row.cell 11
        obtain ⟨sl', w7, hrun, hxs, hbk, hon, hbs⟩ := HG.out.bk.append rfl 32 32 Try.underlying32 (v := (s.cut lo s.xs.length).v) (ys := (s.cut lo s.xs.length).xs) CB.out.src (by rw [CX.out, VV.out.2.2.1, List.length_drop]; have h1 := congrArg List.length HG.out.xs; rw [VV.out.2.2.1, List.length_take, List.length_drop] at h1; omega)
        rw [VV.out.1, hcv] at hrun
        have XB : Hid (sl'.xs = Fm ++ rest0) := Lib.hid (by
          rw [hxs, CX.out, HG.out.xs, ← HR.out.1]
          have : (X.drop l).drop (a - l) = X.drop a := by rw [List.drop_drop, show l + (a - l) = a by omega]
          rw [← this]
          exact List.take_append_drop _ _)
        have BB := Lib.hid hbk
        have KB : Hid (Only [] w w7) := Lib.hid (HG.out.only.trans hon fun b hb => .inr (Nat.le_of_lt (HG.out.new b hb)))
        have ZB := Lib.hid (HG.out.row.only hon fun hb => by have := HG.out.new _ hb; omega)
        obtain ⟨ua, hua⟩ : ∃ x, sl'.a = x := ⟨_, rfl⟩
        obtain ⟨un, hun⟩ : ∃ x, sl'.xs.length = x := ⟨_, rfl⟩
        obtain ⟨uc, huc⟩ : ∃ x, sl'.c = x := ⟨_, rfl⟩
        have UV : Hid (sl'.v = .slice ua un uc) := Lib.hid (by unfold Sl.v; rw [hua, hun, huc])
        rw [UV.out] at hrun
        clear hua hun huc hxs hbk hon hbs RT hcv hlen hls hge hF hlo hal hgo
        go_wp2_with (at_builtin; refine wpList_append_eq rfl _ _ 32 rfl (.slice va vn vc) (.slice ca cl cc) (.slice ua un uc) w7 rfl rfl hrun ?_)
        have RDI := RD.out w7 sl' rest0 BB.out.rd XB.out BB.out.cap.1
        rw [UV.out] at RDI
        refine RDI.mono ?_
        clear RDI
        rintro _ w6 ⟨a1, n1, d1, a2, n2, d2, rfl, b6⟩
        have K6 : Hid (Only [] w w6) := Lib.hid (KB.out.and ((Only.refl [] _).below b6))
        have Z6 : Hid (Row w6 w.heap.size rec0 43) := Lib.hid (ZB.out.of_block (b6.block _ ZB.out.lt))
        clear b6
        go_upto_region 18 with fail
        have X7 : Hid (Row (w6.alloc (.cells #[Value.int .i64 kind, .int .u64 lsn, .int .u32 ep, .int .u64 txn, .int .u32 pg, .int .u16 off, .slice a1 n1 d1, .slice a2 n2 d2, .slice none 0 0, .int .u64 0, .int .u64 0, .bool false, .int .u64 0, .slice none 0 0, .slice none 0 0] 43)) w6.heap.size (recR kind lsn ep txn pg off (.slice a1 n1 d1) (.slice a2 n2 d2)) 43) := Lib.hid (Row.made _ _ _)
        have K7 : Hid (Only [] w (w6.alloc (.cells #[Value.int .i64 kind, .int .u64 lsn, .int .u32 ep, .int .u64 txn, .int .u32 pg, .int .u16 off, .slice a1 n1 d1, .slice a2 n2 d2, .slice none 0 0, .int .u64 0, .int .u64 0, .bool false, .int .u64 0, .slice none 0 0, .slice none 0 0] 43))) := Lib.hid (K6.out.alloc _)
        have Z7 : Hid (Row (w6.alloc (.cells #[Value.int .i64 kind, .int .u64 lsn, .int .u32 ep, .int .u64 txn, .int .u32 pg, .int .u16 off, .slice a1 n1 d1, .slice a2 n2 d2, .slice none 0 0, .int .u64 0, .int .u64 0, .bool false, .int .u64 0, .slice none 0 0, .slice none 0 0] 43)) w.heap.size rec0 43) := Lib.hid (Z6.out.only ((Only.refl [] _).alloc _) (by simp))
        generalize w6.alloc (.cells #[Value.int .i64 kind, .int .u64 lsn, .int .u32 ep, .int .u64 txn, .int .u32 pg, .int .u16 off, .slice a1 n1 d1, .slice a2 n2 d2, .slice none 0 0, .int .u64 0, .int .u64 0, .bool false, .int .u64 0, .slice none 0 0, .slice none 0 0] 43) = w7 at *
        generalize w6.heap.size = x at *
        have k0 : w7.cell? ⟨x, 0, none⟩ = some (.int .i64 kind) := X7.out.cell 0
        have k1 : w7.cell? ⟨x, 1, none⟩ = some (.int .u64 lsn) := X7.out.cell 1
        have k2 : w7.cell? ⟨x, 2, none⟩ = some (.int .u32 ep) := X7.out.cell 2
        have k3 : w7.cell? ⟨x, 3, none⟩ = some (.int .u64 txn) := X7.out.cell 3
        have k4 : w7.cell? ⟨x, 4, none⟩ = some (.int .u32 pg) := X7.out.cell 4
        have k5 : w7.cell? ⟨x, 5, none⟩ = some (.int .u16 off) := X7.out.cell 5
        have k6 : w7.cell? ⟨x, 6, none⟩ = some (.slice a1 n1 d1) := X7.out.cell 6
        have k7 : w7.cell? ⟨x, 7, none⟩ = some (.slice a2 n2 d2) := X7.out.cell 7
        have k8 : w7.cell? ⟨x, 8, none⟩ = some (.slice none 0 0) := X7.out.cell 8
        have k9 : w7.cell? ⟨x, 9, none⟩ = some (.int .u64 0) := X7.out.cell 9
        have k10 : w7.cell? ⟨x, 10, none⟩ = some (.int .u64 0) := X7.out.cell 10
        have k11 : w7.cell? ⟨x, 11, none⟩ = some (.bool false) := X7.out.cell 11
        have k12 : w7.cell? ⟨x, 12, none⟩ = some (.int .u64 0) := X7.out.cell 12
        have k13 : w7.cell? ⟨x, 13, none⟩ = some (.slice none 0 0) := X7.out.cell 13
        have k14 : w7.cell? ⟨x, 14, none⟩ = some (.slice none 0 0) := X7.out.cell 14
        have m0 : w7.cell? ⟨w.heap.size, 0, none⟩ = some (.int .i64 0) := Z7.out.cell 0
        have m1 : w7.cell? ⟨w.heap.size, 1, none⟩ = some (.int .u64 0) := Z7.out.cell 1
        have m2 : w7.cell? ⟨w.heap.size, 2, none⟩ = some (.int .u32 0) := Z7.out.cell 2
        have m3 : w7.cell? ⟨w.heap.size, 3, none⟩ = some (.int .u64 0) := Z7.out.cell 3
        have m4 : w7.cell? ⟨w.heap.size, 4, none⟩ = some (.int .u32 0) := Z7.out.cell 4
        have m5 : w7.cell? ⟨w.heap.size, 5, none⟩ = some (.int .u16 0) := Z7.out.cell 5
        have m6 : w7.cell? ⟨w.heap.size, 6, none⟩ = some (.slice none 0 0) := Z7.out.cell 6
        have m7 : w7.cell? ⟨w.heap.size, 7, none⟩ = some (.slice none 0 0) := Z7.out.cell 7
        have m8 : w7.cell? ⟨w.heap.size, 8, none⟩ = some (.slice none 0 0) := Z7.out.cell 8
        have m9 : w7.cell? ⟨w.heap.size, 9, none⟩ = some (.int .u64 0) := Z7.out.cell 9
        have m10 : w7.cell? ⟨w.heap.size, 10, none⟩ = some (.int .u64 0) := Z7.out.cell 10
        have m11 : w7.cell? ⟨w.heap.size, 11, none⟩ = some (.bool false) := Z7.out.cell 11
        have m12 : w7.cell? ⟨w.heap.size, 12, none⟩ = some (.int .u64 0) := Z7.out.cell 12
        have m13 : w7.cell? ⟨w.heap.size, 13, none⟩ = some (.slice none 0 0) := Z7.out.cell 13
        have m14 : w7.cell? ⟨w.heap.size, 14, none⟩ = some (.slice none 0 0) := Z7.out.cell 14
        have f0 := Z7.out.free 0
        have f1 := Z7.out.free 1
        have f2 := Z7.out.free 2
        have f3 := Z7.out.free 3
        have f4 := Z7.out.free 4
        have f5 := Z7.out.free 5
        have f6 := Z7.out.free 6
        have f7 := Z7.out.free 7
        have f8 := Z7.out.free 8
        have f9 := Z7.out.free 9
        have f10 := Z7.out.free 10
        have f11 := Z7.out.free 11
        have f12 := Z7.out.free 12
        have f13 := Z7.out.free 13
        have f14 := Z7.out.free 14
        go_wp2_with fail
        refine bodyPost_ret (results_rec3 rfl _ _ w.heap.size (recR kind lsn ep txn pg off (.slice a1 n1 d1) (.slice a2 n2 d2)) rfl rfl ?_) rfl ?_
        · exact rec_stored Z7.out _ _ _ _ _ _ _ _ _ _ _ _ _ _ _
        · exact ⟨a1, n1, d1, a2, n2, d2, rfl, rec_only' K7.out (Nat.le_refl _) _ _ _ _ _ _ _ _ _ _ _ _ _ _ _⟩
      · have hv : ¬ vn < 1600 := fun h => hgo ⟨by omega, h⟩
        have d3 : decide ((a : Int) < (fr : Int)) = true := decide_eq_true (by omega)
        have d3' : decide (a < fr) = true := decide_eq_true (by omega)
        have d4 : decide ((vn : Int) < 1600) = false := decide_eq_false (by omega)
        have d4' : decide (vn < 1600) = false := decide_eq_false (by omega)
        have d5 : decide ((fr : Int) ≤ (a : Int)) = false := decide_eq_false (by omega)
        have d5' : decide (fr ≤ a) = false := decide_eq_false hal
        have XB : Hid (sl.xs = Fm ++ rest0.take (sl.xs.length - Fm.length)) := Lib.hid (by
          have h1 := HG.out.xs
          rw [HR.out.1] at h1
          have h2 := VV.out.2.2.1
          have h3 := HR.out.2
          have h4 := congrArg List.length h1
          rw [List.length_take, List.length_append] at h4
          rw [h1, List.take_append, List.take_of_length_le (by omega)]
          congr 1
          rw [List.take_eq_take_iff, List.length_append, List.length_take]
          omega)
        have BB := Lib.hid HG.out.bk
        have KB := Lib.hid HG.out.only
        have ZB := Lib.hid HG.out.row
        clear hal hgo hv
        go_wp2_with fail
        have RDI := RD.out w3 sl (rest0.take (sl.xs.length - Fm.length)) BB.out.rd XB.out BB.out.cap.1
        rw [VV.out.1] at RDI
        refine RDI.mono ?_
        clear RDI
        rintro _ w6 ⟨a1, n1, d1, a2, n2, d2, rfl, b6⟩
        have K6 : Hid (Only [] w w6) := Lib.hid (KB.out.and ((Only.refl [] _).below b6))
        have Z6 : Hid (Row w6 w.heap.size rec0 43) := Lib.hid (ZB.out.of_block (b6.block _ ZB.out.lt))
        clear b6
        go_upto_region 18 with fail
        have X7 : Hid (Row (w6.alloc (.cells #[Value.int .i64 kind, .int .u64 lsn, .int .u32 ep, .int .u64 txn, .int .u32 pg, .int .u16 off, .slice a1 n1 d1, .slice a2 n2 d2, .slice none 0 0, .int .u64 0, .int .u64 0, .bool false, .int .u64 0, .slice none 0 0, .slice none 0 0] 43)) w6.heap.size (recR kind lsn ep txn pg off (.slice a1 n1 d1) (.slice a2 n2 d2)) 43) := Lib.hid (Row.made _ _ _)
        have K7 : Hid (Only [] w (w6.alloc (.cells #[Value.int .i64 kind, .int .u64 lsn, .int .u32 ep, .int .u64 txn, .int .u32 pg, .int .u16 off, .slice a1 n1 d1, .slice a2 n2 d2, .slice none 0 0, .int .u64 0, .int .u64 0, .bool false, .int .u64 0, .slice none 0 0, .slice none 0 0] 43))) := Lib.hid (K6.out.alloc _)
        have Z7 : Hid (Row (w6.alloc (.cells #[Value.int .i64 kind, .int .u64 lsn, .int .u32 ep, .int .u64 txn, .int .u32 pg, .int .u16 off, .slice a1 n1 d1, .slice a2 n2 d2, .slice none 0 0, .int .u64 0, .int .u64 0, .bool false, .int .u64 0, .slice none 0 0, .slice none 0 0] 43)) w.heap.size rec0 43) := Lib.hid (Z6.out.only ((Only.refl [] _).alloc _) (by simp))
        generalize w6.alloc (.cells #[Value.int .i64 kind, .int .u64 lsn, .int .u32 ep, .int .u64 txn, .int .u32 pg, .int .u16 off, .slice a1 n1 d1, .slice a2 n2 d2, .slice none 0 0, .int .u64 0, .int .u64 0, .bool false, .int .u64 0, .slice none 0 0, .slice none 0 0] 43) = w7 at *
        generalize w6.heap.size = x at *
        have k0 : w7.cell? ⟨x, 0, none⟩ = some (.int .i64 kind) := X7.out.cell 0
        have k1 : w7.cell? ⟨x, 1, none⟩ = some (.int .u64 lsn) := X7.out.cell 1
        have k2 : w7.cell? ⟨x, 2, none⟩ = some (.int .u32 ep) := X7.out.cell 2
        have k3 : w7.cell? ⟨x, 3, none⟩ = some (.int .u64 txn) := X7.out.cell 3
        have k4 : w7.cell? ⟨x, 4, none⟩ = some (.int .u32 pg) := X7.out.cell 4
        have k5 : w7.cell? ⟨x, 5, none⟩ = some (.int .u16 off) := X7.out.cell 5
        have k6 : w7.cell? ⟨x, 6, none⟩ = some (.slice a1 n1 d1) := X7.out.cell 6
        have k7 : w7.cell? ⟨x, 7, none⟩ = some (.slice a2 n2 d2) := X7.out.cell 7
        have k8 : w7.cell? ⟨x, 8, none⟩ = some (.slice none 0 0) := X7.out.cell 8
        have k9 : w7.cell? ⟨x, 9, none⟩ = some (.int .u64 0) := X7.out.cell 9
        have k10 : w7.cell? ⟨x, 10, none⟩ = some (.int .u64 0) := X7.out.cell 10
        have k11 : w7.cell? ⟨x, 11, none⟩ = some (.bool false) := X7.out.cell 11
        have k12 : w7.cell? ⟨x, 12, none⟩ = some (.int .u64 0) := X7.out.cell 12
        have k13 : w7.cell? ⟨x, 13, none⟩ = some (.slice none 0 0) := X7.out.cell 13
        have k14 : w7.cell? ⟨x, 14, none⟩ = some (.slice none 0 0) := X7.out.cell 14
        have m0 : w7.cell? ⟨w.heap.size, 0, none⟩ = some (.int .i64 0) := Z7.out.cell 0
        have m1 : w7.cell? ⟨w.heap.size, 1, none⟩ = some (.int .u64 0) := Z7.out.cell 1
        have m2 : w7.cell? ⟨w.heap.size, 2, none⟩ = some (.int .u32 0) := Z7.out.cell 2
        have m3 : w7.cell? ⟨w.heap.size, 3, none⟩ = some (.int .u64 0) := Z7.out.cell 3
        have m4 : w7.cell? ⟨w.heap.size, 4, none⟩ = some (.int .u32 0) := Z7.out.cell 4
        have m5 : w7.cell? ⟨w.heap.size, 5, none⟩ = some (.int .u16 0) := Z7.out.cell 5
        have m6 : w7.cell? ⟨w.heap.size, 6, none⟩ = some (.slice none 0 0) := Z7.out.cell 6
        have m7 : w7.cell? ⟨w.heap.size, 7, none⟩ = some (.slice none 0 0) := Z7.out.cell 7
        have m8 : w7.cell? ⟨w.heap.size, 8, none⟩ = some (.slice none 0 0) := Z7.out.cell 8
        have m9 : w7.cell? ⟨w.heap.size, 9, none⟩ = some (.int .u64 0) := Z7.out.cell 9
        have m10 : w7.cell? ⟨w.heap.size, 10, none⟩ = some (.int .u64 0) := Z7.out.cell 10
        have m11 : w7.cell? ⟨w.heap.size, 11, none⟩ = some (.bool false) := Z7.out.cell 11
        have m12 : w7.cell? ⟨w.heap.size, 12, none⟩ = some (.int .u64 0) := Z7.out.cell 12
        have m13 : w7.cell? ⟨w.heap.size, 13, none⟩ = some (.slice none 0 0) := Z7.out.cell 13
        have m14 : w7.cell? ⟨w.heap.size, 14, none⟩ = some (.slice none 0 0) := Z7.out.cell 14
        have f0 := Z7.out.free 0
        have f1 := Z7.out.free 1
        have f2 := Z7.out.free 2
        have f3 := Z7.out.free 3
        have f4 := Z7.out.free 4
        have f5 := Z7.out.free 5
        have f6 := Z7.out.free 6
        have f7 := Z7.out.free 7
        have f8 := Z7.out.free 8
        have f9 := Z7.out.free 9
        have f10 := Z7.out.free 10
        have f11 := Z7.out.free 11
        have f12 := Z7.out.free 12
        have f13 := Z7.out.free 13
        have f14 := Z7.out.free 14
        go_wp2_with fail
        refine bodyPost_ret (results_rec3 rfl _ _ w.heap.size (recR kind lsn ep txn pg off (.slice a1 n1 d1) (.slice a2 n2 d2)) rfl rfl ?_) rfl ?_
        · exact rec_stored Z7.out _ _ _ _ _ _ _ _ _ _ _ _ _ _ _
        · exact ⟨a1, n1, d1, a2, n2, d2, rfl, rec_only' K7.out (Nat.le_refl _) _ _ _ _ _ _ _ _ _ _ _ _ _ _ _⟩
end Go.Proofs.Ytekdogmhgijocaa
