/- wal: Read of what is undone wholly, out of the tail. -/
import Derived.Test.YtjhomphbfkbaoaaWaM
import Derived.Test.YtjhomphbfkbaoaaWaP
namespace Go.Proofs.Ytjhomphbfkbaoaa
open Go.RowKit Go.ChangeShapes Go.WideShapes Go.ChangeAt
open Go.Proofs.Ytjhomphbfkbaoaa.dk (Dk Dev)
set_option linter.unusedVariables false

def LReadPost (lsn ep txn : Int) (w : World) (e : Ending) (w' : World) : Prop := e = .returned (.tuple #[.agg (recR 4 lsn ep txn 0 0 (.slice none 0 0) (.slice none 0 0)), .int .u64 (lsn + 27), .int .i64 0]) ∧ Below w.heap.size w w'
set_option maxRecDepth 100000 in
set_option maxHeartbeats 8000000 in
theorem lread_tail {W w : World} {p q : Nat} {D : Dk} {F : List Nat} {L : Lg} {tail : Value} {zs : List Int} (h : LgAt W w p q D F L tail) (ht : TailAt W w q F tail zs) (hd : L.down = false) (lsn ep txn : Int) (fr lo : Nat) (rest : List Int)
    (h0 : 0 ≤ lsn) (h1 : lsn < 1152921504606846976) (h2 : 0 ≤ ep) (h3 : ep < 4294967296) (h4 : 0 < txn) (h5 : txn < 18446744073709551616)
    (hst : L.st ≤ lsn) (hen : lsn < L.end_) (hfl : 0 ≤ L.fl) (hfl2 : L.fl < 1152921504606846976) (hfr : L.fl / 52 * 52 = (fr : Int)) (hlo : lsn = (fr : Int) + lo) (hz : zs.length ≤ 1000000) (hrest : zs.drop lo = formD lsn ep txn ++ rest) :
    Calls Try.prog 15 #[.pointer (some ⟨q, 0, none⟩), .int .u64 lsn] w (LReadPost lsn ep txn w) := by
  have H := Lib.hid h
  have HT := Lib.hid ht
  have HLEN : Hid (zs.length = lo + 27 + rest.length) := Lib.hid (by
    have := congrArg List.length hrest
    rw [List.length_drop, List.length_append, formD_len] at this
    omega)
  have HR := Lib.hid hrest
  have RD := Lib.hid fun (y : World) (g n c : Nat) (hn : n = 27 + rest.length) (hi : Ints .u8 y (.slice (some ⟨g, 0, none⟩) n c) (formD lsn ep txn ++ rest)) (hc : n ≤ c) (hm : n ≤ 9223372036854775807) => ((read_done lsn ep txn h0 (by omega) h2 h3 h4 h5 g 0 n c rest y hn hi hc hm).mono fun e w' h => ⟨h.1, h.2⟩ : Calls Try.prog 37 #[.slice (some ⟨g, 0, none⟩) n c] y fun e w' => e = .returned (.tuple #[.agg #[Value.int .i64 4, .int .u64 lsn, .int .u32 ep, .int .u64 txn, .int .u32 0, .int .u16 0, .slice none 0 0, .slice none 0 0, .slice none 0 0, .int .u64 0, .int .u64 0, .bool false, .int .u64 0, .slice none 0 0, .slice none 0 0], .int .i64 27, .int .i64 0]) ∧ Below y.heap.size y w')
  have QW : Hid (q < w.heap.size) := Lib.hid h.row.lt
  obtain ⟨g, cc, htv, hgw, hgl, hgc, hgm, _⟩ := own_parts ht.own (by have := HLEN.out; omega)
  have c5 : L.fl.tdiv 52 = L.fl / 52 := Int.tdiv_eq_ediv_of_nonneg hfl
  have wu : ∀ x : Int, 0 ≤ x → x < 18446744073709551616 → IntKind.u64.wrap x = x := fun x h0 h1 => by rw [show IntKind.u64.wrap x = x % 18446744073709551616 from rfl]; omega
  have e1 : IntKind.u64.wrap (L.fl / 52) = L.fl / 52 := wu _ (by omega) (by omega)
  have e2 : IntKind.u64.wrap (L.fl / 52 * 52) = (fr : Int) := by rw [hfr]; exact wu _ (by omega) (by omega)
  have e3 : IntKind.u64.wrap (lsn - (fr : Int)) = (lo : Int) := by rw [show lsn - (fr : Int) = (lo : Int) by omega]; exact wu _ (by omega) (by omega)
  have e4 : IntKind.u64.wrap (lsn + 27) = lsn + 27 := wu _ (by omega) (by omega)
  have d1 : decide (lsn < L.st) = false := decide_eq_false (by omega)
  have d2 : decide (L.end_ ≤ lsn) = false := decide_eq_false (by omega)
  have d3 : decide (lsn < (fr : Int)) = false := decide_eq_false (by omega)
  have d4 : decide ((fr : Int) ≤ lsn) = true := decide_eq_true (by omega)
  have n1 : (lo : Int) ≤ (zs.length : Int) := by have := HLEN.out; omega
  have n2 : (zs.length : Int) ≤ (cc : Int) := by omega
  have n3 : (cc - lo : Nat) ≠ 0 := by have := HLEN.out; omega
  have lo0 : (0 : Int) ≤ (lo : Int) := by omega
  have HGC := Lib.hid hgc
  have HGM := Lib.hid hgm
  clear h ht hst hen h1 h2 h3 h4 h5 hfl hfl2 hfr hlo hrest hgw hgl hgc hgm
  go_enter Try.func15, Try.ntmps15
  go_upto_region 1 with fail
  have R1 : Hid (Row (w.alloc (.cells #[Value.int .i64 0, .int .u64 0, .int .u32 0, .int .u64 0, .int .u32 0, .int .u16 0, .slice none 0 0, .slice none 0 0, .slice none 0 0, .int .u64 0, .int .u64 0, .bool false, .int .u64 0, .slice none 0 0, .slice none 0 0] 43)) w.heap.size rec0 43) := Lib.hid (Row.made _ _ _)
  have B1 : Hid (Below w.heap.size w (w.alloc (.cells #[Value.int .i64 0, .int .u64 0, .int .u32 0, .int .u64 0, .int .u32 0, .int .u16 0, .slice none 0 0, .slice none 0 0, .slice none 0 0, .int .u64 0, .int .u64 0, .bool false, .int .u64 0, .slice none 0 0, .slice none 0 0] 43))) := Lib.hid ((Below.refl _ _).alloc (Nat.le_refl _) _)
  generalize w.alloc (.cells #[Value.int .i64 0, .int .u64 0, .int .u32 0, .int .u64 0, .int .u32 0, .int .u16 0, .slice none 0 0, .slice none 0 0, .slice none 0 0, .int .u64 0, .int .u64 0, .bool false, .int .u64 0, .slice none 0 0, .slice none 0 0] 43) = w1 at *
  have K1 : Hid (Only [] w w1) := Lib.hid ((Only.refl [] w).below B1.out)
  have H1 := Lib.hid (H.out.only K1.out (by simp))
  have T1 := Lib.hid (HT.out.only K1.out (by simp))
  have TH := Lib.hid (there_on H1.out.row hd)
  go_wp2_with fail
  refine TH.out.mono ?_
  rintro _ w2 ⟨rfl, hw2⟩
  subst hw2
  have k5 : w2.cell? ⟨q, 5, none⟩ = some (.int .u64 L.st) := H1.out.row.cell 5
  have k8 : w2.cell? ⟨q, 8, none⟩ = some (.int .u64 L.end_) := H1.out.row.cell 8
  have k9 : w2.cell? ⟨q, 9, none⟩ = some (.int .u64 L.fl) := H1.out.row.cell 9
  have k11 : w2.cell? ⟨q, 11, none⟩ = some tail := H1.out.row.cell 11
  rw [htv] at k11
  go_wp2_with fail
  go_loopw [8, 10, 11, 12] (fun s8 s10 _ _ wr => s8 = .slice none 0 0 ∧ s10 = .int .u64 lsn ∧ Hid (wr = w2)) (fun _ _ _ _ _ => 0)
  case atStart => exact ⟨rfl, rfl, Lib.hid rfl⟩
  case round =>
    obtain ⟨rfl, rfl, HW⟩ := hrel
    obtain rfl := HW.out
    have HL := HLEN.out
    have hX : (formD lsn ep txn ++ rest).length = zs.length - lo := by rw [List.length_append, formD_len]; omega
    have hI : Ints .u8 wr (.slice (some ⟨g, lo, none⟩) (zs.length - lo) (cc - lo)) (formD lsn ep txn ++ rest) := by
      refine .inr ⟨g, lo, cc - lo, by rw [hX], fun i hi => ?_⟩
      rw [hX] at hi
      have h0 := T1.out.own
      rw [htv] at h0
      have h := h0.cellAt (lo + i) (by omega)
      rw [show wr.cell? ⟨g, lo + i, none⟩ = _ from h, ← HR.out, List.getElem?_drop]
      simp [show lo + i < zs.length by omega]
    obtain ⟨v', w5, hrun, ho5, hb5, _⟩ := append_ints (n := 0) (ys := []) (World.ownsRow_nil (w := wr) w.heap.size 5 1) (some ⟨g, lo, none⟩) (zs.length - lo) (cc - lo) (formD lsn ep txn ++ rest) hI hX (by omega) (by omega) B1.out.size
    have hb5' : Below wr.heap.size wr w5 := by
      obtain ⟨v2, w2', r2, _, b2, _⟩ := append_ints (n := 0) (ys := []) (World.ownsRow_nil (w := wr) wr.heap.size 5 1) (some ⟨g, lo, none⟩) (zs.length - lo) (cc - lo) (formD lsn ep txn ++ rest) hI hX (by omega) (by omega) (Nat.le_refl _)
      rw [hrun] at r2
      injection r2 with r3 r4
      rw [r4]
      exact b2
    rw [Nat.zero_add, List.nil_append] at ho5
    have ho5' := ho5
    rw [← hX] at ho5'
    obtain ⟨g5, c5', hv5, _, _, hc5, hm5, _⟩ := own_parts ho5' (by omega)
    rw [hX] at hv5 hc5
    subst hv5
    have I5 := Lib.hid (ints_own' ho5 hX)
    have HC5 := Lib.hid hc5
    have HM5 := Lib.hid hm5
    have B5 := Lib.hid (B1.out.trans hb5)
    clear hI ho5 ho5' hb5 HL hX hc5 hm5
    go_wp2_with (at_builtin; refine wpList_append_eq rfl _ _ 32 rfl (.slice none 0 0) (.slice (some ⟨g, lo, none⟩) (zs.length - lo) (cc - lo)) (.slice (some ⟨g5, 0, none⟩) (zs.length - lo) c5') w5 rfl rfl hrun ?_)
    have Z5 := Lib.hid (R1.out.of_block (hb5'.block _ R1.out.lt))
    refine (RD.out w5 g5 (zs.length - lo) c5' (by have := HLEN.out; omega) I5.out HC5.out (by have := HLEN.out; omega)).mono ?_
    rintro _ w6 ⟨rfl, b6⟩
    have B6 := Lib.hid (B5.out.trans (b6.mono B5.out.size))
    have Z6 := Lib.hid (Z5.out.of_block (b6.block _ Z5.out.lt))
    clear b6 RD I5
    go_upto_region 18 with fail
    have X7 : Hid (Row (w6.alloc (.cells #[Value.int .i64 4, .int .u64 lsn, .int .u32 ep, .int .u64 txn, .int .u32 0, .int .u16 0, .slice none 0 0, .slice none 0 0, .slice none 0 0, .int .u64 0, .int .u64 0, .bool false, .int .u64 0, .slice none 0 0, .slice none 0 0] 43)) w6.heap.size (recR 4 lsn ep txn 0 0 (.slice none 0 0) (.slice none 0 0)) 43) := Lib.hid (Row.made _ _ _)
    have B7 : Hid (Below w.heap.size w (w6.alloc (.cells #[Value.int .i64 4, .int .u64 lsn, .int .u32 ep, .int .u64 txn, .int .u32 0, .int .u16 0, .slice none 0 0, .slice none 0 0, .slice none 0 0, .int .u64 0, .int .u64 0, .bool false, .int .u64 0, .slice none 0 0, .slice none 0 0] 43))) := Lib.hid (B6.out.alloc B6.out.size _)
    have Z7 : Hid (Row (w6.alloc (.cells #[Value.int .i64 4, .int .u64 lsn, .int .u32 ep, .int .u64 txn, .int .u32 0, .int .u16 0, .slice none 0 0, .slice none 0 0, .slice none 0 0, .int .u64 0, .int .u64 0, .bool false, .int .u64 0, .slice none 0 0, .slice none 0 0] 43)) w.heap.size rec0 43) := Lib.hid (Z6.out.only ((Only.refl [] _).alloc _) (by simp))
    have hwx : w.heap.size < w6.heap.size := Z6.out.lt
    generalize w6.alloc (.cells #[Value.int .i64 4, .int .u64 lsn, .int .u32 ep, .int .u64 txn, .int .u32 0, .int .u16 0, .slice none 0 0, .slice none 0 0, .slice none 0 0, .int .u64 0, .int .u64 0, .bool false, .int .u64 0, .slice none 0 0, .slice none 0 0] 43) = w7 at *
    generalize w6.heap.size = x at *
    have k0 : w7.cell? ⟨x, 0, none⟩ = some (.int .i64 4) := X7.out.cell 0
    have k1 : w7.cell? ⟨x, 1, none⟩ = some (.int .u64 lsn) := X7.out.cell 1
    have k2 : w7.cell? ⟨x, 2, none⟩ = some (.int .u32 ep) := X7.out.cell 2
    have k3 : w7.cell? ⟨x, 3, none⟩ = some (.int .u64 txn) := X7.out.cell 3
    have k4 : w7.cell? ⟨x, 4, none⟩ = some (.int .u32 0) := X7.out.cell 4
    have k5 : w7.cell? ⟨x, 5, none⟩ = some (.int .u16 0) := X7.out.cell 5
    have k6 : w7.cell? ⟨x, 6, none⟩ = some (.slice none 0 0) := X7.out.cell 6
    have k7 : w7.cell? ⟨x, 7, none⟩ = some (.slice none 0 0) := X7.out.cell 7
    have k8 : w7.cell? ⟨x, 8, none⟩ = some (.slice none 0 0) := X7.out.cell 8
    have k9 : w7.cell? ⟨x, 9, none⟩ = some (.int .u64 0) := X7.out.cell 9
    have k10 : w7.cell? ⟨x, 10, none⟩ = some (.int .u64 0) := X7.out.cell 10
    have k11 : w7.cell? ⟨x, 11, none⟩ = some (.bool false) := X7.out.cell 11
    have k12 : w7.cell? ⟨x, 12, none⟩ = some (.int .u64 0) := X7.out.cell 12
    have k13 : w7.cell? ⟨x, 13, none⟩ = some (.slice none 0 0) := X7.out.cell 13
    have k14 : w7.cell? ⟨x, 14, none⟩ = some (.slice none 0 0) := X7.out.cell 14
    have m0 : w7.cell? ⟨w.heap.size, 0, none⟩ = some (.int .i64 0) := Z7.out.cell 0
    have m1 : w7.cell? ⟨w.heap.size, 1, none⟩ = some (.int .u64 0) := Z7.out.cell 1
    have m2 : w7.cell? ⟨w.heap.size, 2, none⟩ = some (.int .u32 0) := Z7.out.cell 2
    have m3 : w7.cell? ⟨w.heap.size, 3, none⟩ = some (.int .u64 0) := Z7.out.cell 3
    have m4 : w7.cell? ⟨w.heap.size, 4, none⟩ = some (.int .u32 0) := Z7.out.cell 4
    have m5 : w7.cell? ⟨w.heap.size, 5, none⟩ = some (.int .u16 0) := Z7.out.cell 5
    have m6 : w7.cell? ⟨w.heap.size, 6, none⟩ = some (.slice none 0 0) := Z7.out.cell 6
    have m7 : w7.cell? ⟨w.heap.size, 7, none⟩ = some (.slice none 0 0) := Z7.out.cell 7
    have m8 : w7.cell? ⟨w.heap.size, 8, none⟩ = some (.slice none 0 0) := Z7.out.cell 8
    have m9 : w7.cell? ⟨w.heap.size, 9, none⟩ = some (.int .u64 0) := Z7.out.cell 9
    have m10 : w7.cell? ⟨w.heap.size, 10, none⟩ = some (.int .u64 0) := Z7.out.cell 10
    have m11 : w7.cell? ⟨w.heap.size, 11, none⟩ = some (.bool false) := Z7.out.cell 11
    have m12 : w7.cell? ⟨w.heap.size, 12, none⟩ = some (.int .u64 0) := Z7.out.cell 12
    have m13 : w7.cell? ⟨w.heap.size, 13, none⟩ = some (.slice none 0 0) := Z7.out.cell 13
    have m14 : w7.cell? ⟨w.heap.size, 14, none⟩ = some (.slice none 0 0) := Z7.out.cell 14
    have f0 := Z7.out.free 0
    have f1 := Z7.out.free 1
    have f2 := Z7.out.free 2
    have f3 := Z7.out.free 3
    have f4 := Z7.out.free 4
    have f5 := Z7.out.free 5
    have f6 := Z7.out.free 6
    have f7 := Z7.out.free 7
    have f8 := Z7.out.free 8
    have f9 := Z7.out.free 9
    have f10 := Z7.out.free 10
    have f11 := Z7.out.free 11
    have f12 := Z7.out.free 12
    have f13 := Z7.out.free 13
    have f14 := Z7.out.free 14
    go_wp2_with fail
    refine bodyPost_ret (results_rec3 rfl _ _ w.heap.size (recR 4 lsn ep txn 0 0 (.slice none 0 0) (.slice none 0 0)) rfl rfl ?_) rfl ?_
    · exact rec_stored Z7.out _ _ _ _ _ _ _ _ _ _ _ _ _ _ _
    · exact ⟨rfl, rec_below B7.out (Nat.le_refl _) _ _ _ _ _ _ _ _ _ _ _ _ _ _ _⟩
end Go.Proofs.Ytjhomphbfkbaoaa
