/- wal: tell, the power on. -/
import Derived.Test.YtjhomphbfkbaoaaWaI
import Derived.Test.YtjhomphbfkbaoaaDkIy
import Derived.Deep.RegionHeld3
import Derived.Deep.Cut
import Derived.Laws.Bits64b
namespace Go.Proofs.Ytjhomphbfkbaoaa
open Go.RowKit Go.ChangeShapes Go.WideShapes Go.ChangeAt
open Go.Proofs.Ytjhomphbfkbaoaa.dk (Dk Dev IsSec Bytes write_dev sync_dev putD synD errOff)
set_option linter.unusedVariables false

def toldL (L : Lg) (ep st pt ct : Int) : Lg := { L with seq := L.seq + 1, ep := ep, st := st, pt := pt, ct := ct }
def toldD (D : Dk) (L : Lg) (ep st pt ct : Int) : Dk := synD (putD D (L.at_ + (L.seq + 1) % 2) (masterB (L.seq + 1) ep st pt ct))
/-- A log in memory, its device beside it. -/
structure LgAt (W w : World) (p q : Nat) (D : Dk) (F : List Nat) (L : Lg) (tail : Value) : Prop where
  dev : Dev W w p D F
  row : Row w q (L.cells (.pointer (some ⟨p, 0, none⟩)) tail) 66
  qF : q ∉ F
  qW : W.heap.size ≤ q
theorem LgAt.only {W w w' : World} {p q : Nat} {D : Dk} {F G : List Nat} {L : Lg} {tail : Value} (h : LgAt W w p q D F L tail) (k : Only G w w') (hG : ∀ b ∈ G, b ∉ F ∧ b ≠ q ∧ W.heap.size ≤ b) : LgAt W w' p q D F L tail :=
  ⟨h.dev.only k (fun b hb => (hG b hb).1) (fun b hb => (hG b hb).2.2), h.row.only k (fun hq => (hG q hq).2.1 rfl), h.qF, h.qW⟩
def TellPost (W : World) (p q : Nat) (D : Dk) (F : List Nat) (L : Lg) (tail : Value) (ep st pt ct : Int) (w : World) (e : Ending) (w' : World) : Prop := e = .returned (.int .i64 0) ∧ LgAt W w' p q (toldD D L ep st pt ct) F (toldL L ep st pt ct) tail ∧ Only (q :: F) w w'
theorem and1 (x : Int) (h0 : 0 ≤ x) (h1 : x < 18446744073709551616) : bits .and .u64 x 1 = x % 2 := by
  obtain ⟨n, rfl⟩ := Int.eq_ofNat_of_zero_le h0
  have h : bits .and .u64 (n : Int) 1 = ((n &&& 1 : Nat) : Int) := bits_and_u64_nat n 1 (by omega) (by omega)
  rw [h, Nat.and_one_is_mod]
  omega
set_option maxRecDepth 100000 in
set_option maxHeartbeats 8000000 in
theorem tell_on {W w : World} {p q : Nat} {D : Dk} {F : List Nat} {L : Lg} {tail : Value} (h : LgAt W w p q D F L tail) (hc : dk.Calm D) (hm : D.most = D.sectors) (h0 : 0 ≤ L.at_) (h1 : L.at_ + 2 ≤ D.sectors) (hs : 0 ≤ L.seq ∧ L.seq < 18446744073709551615) (s0 ep st pt ct : Int) (hok : MasOk (L.seq + 1) ep st pt ct) :
    Calls Try.prog 26 #[.pointer (some ⟨q, 0, none⟩), .agg (masR s0 ep st pt ct)] w (TellPost W p q D F L tail ep st pt ct w) := by
  have H := Lib.hid h
  have OK := Lib.hid hok
  have S1 := h.dev.fine.s1
  have eu : IntKind.u64.wrap (L.seq + 1) = L.seq + 1 := by rw [show IntKind.u64.wrap (L.seq + 1) = (L.seq + 1) % 18446744073709551616 from rfl]; omega
  have ea := and1 (L.seq + 1) (by omega) (by omega)
  have ei : IntKind.i64.wrap ((L.seq + 1) % 2) = (L.seq + 1) % 2 := IntWalk.i64_in _ (by omega)
  have ek : IntKind.i64.wrap (L.at_ + (L.seq + 1) % 2) = L.at_ + (L.seq + 1) % 2 := IntWalk.i64_in _ (by omega)
  have k3 : w.cell? ⟨q, 3, none⟩ = some (.int .u64 L.seq) := h.row.cell 3
  have hq : q < w.heap.size := h.row.lt
  have HB := Lib.hid (show 0 ≤ L.at_ + (L.seq + 1) % 2 ∧ L.at_ + (L.seq + 1) % 2 < D.sectors by omega)
  have HC := Lib.hid hc
  have HM := Lib.hid hm
  clear h hok S1 h0 h1 hs hc hm
  go_enter Try.func26, Try.ntmps26
  go_upto_region 2 with fail
  have R1 : Hid (Row (w.alloc (.cells (masR (L.seq + 1) ep st pt ct) 64)) w.heap.size (masR (L.seq + 1) ep st pt ct) 64) := Lib.hid (Row.made _ _ _)
  have K1 : Hid (Only [] w (w.alloc (.cells (masR (L.seq + 1) ep st pt ct) 64))) := Lib.hid ((Only.refl [] w).alloc _)
  generalize w.alloc (.cells (masR (L.seq + 1) ep st pt ct) 64) = w1 at *
  have H1 := Lib.hid (H.out.only K1.out (by simp))
  have BF : Hid (w.heap.size ∉ F) := Lib.hid fun hf => by have := H.out.dev.lt _ hf; omega
  have SO : Hid (∀ y, Only F w1 y → (y.cell? ⟨q, 0, none⟩ = some (.pointer (some ⟨p, 0, none⟩)) ∧ y.cell? ⟨q, 1, none⟩ = some (.int .i64 L.at_)) ∧ (y.cell? ⟨w.heap.size, 0, none⟩ = some (.int .u64 (L.seq + 1)) ∧ y.cell? ⟨w.heap.size, 1, none⟩ = some (.int .u32 ep)) ∧ (y.cell? ⟨w.heap.size, 2, none⟩ = some (.int .u64 st) ∧ y.cell? ⟨w.heap.size, 3, none⟩ = some (.int .u64 pt) ∧ y.cell? ⟨w.heap.size, 4, none⟩ = some (.int .u64 ct))) := Lib.hid fun y k => ⟨⟨(k.cell H1.out.row.lt H1.out.qF).trans (H1.out.row.cell 0), (k.cell H1.out.row.lt H1.out.qF).trans (H1.out.row.cell 1)⟩, ⟨(k.cell R1.out.lt BF.out).trans (R1.out.cell 0), (k.cell R1.out.lt BF.out).trans (R1.out.cell 1)⟩, (k.cell R1.out.lt BF.out).trans (R1.out.cell 2), (k.cell R1.out.lt BF.out).trans (R1.out.cell 3), (k.cell R1.out.lt BF.out).trans (R1.out.cell 4)⟩
  have SEC : Hid (IsSec (masterB (L.seq + 1) ep st pt ct)) := Lib.hid ⟨masterB_len _ _ _ _ _, fun x hx => by have := masterB_by (L.seq + 1) ep st pt ct x hx; omega⟩
  have WR : Hid (∀ (y : World) (g c : Nat), Only [] w1 y → Bytes y g 0 (masterB (L.seq + 1) ep st pt ct) → 128 ≤ c → Calls Try.prog 25 #[.pointer (some ⟨p, 0, none⟩), .int .i64 (L.at_ + (L.seq + 1) % 2), .slice (some ⟨g, 0, none⟩) 128 c] y fun e w' => e = .returned (.int .i64 0) ∧ Dev W w' p (putD D (L.at_ + (L.seq + 1) % 2) (masterB (L.seq + 1) ep st pt ct)) F ∧ Only F y w') := Lib.hid fun y g c k hb hc128 => by
    have h := write_dev (k := L.at_ + (L.seq + 1) % 2) (g := g) (off := 0) (cap := c) (s := masterB (L.seq + 1) ep st pt ct) (H1.out.dev.none k) HB.out.1 HB.out.2 HM.out SEC.out hb hc128
    unfold dk.DoneTo at h
    rw [HC.out.write, (HC.out.putD _ _).off] at h
    exact h
  clear k3 hq
  go_region_held3 (fun x => (x.cell? ⟨q, 0, none⟩ = some (.pointer (some ⟨p, 0, none⟩)) ∧ x.cell? ⟨q, 1, none⟩ = some (.int .i64 L.at_)) ∧ (x.cell? ⟨w.heap.size, 0, none⟩ = some (.int .u64 (L.seq + 1)) ∧ x.cell? ⟨w.heap.size, 1, none⟩ = some (.int .u32 ep)) ∧ (x.cell? ⟨w.heap.size, 2, none⟩ = some (.int .u64 st) ∧ x.cell? ⟨w.heap.size, 3, none⟩ = some (.int .u64 pt) ∧ x.cell? ⟨w.heap.size, 4, none⟩ = some (.int .u64 ct)))
    (first
      | exact SO.out _ X2.out
      | exact SO.out _ (X1.out.mono (by simp))
      | exact SO.out _ (Only.refl F w1).drew)
    (first
      | (go_at_call 25; refine (WR.out x1 g1 c1 X1.out Y1.out C1.out).mono ?_; rintro _ x2 ⟨rfl, d2, k2⟩; have X2 : Hid (Only F w1 x2) := Lib.hid ((X1.out.mono (by simp)).and k2); have D2 := Lib.hid d2)
      | (go_at_call 44; refine (master_bytes (L.seq + 1) ep st pt ct w1.drew OK.out).mono ?_; rintro _ x1 ⟨g1, c1, rfl, o1, b1, hc1, _⟩; have X1 : Hid (Only [] w1 x1) := Lib.hid (((Only.refl [] w1).drew).below b1); have C1 := Lib.hid hc1; have Y1 : Hid (Bytes x1 g1 0 (masterB (L.seq + 1) ep st pt ct)) := Lib.hid (fun j v hj => by
          have hlt := (List.getElem?_eq_some_iff.1 hj).1
          rw [List.length_map, masterB_len] at hlt
          rw [Nat.zero_add, o1.cellAt j (by omega)]; exact hj)))
  have SY : Hid (Calls Try.prog 34 #[.pointer (some ⟨p, 0, none⟩)] x2 fun e w' => e = .returned (.int .i64 0) ∧ Dev W w' p (toldD D L ep st pt ct) F ∧ Only F x2 w') := Lib.hid (by
    have h := sync_dev D2.out
    unfold dk.DoneTo at h
    have hp := HC.out.putD (L.at_ + (L.seq + 1) % 2) (masterB (L.seq + 1) ep st pt ct)
    rw [hp.sync, (hp.synD).off] at h
    exact h)
  have u0 := (SO.out x2 X2.out).1.1
  clear WR SEC X1 C1 Y1 D2 o1 b1 d2 k2
  go_wp2_with fail
  refine SY.out.mono ?_
  rintro _ x3 ⟨rfl, d3, k3⟩
  have X3 : Hid (Only F w1 x3) := Lib.hid (X2.out.and k3)
  have D3 := Lib.hid d3
  have RQ := Lib.hid (H1.out.row.only X3.out H1.out.qF)
  obtain ⟨⟨v0, v1⟩, ⟨m0, m1⟩, m2, m3, m4⟩ := SO.out x3 X3.out
  have n3 : x3.cell? ⟨q, 3, none⟩ = some (.int .u64 L.seq) := RQ.out.cell 3
  have n4 : x3.cell? ⟨q, 4, none⟩ = some (.int .u32 L.ep) := RQ.out.cell 4
  have n5 : x3.cell? ⟨q, 5, none⟩ = some (.int .u64 L.st) := RQ.out.cell 5
  have n6 : x3.cell? ⟨q, 6, none⟩ = some (.int .u64 L.pt) := RQ.out.cell 6
  have n7 : x3.cell? ⟨q, 7, none⟩ = some (.int .u64 L.ct) := RQ.out.cell 7
  have f3 := RQ.out.free 3
  have f4 := RQ.out.free 4
  have f5 := RQ.out.free 5
  have f6 := RQ.out.free 6
  have f7 := RQ.out.free 7
  clear SY d3 k3 u0
  go_wp2_with fail
  go_ret
  have kk : Only [q] x3 (((((x3.setCell ⟨q, 3, none⟩ (.int .u64 (L.seq + 1))).setCell ⟨q, 4, none⟩ (.int .u32 ep)).setCell ⟨q, 5, none⟩ (.int .u64 st)).setCell ⟨q, 6, none⟩ (.int .u64 pt)).setCell ⟨q, 7, none⟩ (.int .u64 ct)) := (((((Only.refl [q] x3).setCell (.inl (by simp)) _).setCell (.inl (by simp)) _).setCell (.inl (by simp)) _).setCell (.inl (by simp)) _).setCell (.inl (by simp)) _
  refine ⟨rfl, ⟨D3.out.only kk (by simpa using H.out.qF) (by simpa using H.out.qW), ?_, H.out.qF, H.out.qW⟩, ?_⟩
  · have h := ((((RQ.out.set 3 (.int .u64 (L.seq + 1))).set 4 (.int .u32 ep)).set 5 (.int .u64 st)).set 6 (.int .u64 pt)).set 7 (.int .u64 ct)
    simpa [Lg.cells, toldL] using h
  · have h1 : Only (q :: F) w x3 := (K1.out.mono (by simp)).trans (X3.out.mono fun i hi => .inl (List.mem_cons_of_mem _ hi)) fun i hi => .inl hi
    exact h1.trans kk fun i hi => .inl (by simp at hi; simp [hi])
end Go.Proofs.Ytjhomphbfkbaoaa
