/- wal: Append. -/
import Derived.Test.YtjhomphbfkbaoaaWaL
import Derived.Test.YtjhomphbfkbaoaaWaG
import Derived.Deep.Cut
namespace Go.Proofs.Ytjhomphbfkbaoaa
open Go.RowKit Go.ChangeShapes Go.WideShapes Go.ChangeAt
open Go.Proofs.Ytjhomphbfkbaoaa.dk (Dk Dev)
set_option linter.unusedVariables false

/-- The tail, a slice of the log's own. -/
structure TailAt (W w : World) (q : Nat) (F : List Nat) (tail : Value) (zs : List Int) : Prop where
  own : w.ownsRow W.heap.size 5 1 tail zs.length (zs.map (Value.int .u8))
  apart : ∀ g, tail.ownBlock = some g → g ∉ F ∧ g ≠ q
theorem TailAt.only {W w w' : World} {q : Nat} {F G : List Nat} {tail : Value} {zs : List Int} (h : TailAt W w q F tail zs) (k : Only G w w') (hG : ∀ g, tail.ownBlock = some g → g ∉ G) : TailAt W w' q F tail zs :=
  ⟨own_keep h.own fun g hg => k.block g (h.own.lt g hg).2 (hG g hg), h.apart⟩
def endL (L : Lg) (n : Nat) : Lg := { L with end_ := L.end_ + n }
def AppPost (W : World) (p q : Nat) (D : Dk) (F : List Nat) (L : Lg) (tail : Value) (zs b : List Int) (w : World) (e : Ending) (w' : World) : Prop := ∃ tail', e = .returned (.tuple #[.int .u64 L.end_, .int .i64 0]) ∧ LgAt W w' p q D F (endL L b.length) tail' ∧ TailAt W w' q F tail' (zs ++ b) ∧ Only (q :: tail.ownBlock.toList) w w'
def FullPost (w : World) (e : Ending) (w' : World) : Prop := e = .returned (.tuple #[.int .u64 0, .int .i64 5]) ∧ Only [] w w'
theorem recR_set (kind txn pg off a b : Int) (v1 v2 : Value) : ((recR kind 0 0 txn pg off v1 v2).setIfInBounds 1 (.int .u64 a)).setIfInBounds 2 (.int .u32 b) = recR kind a b txn pg off v1 v2 := rfl
set_option maxRecDepth 100000 in
set_option maxHeartbeats 8000000 in
theorem append_on {W w : World} {p q : Nat} {D : Dk} {F : List Nat} {L : Lg} {tail : Value} {zs b : List Int} (h : LgAt W w p q D F L tail) (ht : TailAt W w q F tail zs) (ok : LgOk L) (hd : L.down = false) (kind txn pg off : Int) (v1 v2 : Value) (hp : 0 < b.length) (hn : b.length ≤ 2000) (hz : zs.length ≤ 1000000)
    (hb : ∀ y, Only [] w y → Calls Try.prog 29 #[.agg (recR kind L.end_ L.ep txn pg off v1 v2)] y (GivesE b y)) :
    Calls Try.prog 12 #[.pointer (some ⟨q, 0, none⟩), .agg (recR kind 0 0 txn pg off v1 v2)] w (fun e w' => if leftL L < b.length then FullPost w e w' else AppPost W p q D F L tail zs b w e w') := by
  have OK := Lib.hid ok
  have HP := Lib.hid hp
  have HT := Lib.hid ht
  have HD := Lib.hid hd
  have HB := Lib.hid hb
  have H := Lib.hid h
  have QW : Hid (q < w.heap.size) := Lib.hid h.row.lt
  obtain ⟨R, hR⟩ : ∃ R, recR kind 0 0 txn pg off v1 v2 = R := ⟨_, rfl⟩
  have R1 : Hid (Row (w.alloc (.cells R 43)) w.heap.size (recR kind 0 0 txn pg off v1 v2) 43) := Lib.hid (by rw [hR]; exact Row.made _ _ _)
  rw [hR]
  clear hR hb ok hp ht h
  go_enter Try.func12, Try.ntmps12
  go_upto_region 1 with fail
  have K1 : Hid (Only [] w (w.alloc (.cells R 43))) := Lib.hid ((Only.refl _ _).alloc _)
  generalize w.alloc (.cells R 43) = w1 at *
  generalize hbx : w.heap.size = bx at *
  have H1 := Lib.hid (H.out.only K1.out (by simp))
  have TH := Lib.hid (there_on H1.out.row hd)
  go_wp2_with fail
  refine TH.out.mono ?_
  rintro _ w2 ⟨rfl, hw2⟩
  subst hw2
  have c4 : w2.cell? ⟨q, 4, none⟩ = some (.int .u32 L.ep) := H1.out.row.cell 4
  have c8 : w2.cell? ⟨q, 8, none⟩ = some (.int .u64 L.end_) := H1.out.row.cell 8
  have f1 := R1.out.free 1
  have f2 := R1.out.free 2
  have m1 : w2.cell? ⟨bx, 1, none⟩ = some (.int .u64 0) := R1.out.cell 1
  have m2 : w2.cell? ⟨bx, 2, none⟩ = some (.int .u32 0) := R1.out.cell 2
  have hqb : q < bx := QW.out
  clear TH hd
  go_upto_region 4 with fail
  go_cut [3] from 14 (fun s3 wc => s3 = .pointer (some ⟨bx, 0, none⟩) ∧ Hid (Row wc bx (recR kind L.end_ L.ep txn pg off v1 v2) 43 ∧ Only [] w wc))
  case first =>
    go_region
    go_wp2_with fail
    go_meet
    case rel => exact ⟨rfl, Lib.hid ⟨(R1.out.set 1 (.int .u64 L.end_)).set 2 (.int .u32 L.ep), ((K1.out.setCell (.inr (Nat.le_of_eq hbx)) _).setCell (.inr (Nat.le_of_eq hbx)) _).drew⟩⟩
  case rest =>
    obtain ⟨rfl, HC⟩ := hcut
    clear c4 c8 f1 f2 m1 m2 hqb
    have H2 := Lib.hid (H.out.only HC.out.2 (by simp))
    have k0 : wc.cell? ⟨bx, 0, none⟩ = some (.int .i64 kind) := HC.out.1.cell 0
    have k1 : wc.cell? ⟨bx, 1, none⟩ = some (.int .u64 L.end_) := HC.out.1.cell 1
    have k2 : wc.cell? ⟨bx, 2, none⟩ = some (.int .u32 L.ep) := HC.out.1.cell 2
    have k3 : wc.cell? ⟨bx, 3, none⟩ = some (.int .u64 txn) := HC.out.1.cell 3
    have k4 : wc.cell? ⟨bx, 4, none⟩ = some (.int .u32 pg) := HC.out.1.cell 4
    have k5 : wc.cell? ⟨bx, 5, none⟩ = some (.int .u16 off) := HC.out.1.cell 5
    have k6 : wc.cell? ⟨bx, 6, none⟩ = some (v1) := HC.out.1.cell 6
    have k7 : wc.cell? ⟨bx, 7, none⟩ = some (v2) := HC.out.1.cell 7
    have k8 : wc.cell? ⟨bx, 8, none⟩ = some (.slice none 0 0) := HC.out.1.cell 8
    have k9 : wc.cell? ⟨bx, 9, none⟩ = some (.int .u64 0) := HC.out.1.cell 9
    have k10 : wc.cell? ⟨bx, 10, none⟩ = some (.int .u64 0) := HC.out.1.cell 10
    have k11 : wc.cell? ⟨bx, 11, none⟩ = some (.bool false) := HC.out.1.cell 11
    have k12 : wc.cell? ⟨bx, 12, none⟩ = some (.int .u64 0) := HC.out.1.cell 12
    have k13 : wc.cell? ⟨bx, 13, none⟩ = some (.slice none 0 0) := HC.out.1.cell 13
    have k14 : wc.cell? ⟨bx, 14, none⟩ = some (.slice none 0 0) := HC.out.1.cell 14
    have hlt : bx < wc.heap.size := HC.out.1.lt
    go_wp2_with fail
    refine (HB.out wc HC.out.2).mono ?_
    rintro _ w3 ⟨v3, rfl, o3, b3⟩
    obtain ⟨g3, c3, rfl, hg3, hl3⟩ := gives_shape o3 HP.out
    have K3 : Hid (Only [] wc w3) := Lib.hid ((Only.refl [] wc).below b3)
    have O3 := Lib.hid o3
    have G3 := Lib.hid hg3
    clear o3 b3 hg3 hl3 k0 k1 k2 k3 k4 k5 k6 k7 k8 k9 k10 k11 k12 k13 k14 hlt
    have H3 := Lib.hid (H2.out.only K3.out (by simp))
    have LF := Lib.hid (left_on H3.out.row OK.out)
    go_wp2_with fail
    refine LF.out.mono ?_
    rintro _ w4 ⟨rfl, b4⟩
    have K4 : Hid (Only [] w3 w4) := Lib.hid ((Only.refl [] w3).below b4)
    have O4 := Lib.hid (own_keep (w' := w4) O3.out fun g hg => b4.block g (O3.out.lt g hg).2)
    have K04 : Hid (Only [] w w4) := Lib.hid ((HC.out.2.and K3.out).and K4.out)
    clear b4 LF
    by_cases hfull : leftL L < (b.length : Int)
    · have d1 : decide (leftL L < (b.length : Int)) = true := decide_eq_true hfull
      have HF := Lib.hid hfull
      clear hfull
      go_wp2_with fail
      go_ret2
      exact ⟨rfl, K04.out⟩
    · have d1 : decide (leftL L < (b.length : Int)) = false := decide_eq_false hfull
      have HF := Lib.hid hfull
      have H4 := Lib.hid (H.out.only K04.out (by simp))
      have T4 := Lib.hid (HT.out.only K04.out (by simp))
      obtain ⟨tv, w5, hrun, ho5, _, hg5, hnew⟩ := append_ints T4.out.own (some ⟨g3, 0, none⟩) b.length c3 b (ints_own' O4.out rfl) rfl HP.out (by omega) (by have := H4.out.dev.bl.size; omega)
      have hlen : (zs ++ b).length = zs.length + b.length := List.length_append
      have ho5' := ho5
      rw [← hlen] at ho5'
      obtain ⟨g5, c5, hv5, _⟩ := own_parts ho5' (by have := HP.out; omega)
      rw [hlen] at hv5
      subst hv5
      have O6 := Lib.hid ho5'
      have HL := Lib.hid hlen
      clear ho5' hlen
      have K5 : Hid (Only tail.ownBlock.toList w4 w5) := Lib.hid ((Only.refl _ w4).grown hg5 fun k hk => .inl (by simp [hk]))
      have O5 := Lib.hid ho5
      have TQ : Hid (q ∉ tail.ownBlock.toList) := Lib.hid fun hq => (HT.out.apart q (by simpa using hq)).2 rfl
      have TB : Hid (∀ g ∈ tail.ownBlock.toList, W.heap.size ≤ g ∧ g < w.heap.size ∧ g ∉ F) := Lib.hid fun g hg => by
        have h1 : tail.ownBlock = some g := by simpa using hg
        exact ⟨(HT.out.own.lt g h1).1, (HT.out.own.lt g h1).2, (HT.out.apart g h1).1⟩
      have RB5 := Lib.hid (((HC.out.1.only K3.out (by simp)).only K4.out (by simp)).only K5.out fun hg => by have := (TB.out _ hg).2.1; omega)
      have RQ5 := Lib.hid (H4.out.row.only K5.out TQ.out)
      have NW := Lib.hid hnew
      have c11 : w4.cell? ⟨q, 11, none⟩ = some tail := H4.out.row.cell 11
      have f11 := RQ5.out.free 11
      have f8 := RQ5.out.free 8
      have c8 : w5.cell? ⟨q, 8, none⟩ = some (.int .u64 L.end_) := RQ5.out.cell 8
      have m1 : w5.cell? ⟨bx, 1, none⟩ = some (.int .u64 L.end_) := RB5.out.cell 1
      have hqb : q < bx := QW.out
      have x11 : w5.cell? ⟨q, 11, none⟩ = some tail := RQ5.out.cell 11
      have e1 : IntKind.u64.wrap (b.length : Int) = (b.length : Int) := by rw [show IntKind.u64.wrap (b.length : Int) = (b.length : Int) % 18446744073709551616 from rfl]; omega
      have e2 : IntKind.u64.wrap (L.end_ + (b.length : Int)) = L.end_ + (b.length : Int) := by
        rw [show IntKind.u64.wrap (L.end_ + (b.length : Int)) = (L.end_ + (b.length : Int)) % 18446744073709551616 from rfl]
        have h1 := HF.out
        have h2 := OK.out.e0
        have h3 := OK.out.s0
        have h4 := OK.out.n0
        unfold leftL limL at *
        omega
      clear hg5 ho5 hnew
      go_wp2_with (at_builtin; refine wpList_append_eq rfl _ _ 32 rfl tail (.slice (some ⟨g3, 0, none⟩) b.length c3) (.slice (some ⟨g5, 0, none⟩) (zs.length + b.length) c5) w5 rfl rfl hrun ?_)
      go_ret2
      have HQ : Hid (∀ k ∈ q :: tail.ownBlock.toList, True) := Lib.hid fun _ _ => trivial
      have kk : Only [q] w5 ((w5.setCell ⟨q, 11, none⟩ (.slice (some ⟨g5, 0, none⟩) (zs.length + b.length) c5)).setCell ⟨q, 8, none⟩ (.int .u64 (L.end_ + (b.length : Int)))) := ((Only.refl [q] w5).setCell (.inl (by simp)) _).setCell (.inl (by simp)) _
      have D5 := Lib.hid (H4.out.dev.only K5.out (fun g hg => (TB.out g hg).2.2) (fun g hg => (TB.out g hg).1))
      refine ⟨.slice (some ⟨g5, 0, none⟩) (zs.length + b.length) c5, rfl, ⟨D5.out.only kk (by simpa using H.out.qF) (by simpa using H.out.qW), ?_, H.out.qF, H.out.qW⟩, ⟨?_, ?_⟩, ?_⟩
      · have h := (RQ5.out.set 11 (.slice (some ⟨g5, 0, none⟩) (zs.length + b.length) c5)).set 8 (.int .u64 (L.end_ + (b.length : Int)))
        simpa [Lg.cells, endL] using h
      · have hg5q : g5 ≠ q := by
          intro e
          rcases NW.out with h | h
          · exact TQ.out (by rw [← e, ← h]; simp [Value.ownBlock])
          · have := h g5 (by simp [Value.ownBlock]); have := QW.out; have := K04.out.size; omega
        rw [HL.out]
        refine own_keep O5.out fun g hg => kk.block g (O5.out.lt g hg).2 fun h => ?_
        simp [Value.ownBlock] at hg h
        exact hg5q (hg.trans h)
      · intro g hg
        obtain rfl : g5 = g := by simpa [Value.ownBlock] using hg
        rcases NW.out with h | h
        · exact HT.out.apart g5 (by rw [← h]; simp [Value.ownBlock])
        · have h1 := h g5 (by simp [Value.ownBlock])
          have h2 := K04.out.size
          refine ⟨fun hf => ?_, fun e => ?_⟩
          · have := H.out.dev.lt _ hf; omega
          · have := QW.out; omega
      · exact ((K04.out.mono (by simp)).trans K5.out fun g hg => .inl (List.mem_cons_of_mem _ hg)).trans kk fun g hg => .inl (by simp at hg; simp [hg])
end Go.Proofs.Ytjhomphbfkbaoaa
