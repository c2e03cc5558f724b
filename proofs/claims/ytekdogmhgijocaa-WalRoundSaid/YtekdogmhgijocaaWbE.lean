/- wal: Append behind a tail at whatever place. -/
import Derived.Test.YtekdogmhgijocaaWbD
import Derived.Test.YtekdogmhgijocaaMg16
set_option linter.unusedSimpArgs false
namespace Go.Proofs.Ytekdogmhgijocaa
open Go.RowKit Go.ChangeShapes Go.WideShapes Go.ChangeAt
open Go.Proofs.Ytekdogmhgijocaa.dk (Dk Dev)
set_option linter.unusedVariables false

def AppB (W : World) (p q : Nat) (D : Dk) (F : List Nat) (L : Lg) (s : Sl) (b : List Int) (w : World) (e : Ending) (w' : World) : Prop := ∃ s', e = .returned (.tuple #[.int .u64 L.end_, .int .i64 0]) ∧ LgAt W w' p q D F (endL L b.length) s'.v ∧ TlAt W w' q F s' (s.xs ++ b) ∧ Only (q :: s.bs) w w'
set_option maxRecDepth 100000 in
set_option maxHeartbeats 8000000 in
theorem append_b {W w : World} {p q : Nat} {D : Dk} {F : List Nat} {L : Lg} {s : Sl} {b : List Int} (h : LgAt W w p q D F L s.v) (ht : TlAt W w q F s s.xs) (ok : LgOk L) (hd : L.down = false) (kind txn pg off : Int) (v1 v2 : Value) (hp : 0 < b.length) (hn : b.length ≤ 2000) (hz : s.xs.length ≤ 900000)
    (hb : ∀ y, Only [] w y → Calls Try.prog 29 #[.agg (recR kind L.end_ L.ep txn pg off v1 v2)] y (GivesE b y)) :
    Calls Try.prog 12 #[.pointer (some ⟨q, 0, none⟩), .agg (recR kind 0 0 txn pg off v1 v2)] w (fun e w' => if leftL L < b.length then FullPost w e w' else AppB W p q D F L s b w e w') := by
  have OK := Lib.hid ok
  have HP := Lib.hid hp
  have HT := Lib.hid ht
  have HD := Lib.hid hd
  have HB := Lib.hid hb
  have H := Lib.hid h
  have QW : Hid (q < w.heap.size) := Lib.hid h.row.lt
  obtain ⟨R, hR⟩ : ∃ R, recR kind 0 0 txn pg off v1 v2 = R := ⟨_, rfl⟩
  have R1 : Hid (Row (w.alloc (.cells R 43)) w.heap.size (recR kind 0 0 txn pg off v1 v2) 43) := Lib.hid (by rw [hR]; exact Row.made _ _ _)
  rw [hR]
  clear hR hb ok hp ht h
  go_enter Try.func12, Try.ntmps12
  go_upto_region 1 with fail
  have K1 : Hid (Only [] w (w.alloc (.cells R 43))) := Lib.hid ((Only.refl _ _).alloc _)
  generalize w.alloc (.cells R 43) = w1 at *
  generalize hbx : w.heap.size = bx at *
  have H1 := Lib.hid (H.out.only K1.out (by simp))
  have TH := Lib.hid (there_on H1.out.row hd)
  go_wp2_with fail
  refine TH.out.mono ?_
  rintro _ w2 ⟨rfl, hw2⟩
  subst hw2
  have c4 : w2.cell? ⟨q, 4, none⟩ = some (.int .u32 L.ep) := H1.out.row.cell 4
  have c8 : w2.cell? ⟨q, 8, none⟩ = some (.int .u64 L.end_) := H1.out.row.cell 8
  have f1 := R1.out.free 1
  have f2 := R1.out.free 2
  have m1 : w2.cell? ⟨bx, 1, none⟩ = some (.int .u64 0) := R1.out.cell 1
  have m2 : w2.cell? ⟨bx, 2, none⟩ = some (.int .u32 0) := R1.out.cell 2
  have hqb : q < bx := QW.out
  clear TH hd
  go_upto_region 4 with fail
  go_cut [3] from 14 (fun s3 wc => s3 = .pointer (some ⟨bx, 0, none⟩) ∧ Hid (Row wc bx (recR kind L.end_ L.ep txn pg off v1 v2) 43 ∧ Only [] w wc))
  case first =>
    go_region
    go_wp2_with fail
    go_meet
    case rel => exact ⟨rfl, Lib.hid ⟨(R1.out.set 1 (.int .u64 L.end_)).set 2 (.int .u32 L.ep), ((K1.out.setCell (.inr (Nat.le_of_eq hbx)) _).setCell (.inr (Nat.le_of_eq hbx)) _).drew⟩⟩
  case rest =>
    obtain ⟨rfl, HC⟩ := hcut
    clear c4 c8 f1 f2 m1 m2 hqb
    have H2 := Lib.hid (H.out.only HC.out.2 (by simp))
    have k0 : wc.cell? ⟨bx, 0, none⟩ = some (.int .i64 kind) := HC.out.1.cell 0
    have k1 : wc.cell? ⟨bx, 1, none⟩ = some (.int .u64 L.end_) := HC.out.1.cell 1
    have k2 : wc.cell? ⟨bx, 2, none⟩ = some (.int .u32 L.ep) := HC.out.1.cell 2
    have k3 : wc.cell? ⟨bx, 3, none⟩ = some (.int .u64 txn) := HC.out.1.cell 3
    have k4 : wc.cell? ⟨bx, 4, none⟩ = some (.int .u32 pg) := HC.out.1.cell 4
    have k5 : wc.cell? ⟨bx, 5, none⟩ = some (.int .u16 off) := HC.out.1.cell 5
    have k6 : wc.cell? ⟨bx, 6, none⟩ = some (v1) := HC.out.1.cell 6
    have k7 : wc.cell? ⟨bx, 7, none⟩ = some (v2) := HC.out.1.cell 7
    have k8 : wc.cell? ⟨bx, 8, none⟩ = some (.slice none 0 0) := HC.out.1.cell 8
    have k9 : wc.cell? ⟨bx, 9, none⟩ = some (.int .u64 0) := HC.out.1.cell 9
    have k10 : wc.cell? ⟨bx, 10, none⟩ = some (.int .u64 0) := HC.out.1.cell 10
    have k11 : wc.cell? ⟨bx, 11, none⟩ = some (.bool false) := HC.out.1.cell 11
    have k12 : wc.cell? ⟨bx, 12, none⟩ = some (.int .u64 0) := HC.out.1.cell 12
    have k13 : wc.cell? ⟨bx, 13, none⟩ = some (.slice none 0 0) := HC.out.1.cell 13
    have k14 : wc.cell? ⟨bx, 14, none⟩ = some (.slice none 0 0) := HC.out.1.cell 14
    have hlt : bx < wc.heap.size := HC.out.1.lt
    go_wp2_with fail
    refine (HB.out wc HC.out.2).mono ?_
    rintro _ w3 ⟨v3, rfl, o3, b3⟩
    obtain ⟨g3, c3, rfl, hg3, hl3⟩ := gives_shape o3 HP.out
    have K3 : Hid (Only [] wc w3) := Lib.hid ((Only.refl [] wc).below b3)
    have O3 := Lib.hid o3
    have G3 := Lib.hid hg3
    clear o3 b3 hg3 hl3 k0 k1 k2 k3 k4 k5 k6 k7 k8 k9 k10 k11 k12 k13 k14 hlt
    have H3 := Lib.hid (H2.out.only K3.out (by simp))
    have LF := Lib.hid (left_on H3.out.row OK.out)
    go_wp2_with fail
    refine LF.out.mono ?_
    rintro _ w4 ⟨rfl, b4⟩
    have K4 : Hid (Only [] w3 w4) := Lib.hid ((Only.refl [] w3).below b4)
    have O4 := Lib.hid (own_keep (w' := w4) O3.out fun g hg => b4.block g (O3.out.lt g hg).2)
    have K04 : Hid (Only [] w w4) := Lib.hid ((HC.out.2.and K3.out).and K4.out)
    clear b4 LF
    by_cases hfull : leftL L < (b.length : Int)
    · have d1 : decide (leftL L < (b.length : Int)) = true := decide_eq_true hfull
      have HF := Lib.hid hfull
      clear hfull
      go_wp2_with fail
      go_ret2
      exact ⟨rfl, K04.out⟩
    · have d1 : decide (leftL L < (b.length : Int)) = false := decide_eq_false hfull
      have HF := Lib.hid hfull
      have H4 := Lib.hid (H.out.only K04.out (by simp))
      have T4 := Lib.hid (HT.out.only K04.out (by simp))
      obtain ⟨s', w5, hrun, hxs, hbk, hon, hbs⟩ := T4.out.bk.append rfl 32 32 Try.underlying32 (v := .slice (some ⟨g3, 0, none⟩) b.length c3) (ys := b) (.inr ⟨⟨g3, 0, none⟩, c3, rfl, by simp, ints_cells (ints_own' O4.out rfl)⟩) (by omega)
      have B5 := Lib.hid hbk
      have X5 := Lib.hid hxs
      have K5 := Lib.hid hon
      have S5 := Lib.hid hbs
      have AP : Hid (∀ b ∈ s.bs, W.heap.size ≤ b ∧ b < w.heap.size ∧ b ∉ F ∧ b ≠ q) := Lib.hid fun b hb => ⟨(HT.out.ap b hb).1, HT.out.bk.lt b hb, (HT.out.ap b hb).2.1, (HT.out.ap b hb).2.2⟩
      have AP' : Hid (∀ b ∈ s'.bs, W.heap.size ≤ b ∧ b ∉ F ∧ b ≠ q) := Lib.hid fun b hb => by
        rcases S5.out b hb with h | h
        · have := AP.out b h; exact ⟨this.1, this.2.2.1, this.2.2.2⟩
        · have h2 := K04.out.size
          have h3 := H4.out.dev.bl.size
          exact ⟨by omega, fun hf => by have := H.out.dev.lt _ hf; omega, fun e => by have := QW.out; omega⟩
      have RB5 := Lib.hid (((HC.out.1.only K3.out (by simp)).only K4.out (by simp)).only K5.out fun hg => by have := (AP.out _ hg).2.1; omega)
      have RQ5 := Lib.hid (H4.out.row.only K5.out fun hg => (AP.out _ hg).2.2.2 rfl)
      obtain ⟨ta, hta⟩ : ∃ a, s'.a = a := ⟨_, rfl⟩
      obtain ⟨tn, htn⟩ : ∃ a, s'.xs.length = a := ⟨_, rfl⟩
      obtain ⟨tc, htc⟩ : ∃ a, s'.c = a := ⟨_, rfl⟩
      have TV : Hid (s'.v = .slice ta tn tc) := Lib.hid (by unfold Sl.v; rw [hta, htn, htc])
      rw [TV.out] at hrun
      have c11 : w4.cell? ⟨q, 11, none⟩ = some s.v := H4.out.row.cell 11
      have f11 := RQ5.out.free 11
      have f8 := RQ5.out.free 8
      have c8 : w5.cell? ⟨q, 8, none⟩ = some (.int .u64 L.end_) := RQ5.out.cell 8
      have m1 : w5.cell? ⟨bx, 1, none⟩ = some (.int .u64 L.end_) := RB5.out.cell 1
      have hqb : q < bx := QW.out
      have x11 : w5.cell? ⟨q, 11, none⟩ = some s.v := RQ5.out.cell 11
      have e1 : IntKind.u64.wrap (b.length : Int) = (b.length : Int) := by rw [show IntKind.u64.wrap (b.length : Int) = (b.length : Int) % 18446744073709551616 from rfl]; omega
      have e2 : IntKind.u64.wrap (L.end_ + (b.length : Int)) = L.end_ + (b.length : Int) := by
        rw [show IntKind.u64.wrap (L.end_ + (b.length : Int)) = (L.end_ + (b.length : Int)) % 18446744073709551616 from rfl]
        have h1 := HF.out
        have h2 := OK.out.e0
        have h3 := OK.out.s0
        have h4 := OK.out.n0
        unfold leftL limL at *
        omega
      clear hxs hbk hon hbs hta htn htc
      generalize hsv : s.v = sv at *
      go_wp2_with (at_builtin; refine wpList_append_eq rfl _ _ 32 rfl sv (.slice (some ⟨g3, 0, none⟩) b.length c3) (.slice ta tn tc) w5 rfl rfl hrun ?_)
      go_ret2
      have kk : Only [q] w5 ((w5.setCell ⟨q, 11, none⟩ (.slice ta tn tc)).setCell ⟨q, 8, none⟩ (.int .u64 (L.end_ + (b.length : Int)))) := ((Only.refl [q] w5).setCell (.inl (by simp)) _).setCell (.inl (by simp)) _
      have D5 := Lib.hid (H4.out.dev.only K5.out (fun g hg => (AP.out g hg).2.2.1) (fun g hg => (AP.out g hg).1))
      refine ⟨s', rfl, ⟨D5.out.only kk (by simpa using H.out.qF) (by simpa using H.out.qW), ?_, H.out.qF, H.out.qW⟩, ⟨B5.out.only kk (fun b hb hm => by have := (AP'.out b hb).2.2; simp at hm; exact this hm), X5.out, AP'.out⟩, ?_⟩
      · have h := (RQ5.out.set 11 (.slice ta tn tc)).set 8 (.int .u64 (L.end_ + (b.length : Int)))
        rw [TV.out]
        simpa [Lg.cells, endL] using h
      · exact ((K04.out.mono (by simp)).trans K5.out fun g hg => .inl (List.mem_cons_of_mem _ hg)).trans kk fun g hg => .inl (by simp at hg; simp [hg])
end Go.Proofs.Ytekdogmhgijocaa
