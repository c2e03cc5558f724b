/- wal: Make, the power on. -/
import Derived.Test.YtekdogmhgijocaaMg15
import Derived.Deep.RegionWith
import Derived.BigQuiet
import Derived.Deep.Cut
set_option linter.unusedSimpArgs false
namespace Go.Proofs.Ytekdogmhgijocaa
open Go.RowKit Go.ChangeShapes Go.WideShapes Go.ChangeAt
open Go.Proofs.Ytekdogmhgijocaa.dk (Dk Dev IsSec Bytes write_dev putD synD)
set_option linter.unusedVariables false

def zs128 : Array Value := Array.replicate 128 (.int .u8 0)
theorem make_128 : ∀ x : World, (Instr.makeSlice 32 (.int .i64 128) (.int .i64 128)).run Try.prog x = .ok (.slice (some ⟨x.heap.size, 0, none⟩) 128 128) (x.alloc (.cells zs128 5)) := fun x => by
  obtain ⟨i0, hi0, hz0, hz1, hz2⟩ := info_parts infoBy
  have hr := run_make (P := Try.prog) x 32 5 i0 (.int .u8 0) Try.underlying32 hi0 hz0 .i64 .i64 ((128 : Nat) : Int) ((128 : Nat) : Int) (by omega) (Int.le_refl _) (by rw [hz2]; omega) (by omega)
  simp only [Int.toNat_natCast, hz1, Nat.mul_one, Value.cells, madeCells_one] at hr
  exact hr
theorem zs128_bytes (x : World) : Bytes (x.alloc (.cells zs128 5)) x.heap.size 0 dk.blank := fun j v hj => by
  rw [Nat.zero_add, (Row.made x zs128 5).cell]
  unfold dk.blank at hj
  rw [List.map_replicate, List.getElem?_replicate] at hj
  unfold zs128
  rw [Array.getElem?_replicate]
  exact hj
/-- Between two writes, two tells. -/
structure MkAt (W w wr : World) (p : Nat) (F : List Nat) (s : Int) (L : Lg) (D : Dk) : Prop where
  lg : LgAt W wr p w.heap.size D F L (.slice none 0 0)
  calm : dk.Calm D
  sec : D.sectors = s
  most : D.most = s
  only : Only F w wr
def mL (at_ count : Int) (i : Nat) : Lg := if i = 0 then lg0 at_ count else { lg0 at_ count with seq := (i : Int), ep := 1, st := 52, pt := 0, ct := 52 }
theorem mL_told (at_ count : Int) (i : Nat) : toldL (mL at_ count i) 1 52 0 52 = mL at_ count (i + 1) := by
  unfold toldL mL
  by_cases h : i = 0
  · subst h; rfl
  · rw [if_neg h, if_neg (by omega)]; rfl
theorem mL_parts (at_ count : Int) (i : Nat) : (mL at_ count i).at_ = at_ ∧ (mL at_ count i).seq = (i : Int) := by
  unfold mL
  by_cases h : i = 0
  · subst h; exact ⟨rfl, rfl⟩
  · rw [if_neg h]; exact ⟨rfl, rfl⟩
def madeL (at_ count : Int) : Lg := ⟨at_, count, 2, 1, 52, 0, 52, 52, 52, 1, false⟩
def MakePost (W : World) (p : Nat) (F : List Nat) (D : Dk) (at_ count : Int) (w : World) (e : Ending) (w' : World) : Prop := ∃ D', e = .returned (.tuple #[.pointer (some ⟨w.heap.size, 0, none⟩), .int .i64 0]) ∧ LgAt W w' p w.heap.size D' F (madeL at_ count) (.slice none 0 0) ∧ dk.Calm D' ∧ D'.sectors = D.sectors ∧ D'.most = D.most ∧ Only F w w'
set_option maxRecDepth 100000 in
set_option maxHeartbeats 8000000 in
theorem make_on {W w : World} {p : Nat} {D : Dk} {F : List Nat} (h : Dev W w p D F) (hc : dk.Calm D) (hm : D.most = D.sectors) (at_ : Int) (m : Nat) (hl : LogAt D.sectors at_ (m : Int)) :
    Calls Try.prog 9 #[.pointer (some ⟨p, 0, none⟩), .int .i64 at_, .int .i64 (m : Int)] w (MakePost W p F D at_ (m : Int) w) := by
  obtain ⟨l0, l1, l2, l3, l4⟩ := id hl
  have mk := make_128
  have s1 := h.fine.s1
  have FN := Lib.hid (wfind_ok h at_ (m : Int) hl)
  have QF : Hid (w.heap.size ∉ F) := Lib.hid fun hf => by have := h.lt _ hf; omega
  have HW : Hid (W.heap.size ≤ w.heap.size) := Lib.hid h.bl.size
  have R : Hid (16 ≤ (m : Int) ∧ (m : Int) ≤ 8192 ∧ 0 ≤ at_ ∧ at_ + (m : Int) + 2 ≤ D.sectors ∧ D.sectors ≤ 65536) := Lib.hid (by omega)
  have I0 : Hid (MkAt W w (w.alloc (.cells ((lg0 at_ (m : Int)).cells (.pointer (some ⟨p, 0, none⟩)) (.slice none 0 0)) 66)) p F D.sectors (lg0 at_ (m : Int)) D) := Lib.hid ⟨⟨h.none ((Only.refl [] _).alloc _), Row.made _ _ _, QF.out, HW.out⟩, hc, rfl, hm, (Only.refl _ _).alloc _⟩
  have HM := Lib.hid hm
  clear h hc hm hl l0 l1 l2 l3 l4 s1
  go_enter Try.func9, Try.ntmps9
  go_wp2_with fail
  refine FN.out.mono ?_
  rintro _ w1 ⟨rfl, hw1⟩
  rw [← hw1] at I0
  clear hw1 FN
  have e2 : IntKind.i64.wrap (at_ + 2) = at_ + 2 := IntWalk.i64_in _ (by have := R.out; omega)
  go_wp2_with fail
  go_loopw [24] (fun u wr => ∃ i : Nat, i ≤ m ∧ u = .int .i64 i ∧ Hid (∃ D1, MkAt W w wr p F D.sectors (lg0 at_ (m : Int)) D1)) (fun u _ => m - (intOf u).toNat)
  case atStart => exact ⟨0, by omega, rfl, Lib.hid ⟨_, I0.out⟩⟩
  case round =>
    clear I0
    obtain ⟨i, hi, rfl, HF⟩ := hrel
    have i0 : (0 : Int) ≤ (i : Int) := Int.natCast_nonneg _
    by_cases hlt : i < m
    · have d1 : decide ((i : Int) < (m : Int)) = true := decide_eq_true (by omega)
      have d2 : (i : Int) < (m : Int) := by omega
      have HLT := Lib.hid hlt
      have ei : IntKind.i64.wrap ((i : Int) + 1) = (i : Int) + 1 := IntWalk.i64_in _ (by have := R.out; omega)
      have ea : IntKind.i64.wrap (at_ + 2 + (i : Int)) = at_ + 2 + (i : Int) := IntWalk.i64_in _ (by have := R.out; omega)
      obtain ⟨D1, hd1⟩ := HF.out
      have HD1 := Lib.hid hd1
      have WR : Hid (Calls Try.prog 25 #[.pointer (some ⟨p, 0, none⟩), .int .i64 (at_ + 2 + (i : Int)), .slice (some ⟨wr.heap.size, 0, none⟩) 128 128] (wr.alloc (.cells zs128 5)) fun e w' => e = .returned (.int .i64 0) ∧ Dev W w' p (putD D1 (at_ + 2 + (i : Int)) dk.blank) F ∧ Only F (wr.alloc (.cells zs128 5)) w') := Lib.hid (by
        have h := write_dev (k := at_ + 2 + (i : Int)) (g := wr.heap.size) (off := 0) (cap := 128) (s := dk.blank) (hd1.lg.dev.none ((Only.refl [] _).alloc (.cells zs128 5))) (by have := R.out; omega) (by rw [hd1.sec]; have := R.out; omega) (by rw [hd1.most, hd1.sec]) dk.blank_is (zs128_bytes wr) (by omega)
        unfold dk.DoneTo at h
        rw [hd1.calm.write, (hd1.calm.putD _ _).off] at h
        exact h)
      clear hd1 HF hlt
      go_wp2_with fail
      refine WR.out.mono ?_
      rintro _ w3 ⟨rfl, d3, k3⟩
      have K3 : Hid (Only F wr w3) := Lib.hid (((Only.refl F wr).alloc _).and k3)
      have N3 : Hid (∃ D1, MkAt W w w3 p F D.sectors (lg0 at_ (m : Int)) D1) := Lib.hid ⟨_, ⟨⟨d3, HD1.out.lg.row.only K3.out HD1.out.lg.qF, HD1.out.lg.qF, HD1.out.lg.qW⟩, HD1.out.calm.putD _ _, HD1.out.sec, HD1.out.most, HD1.out.only.and K3.out⟩⟩
      clear d3 k3 WR HD1
      go_wp2_with fail
      go_roundw
      case rel => exact ⟨i + 1, HLT.out, by first | rfl | go_num, N3⟩
      case measure =>
        have := HLT.out
        simp [intOf]
        omega
    · have d1 : decide ((i : Int) < (m : Int)) = false := decide_eq_false (by omega)
      have d2 : ¬ (i : Int) < (m : Int) := by omega
      have T0 : Hid (∃ D1, MkAt W w wr p F D.sectors (mL at_ (m : Int) 0) D1) := Lib.hid HF.out
      clear HF
      go_wp2_with fail
      go_loopw [38] (fun u wr => ∃ i : Nat, i ≤ 2 ∧ u = .int .i64 i ∧ Hid (∃ D1, MkAt W w wr p F D.sectors (mL at_ (m : Int) i) D1)) (fun u _ => 2 - (intOf u).toNat)
      case atStart => exact ⟨0, by omega, rfl, T0⟩
      case round =>
        clear T0
        obtain ⟨k, hk, rfl, HF⟩ := hrel
        have k0 : (0 : Int) ≤ (k : Int) := Int.natCast_nonneg _
        obtain ⟨D1, hd1⟩ := HF.out
        have HD1 := Lib.hid hd1
        by_cases hlt : k < 2
        · have d3 : decide ((k : Int) < 2) = true := decide_eq_true (by omega)
          have d4 : (k : Int) < 2 := by omega
          have HLT := Lib.hid hlt
          have ek : IntKind.i64.wrap ((k : Int) + 1) = (k : Int) + 1 := IntWalk.i64_in _ (by omega)
          have TE := Lib.hid (tell_on hd1.lg hd1.calm (by rw [hd1.most, hd1.sec]) (by rw [(mL_parts _ _ _).1]; have := R.out; omega) (by rw [(mL_parts _ _ _).1, hd1.sec]; have := R.out; omega) (by rw [(mL_parts _ _ _).2]; omega) 0 1 52 0 52 ⟨by rw [(mL_parts _ _ _).2]; omega, by omega, by omega, by omega, by omega⟩)
          clear hd1 HF hlt
          go_wp2_with fail
          refine TE.out.mono ?_
          rintro _ w3 ⟨rfl, l3, k3⟩
          rw [mL_told] at l3
          have hcl := (HD1.out.calm.putD ((mL at_ (m : Int) k).at_ + ((mL at_ (m : Int) k).seq + 1) % 2) (masterB ((mL at_ (m : Int) k).seq + 1) 1 52 0 52)).synD
          have N3 : Hid (∃ D1, MkAt W w w3 p F D.sectors (mL at_ (m : Int) (k + 1)) D1) := Lib.hid ⟨_, ⟨l3, hcl, HD1.out.sec, HD1.out.most, HD1.out.only.trans k3 fun i hi => by
            rcases List.mem_cons.1 hi with rfl | hi
            · exact .inr (Nat.le_refl _)
            · exact .inl hi⟩⟩
          clear l3 k3 TE HD1 hcl
          go_wp2_with fail
          go_roundw
          case rel => exact ⟨k + 1, HLT.out, by first | rfl | go_num, N3⟩
          case measure =>
            have := HLT.out
            simp [intOf]
            omega
        · have d3 : decide ((k : Int) < 2) = false := decide_eq_false (by omega)
          obtain rfl : k = 2 := by omega
          have RQ := Lib.hid HD1.out.lg.row
          have n8 : wr.cell? ⟨w.heap.size, 8, none⟩ = some (.int .u64 0) := RQ.out.cell 8
          have n9 : wr.cell? ⟨w.heap.size, 9, none⟩ = some (.int .u64 0) := RQ.out.cell 9
          have n10 : wr.cell? ⟨w.heap.size, 10, none⟩ = some (.int .u32 0) := RQ.out.cell 10
          have f8 := RQ.out.free 8
          have f9 := RQ.out.free 9
          have f10 := RQ.out.free 10
          clear hd1 HF hlt
          go_wp2_with fail
          go_ret2
          have kk : Only [w.heap.size] wr (((wr.setCell ⟨w.heap.size, 8, none⟩ (.int .u64 52)).setCell ⟨w.heap.size, 9, none⟩ (.int .u64 52)).setCell ⟨w.heap.size, 10, none⟩ (.int .u32 1)) := (((Only.refl [w.heap.size] wr).setCell (.inl (by simp)) _).setCell (.inl (by simp)) _).setCell (.inl (by simp)) _
          refine ⟨D1, rfl, ⟨HD1.out.lg.dev.only kk (by simpa using QF.out) (by simpa using HW.out), ?_, QF.out, HW.out⟩, HD1.out.calm, HD1.out.sec, by rw [HD1.out.most]; exact HM.out.symm, HD1.out.only.trans kk fun i hi => by simp at hi; subst hi; exact .inr (Nat.le_refl _)⟩
          have h := ((RQ.out.set 8 (.int .u64 52)).set 9 (.int .u64 52)).set 10 (.int .u32 1)
          simpa [Lg.cells, mL, madeL, lg0] using h
end Go.Proofs.Ytekdogmhgijocaa

/- wal: there, End, limit, Left. -/
namespace Go.Proofs.Ytekdogmhgijocaa
open Go.RowKit Go.ChangeShapes Go.WideShapes Go.ChangeAt
open Go.Proofs.Ytekdogmhgijocaa.dk (Dk Dev)
set_option linter.unusedVariables false

abbrev LgRow (w : World) (q : Nat) (L : Lg) (p : Nat) (tail : Value) : Prop := Row w q (L.cells (.pointer (some ⟨p, 0, none⟩)) tail) 66
theorem there_on {w : World} {q p : Nat} {L : Lg} {tail : Value} (h : LgRow w q L p tail) (hd : L.down = false) : Calls Try.prog 28 #[.pointer (some ⟨q, 0, none⟩)] w fun e w' => e = .returned (.int .i64 0) ∧ w' = w := by
  have c0 : w.cell? ⟨q, 0, none⟩ = some (.pointer (some ⟨p, 0, none⟩)) := h.cell 0
  have c12 : w.cell? ⟨q, 12, none⟩ = some (.bool L.down) := h.cell 12
  rw [hd] at c12
  clear h hd
  go_enter Try.func28, Try.ntmps28
  go_wp2_with fail
  go_ret
  exact ⟨rfl, rfl⟩
theorem there_nil (w : World) : Calls Try.prog 28 #[.pointer none] w fun e w' => e = .returned (.int .i64 1) ∧ w' = w := by
  go_enter Try.func28, Try.ntmps28
  go_wp2_with fail
  go_ret
  exact ⟨rfl, rfl⟩
theorem end_on {w : World} {q p : Nat} {L : Lg} {tail : Value} (h : LgRow w q L p tail) : Calls Try.prog 11 #[.pointer (some ⟨q, 0, none⟩)] w fun e w' => e = .returned (.int .u64 L.end_) ∧ w' = w := by
  have c8 : w.cell? ⟨q, 8, none⟩ = some (.int .u64 L.end_) := h.cell 8
  clear h
  go_enter Try.func11, Try.ntmps11
  go_wp2_with fail
  go_ret
  exact ⟨rfl, rfl⟩
/-- The place that must not be reached; what is left. -/
def limL (L : Lg) : Int := (L.st / 52 + 2 * L.count) * 52
def leftL (L : Lg) : Int := limL L - L.end_
structure LgOk (L : Lg) : Prop where
  s0 : 0 ≤ L.st ∧ L.st ≤ 1125899906842624
  n0 : 0 ≤ L.count ∧ L.count ≤ 8192
  e0 : 0 ≤ L.end_ ∧ L.end_ ≤ limL L
  p0 : 0 ≤ L.ep ∧ L.ep < 4294967296
theorem limit_on {w : World} {q p : Nat} {L : Lg} {tail : Value} (h : LgRow w q L p tail) (ok : LgOk L) : Calls Try.prog 27 #[.pointer (some ⟨q, 0, none⟩)] w fun e w' => e = .returned (.int .u64 (limL L)) ∧ Only [] w w' := by
  have c2 : w.cell? ⟨q, 2, none⟩ = some (.int .i64 L.count) := h.cell 2
  have c5 : w.cell? ⟨q, 5, none⟩ = some (.int .u64 L.st) := h.cell 5
  obtain ⟨s0, s1⟩ := ok.s0
  obtain ⟨n0, n1⟩ := ok.n0
  have wr : ∀ x : Int, 0 ≤ x → x < 18446744073709551616 → IntKind.u64.wrap x = x := fun x h0 h1 => by rw [show IntKind.u64.wrap x = x % 18446744073709551616 from rfl]; omega
  have e0 : L.st.tdiv 52 = L.st / 52 := Int.tdiv_eq_ediv_of_nonneg s0
  have e1 : IntKind.u64.wrap (L.st / 52) = L.st / 52 := wr _ (by omega) (by omega)
  have e2 : IntKind.u64.wrap L.count = L.count := wr _ (by omega) (by omega)
  have e3 : IntKind.u64.wrap (2 * L.count) = 2 * L.count := wr _ (by omega) (by omega)
  have e4 : IntKind.u64.wrap (L.st / 52 + 2 * L.count) = L.st / 52 + 2 * L.count := wr _ (by omega) (by omega)
  have e5 : IntKind.u64.wrap ((L.st / 52 + 2 * L.count) * 52) = (L.st / 52 + 2 * L.count) * 52 := wr _ (by omega) (by omega)
  clear h ok s0 s1 n0 n1 wr
  go_enter Try.func27, Try.ntmps27
  go_upto_region 1 with fail
  go_quiet (fail)
  go_wp2_with fail
  go_ret
  exact ⟨rfl, (Only.refl [] w).drewN _⟩
theorem left_on {w : World} {q p : Nat} {L : Lg} {tail : Value} (h : LgRow w q L p tail) (ok : LgOk L) : Calls Try.prog 10 #[.pointer (some ⟨q, 0, none⟩)] w fun e w' => e = .returned (.int .i64 (leftL L)) ∧ Below w.heap.size w w' := by
  have c0 : w.cell? ⟨q, 0, none⟩ = some (.pointer (some ⟨p, 0, none⟩)) := h.cell 0
  have LM := Lib.hid fun v : After w.heap.size w => ((limit_on (h.of_block (v.2.block _ h.lt)) ok).mono fun e w' ⟨h1, h2⟩ => ⟨h1, h2.toBelow (Nat.le_refl _) (by simp)⟩ : Calls Try.prog 27 #[.pointer (some ⟨q, 0, none⟩)] v.1 fun e w' => e = .returned (.int .u64 (limL L)) ∧ Below v.1.heap.size v.1 w')
  have C8 : Hid (∀ v : After w.heap.size w, v.1.cell? ⟨q, 8, none⟩ = some (.int .u64 L.end_)) := Lib.hid fun v => (v.cell h.lt).trans (h.cell 8)
  obtain ⟨e0, e1⟩ := ok.e0
  have hl : limL L ≤ 1200000000000000 := by
    unfold limL
    have := ok.s0
    have := ok.n0
    omega
  have x1 : IntKind.u64.wrap (limL L - L.end_) = limL L - L.end_ := by rw [show IntKind.u64.wrap (limL L - L.end_) = (limL L - L.end_) % 18446744073709551616 from rfl]; omega
  have x2 : IntKind.i64.wrap (limL L - L.end_) = limL L - L.end_ := IntWalk.i64_in _ (by omega)
  clear h ok e0 e1 hl
  go_enter Try.func10, Try.ntmps10
  go_upto_region 3 with fail
  have c8 := C8.out
  refine region_quiet_in w.heap.size w (by kernel_rfl) (by kernel_rfl) (Below.refl _ _).drew ?_
  repeat (go_big_quiet_step ((go_at_call 27; exact Calls.in_after' (Nat.le_refl _) (LM.out _))))
  refine wpQuiet_nil ?_
  intro w8 hb8
  have B8 := Lib.hid hb8
  clear c8 hb8
  go_wp2_with fail
  go_ret
  exact ⟨rfl, B8.out⟩
end Go.Proofs.Ytekdogmhgijocaa

/- wal: Append. -/
namespace Go.Proofs.Ytekdogmhgijocaa
open Go.RowKit Go.ChangeShapes Go.WideShapes Go.ChangeAt
open Go.Proofs.Ytekdogmhgijocaa.dk (Dk Dev)
set_option linter.unusedVariables false

/-- The tail, a slice of the log's own. -/
structure TailAt (W w : World) (q : Nat) (F : List Nat) (tail : Value) (zs : List Int) : Prop where
  own : w.ownsRow W.heap.size 5 1 tail zs.length (zs.map (Value.int .u8))
  apart : ∀ g, tail.ownBlock = some g → g ∉ F ∧ g ≠ q
theorem TailAt.only {W w w' : World} {q : Nat} {F G : List Nat} {tail : Value} {zs : List Int} (h : TailAt W w q F tail zs) (k : Only G w w') (hG : ∀ g, tail.ownBlock = some g → g ∉ G) : TailAt W w' q F tail zs :=
  ⟨own_keep h.own fun g hg => k.block g (h.own.lt g hg).2 (hG g hg), h.apart⟩
def endL (L : Lg) (n : Nat) : Lg := { L with end_ := L.end_ + n }
def AppPost (W : World) (p q : Nat) (D : Dk) (F : List Nat) (L : Lg) (tail : Value) (zs b : List Int) (w : World) (e : Ending) (w' : World) : Prop := ∃ tail', e = .returned (.tuple #[.int .u64 L.end_, .int .i64 0]) ∧ LgAt W w' p q D F (endL L b.length) tail' ∧ TailAt W w' q F tail' (zs ++ b) ∧ Only (q :: tail.ownBlock.toList) w w'
def FullPost (w : World) (e : Ending) (w' : World) : Prop := e = .returned (.tuple #[.int .u64 0, .int .i64 5]) ∧ Only [] w w'
theorem recR_set (kind txn pg off a b : Int) (v1 v2 : Value) : ((recR kind 0 0 txn pg off v1 v2).setIfInBounds 1 (.int .u64 a)).setIfInBounds 2 (.int .u32 b) = recR kind a b txn pg off v1 v2 := rfl
set_option maxRecDepth 100000 in
set_option maxHeartbeats 8000000 in
theorem append_on {W w : World} {p q : Nat} {D : Dk} {F : List Nat} {L : Lg} {tail : Value} {zs b : List Int} (h : LgAt W w p q D F L tail) (ht : TailAt W w q F tail zs) (ok : LgOk L) (hd : L.down = false) (kind txn pg off : Int) (v1 v2 : Value) (hp : 0 < b.length) (hn : b.length ≤ 2000) (hz : zs.length ≤ 1000000)
    (hb : ∀ y, Only [] w y → Calls Try.prog 29 #[.agg (recR kind L.end_ L.ep txn pg off v1 v2)] y (GivesE b y)) :
    Calls Try.prog 12 #[.pointer (some ⟨q, 0, none⟩), .agg (recR kind 0 0 txn pg off v1 v2)] w (fun e w' => if leftL L < b.length then FullPost w e w' else AppPost W p q D F L tail zs b w e w') := by
  have OK := Lib.hid ok
  have HP := Lib.hid hp
  have HT := Lib.hid ht
  have HD := Lib.hid hd
  have HB := Lib.hid hb
  have H := Lib.hid h
  have QW : Hid (q < w.heap.size) := Lib.hid h.row.lt
  obtain ⟨R, hR⟩ : ∃ R, recR kind 0 0 txn pg off v1 v2 = R := ⟨_, rfl⟩
  have R1 : Hid (Row (w.alloc (.cells R 43)) w.heap.size (recR kind 0 0 txn pg off v1 v2) 43) := Lib.hid (by rw [hR]; exact Row.made _ _ _)
  rw [hR]
  clear hR hb ok hp ht h
  go_enter Try.func12, Try.ntmps12
  go_upto_region 1 with fail
  have K1 : Hid (Only [] w (w.alloc (.cells R 43))) := Lib.hid ((Only.refl _ _).alloc _)
  generalize w.alloc (.cells R 43) = w1 at *
  generalize hbx : w.heap.size = bx at *
  have H1 := Lib.hid (H.out.only K1.out (by simp))
  have TH := Lib.hid (there_on H1.out.row hd)
  go_wp2_with fail
  refine TH.out.mono ?_
  rintro _ w2 ⟨rfl, hw2⟩
  subst hw2
  have c4 : w2.cell? ⟨q, 4, none⟩ = some (.int .u32 L.ep) := H1.out.row.cell 4
  have c8 : w2.cell? ⟨q, 8, none⟩ = some (.int .u64 L.end_) := H1.out.row.cell 8
  have f1 := R1.out.free 1
  have f2 := R1.out.free 2
  have m1 : w2.cell? ⟨bx, 1, none⟩ = some (.int .u64 0) := R1.out.cell 1
  have m2 : w2.cell? ⟨bx, 2, none⟩ = some (.int .u32 0) := R1.out.cell 2
  have hqb : q < bx := QW.out
  clear TH hd
  go_upto_region 4 with fail
  go_cut [3] from 14 (fun s3 wc => s3 = .pointer (some ⟨bx, 0, none⟩) ∧ Hid (Row wc bx (recR kind L.end_ L.ep txn pg off v1 v2) 43 ∧ Only [] w wc))
  case first =>
    go_region
    go_wp2_with fail
    go_meet
    case rel => exact ⟨rfl, Lib.hid ⟨(R1.out.set 1 (.int .u64 L.end_)).set 2 (.int .u32 L.ep), ((K1.out.setCell (.inr (Nat.le_of_eq hbx)) _).setCell (.inr (Nat.le_of_eq hbx)) _).drew⟩⟩
  case rest =>
    obtain ⟨rfl, HC⟩ := hcut
    clear c4 c8 f1 f2 m1 m2 hqb
    have H2 := Lib.hid (H.out.only HC.out.2 (by simp))
    have k0 : wc.cell? ⟨bx, 0, none⟩ = some (.int .i64 kind) := HC.out.1.cell 0
    have k1 : wc.cell? ⟨bx, 1, none⟩ = some (.int .u64 L.end_) := HC.out.1.cell 1
    have k2 : wc.cell? ⟨bx, 2, none⟩ = some (.int .u32 L.ep) := HC.out.1.cell 2
    have k3 : wc.cell? ⟨bx, 3, none⟩ = some (.int .u64 txn) := HC.out.1.cell 3
    have k4 : wc.cell? ⟨bx, 4, none⟩ = some (.int .u32 pg) := HC.out.1.cell 4
    have k5 : wc.cell? ⟨bx, 5, none⟩ = some (.int .u16 off) := HC.out.1.cell 5
    have k6 : wc.cell? ⟨bx, 6, none⟩ = some (v1) := HC.out.1.cell 6
    have k7 : wc.cell? ⟨bx, 7, none⟩ = some (v2) := HC.out.1.cell 7
    have k8 : wc.cell? ⟨bx, 8, none⟩ = some (.slice none 0 0) := HC.out.1.cell 8
    have k9 : wc.cell? ⟨bx, 9, none⟩ = some (.int .u64 0) := HC.out.1.cell 9
    have k10 : wc.cell? ⟨bx, 10, none⟩ = some (.int .u64 0) := HC.out.1.cell 10
    have k11 : wc.cell? ⟨bx, 11, none⟩ = some (.bool false) := HC.out.1.cell 11
    have k12 : wc.cell? ⟨bx, 12, none⟩ = some (.int .u64 0) := HC.out.1.cell 12
    have k13 : wc.cell? ⟨bx, 13, none⟩ = some (.slice none 0 0) := HC.out.1.cell 13
    have k14 : wc.cell? ⟨bx, 14, none⟩ = some (.slice none 0 0) := HC.out.1.cell 14
    have hlt : bx < wc.heap.size := HC.out.1.lt
    go_wp2_with fail
    refine (HB.out wc HC.out.2).mono ?_
    rintro _ w3 ⟨v3, rfl, o3, b3⟩
    obtain ⟨g3, c3, rfl, hg3, hl3⟩ := gives_shape o3 HP.out
    have K3 : Hid (Only [] wc w3) := Lib.hid ((Only.refl [] wc).below b3)
    have O3 := Lib.hid o3
    have G3 := Lib.hid hg3
    clear o3 b3 hg3 hl3 k0 k1 k2 k3 k4 k5 k6 k7 k8 k9 k10 k11 k12 k13 k14 hlt
    have H3 := Lib.hid (H2.out.only K3.out (by simp))
    have LF := Lib.hid (left_on H3.out.row OK.out)
    go_wp2_with fail
    refine LF.out.mono ?_
    rintro _ w4 ⟨rfl, b4⟩
    have K4 : Hid (Only [] w3 w4) := Lib.hid ((Only.refl [] w3).below b4)
    have O4 := Lib.hid (own_keep (w' := w4) O3.out fun g hg => b4.block g (O3.out.lt g hg).2)
    have K04 : Hid (Only [] w w4) := Lib.hid ((HC.out.2.and K3.out).and K4.out)
    clear b4 LF
    by_cases hfull : leftL L < (b.length : Int)
    · have d1 : decide (leftL L < (b.length : Int)) = true := decide_eq_true hfull
      have HF := Lib.hid hfull
      clear hfull
      go_wp2_with fail
      go_ret2
      exact ⟨rfl, K04.out⟩
    · have d1 : decide (leftL L < (b.length : Int)) = false := decide_eq_false hfull
      have HF := Lib.hid hfull
      have H4 := Lib.hid (H.out.only K04.out (by simp))
      have T4 := Lib.hid (HT.out.only K04.out (by simp))
      obtain ⟨tv, w5, hrun, ho5, _, hg5, hnew⟩ := append_ints T4.out.own (some ⟨g3, 0, none⟩) b.length c3 b (ints_own' O4.out rfl) rfl HP.out (by omega) (by have := H4.out.dev.bl.size; omega)
      have hlen : (zs ++ b).length = zs.length + b.length := List.length_append
      have ho5' := ho5
      rw [← hlen] at ho5'
      obtain ⟨g5, c5, hv5, _⟩ := own_parts ho5' (by have := HP.out; omega)
      rw [hlen] at hv5
      subst hv5
      have O6 := Lib.hid ho5'
      have HL := Lib.hid hlen
      clear ho5' hlen
      have K5 : Hid (Only tail.ownBlock.toList w4 w5) := Lib.hid ((Only.refl _ w4).grown hg5 fun k hk => .inl (by simp [hk]))
      have O5 := Lib.hid ho5
      have TQ : Hid (q ∉ tail.ownBlock.toList) := Lib.hid fun hq => (HT.out.apart q (by simpa using hq)).2 rfl
      have TB : Hid (∀ g ∈ tail.ownBlock.toList, W.heap.size ≤ g ∧ g < w.heap.size ∧ g ∉ F) := Lib.hid fun g hg => by
        have h1 : tail.ownBlock = some g := by simpa using hg
        exact ⟨(HT.out.own.lt g h1).1, (HT.out.own.lt g h1).2, (HT.out.apart g h1).1⟩
      have RB5 := Lib.hid (((HC.out.1.only K3.out (by simp)).only K4.out (by simp)).only K5.out fun hg => by have := (TB.out _ hg).2.1; omega)
      have RQ5 := Lib.hid (H4.out.row.only K5.out TQ.out)
      have NW := Lib.hid hnew
      have c11 : w4.cell? ⟨q, 11, none⟩ = some tail := H4.out.row.cell 11
      have f11 := RQ5.out.free 11
      have f8 := RQ5.out.free 8
      have c8 : w5.cell? ⟨q, 8, none⟩ = some (.int .u64 L.end_) := RQ5.out.cell 8
      have m1 : w5.cell? ⟨bx, 1, none⟩ = some (.int .u64 L.end_) := RB5.out.cell 1
      have hqb : q < bx := QW.out
      have x11 : w5.cell? ⟨q, 11, none⟩ = some tail := RQ5.out.cell 11
      have e1 : IntKind.u64.wrap (b.length : Int) = (b.length : Int) := by rw [show IntKind.u64.wrap (b.length : Int) = (b.length : Int) % 18446744073709551616 from rfl]; omega
      have e2 : IntKind.u64.wrap (L.end_ + (b.length : Int)) = L.end_ + (b.length : Int) := by
        rw [show IntKind.u64.wrap (L.end_ + (b.length : Int)) = (L.end_ + (b.length : Int)) % 18446744073709551616 from rfl]
        have h1 := HF.out
        have h2 := OK.out.e0
        have h3 := OK.out.s0
        have h4 := OK.out.n0
        unfold leftL limL at *
        omega
      clear hg5 ho5 hnew
      go_wp2_with (at_builtin; refine wpList_append_eq rfl _ _ 32 rfl tail (.slice (some ⟨g3, 0, none⟩) b.length c3) (.slice (some ⟨g5, 0, none⟩) (zs.length + b.length) c5) w5 rfl rfl hrun ?_)
      go_ret2
      have HQ : Hid (∀ k ∈ q :: tail.ownBlock.toList, True) := Lib.hid fun _ _ => trivial
      have kk : Only [q] w5 ((w5.setCell ⟨q, 11, none⟩ (.slice (some ⟨g5, 0, none⟩) (zs.length + b.length) c5)).setCell ⟨q, 8, none⟩ (.int .u64 (L.end_ + (b.length : Int)))) := ((Only.refl [q] w5).setCell (.inl (by simp)) _).setCell (.inl (by simp)) _
      have D5 := Lib.hid (H4.out.dev.only K5.out (fun g hg => (TB.out g hg).2.2) (fun g hg => (TB.out g hg).1))
      refine ⟨.slice (some ⟨g5, 0, none⟩) (zs.length + b.length) c5, rfl, ⟨D5.out.only kk (by simpa using H.out.qF) (by simpa using H.out.qW), ?_, H.out.qF, H.out.qW⟩, ⟨?_, ?_⟩, ?_⟩
      · have h := (RQ5.out.set 11 (.slice (some ⟨g5, 0, none⟩) (zs.length + b.length) c5)).set 8 (.int .u64 (L.end_ + (b.length : Int)))
        simpa [Lg.cells, endL] using h
      · have hg5q : g5 ≠ q := by
          intro e
          rcases NW.out with h | h
          · exact TQ.out (by rw [← e, ← h]; simp [Value.ownBlock])
          · have := h g5 (by simp [Value.ownBlock]); have := QW.out; have := K04.out.size; omega
        rw [HL.out]
        refine own_keep O5.out fun g hg => kk.block g (O5.out.lt g hg).2 fun h => ?_
        simp [Value.ownBlock] at hg h
        exact hg5q (hg.trans h)
      · intro g hg
        obtain rfl : g5 = g := by simpa [Value.ownBlock] using hg
        rcases NW.out with h | h
        · exact HT.out.apart g5 (by rw [← h]; simp [Value.ownBlock])
        · have h1 := h g5 (by simp [Value.ownBlock])
          have h2 := K04.out.size
          refine ⟨fun hf => ?_, fun e => ?_⟩
          · have := H.out.dev.lt _ hf; omega
          · have := QW.out; omega
      · exact ((K04.out.mono (by simp)).trans K5.out fun g hg => .inl (List.mem_cons_of_mem _ hg)).trans kk fun g hg => .inl (by simp at hg; simp [hg])
end Go.Proofs.Ytekdogmhgijocaa
