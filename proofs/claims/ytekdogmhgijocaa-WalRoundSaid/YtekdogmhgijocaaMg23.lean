/- logrec.Read of too few bytes; Open of a log that was just made. -/
import Derived.Test.YtekdogmhgijocaaWaX
import Derived.Test.YtekdogmhgijocaaMg18
import Derived.StillTailTactics
import Derived.Test.YtekdogmhgijocaaMg19
set_option linter.unusedSimpArgs false
namespace Go.Proofs.Ytekdogmhgijocaa
open Go.RowKit Go.ChangeShapes Go.WideShapes Go.ChangeAt
open Go.Proofs.Ytekdogmhgijocaa.dk (Dk Dev sectorD Bytes read_dev ReadTo sectorD_is IsSec Calm)
set_option linter.unusedVariables false

def ShortPost (w : World) (e : Ending) (w' : World) : Prop := e = .returned (.tuple #[.agg #[.int .i64 0, .int .u64 0, .int .u32 0, .int .u64 0, .int .u32 0, .int .u16 0, .slice none 0 0, .slice none 0 0, .slice none 0 0, .int .u64 0, .int .u64 0, .bool false, .int .u64 0, .slice none 0 0, .slice none 0 0], .int .i64 0, .int .i64 4]) ∧ Below w.heap.size w w'
set_option maxRecDepth 100000 in
set_option maxHeartbeats 4000000 in
theorem read_short (a : Option Addr) (n c : Nat) (w : World) (hn : n < 6) : Calls Try.prog 33 #[.slice a n c] w (ShortPost w) := by
  have d1 : decide ((n : Int) < 6) = true := decide_eq_true (by omega)
  have d2 : decide (n < 6) = true := decide_eq_true hn
  go_enter Try.func33, Try.ntmps33
  go_wp2_with fail
  refine bodyPost_ret (results_rec3 rfl _ _ w.heap.size rec0 rfl rfl ?_) rfl ?_
  · exact Row.made _ _ _
  · exact ⟨rfl, (Below.refl _ _).alloc (Nat.le_refl _) _⟩
/-- The masters of a log that was just made. -/
theorem masO_two : masO (masterB 2 1 52 0 52) = masR 2 1 52 0 52 := by kernel_rfl
theorem masO_one : masO (masterB 1 1 52 0 52) = masR 1 1 52 0 52 := by kernel_rfl
theorem pie_blank : pieN ((dk.blank.drop 0).take 64) = 0 ∧ pieN ((dk.blank.drop 64).take 64) = 0 := by decide +kernel
theorem secMas {W w : World} {p q : Nat} {D : Dk} {F : List Nat} {L : Lg} {tail : Value} (h : LgAt W w p q D F L tail) (ho : D.off = false) (k : Int) (h0 : 0 ≤ k) (h1 : k < D.sectors) (b : List Int) (hs : sectorD D k = b) (R : Array Value) (hR : masO b = R) :
    Calls Try.prog 30 #[.pointer (some ⟨p, 0, none⟩), .int .i64 k] w fun e w' => e = .returned (.tuple #[.slice (some ⟨w.heap.size, 0, none⟩) 128 128, .int .i64 0]) ∧ Only [] w w' ∧ Calls Try.prog 31 #[.slice (some ⟨w.heap.size, 0, none⟩) 128 128] w' fun e w'' => e = .returned (.agg R) ∧ Below w'.heap.size w' w'' := by
  have hi := sectorD_is h.dev.fine k
  rw [hs] at hi
  refine (read_dev h.dev ho h0 h1).mono ?_
  rintro e w' ⟨rfl, hb, d2, k2, _⟩
  rw [hs] at hb
  refine ⟨rfl, k2, ?_⟩
  have hI : Ints .u8 w' (.slice (some ⟨w.heap.size, 0, none⟩) 128 128) b := .inr ⟨w.heap.size, 0, 128, by rw [hi.1], fun z hz => hb z (.int .u8 (b[z]?.getD 0)) (by rw [List.getElem?_map, List.getElem?_eq_getElem hz]; rfl)⟩
  refine (mread_any w.heap.size 0 128 b w' hi.1 hI (fun x hx => by have := hi.2 x hx; omega)).mono ?_
  rintro e w'' ⟨h1, h2⟩
  exact ⟨by rw [h1, hR], h2⟩
theorem masR_two : masR 2 1 52 0 52 = #[Value.int .u64 2, .int .u32 1, .int .u64 52, .int .u64 0, .int .u64 52] := rfl
theorem masR_one : masR 1 1 52 0 52 = #[Value.int .u64 1, .int .u32 1, .int .u64 52, .int .u64 0, .int .u64 52] := rfl
def knowL (at_ count : Int) (i : Nat) : Lg := if i = 0 then lg0 at_ count else { lg0 at_ count with seq := 2, ep := 1, st := 52, pt := 0, ct := 52 }
def openL (at_ count : Int) : Lg := ⟨at_, count, 3, 2, 52, 0, 52, 52, 52, 0, false⟩
structure OpAt (W w wr : World) (p : Nat) (F : List Nat) (D : Dk) (L : Lg) : Prop where
  lg : LgAt W wr p w.heap.size D F L (.slice none 0 0)
  only : Only F w wr
def OpenPost (W : World) (p : Nat) (F : List Nat) (at_ count : Int) (w : World) (e : Ending) (w' : World) : Prop := ∃ D', e = .returned (.tuple #[.pointer (some ⟨w.heap.size, 0, none⟩), .int .i64 0]) ∧ LgAt W w' p w.heap.size D' F (openL at_ count) (.slice none 0 0) ∧ Only F w w'
set_option maxRecDepth 100000 in
set_option maxHeartbeats 8000000 in
theorem open_on {W w : World} {p : Nat} {D : Dk} {F : List Nat} (h : Dev W w p D F) (hc : dk.Calm D) (hm : D.most = D.sectors) (at_ : Int) (m : Nat) (hl : LogAt D.sectors at_ (m : Int)) (hr : RingAt D at_ m 2) :
    Calls Try.prog 13 #[.pointer (some ⟨p, 0, none⟩), .int .i64 at_, .int .i64 (m : Int)] w (OpenPost W p F at_ (m : Int) w) := by
  obtain ⟨l0, l1, l2, l3, l4⟩ := id hl
  have s1 := h.fine.s1
  have FN := Lib.hid (wfind_ok h at_ (m : Int) hl)
  have FI := Lib.hid h.fine
  have QF : Hid (w.heap.size ∉ F) := Lib.hid fun hf => by have := h.lt _ hf; omega
  have HW : Hid (W.heap.size ≤ w.heap.size) := Lib.hid h.bl.size
  have R : Hid (16 ≤ (m : Int) ∧ (m : Int) ≤ 8192 ∧ 0 ≤ at_ ∧ at_ + (m : Int) + 2 ≤ D.sectors ∧ D.sectors ≤ 65536) := Lib.hid (by omega)
  have I0 : Hid (OpAt W w (w.alloc (.cells ((lg0 at_ (m : Int)).cells (.pointer (some ⟨p, 0, none⟩)) (.slice none 0 0)) 66)) p F D (lg0 at_ (m : Int))) := Lib.hid ⟨⟨h.none ((Only.refl [] _).alloc _), Row.made _ _ _, QF.out, HW.out⟩, (Only.refl _ _).alloc _⟩
  have HM := Lib.hid hm
  have HC := Lib.hid hc
  have HR := Lib.hid hr
  clear h hc hm hl l0 l1 l2 l3 l4 s1 hr
  go_enter Try.func13, Try.ntmps13
  go_wp2_with fail
  refine FN.out.mono ?_
  rintro _ w1 ⟨rfl, hw1⟩
  rw [← hw1] at I0
  clear hw1 FN
  go_wp2_with fail
  go_loopw [10, 11, 12, 13, 31] (fun _ _ _ _ u wr => ∃ j : Int, u = .int .i64 j ∧ (j = 0 ∨ j = 1 ∨ j = 2) ∧ Hid (OpAt W w wr p F D (knowL at_ (m : Int) j.toNat))) (fun _ _ _ _ u _ => 2 - (intOf u).toNat)
  case atStart => exact ⟨0, rfl, .inl rfl, Lib.hid I0.out⟩
  case round =>
    clear I0
    obtain ⟨j, rfl, hj, HF⟩ := hrel
    rcases hj with rfl | rfl | rfl
    ·
      have RK := Lib.hid (secMas HF.out.lg HC.out.off (at_) (by have := R.out; omega) (by have := R.out; omega) _ (HR.out.m2 (by omega)) #[Value.int .u64 2, .int .u32 1, .int .u64 52, .int .u64 0, .int .u64 52] (masO_two.trans masR_two))
      have ea : IntKind.i64.wrap (at_ + 0) = at_ := by rw [Int.add_zero]; exact IntWalk.i64_in _ (by have := R.out; omega)
      have ea2 : wrap64 at_ = at_ := by have := R.out; unfold wrap64; omega
      have ea3 : IntKind.i64.wrap at_ = at_ := IntWalk.i64_in _ (by have := R.out; omega)
      have HI : Hid (OpAt W w wr p F D (knowL at_ (m : Int) 0)) := Lib.hid HF.out
      clear HF
      go_wp2_with fail
      refine RK.out.mono ?_
      rintro _ w2 ⟨rfl, k2, MR'⟩
      have MR := Lib.hid MR'
      have L2 := Lib.hid (HI.out.lg.only k2 (by simp))
      have K2 := Lib.hid (HI.out.only.trans k2 (by simp))
      clear k2 MR' RK
      go_wp2_with fail
      refine MR.out.mono ?_
      rintro _ w3 ⟨rfl, b3⟩
      have k3 : Only [] w2 w3 := (Only.refl [] w2).below b3
      have L3 := Lib.hid (L2.out.only k3 (by simp))
      have K3 := Lib.hid (K2.out.trans k3 (by simp))
      clear b3 k3 MR
      go_upto_region 11 with fail
      have ka : Only [] w3 (w3.alloc (.cells #[Value.int .u64 2, .int .u32 1, .int .u64 52, .int .u64 0, .int .u64 52] 64)) := (Only.refl [] w3).alloc _
      have L4 := Lib.hid (L3.out.only ka (by simp))
      have K4 := Lib.hid (K3.out.trans ka (by simp))
      have X4 : Hid (Row (w3.alloc (.cells #[Value.int .u64 2, .int .u32 1, .int .u64 52, .int .u64 0, .int .u64 52] 64)) w3.heap.size #[Value.int .u64 2, .int .u32 1, .int .u64 52, .int .u64 0, .int .u64 52] 64) := Lib.hid (Row.made _ _ _)
      have XW : Hid (w.heap.size < w3.heap.size) := Lib.hid L3.out.row.lt
      clear ka
      generalize w3.alloc (.cells #[Value.int .u64 2, .int .u32 1, .int .u64 52, .int .u64 0, .int .u64 52] 64) = w4 at *
      have x0 : w4.cell? ⟨w3.heap.size, 0, none⟩ = some (.int .u64 2) := X4.out.cell 0
      have q3 : w4.cell? ⟨w.heap.size, 3, none⟩ = some (.int .u64 0) := L4.out.row.cell 3
      go_quiet (fail)
      clear x0 q3
      generalize hy : World.drewN w4 _ = y
      have ky : Only [] w4 y := by rw [← hy]; exact (Only.refl _ _).drewN _
      clear hy
      have L5 := Lib.hid (L4.out.only ky (by simp))
      have K5 := Lib.hid (K4.out.trans ky (by simp))
      have X5 := Lib.hid (X4.out.only ky (by simp))
      clear ky
      have x0 : y.cell? ⟨w3.heap.size, 0, none⟩ = some (.int .u64 2) := X5.out.cell 0
      have x1 : y.cell? ⟨w3.heap.size, 1, none⟩ = some (.int .u32 1) := X5.out.cell 1
      have x2 : y.cell? ⟨w3.heap.size, 2, none⟩ = some (.int .u64 52) := X5.out.cell 2
      have x3 : y.cell? ⟨w3.heap.size, 3, none⟩ = some (.int .u64 0) := X5.out.cell 3
      have x4 : y.cell? ⟨w3.heap.size, 4, none⟩ = some (.int .u64 52) := X5.out.cell 4
      have q3 : y.cell? ⟨w.heap.size, 3, none⟩ = some (.int .u64 0) := L5.out.row.cell 3
      have q4 : y.cell? ⟨w.heap.size, 4, none⟩ = some (.int .u32 0) := L5.out.row.cell 4
      have q5 : y.cell? ⟨w.heap.size, 5, none⟩ = some (.int .u64 0) := L5.out.row.cell 5
      have q6 : y.cell? ⟨w.heap.size, 6, none⟩ = some (.int .u64 0) := L5.out.row.cell 6
      have q7 : y.cell? ⟨w.heap.size, 7, none⟩ = some (.int .u64 0) := L5.out.row.cell 7
      have f3 := L5.out.row.free 3
      have f4 := L5.out.row.free 4
      have f5 := L5.out.row.free 5
      have f6 := L5.out.row.free 6
      have f7 := L5.out.row.free 7
      have hxw : w.heap.size < w3.heap.size := XW.out
      have kk : Only [w.heap.size] y (((((y.setCell ⟨w.heap.size, 3, none⟩ (.int .u64 2)).setCell ⟨w.heap.size, 4, none⟩ (.int .u32 1)).setCell ⟨w.heap.size, 5, none⟩ (.int .u64 52)).setCell ⟨w.heap.size, 6, none⟩ (.int .u64 0)).setCell ⟨w.heap.size, 7, none⟩ (.int .u64 52)) := (((((Only.refl [w.heap.size] y).setCell (.inl (by simp)) _).setCell (.inl (by simp)) _).setCell (.inl (by simp)) _).setCell (.inl (by simp)) _).setCell (.inl (by simp)) _
      have N5 : Hid (OpAt W w (((((y.setCell ⟨w.heap.size, 3, none⟩ (.int .u64 2)).setCell ⟨w.heap.size, 4, none⟩ (.int .u32 1)).setCell ⟨w.heap.size, 5, none⟩ (.int .u64 52)).setCell ⟨w.heap.size, 6, none⟩ (.int .u64 0)).setCell ⟨w.heap.size, 7, none⟩ (.int .u64 52)) p F D (knowL at_ (m : Int) 1)) := Lib.hid ⟨⟨L5.out.dev.only kk (by simpa using QF.out) (by simpa using HW.out), by
        have h := ((((L5.out.row.set 3 (.int .u64 2)).set 4 (.int .u32 1)).set 5 (.int .u64 52)).set 6 (.int .u64 0)).set 7 (.int .u64 52)
        simpa [Lg.cells, knowL, lg0] using h, QF.out, HW.out⟩, K5.out.trans kk fun z hz => .inr (by simp at hz; omega)⟩
      clear kk
      go_wp2_with fail
      go_roundw
      case rel => exact ⟨1, by first | rfl | go_num, .inr (.inl rfl), N5⟩
      case measure => simp [intOf]
    ·
      have RK := Lib.hid (secMas HF.out.lg HC.out.off (at_ + 1) (by have := R.out; omega) (by have := R.out; omega) _ (HR.out.m1 (by omega)) #[Value.int .u64 1, .int .u32 1, .int .u64 52, .int .u64 0, .int .u64 52] (masO_one.trans masR_one))
      have ea : IntKind.i64.wrap (at_ + 1) = at_ + 1 := by exact IntWalk.i64_in _ (by have := R.out; omega)
      have ea2 : wrap64 (at_ + 1) = at_ + 1 := by have := R.out; unfold wrap64; omega
      have HI : Hid (OpAt W w wr p F D (knowL at_ (m : Int) 1)) := Lib.hid HF.out
      clear HF
      go_wp2_with fail
      refine RK.out.mono ?_
      rintro _ w2 ⟨rfl, k2, MR'⟩
      have MR := Lib.hid MR'
      have L2 := Lib.hid (HI.out.lg.only k2 (by simp))
      have K2 := Lib.hid (HI.out.only.trans k2 (by simp))
      clear k2 MR' RK
      go_wp2_with fail
      refine MR.out.mono ?_
      rintro _ w3 ⟨rfl, b3⟩
      have k3 : Only [] w2 w3 := (Only.refl [] w2).below b3
      have L3 := Lib.hid (L2.out.only k3 (by simp))
      have K3 := Lib.hid (K2.out.trans k3 (by simp))
      clear b3 k3 MR
      go_upto_region 11 with fail
      have ka : Only [] w3 (w3.alloc (.cells #[Value.int .u64 1, .int .u32 1, .int .u64 52, .int .u64 0, .int .u64 52] 64)) := (Only.refl [] w3).alloc _
      have L4 := Lib.hid (L3.out.only ka (by simp))
      have K4 := Lib.hid (K3.out.trans ka (by simp))
      have X4 : Hid (Row (w3.alloc (.cells #[Value.int .u64 1, .int .u32 1, .int .u64 52, .int .u64 0, .int .u64 52] 64)) w3.heap.size #[Value.int .u64 1, .int .u32 1, .int .u64 52, .int .u64 0, .int .u64 52] 64) := Lib.hid (Row.made _ _ _)
      have XW : Hid (w.heap.size < w3.heap.size) := Lib.hid L3.out.row.lt
      clear ka
      generalize w3.alloc (.cells #[Value.int .u64 1, .int .u32 1, .int .u64 52, .int .u64 0, .int .u64 52] 64) = w4 at *
      have x0 : w4.cell? ⟨w3.heap.size, 0, none⟩ = some (.int .u64 1) := X4.out.cell 0
      have q3 : w4.cell? ⟨w.heap.size, 3, none⟩ = some (.int .u64 2) := L4.out.row.cell 3
      go_quiet (fail)
      have N5 : Hid (∀ k, OpAt W w (w4.drewN k) p F D (knowL at_ (m : Int) 2)) := Lib.hid fun k => ⟨L4.out.only ((Only.refl [] w4).drewN k) (by simp), K4.out.trans ((Only.refl [] w4).drewN k) (by simp)⟩
      clear x0 q3
      go_wp2_with fail
      go_roundw
      case rel => exact ⟨2, by first | rfl | go_num, .inr (.inr rfl), Lib.hid (N5.out _)⟩
      case measure => simp [intOf]
    · have HI : Hid (OpAt W w wr p F D ⟨at_, m, 2, 1, 52, 0, 52, 0, 0, 0, false⟩) := Lib.hid HF.out
      have HO : Hid (Holds D ⟨at_, m, 2, 1, 52, 0, 52, 0, 0, 0, false⟩ []) := Lib.hid ⟨by show (0 : Int) ≤ 104 * (m : Int); omega, fun i h => by simp at h, fun i h => by simp at h, fun i h => by simp at h, fun i h _ => by
        obtain rfl : i = 0 := by simp at h; omega
        have e : atL D ⟨at_, m, 2, 1, 52, 0, 52, 0, 0, 0, false⟩ 0 = (dk.blank.drop 64).take 64 := by
          show ((sectorD D (at_ + 2 + 1 / 2 % (m : Int))).drop 64).take 64 = _
          have h0 := HR.out.ring 0 (by have := R.out; omega)
          rw [show (1 : Int) / 2 % (m : Int) = ((0 : Nat) : Int) by rw [show (1 : Int) / 2 = 0 from rfl, Int.zero_emod]; rfl, h0]
        rw [e, pie_blank.2]
        show (0 : Int) ≠ 52 / 52 + _
        decide⟩
      have FO := Lib.hid (found_on HI.out.lg HC.out.off ⟨by show (0 : Int) ≤ 52 ∧ (52 : Int) ≤ 1125899906842624; decide, by show (0 : Int) ≤ (m : Int) ∧ (m : Int) ≤ 8192; have := R.out; omega, by show (0 : Int) ≤ 0 ∧ (0 : Int) ≤ (52 / 52 + 2 * (m : Int)) * 52; omega, by show (0 : Int) ≤ 1 ∧ (1 : Int) < 4294967296; decide⟩ (by show 0 < (m : Int); have := R.out; omega) (by show 0 ≤ at_ ∧ at_ + 2 + (m : Int) ≤ D.sectors; have := R.out; omega) HO.out)
      unfold FoundPost at FO
      have q3 : wr.cell? ⟨w.heap.size, 3, none⟩ = some (.int .u64 2) := HI.out.lg.row.cell 3
      clear HF HO
      go_wp2_with fail
      refine FO.out.mono ?_
      rintro _ w2 ⟨v, rfl, o2, l2, k2, hv⟩
      obtain rfl := hv trivial
      have L2 : Hid (LgAt W w2 p w.heap.size D F ⟨at_, m, 2, 1, 52, 0, 52, 0, 0, 0, false⟩ (.slice none 0 0)) := Lib.hid l2
      have K2 := Lib.hid (HI.out.only.trans k2 (fun z hz => .inr (by simp at hz; omega)))
      have q5 : w2.cell? ⟨w.heap.size, 5, none⟩ = some (.int .u64 52) := L2.out.row.cell 5
      have q8 : w2.cell? ⟨w.heap.size, 8, none⟩ = some (.int .u64 0) := L2.out.row.cell 8
      have f8 := L2.out.row.free 8
      clear o2 l2 k2 hv FO q3
      go_wp2_with fail
      have kq : Only [w.heap.size] w2 (w2.setCell ⟨w.heap.size, 8, none⟩ (.int .u64 52)) := (Only.refl [w.heap.size] w2).setCell (.inl (by simp)) _
      have L3 : Hid (LgAt W (w2.setCell ⟨w.heap.size, 8, none⟩ (.int .u64 52)) p w.heap.size D F ⟨at_, m, 2, 1, 52, 0, 52, 52, 0, 0, false⟩ (.slice none 0 0)) := Lib.hid ⟨L2.out.dev.only kq (by simpa using QF.out) (by simpa using HW.out), by simpa [Lg.cells] using L2.out.row.set 8 (.int .u64 52), QF.out, HW.out⟩
      have K3 := Lib.hid (K2.out.trans kq fun z hz => .inr (by simp at hz; omega))
      clear kq q5 q8 f8
      generalize w2.setCell ⟨w.heap.size, 8, none⟩ (.int .u64 52) = w3 at *
      go_loopw [16, 17, 18] (fun _ _ _ y => Hid (y = w3)) (fun _ _ _ _ => 0)
      case atStart => exact Lib.hid rfl
      case round =>
        have hy9 := hrel.out
        rename World => y9
        subst y9
        have q8 : w3.cell? ⟨w.heap.size, 8, none⟩ = some (.int .u64 52) := L3.out.row.cell 8
        have RS := Lib.hid (read_short none 0 0 w3 (by decide))
        unfold ShortPost at RS
        go_wp2_with fail
        refine RS.out.mono ?_
        rintro _ w4 ⟨rfl, b4⟩
        have k4 : Only [] w3 w4 := (Only.refl [] w3).below b4
        have L4 := Lib.hid (L3.out.only k4 (by simp))
        have K4 := Lib.hid (K3.out.trans k4 (by simp))
        clear b4 k4 RS q8
        go_upto_region 23 with fail
        have ka : Only [] w4 (w4.alloc (.cells #[Value.int .i64 0, .int .u64 0, .int .u32 0, .int .u64 0, .int .u32 0, .int .u16 0, .slice none 0 0, .slice none 0 0, .slice none 0 0, .int .u64 0, .int .u64 0, .bool false, .int .u64 0, .slice none 0 0, .slice none 0 0] 43)) := (Only.refl [] w4).alloc _
        have L5 := Lib.hid (L4.out.only ka (by simp))
        have K5 := Lib.hid (K4.out.trans ka (by simp))
        clear ka
        generalize w4.alloc (.cells #[Value.int .i64 0, .int .u64 0, .int .u32 0, .int .u64 0, .int .u32 0, .int .u16 0, .slice none 0 0, .slice none 0 0, .slice none 0 0, .int .u64 0, .int .u64 0, .bool false, .int .u64 0, .slice none 0 0, .slice none 0 0] 43) = w5 at *
        go_quiet (fail)
        generalize hy : World.drewN w5 _ = y
        have ky : Only [] w5 y := by rw [← hy]; exact (Only.refl _ _).drewN _
        clear hy
        have L6 := Lib.hid (L5.out.only ky (by simp))
        have K6 := Lib.hid (K5.out.trans ky (by simp))
        clear ky
        have q8 : y.cell? ⟨w.heap.size, 8, none⟩ = some (.int .u64 52) := L6.out.row.cell 8
        have q9 : y.cell? ⟨w.heap.size, 9, none⟩ = some (.int .u64 0) := L6.out.row.cell 9
        have f9 := L6.out.row.free 9
        go_upto_region 26 with fail
        have kq : Only [w.heap.size] y (y.setCell ⟨w.heap.size, 9, none⟩ (.int .u64 52)) := (Only.refl [w.heap.size] y).setCell (.inl (by simp)) _
        have L7 : Hid (LgAt W (y.setCell ⟨w.heap.size, 9, none⟩ (.int .u64 52)) p w.heap.size D F ⟨at_, m, 2, 1, 52, 0, 52, 52, 52, 0, false⟩ (.slice none 0 0)) := Lib.hid ⟨L6.out.dev.only kq (by simpa using QF.out) (by simpa using HW.out), by simpa [Lg.cells] using L6.out.row.set 9 (.int .u64 52), QF.out, HW.out⟩
        have K7 := Lib.hid (K6.out.trans kq fun z hz => .inr (by simp at hz; omega))
        clear kq q8 q9 f9
        generalize y.setCell ⟨w.heap.size, 9, none⟩ (.int .u64 52) = w7 at *
        have q8 : w7.cell? ⟨w.heap.size, 8, none⟩ = some (.int .u64 52) := L7.out.row.cell 8
        have q11 : w7.cell? ⟨w.heap.size, 11, none⟩ = some (.slice none 0 0) := L7.out.row.cell 11
        have f11 := L7.out.row.free 11
        go_region
        have kq : Only [w.heap.size] w7 (w7.setCell ⟨w.heap.size, 11, none⟩ (.slice none 0 0)).drew := ((Only.refl [w.heap.size] w7).setCell (.inl (by simp)) _).drew
        have L8 : Hid (LgAt W (w7.setCell ⟨w.heap.size, 11, none⟩ (.slice none 0 0)).drew p w.heap.size D F ⟨at_, m, 2, 1, 52, 0, 52, 52, 52, 0, false⟩ (.slice none 0 0)) := Lib.hid ⟨L7.out.dev.only kq (by simpa using QF.out) (by simpa using HW.out), by simpa [Lg.cells] using (L7.out.row.set 11 (.slice none 0 0)).only ((Only.refl [] _).drew) (by simp), QF.out, HW.out⟩
        have K8 := Lib.hid (K7.out.trans kq fun z hz => .inr (by simp at hz; omega))
        clear kq q8 q11 f11
        generalize (w7.setCell ⟨w.heap.size, 11, none⟩ (.slice none 0 0)).drew = w8 at *
        have q3 : w8.cell? ⟨w.heap.size, 3, none⟩ = some (.int .u64 2) := L8.out.row.cell 3
        have q4 : w8.cell? ⟨w.heap.size, 4, none⟩ = some (.int .u32 1) := L8.out.row.cell 4
        have q5 : w8.cell? ⟨w.heap.size, 5, none⟩ = some (.int .u64 52) := L8.out.row.cell 5
        have q6 : w8.cell? ⟨w.heap.size, 6, none⟩ = some (.int .u64 0) := L8.out.row.cell 6
        have q7 : w8.cell? ⟨w.heap.size, 7, none⟩ = some (.int .u64 52) := L8.out.row.cell 7
        have q8 : w8.cell? ⟨w.heap.size, 8, none⟩ = some (.int .u64 52) := L8.out.row.cell 8
        have hlt8 : w.heap.size < w8.heap.size := L8.out.row.lt
        have ka : Only [] w8 (w8.alloc (.cells #[Value.int .u64 2, .int .u32 2, .int .u64 52, .int .u64 0, .int .u64 52] 64)) := (Only.refl [] w8).alloc _
        have L9 := Lib.hid (L8.out.only ka (by simp))
        have K9 := Lib.hid (K8.out.trans ka (by simp))
        have TL := Lib.hid (tell_on L9.out HC.out HM.out (by have := R.out; show (0 : Int) ≤ at_; omega) (by have := R.out; show at_ + 2 ≤ D.sectors; omega) ⟨by show (0 : Int) ≤ 2; decide, by show (2 : Int) < _; decide⟩ 2 2 52 0 52 ⟨by show (0 : Int) ≤ 2 + 1 ∧ (2 : Int) + 1 < 18446744073709551616; decide, by decide, by decide, by decide, by decide⟩)
        unfold TellPost at TL
        clear ka
        go_wp2_with fail
        refine TL.out.mono ?_
        rintro _ wa ⟨rfl, la, ka⟩
        have LA := Lib.hid la
        have KA := Lib.hid (K9.out.trans ka fun z hz => by
          rcases List.mem_cons.1 hz with rfl | hz
          · exact .inr (Nat.le_refl _)
          · exact .inl hz)
        clear la ka TL
        go_wp2_with fail
        go_ret2
        exact ⟨_, rfl, LA.out, KA.out⟩
end Go.Proofs.Ytekdogmhgijocaa

/- wal: what is refused; a log that is not there. -/
namespace Go.Proofs.Ytekdogmhgijocaa
open Go.RowKit Go.ChangeShapes Go.WideShapes Go.ChangeAt
open Go.Proofs.Ytekdogmhgijocaa.dk (Dk Dev)
set_option linter.unusedVariables false

theorem append_nil (R : Array Value) (w : World) : Calls Try.prog 12 #[.pointer none, .agg R] w fun e w' => e = .returned (.tuple #[.int .u64 0, .int .i64 1]) ∧ Below w.heap.size w w' := by
  go_enter Try.func12, Try.ntmps12
  go_wp2_with fail
  refine (there_nil _).mono ?_
  rintro _ w2 ⟨rfl, hw2⟩
  subst hw2
  go_wp2_with fail
  go_ret2
  exact ⟨rfl, (Below.refl _ _).alloc (Nat.le_refl _) _⟩
set_option maxRecDepth 100000 in
theorem lread_nil (x : Int) (w : World) : Calls Try.prog 15 #[.pointer none, .int .u64 x] w fun e w' => e = .returned (.tuple #[.agg #[.int .i64 0, .int .u64 0, .int .u32 0, .int .u64 0, .int .u32 0, .int .u16 0, .slice none 0 0, .slice none 0 0, .slice none 0 0, .int .u64 0, .int .u64 0, .bool false, .int .u64 0, .slice none 0 0, .slice none 0 0], .int .u64 0, .int .i64 1]) ∧ Below w.heap.size w w' := by
  go_enter Try.func15, Try.ntmps15
  go_wp2_with fail
  refine (there_nil _).mono ?_
  rintro _ w2 ⟨rfl, hw2⟩
  subst hw2
  go_wp2_with fail
  refine bodyPost_ret (results_rec3 rfl _ _ w.heap.size rec0 rfl rfl ?_) rfl ?_
  · exact Row.made _ _ _
  · exact ⟨rfl, (Below.refl _ _).alloc (Nat.le_refl _) _⟩
set_option maxRecDepth 100000 in
theorem flush_nil (w : World) : Calls Try.prog 17 #[.pointer none] w fun e w' => e = .returned (.int .i64 1) ∧ w' = w := by
  go_enter Try.func17, Try.ntmps17
  go_wp2_with fail
  refine (there_nil _).mono ?_
  rintro _ w2 ⟨rfl, hw2⟩
  subst hw2
  go_wp2_with fail
  go_ret
  exact ⟨rfl, rfl⟩
set_option maxRecDepth 100000 in
theorem master_nil (x y : Int) (w : World) : Calls Try.prog 18 #[.pointer none, .int .u64 x, .int .u64 y] w fun e w' => e = .returned (.int .i64 1) ∧ w' = w := by
  go_enter Try.func18, Try.ntmps18
  go_wp2_with fail
  refine (there_nil _).mono ?_
  rintro _ w2 ⟨rfl, hw2⟩
  subst hw2
  go_wp2_with fail
  go_ret
  exact ⟨rfl, rfl⟩
theorem start_nil (w : World) : Calls Try.prog 19 #[.pointer none] w fun e w' => e = .returned (.int .u64 0) ∧ w' = w := by
  go_enter Try.func19, Try.ntmps19
  go_wp2_with fail
  go_ret
  exact ⟨rfl, rfl⟩
theorem end_nil (w : World) : Calls Try.prog 11 #[.pointer none] w fun e w' => e = .returned (.int .u64 0) ∧ w' = w := by
  go_enter Try.func11, Try.ntmps11
  go_wp2_with fail
  go_ret
  exact ⟨rfl, rfl⟩
theorem flushed_nil (w : World) : Calls Try.prog 20 #[.pointer none] w fun e w' => e = .returned (.int .u64 0) ∧ w' = w := by
  go_enter Try.func20, Try.ntmps20
  go_wp2_with fail
  go_ret
  exact ⟨rfl, rfl⟩
theorem point_nil (w : World) : Calls Try.prog 21 #[.pointer none] w fun e w' => e = .returned (.int .u64 0) ∧ w' = w := by
  go_enter Try.func21, Try.ntmps21
  go_wp2_with fail
  go_ret
  exact ⟨rfl, rfl⟩
theorem epoch_nil (w : World) : Calls Try.prog 16 #[.pointer none] w fun e w' => e = .returned (.int .u32 0) ∧ w' = w := by
  go_enter Try.func16, Try.ntmps16
  go_wp2_with fail
  go_ret
  exact ⟨rfl, rfl⟩
theorem left_nil (w : World) : Calls Try.prog 10 #[.pointer none] w fun e w' => e = .returned (.int .i64 0) ∧ w' = w := by
  go_enter Try.func10, Try.ntmps10
  go_wp2_with fail
  go_ret
  exact ⟨rfl, rfl⟩
theorem start_on {w : World} {q p : Nat} {L : Lg} {tail : Value} (h : LgRow w q L p tail) : Calls Try.prog 19 #[.pointer (some ⟨q, 0, none⟩)] w fun e w' => e = .returned (.int .u64 L.st) ∧ w' = w := by
  have c8 : w.cell? ⟨q, 5, none⟩ = some (.int .u64 L.st) := h.cell 5
  clear h
  go_enter Try.func19, Try.ntmps19
  go_wp2_with fail
  go_ret
  exact ⟨rfl, rfl⟩
theorem flushed_on {w : World} {q p : Nat} {L : Lg} {tail : Value} (h : LgRow w q L p tail) : Calls Try.prog 20 #[.pointer (some ⟨q, 0, none⟩)] w fun e w' => e = .returned (.int .u64 L.fl) ∧ w' = w := by
  have c8 : w.cell? ⟨q, 9, none⟩ = some (.int .u64 L.fl) := h.cell 9
  clear h
  go_enter Try.func20, Try.ntmps20
  go_wp2_with fail
  go_ret
  exact ⟨rfl, rfl⟩
theorem point_on {w : World} {q p : Nat} {L : Lg} {tail : Value} (h : LgRow w q L p tail) : Calls Try.prog 21 #[.pointer (some ⟨q, 0, none⟩)] w fun e w' => e = .returned (.int .u64 L.pt) ∧ w' = w := by
  have c8 : w.cell? ⟨q, 6, none⟩ = some (.int .u64 L.pt) := h.cell 6
  clear h
  go_enter Try.func21, Try.ntmps21
  go_wp2_with fail
  go_ret
  exact ⟨rfl, rfl⟩
theorem epoch_on {w : World} {q p : Nat} {L : Lg} {tail : Value} (h : LgRow w q L p tail) : Calls Try.prog 16 #[.pointer (some ⟨q, 0, none⟩)] w fun e w' => e = .returned (.int .u32 L.ep) ∧ w' = w := by
  have c8 : w.cell? ⟨q, 4, none⟩ = some (.int .u32 L.ep) := h.cell 4
  clear h
  go_enter Try.func16, Try.ntmps16
  go_wp2_with fail
  go_ret
  exact ⟨rfl, rfl⟩
set_option maxHeartbeats 4000000 in
theorem wfind_bad {W w : World} {p : Nat} {D : Dk} {F : List Nat} (h : Dev W w p D F) (at_ count : Int) (ha : -9223372036854775808 ≤ at_ ∧ at_ ≤ 9223372036854775807) (hn : 1 ≤ D.sectors) (hl : ¬ LogAt D.sectors at_ count) :
    Calls Try.prog 24 #[.pointer (some ⟨p, 0, none⟩), .int .i64 at_, .int .i64 count] w (fun e w' => e = .returned (.tuple #[.pointer none, .int .i64 2]) ∧ w' = w) := by
  unfold LogAt at hl
  have s1 := h.fine.s1
  have SD := Lib.hid (sectors_dev h)
  obtain ⟨s, hs⟩ : ∃ s, D.sectors = s := ⟨_, rfl⟩
  rw [hs] at SD s1 hl hn
  clear hs h
  have e0 : (s == 0) = false := by simp; omega
  have d0 : decide (s = 0) = false := decide_eq_false (by omega)
  by_cases d1' : count < 16
  · have d1 : decide (count < 16) = true := decide_eq_true d1'
    clear d1'
    clear hl s1 hn
    go_enter Try.func24, Try.ntmps24
    go_wp2_with fail
    refine SD.out.mono ?_
    rintro _ w1 ⟨rfl, hw1⟩
    subst hw1
    go_wp2_with fail
    go_ret2
    exact ⟨rfl, rfl⟩
  · have d1 : decide (count < 16) = false := decide_eq_false d1'
    by_cases d2' : 8192 < count
    · have d2 : decide (8192 < count) = true := decide_eq_true d2'
      clear d2'
      clear hl s1 hn
      go_enter Try.func24, Try.ntmps24
      go_wp2_with fail
      refine SD.out.mono ?_
      rintro _ w1 ⟨rfl, hw1⟩
      subst hw1
      go_wp2_with fail
      go_ret2
      exact ⟨rfl, rfl⟩
    · have d2 : decide (8192 < count) = false := decide_eq_false d2'
      by_cases d3' : at_ < 0
      · have d3 : decide (at_ < 0) = true := decide_eq_true d3'
        clear d3'
        clear hl s1 hn
        go_enter Try.func24, Try.ntmps24
        go_wp2_with fail
        refine SD.out.mono ?_
        rintro _ w1 ⟨rfl, hw1⟩
        subst hw1
        go_wp2_with fail
        go_ret2
        exact ⟨rfl, rfl⟩
      · have d3 : decide (at_ < 0) = false := decide_eq_false d3'
        by_cases d4' : s < at_
        · have d4 : decide (s < at_) = true := decide_eq_true d4'
          clear d4'
          clear hl s1 hn
          go_enter Try.func24, Try.ntmps24
          go_wp2_with fail
          refine SD.out.mono ?_
          rintro _ w1 ⟨rfl, hw1⟩
          subst hw1
          go_wp2_with fail
          go_ret2
          exact ⟨rfl, rfl⟩
        · have d4 : decide (s < at_) = false := decide_eq_false d4'
          have e1 : IntKind.i64.wrap (count + 2) = count + 2 := IntWalk.i64_in _ (by omega)
          have e2 : IntKind.i64.wrap (s - at_) = s - at_ := IntWalk.i64_in _ (by omega)
          have d5 : decide (s - at_ < count + 2) = true := decide_eq_true (by omega)
          clear d1' d2' d3' d4' ha
          clear hl s1 hn
          go_enter Try.func24, Try.ntmps24
          go_wp2_with fail
          refine SD.out.mono ?_
          rintro _ w1 ⟨rfl, hw1⟩
          subst hw1
          go_wp2_with fail
          go_ret2
          exact ⟨rfl, rfl⟩
set_option maxRecDepth 100000 in
theorem make_bad {W w : World} {p : Nat} {D : Dk} {F : List Nat} (h : Dev W w p D F) (at_ count : Int) (ha : -9223372036854775808 ≤ at_ ∧ at_ ≤ 9223372036854775807) (hn : 1 ≤ D.sectors) (hl : ¬ LogAt D.sectors at_ count) :
    Calls Try.prog 9 #[.pointer (some ⟨p, 0, none⟩), .int .i64 at_, .int .i64 count] w (fun e w' => e = .returned (.tuple #[.pointer none, .int .i64 2]) ∧ w' = w) := by
  have FB := Lib.hid (wfind_bad h at_ count ha hn hl)
  clear h ha hl hn
  go_enter Try.func9, Try.ntmps9
  go_wp2_with fail
  refine FB.out.mono ?_
  rintro _ w1 ⟨rfl, hw1⟩
  subst hw1
  go_wp2_with fail
  go_ret2
  exact ⟨rfl, rfl⟩
theorem make_none (at_ count : Int) (w : World) :
    Calls Try.prog 9 #[.pointer none, .int .i64 at_, .int .i64 count] w (fun e w' => e = .returned (.tuple #[.pointer none, .int .i64 1]) ∧ w' = w) := by
  go_enter Try.func9, Try.ntmps9
  go_wp2_with fail
  refine (wfind_nil _ _ _).mono ?_
  rintro _ w1 ⟨rfl, hw1⟩
  subst hw1
  go_wp2_with fail
  go_ret2
  exact ⟨rfl, rfl⟩
set_option maxRecDepth 100000 in
theorem open_bad {W w : World} {p : Nat} {D : Dk} {F : List Nat} (h : Dev W w p D F) (at_ count : Int) (ha : -9223372036854775808 ≤ at_ ∧ at_ ≤ 9223372036854775807) (hn : 1 ≤ D.sectors) (hl : ¬ LogAt D.sectors at_ count) :
    Calls Try.prog 13 #[.pointer (some ⟨p, 0, none⟩), .int .i64 at_, .int .i64 count] w (fun e w' => e = .returned (.tuple #[.pointer none, .int .i64 2]) ∧ w' = w) := by
  have FB := Lib.hid (wfind_bad h at_ count ha hn hl)
  clear h ha hl hn
  go_enter Try.func13, Try.ntmps13
  go_wp2_with fail
  refine FB.out.mono ?_
  rintro _ w1 ⟨rfl, hw1⟩
  subst hw1
  go_wp2_with fail
  go_ret2
  exact ⟨rfl, rfl⟩
set_option maxRecDepth 100000 in
theorem open_none (at_ count : Int) (w : World) :
    Calls Try.prog 13 #[.pointer none, .int .i64 at_, .int .i64 count] w (fun e w' => e = .returned (.tuple #[.pointer none, .int .i64 1]) ∧ w' = w) := by
  go_enter Try.func13, Try.ntmps13
  go_wp2_with fail
  refine (wfind_nil _ _ _).mono ?_
  rintro _ w1 ⟨rfl, hw1⟩
  subst hw1
  go_wp2_with fail
  go_ret2
  exact ⟨rfl, rfl⟩
end Go.Proofs.Ytekdogmhgijocaa
