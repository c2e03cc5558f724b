/- wal's law: done, known. -/
import Derived.Test.YtekdogmhgijocaaMg18
import Derived.Deep.CutRange
set_option linter.unusedSimpArgs false
namespace Go.Proofs.Ytekdogmhgijocaa
open Go.RowKit Go.ChangeShapes Go.WideShapes Go.ChangeAt
open Go.Proofs.Ytekdogmhgijocaa.dk (Dk Dev new_dev newD calm_new Calm)
set_option linter.unusedVariables false

theorem results_rec {fn : Func} {p : Tmp} (h : fn.results = #[.cell p 43]) (tmps : Array Value) (w : World) (g : Nat) (R : Array Value) (hR : R.size = 15) (hp : tmps.getD p undef = .pointer (some ⟨g, 0, none⟩)) (hg : Row w g R 43) : (results fn tmps).run Try.prog w = .ok (.agg R) w := by
  have hp' : tmps[p]?.getD undef = .pointer (some ⟨g, 0, none⟩) := by simpa using hp
  simp only [results, h]
  simp [Sem.run_bind, hp', asAddr, Result.andThen, run_loadVar_row w g _ _ _ _ _ hg Try.underlying43 rfl (by rw [recSize, hR])]
set_option maxHeartbeats 4000000 in
theorem done_any (txn : Int) (w : World) : Calls Try.prog 14 #[.int .u64 txn] w fun e w' => e = .returned (.agg #[Value.int .i64 4, .int .u64 0, .int .u32 0, .int .u64 txn, .int .u32 0, .int .u16 0, .slice none 0 0, .slice none 0 0, .slice none 0 0, .int .u64 0, .int .u64 0, .bool false, .int .u64 0, .slice none 0 0, .slice none 0 0]) ∧ Only [] w w' := by
  go_enter Try.func14, Try.ntmps14
  go_wp2_with fail
  refine bodyPost_ret (results_rec rfl _ _ w.heap.size (recR 4 0 0 txn 0 0 (.slice none 0 0) (.slice none 0 0)) rfl rfl ?_) rfl ?_
  · exact Row.made _ _ _
  · exact ⟨rfl, (Only.refl [] w).alloc _⟩
theorem append_done {W w : World} {p q : Nat} {D : Dk} {F : List Nat} {L : Lg} {tail : Value} {zs : List Int} (h : LgAt W w p q D F L tail) (ht : TailAt W w q F tail zs) (ok : LgOk L) (hd : L.down = false) (txn : Int) (h4 : 0 < txn) (h5 : txn < 18446744073709551616) (hz : zs.length ≤ 1000000) (hl : 27 ≤ leftL L) :
    Calls Try.prog 12 #[.pointer (some ⟨q, 0, none⟩), .agg (recR 4 0 0 txn 0 0 (.slice none 0 0) (.slice none 0 0))] w (AppPost W p q D F L tail zs (formD L.end_ L.ep txn) w) := by
  have he := ok.e0
  have hs := ok.s0
  have hn := ok.n0
  have hlim : limL L ≤ 1200000000000000 := by unfold limL; omega
  refine (append_on (b := formD L.end_ L.ep txn) h ht ok hd 4 txn 0 0 (.slice none 0 0) (.slice none 0 0) (by rw [formD_len]; omega) (by rw [formD_len]; omega) hz fun y _ => bytes_done L.end_ L.ep txn y he.1 (by omega) ok.p0.1 ok.p0.2 h4 h5).mono fun e w' h' => ?_
  rw [if_neg (by rw [formD_len]; omega)] at h'
  exact h'
def KnownPost (w : World) (e : Ending) (w' : World) : Prop := e = .returned (.bool true) ∧ Below w.heap.size w w'
set_option maxRecDepth 100000 in
set_option maxHeartbeats 8000000 in
theorem known_any (w : World) : Calls Try.prog 7 #[] w (KnownPost w) := by
  have NW := Lib.hid (new_dev (Below.refl w.heap.size w) 20 20 (by omega) (by omega) (by omega) (by omega))
  unfold dk.NewTo at NW
  go_enter Try.func7, Try.ntmps7
  go_wp2_with fail
  refine NW.out.mono ?_
  rintro _ w1 ⟨p, F, rfl, d1, k1, _⟩
  have MK : Hid (Calls Try.prog 9 #[.pointer (some ⟨p, 0, none⟩), .int .i64 0, .int .i64 16] w1 (MakePost w p F (newD 20 20) 0 16 w1)) := Lib.hid (make_on d1 (calm_new 20 20) rfl 0 16 ⟨by decide, by decide, by decide, by decide, by decide⟩)
  unfold MakePost at MK
  clear d1 k1 NW
  go_wp2_with fail
  refine MK.out.mono ?_
  rintro _ w2 ⟨D2, rfl, l2, _, _, _, k2⟩
  generalize w1.heap.size = q at *
  have L2 := Lib.hid l2
  have OK2 : Hid (LgOk (madeL 0 16)) := Lib.hid ⟨by decide, by decide, by decide, by decide⟩
  have LF : Hid (Calls Try.prog 10 #[.pointer (some ⟨q, 0, none⟩)] w2 fun e w' => e = .returned (.int .i64 1664) ∧ Below w2.heap.size w2 w') := Lib.hid (left_on l2.row OK2.out)
  clear l2 k2 MK
  go_wp2_with fail
  refine LF.out.mono ?_
  rintro _ w3 ⟨rfl, b3⟩
  have L3 := Lib.hid (L2.out.only ((Only.refl [] w2).below b3) (by simp))
  clear b3 LF L2
  go_wp2_with fail
  refine (done_any 7 w3).mono ?_
  rintro _ w4 ⟨rfl, k4⟩
  have L4 := Lib.hid (L3.out.only k4 (by simp))
  have T4 : Hid (TailAt w w4 q F (.slice none 0 0) []) := Lib.hid ⟨World.ownsRow_nil _ _ _ _, fun g hg => by simp [Value.ownBlock] at hg⟩
  have AP : Hid (Calls Try.prog 12 #[.pointer (some ⟨q, 0, none⟩), .agg (recR 4 0 0 7 0 0 (.slice none 0 0) (.slice none 0 0))] w4 fun e w' => ∃ t, e = .returned (.tuple #[.int .u64 52, .int .i64 0]) ∧ LgAt w w' p q D2 F (endL (madeL 0 16) 27) t ∧ TailAt w w' q F t (formD 52 1 7)) := Lib.hid ((append_done L4.out T4.out OK2.out rfl 7 (by decide) (by decide) (by decide) (by decide)).mono fun e w' ⟨t, h1, h2, h3, _⟩ => ⟨t, h1, by rw [formD_len] at h2; exact h2, h3⟩)
  clear k4 L3
  go_wp2_with fail
  refine AP.out.mono ?_
  rintro _ w5 ⟨t5, rfl, l5, ta5⟩
  have L5 := Lib.hid l5
  have T5 := Lib.hid ta5
  clear l5 ta5 AP L4 T4
  go_wp2_with fail
  refine (done_any 8 w5).mono ?_
  rintro _ w6 ⟨rfl, k6⟩
  have L6 := Lib.hid (L5.out.only k6 (by simp))
  have T6 := Lib.hid (T5.out.only k6 (by simp))
  have AP : Hid (Calls Try.prog 12 #[.pointer (some ⟨q, 0, none⟩), .agg (recR 4 0 0 8 0 0 (.slice none 0 0) (.slice none 0 0))] w6 fun e w' => ∃ t, e = .returned (.tuple #[.int .u64 79, .int .i64 0]) ∧ LgAt w w' p q D2 F (endL (endL (madeL 0 16) 27) 27) t ∧ TailAt w w' q F t (formD 52 1 7 ++ formD 79 1 8)) := Lib.hid ((append_done L6.out T6.out ⟨by decide, by decide, by decide, by decide⟩ rfl 8 (by decide) (by decide) (by rw [formD_len]; omega) (by decide)).mono fun e w' ⟨t, h1, h2, h3, _⟩ => ⟨t, h1, by rw [formD_len] at h2; exact h2, h3⟩)
  clear k6 L5 T5
  go_wp2_with fail
  refine AP.out.mono ?_
  rintro _ w7 ⟨t7, rfl, l7, ta7⟩
  have RD : Hid (Calls Try.prog 15 #[.pointer (some ⟨q, 0, none⟩), .int .u64 79] w7 fun e w' => e = .returned (.tuple #[.agg #[Value.int .i64 4, .int .u64 79, .int .u32 1, .int .u64 8, .int .u32 0, .int .u16 0, .slice none 0 0, .slice none 0 0, .slice none 0 0, .int .u64 0, .int .u64 0, .bool false, .int .u64 0, .slice none 0 0, .slice none 0 0], .int .u64 106, .int .i64 0]) ∧ Below w7.heap.size w7 w') := Lib.hid (lread_tail l7 ta7 rfl 79 1 8 52 27 [] (by decide) (by decide) (by decide) (by decide) (by decide) (by decide) (by decide) (by decide) (by decide) (by decide) (by decide) (by decide) (by rw [List.length_append, formD_len, formD_len]; omega) (by rw [List.append_nil, List.drop_left' (formD_len _ _ _)]))
  have B7 := Lib.hid l7.dev.bl
  clear l7 ta7 L6 T6 AP
  go_wp2_with fail
  refine RD.out.mono ?_
  rintro _ w8 ⟨rfl, b8⟩
  have B8 := Lib.hid (B7.out.trans (b8.mono B7.out.size))
  clear b8 RD
  go_wp2_with fail
  go_ret
  exact ⟨rfl, B8.out.alloc B8.out.size _⟩
end Go.Proofs.Ytekdogmhgijocaa

/- WalRoom: the walk. -/
namespace Go.Proofs.Ytekdogmhgijocaa
open Go.RowKit Go.ChangeShapes Go.WideShapes Go.ChangeAt
open Go.Proofs.Ytekdogmhgijocaa.dk (Dk Dev new_dev newD calm_new Calm)
set_option linter.unusedVariables false

theorem room_long (x : Int) (a : Option Addr) (n c : Nat) (W : World) (h : x < 16 ∨ 60 < x ∨ 200 < n) (hc : n ≤ 9223372036854775807) : Calls Try.prog 3 #[.int .i64 x, .slice a n c] W fun e w' => e = .returned (.bool true) ∧ Below W.heap.size W w' := by
  have KN := Lib.hid (known_any W)
  unfold KnownPost at KN
  by_cases h1 : x < 16
  · have d1 : decide (x < 16) = true := decide_eq_true h1
    go_enter Try.func3, Try.ntmps3
    go_wp2_with fail
    refine KN.out.mono ?_
    rintro _ w1 ⟨rfl, b1⟩
    have B1 := Lib.hid b1
    clear b1
    go_wp2_with fail
    go_ret
    exact ⟨rfl, B1.out⟩
  · have d1 : decide (x < 16) = false := decide_eq_false h1
    by_cases h2 : 60 < x
    · have d2 : decide (60 < x) = true := decide_eq_true h2
      go_enter Try.func3, Try.ntmps3
      go_wp2_with fail
      refine KN.out.mono ?_
      rintro _ w1 ⟨rfl, b1⟩
      have B1 := Lib.hid b1
      clear b1
      go_wp2_with fail
      go_ret
      exact ⟨rfl, B1.out⟩
    · have d2 : decide (60 < x) = false := decide_eq_false h2
      have d3 : decide (200 < (n : Int)) = true := decide_eq_true (by omega)
      go_enter Try.func3, Try.ntmps3
      go_wp2_with fail
      refine KN.out.mono ?_
      rintro _ w1 ⟨rfl, b1⟩
      have B1 := Lib.hid b1
      clear b1
      go_wp2_with fail
      go_ret
      exact ⟨rfl, B1.out⟩
def zsN (n : Nat) : Array Value := Array.replicate n (.int .u8 0)
theorem make_n (n : Nat) (hn : n ≤ 100000) : ∀ x : World, (Instr.makeSlice 32 (.int .i64 (n : Int)) (.int .i64 (n : Int))).run Try.prog x = .ok (.slice (some ⟨x.heap.size, 0, none⟩) n n) (x.alloc (.cells (zsN n) 5)) := fun x => by
  obtain ⟨i0, hi0, hz0, hz1, hz2⟩ := info_parts infoBy
  have hr := run_make (P := Try.prog) x 32 5 i0 (.int .u8 0) Try.underlying32 hi0 hz0 .i64 .i64 (n : Int) (n : Int) (by omega) (Int.le_refl _) (by rw [hz2]; omega) (by omega)
  simp only [Int.toNat_natCast, hz1, Nat.mul_one, Value.cells, madeCells_one] at hr
  exact hr
theorem zsN_ints {w : World} {b n : Nat} (h : Row w b (zsN n) 5) : Ints .u8 w (.slice (some ⟨b, 0, none⟩) n n) (List.replicate n 0) := by
  refine .inr ⟨b, 0, n, by simp, fun i hi => ?_⟩
  rw [List.length_replicate] at hi
  rw [Nat.zero_add, h.cell, zsN, Array.getElem?_replicate, if_pos hi, List.getElem?_replicate, if_pos hi]
  rfl
theorem zeros_by (n : Nat) : IsBy (List.replicate n 0) := fun x hx => by
  rw [List.mem_replicate] at hx
  omega
def roomS (n : Nat) : Int := if n < 128 then 25 + 2 * (n : Int) + 2 else 25 + 2 * (n : Int) + 2 + 2
theorem formW_len (lsn ep pg off : Int) (n : Nat) (hn : n < 16384) (xs ys : List Int) (hx : xs.length = n) (hy : ys.length = n) : ((formW lsn ep pg off xs ys).length : Int) = roomS n := by
  unfold formW roomS
  rw [wrapB_len]
  simp only [List.length_append, headB_len, leB_len, hx, hy]
  by_cases h : n < 128
  · rw [if_pos h, uvB_one (by omega)]; simp; omega
  · rw [if_neg h, uvB_two (by omega) (by omega)]; simp; omega
/-- Between two records. -/
structure RoomAt (W wr : World) (p q m : Nat) (F : List Nat) (L : Lg) (D : Dk) (tail : Value) (zs : List Int) : Prop where
  lg : LgAt W wr p q D F L tail
  ta : TailAt W wr q F tail zs
  st : L.st = 52
  ct : L.count = (m : Int)
  ep : L.ep = 1
  up : L.down = false
  e0 : 52 ≤ L.end_
  e1 : L.end_ ≤ limL L
  z : (zs.length : Int) = L.end_ - 52
theorem RoomAt.ok {W wr : World} {p q m : Nat} {F : List Nat} {L : Lg} {D : Dk} {tail : Value} {zs : List Int} (h : RoomAt W wr p q m F L D tail zs) (hm : m ≤ 60) : LgOk L :=
  ⟨by rw [h.st]; omega, by rw [h.ct]; omega, ⟨by have := h.e0; omega, h.e1⟩, by rw [h.ep]; omega⟩
theorem RoomAt.lim {W wr : World} {p q m : Nat} {F : List Nat} {L : Lg} {D : Dk} {tail : Value} {zs : List Int} (h : RoomAt W wr p q m F L D tail zs) (hm : m ≤ 60) : limL L ≤ 6292 := by
  unfold limL; rw [h.st, h.ct]; omega
theorem RoomAt.only {W wr w' : World} {p q m : Nat} {F : List Nat} {L : Lg} {D : Dk} {tail : Value} {zs : List Int} (h : RoomAt W wr p q m F L D tail zs) (k : Only [] wr w') : RoomAt W w' p q m F L D tail zs :=
  ⟨h.lg.only k (by simp), h.ta.only k (by simp), h.st, h.ct, h.ep, h.up, h.e0, h.e1, h.z⟩
theorem size_eq (y : Int) : ∃ k : Nat, wrap64 ((IntKind.u64.wrap y).tmod 500) = (k : Int) ∧ k < 500 := by
  have e : IntKind.u64.wrap y = y % 18446744073709551616 := rfl
  rw [e, Int.tmod_eq_emod_of_nonneg (by omega)]
  exact ⟨(y % 18446744073709551616 % 500).toNat, by unfold wrap64; omega, by omega⟩
set_option maxRecDepth 100000 in
set_option maxHeartbeats 8000000 in
theorem room_short (m : Nat) (h16 : 16 ≤ m) (h60 : m ≤ 60) (a : Option Addr) (n c : Nat) (xs : List Int) (W : World) (hx : xs.length = n) (hi : Ints .i64 W (.slice a n c) xs) (hn : n ≤ 200) : Calls Try.prog 3 #[.int .i64 (m : Int), .slice a n c] W fun e w' => e = .returned (.bool true) ∧ Below W.heap.size W w' := by
  have H60 := Lib.hid (show 16 ≤ m ∧ m ≤ 60 from ⟨h16, h60⟩)
  have NL := Lib.hid hn
  have HX := Lib.hid hx
  have HI := Lib.hid hi
  have d1 : decide ((m : Int) < 16) = false := decide_eq_false (by omega)
  have d2 : decide (60 < (m : Int)) = false := decide_eq_false (by omega)
  have d3 : decide (200 < (n : Int)) = false := decide_eq_false (by omega)
  have NW := Lib.hid (new_dev (Below.refl W.heap.size W) 70 70 (by omega) (by omega) (by omega) (by omega))
  unfold dk.NewTo at NW
  clear h16 h60 hn hx hi
  go_enter Try.func3, Try.ntmps3
  go_wp2_with fail
  refine NW.out.mono ?_
  rintro _ w1 ⟨p, F, rfl, d1, k1, _⟩
  have MK : Hid (Calls Try.prog 9 #[.pointer (some ⟨p, 0, none⟩), .int .i64 0, .int .i64 (m : Int)] w1 (MakePost W p F (newD 70 70) 0 (m : Int) w1)) := Lib.hid (make_on d1 (calm_new 70 70) rfl 0 m ⟨by have := H60.out; omega, by have := H60.out; omega, by omega, by decide, by have := H60.out; rw [dk.newD_sectors]; omega⟩)
  unfold MakePost at MK
  clear d1 k1 NW
  go_wp2_with fail
  refine MK.out.mono ?_
  rintro _ w2 ⟨D, rfl, l2, _, _, _, k2⟩
  generalize w1.heap.size = q at *
  have I0 : Hid (∃ L tail zs, RoomAt W w2 p q m F L D tail zs) := Lib.hid ⟨_, _, [], ⟨l2, ⟨World.ownsRow_nil _ _ _ _, fun g hg => by simp [Value.ownBlock] at hg⟩, rfl, rfl, rfl, rfl, Int.le_refl _, by unfold limL madeL; have := H60.out; simp; omega, rfl⟩⟩
  clear l2 k2 MK
  go_wp2_with fail
  go_loopw [9, 10, 11, 12, 13, 14, 15, 16] (fun u _ _ _ _ _ _ _ wr => ∃ i : Nat, i ≤ n ∧ u = .int .i64 i ∧ Hid (∃ L tail zs, RoomAt W wr p q m F L D tail zs)) (fun u _ _ _ _ _ _ _ _ => n - (intOf u).toNat)
  case atStart => exact ⟨0, by omega, rfl, I0⟩
  case round =>
    clear I0
    obtain ⟨i, hi, rfl, HF⟩ := hrel
    have hi0 : (0 : Int) ≤ (i : Int) := Int.natCast_nonneg _
    obtain ⟨L, tail, zs, HR'⟩ := HF.out
    have HR := Lib.hid HR'
    by_cases hlt : i < n
    · have d4 : decide ((i : Int) < (n : Int)) = true := decide_eq_true (by omega)
      have hilt : (i : Int) < (n : Int) := by omega
      have HLT := Lib.hid hlt
      have w1e : IntKind.i64.wrap ((i : Int) + 1) = (i : Int) + 1 := IntWalk.i64_in _ (by have := NL.out; omega)
      obtain ⟨bb, off, cc, hv, hcell⟩ := HI.out.shape (by rw [HX.out]; omega)
      simp only [Value.slice.injEq] at hv
      obtain ⟨rfl, hnl, rfl⟩ := hv
      clear hnl
      have L0' := hcell i (by rw [HX.out]; exact hlt)
      have L0 : wr.cell? ⟨bb, off + i, none⟩ = some (.int .i64 (xs[i]?.getD 0)) := (HR'.lg.dev.bl.cell (World.block_lt_of_cell? W _ L0')).trans L0'
      generalize xs[i]?.getD 0 = y at L0
      obtain ⟨k, hk, hk5⟩ := size_eq y
      have ek : IntKind.i64.wrap (1 + (k : Int)) = ((k + 1 : Nat) : Int) := by rw [show (1 : Int) + (k : Int) = ((k + 1 : Nat) : Int) by omega]; exact IntWalk.i64_in _ (by omega)
      obtain ⟨nn, hnn⟩ : ∃ nn, k + 1 = nn := ⟨_, rfl⟩
      rw [hnn] at ek
      have N5 : Hid (0 < nn ∧ nn ≤ 500) := Lib.hid (by omega)
      have mk := make_n nn (by omega)
      have s1 : IntKind.i64.wrap (2 * (nn : Int)) = 2 * (nn : Int) := IntWalk.i64_in _ (by omega)
      have s2 : IntKind.i64.wrap (25 + 2 * (nn : Int)) = 25 + 2 * (nn : Int) := IntWalk.i64_in _ (by omega)
      have s3 : IntKind.i64.wrap (25 + 2 * (nn : Int) + 2) = 25 + 2 * (nn : Int) + 2 := IntWalk.i64_in _ (by omega)
      have s4 : IntKind.i64.wrap (25 + 2 * (nn : Int) + 2 + 2) = 25 + 2 * (nn : Int) + 2 + 2 := IntWalk.i64_in _ (by omega)
      clear HR' hlt L0' hcell hnn hk5 HF
      go_upto_if 62 with fail
      have A3 : Hid (Row (wr.alloc (.cells (zsN nn) 5)) wr.heap.size (zsN nn) 5) := Lib.hid (Row.made _ _ _)
      have R3 := Lib.hid (HR.out.only ((Only.refl [] wr).alloc (.cells (zsN nn) 5)))
      generalize wr.alloc (.cells (zsN nn) 5) = w3 at *
      generalize wr.heap.size = b at *
      go_cut [12] from 41 to 121 (fun s12 wc => s12 = .int .i64 (roomS nn) ∧ Hid (wc = w3))
      case first =>
        by_cases h128 : nn < 128
        · have d5 : decide (128 ≤ (nn : Int)) = false := decide_eq_false (by omega)
          have E : Hid (roomS nn = 25 + 2 * (nn : Int) + 2) := Lib.hid (by unfold roomS; rw [if_pos h128])
          go_wp2_with fail
          go_meet
          case rel => exact ⟨by rw [E.out], Lib.hid rfl⟩
        · have d5 : decide (128 ≤ (nn : Int)) = true := decide_eq_true (by omega)
          have E : Hid (roomS nn = 25 + 2 * (nn : Int) + 2 + 2) := Lib.hid (by unfold roomS; rw [if_neg h128])
          go_wp2_with fail
          go_meet
          case rel => exact ⟨by rw [E.out], Lib.hid rfl⟩
      case rest =>
        obtain ⟨rfl, HW⟩ := hcut
        obtain rfl := HW.out
        clear HW L0 mk s1 s2 s3 s4 hk
        have SZ : Hid (27 ≤ roomS nn ∧ roomS nn ≤ 1029) := Lib.hid (by unfold roomS; have := N5.out; split <;> omega)
        obtain ⟨fw, hfw⟩ : ∃ fw, formW L.end_ L.ep 0 0 (List.replicate nn 0) (List.replicate nn 0) = fw := ⟨_, rfl⟩
        have FL : Hid ((fw.length : Int) = roomS nn) := Lib.hid (by rw [← hfw]; exact formW_len L.end_ L.ep 0 0 nn (by have := N5.out; omega) (List.replicate nn 0) (List.replicate nn 0) (by simp) (by simp))
        obtain ⟨S, hS⟩ : ∃ S, roomS nn = S := ⟨_, rfl⟩
        rw [hS] at SZ FL
        rw [hS]
        clear hS
        have OK := Lib.hid (R3.out.ok H60.out.2)
        have LM := Lib.hid (R3.out.lim H60.out.2)
        have EB : Hid (52 ≤ L.end_ ∧ leftL L = limL L - L.end_ ∧ L.end_ ≤ limL L) := Lib.hid ⟨R3.out.e0, rfl, R3.out.e1⟩
        have LF := Lib.hid fun (y : World) (k : Only [] wc y) => left_on (R3.out.only k).lg.row OK.out
        have EN := Lib.hid fun (y : World) (k : Only [] wc y) => end_on (R3.out.only k).lg.row
        have AP : Hid (∀ y, Only [] wc y → Calls Try.prog 12 #[.pointer (some ⟨q, 0, none⟩), .agg #[Value.int .i64 1, .int .u64 0, .int .u32 0, .int .u64 0, .int .u32 0, .int .u16 0, .slice (some ⟨b, 0, none⟩) nn nn, .slice (some ⟨b, 0, none⟩) nn nn, .slice none 0 0, .int .u64 0, .int .u64 0, .bool false, .int .u64 0, .slice none 0 0, .slice none 0 0]] y (fun e w' => if leftL L < fw.length then FullPost y e w' else AppPost W p q D F L tail zs fw y e w')) := Lib.hid fun y k => append_on (R3.out.only k).lg (R3.out.only k).ta OK.out R3.out.up 1 0 0 0 (.slice (some ⟨b, 0, none⟩) nn nn) (.slice (some ⟨b, 0, none⟩) nn nn) (by have := SZ.out; have := FL.out; omega) (by have := SZ.out; have := FL.out; omega) (by have := (R3.out.only k).z; have := EB.out; have := LM.out; omega) fun u ku => by
          have hA := zsN_ints ((A3.out.only k (by simp)).only ku (by simp))
          rw [← hfw]
          exact bytes_write L.end_ L.ep 0 0 (some ⟨b, 0, none⟩) (some ⟨b, 0, none⟩) nn nn nn (List.replicate nn 0) (List.replicate nn 0) u (by have := EB.out; omega) (by have := EB.out; have := LM.out; omega) OK.out.p0.1 OK.out.p0.2 (by omega) (by have := N5.out; omega) (by simp) (by simp) hA hA (zeros_by nn) (zeros_by nn) N5.out.1 N5.out.2
        clear hfw
        go_wp2_with fail
        refine (LF.out wc (Only.refl _ _)).mono ?_
        rintro _ w4 ⟨rfl, b4⟩
        have K4 : Hid (Only [] wc w4) := Lib.hid ((Only.refl [] wc).below b4)
        clear b4
        go_wp2_with fail
        refine (EN.out w4 K4.out).mono ?_
        rintro _ w5 ⟨rfl, h5⟩
        subst w5
        go_wp2_with fail
        by_cases hf : leftL L < S
        · have d6 : decide (leftL L < S) = true := decide_eq_true hf
          have APF : Hid (Calls Try.prog 12 #[.pointer (some ⟨q, 0, none⟩), .agg #[Value.int .i64 1, .int .u64 0, .int .u32 0, .int .u64 0, .int .u32 0, .int .u16 0, .slice (some ⟨b, 0, none⟩) nn nn, .slice (some ⟨b, 0, none⟩) nn nn, .slice none 0 0, .int .u64 0, .int .u64 0, .bool false, .int .u64 0, .slice none 0 0, .slice none 0 0]] w4 (FullPost w4)) := Lib.hid ((AP.out w4 K4.out).mono fun e w' h => by rw [FL.out, if_pos hf] at h; exact h)
          unfold FullPost at APF
          clear AP
          refine APF.out.mono ?_
          rintro _ w5 ⟨rfl, k5⟩
          have K5 := Lib.hid (K4.out.and k5)
          clear k5 hf APF
          go_wp2_with fail
          refine (LF.out w5 K5.out).mono ?_
          rintro _ w6 ⟨rfl, b6⟩
          have K6 : Hid (Only [] wc w6) := Lib.hid (K5.out.below b6)
          clear b6
          go_wp2_with fail
          refine (EN.out w6 K6.out).mono ?_
          rintro _ w7 ⟨rfl, h7⟩
          subst w7
          have N6 : Hid (∃ L tail zs, RoomAt W w6 p q m F L D tail zs) := Lib.hid ⟨_, _, _, R3.out.only K6.out⟩
          go_wp2_with fail
          go_roundw
          case rel =>
            exact ⟨i + 1, HLT.out, by first | rfl | go_num, N6⟩
          case measure =>
            have := HLT.out
            simp [intOf]
            omega
        · have d6 : decide (leftL L < S) = false := decide_eq_false hf
          have HF : Hid (¬ leftL L < S) := Lib.hid hf
          have APA : Hid (Calls Try.prog 12 #[.pointer (some ⟨q, 0, none⟩), .agg #[Value.int .i64 1, .int .u64 0, .int .u32 0, .int .u64 0, .int .u32 0, .int .u16 0, .slice (some ⟨b, 0, none⟩) nn nn, .slice (some ⟨b, 0, none⟩) nn nn, .slice none 0 0, .int .u64 0, .int .u64 0, .bool false, .int .u64 0, .slice none 0 0, .slice none 0 0]] w4 (AppPost W p q D F L tail zs fw w4)) := Lib.hid ((AP.out w4 K4.out).mono fun e w' h => by rw [FL.out, if_neg hf] at h; exact h)
          unfold AppPost at APA
          have ew1 : IntKind.i64.wrap (leftL L - S) = leftL L - S := IntWalk.i64_in _ (by have := EB.out; have := LM.out; have := SZ.out; omega)
          have wu : ∀ x : Int, 0 ≤ x → x < 18446744073709551616 → IntKind.u64.wrap x = x := fun x h0 h1 => by rw [show IntKind.u64.wrap x = x % 18446744073709551616 from rfl]; omega
          have ew2 : IntKind.u64.wrap S = S := wu _ (by have := SZ.out; omega) (by have := SZ.out; omega)
          have ew3 : IntKind.u64.wrap (L.end_ + S) = L.end_ + S := wu _ (by have := SZ.out; have := EB.out; omega) (by have := SZ.out; have := EB.out; have := LM.out; omega)
          clear AP wu hf
          refine APA.out.mono ?_
          rintro _ w5 ⟨t5, rfl, l5, ta5, k5⟩
          have E5 : Hid ((endL L fw.length).end_ = L.end_ + S) := Lib.hid (by show L.end_ + (fw.length : Int) = _; rw [FL.out])
          have M5 : Hid (limL (endL L fw.length) = limL L) := Lib.hid rfl
          have R5 : Hid (RoomAt W w5 p q m F (endL L fw.length) D t5 (zs ++ fw)) := Lib.hid ⟨l5, ta5, R3.out.st, R3.out.ct, R3.out.ep, R3.out.up, by rw [E5.out]; have := EB.out; have := SZ.out; omega, by rw [E5.out, M5.out]; have := HF.out; have := EB.out; omega, by rw [E5.out, List.length_append]; have := R3.out.z; have := FL.out; omega⟩
          have OK5 := Lib.hid (R5.out.ok H60.out.2)
          have LF5 : Hid (∀ y, Only [] w5 y → Calls Try.prog 10 #[.pointer (some ⟨q, 0, none⟩)] y fun e w' => e = .returned (.int .i64 (leftL L - S)) ∧ Below y.heap.size y w') := Lib.hid fun y k => by
            have h := left_on (R5.out.only k).lg.row OK5.out
            rw [show leftL (endL L fw.length) = leftL L - S by unfold leftL; rw [M5.out, E5.out]; omega] at h
            exact h
          have EN5 : Hid (∀ y, Only [] w5 y → Calls Try.prog 11 #[.pointer (some ⟨q, 0, none⟩)] y fun e w' => e = .returned (.int .u64 (L.end_ + S)) ∧ w' = y) := Lib.hid fun y k => by
            have h := end_on (R5.out.only k).lg.row
            rw [E5.out] at h
            exact h
          clear l5 ta5 k5 APA LF EN
          go_wp2_with fail
          refine (LF5.out w5 (Only.refl _ _)).mono ?_
          rintro _ w6 ⟨rfl, b6⟩
          have K6 : Hid (Only [] w5 w6) := Lib.hid ((Only.refl [] w5).below b6)
          clear b6
          go_wp2_with fail
          refine (EN5.out w6 K6.out).mono ?_
          rintro _ w7 ⟨rfl, h7⟩
          subst w7
          have N6 : Hid (∃ L tail zs, RoomAt W w6 p q m F L D tail zs) := Lib.hid ⟨_, _, _, R5.out.only K6.out⟩
          go_wp2_with fail
          go_roundw
          case rel => exact ⟨i + 1, HLT.out, by first | rfl | go_num, N6⟩
          case measure =>
            have := HLT.out
            simp [intOf]
            omega
    · have d4 : decide ((i : Int) < (n : Int)) = false := decide_eq_false (by omega)
      have KN := Lib.hid (known_any wr)
      unfold KnownPost at KN
      clear HR'
      go_wp2_with fail
      refine KN.out.mono ?_
      rintro _ w3 ⟨rfl, b3⟩
      have B3 := Lib.hid (HR.out.lg.dev.bl.trans (b3.mono HR.out.lg.dev.bl.size))
      clear b3 KN
      go_wp2_with fail
      go_ret
      exact ⟨rfl, B3.out⟩
end Go.Proofs.Ytekdogmhgijocaa
