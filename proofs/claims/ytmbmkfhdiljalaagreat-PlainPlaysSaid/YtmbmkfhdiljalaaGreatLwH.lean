/- PlainPlays: the loop (printed by gen_lwh.py). -/
import Derived.Test.YtmbmkfhdiljalaaGreatMg45
import Derived.Test.YtmbmkfhdiljalaaGreatMg15
import Derived.Deep.CutBlock
import Derived.Deep.CutRange
import Derived.Deep.RegionHeld3
namespace Go.Proofs.YtmbmkfhdiljalaaGreat
open Go.RowKit Go.ChangeShapes Go.WideShapes Go.ChangeAt
set_option linter.unusedVariables false
set_option linter.unusedSimpArgs false

theorem RdbAt.lower {w : World} {B B' q s : Nat} {R : RDB} (h : RdbAt w B q s R) (hB : B' ≤ B) : RdbAt w B' q s R :=
  ⟨h.row, h.srow, own_mono h.oown hB, fun o ho => own_mono (h.wown o ho) hB, h.done, h.sees, h.since, h.nd, fun b hb => Nat.le_trans hB (h.ge b hb), fun b hb => Nat.le_trans hB (h.gr b hb), h.ap, h.fine⟩
theorem tame_lens {x : OpS} (h : tameB x = true) : x.it.vec.xs.length ≤ 5000 ∧ x.it.tag.xs.length ≤ 2000 ∧ x.q.xs.length ≤ 5000 := by
  unfold tameB at h
  simp at h
  omega
set_option maxRecDepth 1000000 in
set_option maxHeartbeats 100000000 in
theorem plays_short (dn : Nat) (a : Option Addr) (n c : Nat) (os : List OpS) (W : World) (h1 : 1 ≤ dn) (h2 : dn ≤ 4096) (hn : n ≤ 150) (ho : OpsIn W a n c os) :
    Calls Tryz.prog 3 #[.int .i64 (dn : Int), .slice a n c] W fun e w' => e = .returned (.bool true) ∧ Below W.heap.size W w' := by
  have NP := Lib.hid (new_on (dn : Int) W (by omega) (by omega))
  have NR := Lib.hid fun y => new_ref (dim := (dn : Int)) (by omega) (by omega) y
  have HD := Lib.hid (And.intro h1 h2)
  have HN := Lib.hid hn
  have HO := Lib.hid ho
  have d1 : decide ((dn : Int) < 1) = false := decide_eq_false (by omega)
  have d2 : decide (4096 < (dn : Int)) = false := decide_eq_false (by omega)
  have d3 : decide (150 < (n : Int)) = false := decide_eq_false (by omega)
  have d3' : decide (150 < n) = false := decide_eq_false (by omega)
  unfold NewPTo at NP
  unfold NewRTo at NR
  clear h1 h2 hn ho
  go_enter Tryz.func3, Tryz.ntmps3
  go_wp2_with fail
  refine NP.out.mono ?_
  rintro _ w1 ⟨p, F, H, rfl, hd, hb⟩
  have DP := Lib.hid hd
  have B1 := Lib.hid hb
  clear hd hb NP
  go_wp2_with fail
  refine (NR.out w1).mono ?_
  rintro _ w2 ⟨q, s, rfl, hr, hb⟩
  have T0 : Hid (Two 0 w2 W.heap.size p q s (dn : Int)) := Lib.hid ⟨newP (dn : Int), F, H, newR (dn : Int), ⟨DP.out.only ((Only.refl [] w1).below hb) (by simp), hr.lower B1.out.size, rel_new (dn : Int), fun b hb2 => ⟨fun hm => by
      have h8 := hr.ge b hm
      have h9 : b < w1.heap.size := by rcases hb2 with h9 | h9; exact DP.out.lt.1 b h9; exact DP.out.lt.2 b h9
      omega, fun hm => by
      have h8 := hr.gr b hm
      have h9 : b < w1.heap.size := by rcases hb2 with h9 | h9; exact DP.out.lt.1 b h9; exact DP.out.lt.2 b h9
      omega⟩, Nat.le_trans B1.out.size hb.size⟩, rfl⟩
  have B2 : Hid (Below W.heap.size W w2) := Lib.hid (B1.out.trans (hb.mono B1.out.size))
  clear hr hb NR B1 DP d1 d2 d3 d3'
  go_wp2_with fail
  go_loopw [5, 8] (fun u5 u8 wr => ∃ (i p : Nat), (u8 = .int .i64 (i : Int) ∧ u5 = .pointer (some ⟨p, 0, none⟩)) ∧ Hid (i ≤ n) ∧ Hid (Two i wr W.heap.size p q s (dn : Int) ∧ Below W.heap.size W wr)) (fun _ u _ => n - (intOf u).toNat)
  case atStart => exact ⟨0, p, ⟨rfl, rfl⟩, Lib.hid (Nat.zero_le _), Lib.hid ⟨T0.out, B2.out⟩⟩
  case round =>
    obtain ⟨i, p, ⟨rfl, rfl⟩, HI, HT⟩ := hrel
    rename World => w3
    have ei : IntKind.i64.wrap ((i : Int) + 1) = ((i + 1 : Nat) : Int) := w_inc _ (by have := HI.out; have := HN.out; omega)
    by_cases hlt : i < n
    · have d1 : decide ((i : Int) < (n : Int)) = true := decide_eq_true (by omega)
      have d1' : decide (i < n) = true := decide_eq_true hlt
      have i3 : (i : Int) < (n : Int) := by omega
      obtain ⟨hol, -, hor⟩ := HO.out
      obtain ⟨ob, oo, rfl, hall⟩ := hor.resolve_left (by omega)
      obtain ⟨x, hx⟩ : ∃ x, os[i]? = some x := ⟨_, List.getElem?_eq_getElem (by omega)⟩
      obtain ⟨hx1, hx2⟩ := hall i x hx
      have cc : ∀ j v, x.cells[j]? = some v → w3.cell? ⟨ob, oo + i * 9 + j, none⟩ = some v := fun j v hj => by
        have h8 := hx2 j v hj
        rw [HT.out.2.cell (p := ⟨ob, oo + i * 9 + j, none⟩) (World.block_lt_of_cell? W _ h8)]
        exact h8
      have z0 := cc 0 _ rfl
      have z1 := cc 1 _ rfl
      have z2 := cc 2 _ rfl
      have z3 := cc 3 _ rfl
      have z4 := cc 4 _ rfl
      have z5 := cc 5 _ rfl
      have z6 := cc 6 _ rfl
      have z7 := cc 7 _ rfl
      have z8 := cc 8 _ rfl
      unfold Sl.v at z6 z7 z8
      simp only [Nat.add_zero] at z0
      have XI := Lib.hid hx1
      have JL := Lib.hid hlt
      clear hol hor hall hx hx1 hx2 cc hlt
      go_wp2_with fail
      have TM := Lib.hid (tame_on x)
      unfold OpS.val Sl.v at TM
      have TML := Lib.hid (And.intro XI.out.vec.len (And.intro XI.out.tag.len XI.out.q.len))
      have RX4 := Lib.hid (Row.made w3 #[.int .i64 x.kind, .int .i64 x.n, .int .u64 x.t, .int .u64 x.key, .int .u64 x.hi, .int .u64 x.it.key, .slice x.it.vec.a x.it.vec.xs.length x.it.vec.c, .slice x.it.tag.a x.it.tag.xs.length x.it.tag.c, .slice x.q.a x.q.xs.length x.q.c] tOp)
      generalize hw4 : World.alloc _ _ = w4
      have O4 : Hid (Only [] w3 w4) := Lib.hid (by rw [← hw4]; exact (Only.refl [] w3).alloc _)
      have RX4' : Hid (Row w4 w3.heap.size #[.int .i64 x.kind, .int .i64 x.n, .int .u64 x.t, .int .u64 x.key, .int .u64 x.hi, .int .u64 x.it.key, .slice x.it.vec.a x.it.vec.xs.length x.it.vec.c, .slice x.it.tag.a x.it.tag.xs.length x.it.tag.c, .slice x.q.a x.q.xs.length x.q.c] tOp) := Lib.hid (by rw [← hw4]; exact RX4.out)
      clear hw4 RX4
      refine (TM.out w4 TML.out.1 TML.out.2.1 TML.out.2.2).mono ?_
      rintro _ w5 ⟨rfl, hb5⟩
      have O5 : Hid (Only [] w3 w5) := Lib.hid (O4.out.below hb5)
      have RX : Hid (Row w5 w3.heap.size #[.int .i64 x.kind, .int .i64 x.n, .int .u64 x.t, .int .u64 x.key, .int .u64 x.hi, .int .u64 x.it.key, .slice x.it.vec.a x.it.vec.xs.length x.it.vec.c, .slice x.it.tag.a x.it.tag.xs.length x.it.tag.c, .slice x.q.a x.q.xs.length x.q.c] tOp) := Lib.hid (RX4'.out.only ((Only.refl [] w4).below hb5) (by simp))
      by_cases htm : tameB x = true
      · rw [htm]
        have TL := Lib.hid (tame_lens htm)
        have B35 : Hid (Below w3.heap.size w3 w5) := Lib.hid (O5.out.toBelow (Nat.le_refl _) (by simp))
        have BW5 : Hid (Below W.heap.size W w5) := Lib.hid (HT.out.2.trans (B35.out.mono HT.out.2.size))
        have XB : Hid (∀ y, Below W.heap.size w5 y → OpIn y x) := Lib.hid fun y hy => XI.out.only (BW5.out.trans hy)
        have XN := Lib.hid XI.out.n
        have T5 : Hid (∃ D F H R, TwoAt i w5 W.heap.size p q s D F H R ∧ D.dim = (dn : Int) ∧ w3.heap.size ∉ F) := Lib.hid (by
          obtain ⟨D, F, H, R, hT, hdim⟩ := HT.out.1
          exact ⟨D, F, H, R, hT.below B35.out, hdim, fun hm => by have := hT.code.lt.1 _ hm; omega⟩)
        have b0 : w5.cell? ⟨w3.heap.size, 0, none⟩ = some (.int .i64 x.kind) := RX.out.cell 0
        have b1 : w5.cell? ⟨w3.heap.size, 1, none⟩ = some (.int .i64 x.n) := RX.out.cell 1
        have b2 : w5.cell? ⟨w3.heap.size, 2, none⟩ = some (.int .u64 x.t) := RX.out.cell 2
        have b3 : w5.cell? ⟨w3.heap.size, 3, none⟩ = some (.int .u64 x.key) := RX.out.cell 3
        have b4 : w5.cell? ⟨w3.heap.size, 4, none⟩ = some (.int .u64 x.hi) := RX.out.cell 4
        have b5 : w5.cell? ⟨w3.heap.size, 5, none⟩ = some (.int .u64 x.it.key) := RX.out.cell 5
        have b6 : w5.cell? ⟨w3.heap.size, 6, none⟩ = some (.slice x.it.vec.a x.it.vec.xs.length x.it.vec.c) := RX.out.cell 6
        have b7 : w5.cell? ⟨w3.heap.size, 7, none⟩ = some (.slice x.it.tag.a x.it.tag.xs.length x.it.tag.c) := RX.out.cell 7
        have b8 : w5.cell? ⟨w3.heap.size, 8, none⟩ = some (.slice x.q.a x.q.xs.length x.q.c) := RX.out.cell 8
        clear htm hb5 z0 z1 z2 z3 z4 z5 z6 z7 z8 O4 RX4' TM TML
        go_upto_block 2 with fail
        go_cut [5, 10, 11, 12] from 51 to 197 (fun u5 u10 u11 u12 wc => ∃ p', u5 = .pointer (some ⟨p', 0, none⟩) ∧ Hid (Two (i + 1) wc W.heap.size p' q s (dn : Int) ∧ Below W.heap.size W wc))
        case first =>
          obtain ⟨D, F, H, R, hT, hdim, hF5⟩ := T5.out
          by_cases hk : x.kind = 0
          · have WC0 := write_begin hT (by have := JL.out; have := HN.out; omega) x hk
            rw [hdim] at WC0
            have WC := Lib.hid WC0
            unfold WrTo OpS.val Sl.v at WC
            rw [hk] at WC b0 ⊢
            clear WC0 hT hdim
            go_wp2_with fail
            refine WC.out.mono ?_
            rintro _ w6 ⟨rfl, h6, h7⟩
            have NX : Hid (Two (i + 1) w6 W.heap.size p q s (dn : Int) ∧ Below W.heap.size W w6) := Lib.hid ⟨h6, BW5.out.trans h7⟩
            clear h6 h7 WC b0 b1 b2 b3 b4 b5 b6 b7 b8
            go_wp2_with fail
            go_meet
            exact ⟨p, rfl, NX⟩
          · have h0 := hk
            clear hk
            by_cases hk : x.kind = 1
            · have WC0 := write_put hT (by have := JL.out; have := HN.out; omega) x XB.out TL.out.1 TL.out.2.1 hk
              rw [hdim] at WC0
              have WC := Lib.hid WC0
              unfold WrTo OpS.val Sl.v at WC
              rw [hk] at WC b0 ⊢
              clear WC0 hT hdim
              go_wp2_with fail
              refine WC.out.mono ?_
              rintro _ w6 ⟨rfl, h6, h7⟩
              have NX : Hid (Two (i + 1) w6 W.heap.size p q s (dn : Int) ∧ Below W.heap.size W w6) := Lib.hid ⟨h6, BW5.out.trans h7⟩
              clear h6 h7 WC b0 b1 b2 b3 b4 b5 b6 b7 b8
              go_wp2_with fail
              go_meet
              exact ⟨p, rfl, NX⟩
            · have h1 := hk
              clear hk
              by_cases hk : x.kind = 2
              · have WC0 := write_delete hT (by have := JL.out; have := HN.out; omega) x hk
                rw [hdim] at WC0
                have WC := Lib.hid WC0
                unfold WrTo OpS.val Sl.v at WC
                rw [hk] at WC b0 ⊢
                clear WC0 hT hdim
                go_wp2_with fail
                refine WC.out.mono ?_
                rintro _ w6 ⟨rfl, h6, h7⟩
                have NX : Hid (Two (i + 1) w6 W.heap.size p q s (dn : Int) ∧ Below W.heap.size W w6) := Lib.hid ⟨h6, BW5.out.trans h7⟩
                clear h6 h7 WC b0 b1 b2 b3 b4 b5 b6 b7 b8
                go_wp2_with fail
                go_meet
                exact ⟨p, rfl, NX⟩
              · have h2 := hk
                clear hk
                by_cases hk : x.kind = 6
                · have WC0 := write_commit hT (by have := JL.out; have := HN.out; omega) x hk
                  rw [hdim] at WC0
                  have WC := Lib.hid WC0
                  unfold WrTo OpS.val Sl.v at WC
                  rw [hk] at WC b0 ⊢
                  clear WC0 hT hdim
                  go_wp2_with fail
                  refine WC.out.mono ?_
                  rintro _ w6 ⟨rfl, h6, h7⟩
                  have NX : Hid (Two (i + 1) w6 W.heap.size p q s (dn : Int) ∧ Below W.heap.size W w6) := Lib.hid ⟨h6, BW5.out.trans h7⟩
                  clear h6 h7 WC b0 b1 b2 b3 b4 b5 b6 b7 b8
                  go_wp2_with fail
                  go_meet
                  exact ⟨p, rfl, NX⟩
                · have h6 := hk
                  clear hk
                  by_cases hk : x.kind = 7
                  · have WC0 := write_abort hT (by have := JL.out; have := HN.out; omega) x ⟨by rw [hk]; decide, by rw [hk]; decide, by rw [hk]; decide, by rw [hk]; decide⟩
                    rw [hdim] at WC0
                    have WC := Lib.hid WC0
                    unfold WrTo OpS.val Sl.v at WC
                    rw [hk] at WC b0 ⊢
                    clear WC0 hT hdim
                    go_wp2_with fail
                    refine WC.out.mono ?_
                    rintro _ w6 ⟨rfl, h6, h7⟩
                    have NX : Hid (Two (i + 1) w6 W.heap.size p q s (dn : Int) ∧ Below W.heap.size W w6) := Lib.hid ⟨h6, BW5.out.trans h7⟩
                    clear h6 h7 WC b0 b1 b2 b3 b4 b5 b6 b7 b8
                    go_wp2_with fail
                    go_meet
                    exact ⟨p, rfl, NX⟩
                  · have h7 := hk
                    clear hk
                    by_cases hk : x.kind = 3
                    · have RC : Hid (∀ y, Below w5.heap.size w5 y → Calls Tryz.prog 9 #[.pointer (some ⟨p, 0, none⟩), .pointer (some ⟨s, 0, none⟩), .agg #[.int .i64 x.kind, .int .i64 x.n, .int .u64 x.t, .int .u64 x.key, .int .u64 x.hi, .int .u64 x.it.key, .slice x.it.vec.a x.it.vec.xs.length x.it.vec.c, .slice x.it.tag.a x.it.tag.xs.length x.it.tag.c, .slice x.q.a x.q.xs.length x.q.c]] y (RdTo y)) := Lib.hid fun y hy => read_get (hT.below hy) (by have := JL.out; have := HN.out; omega) x  hk
                      have SO : Hid (∀ y, Below w5.heap.size w5 y → y.cell? ⟨q, 0, none⟩ = some (.pointer (some ⟨s, 0, none⟩)) ∧ y.cell? ⟨w3.heap.size, 0, none⟩ = some (.int .i64 3) ∧ y.cell? ⟨w3.heap.size, 1, none⟩ = some (.int .i64 x.n) ∧ y.cell? ⟨w3.heap.size, 2, none⟩ = some (.int .u64 x.t) ∧ y.cell? ⟨w3.heap.size, 3, none⟩ = some (.int .u64 x.key) ∧ y.cell? ⟨w3.heap.size, 4, none⟩ = some (.int .u64 x.hi) ∧ y.cell? ⟨w3.heap.size, 5, none⟩ = some (.int .u64 x.it.key) ∧ y.cell? ⟨w3.heap.size, 6, none⟩ = some (.slice x.it.vec.a x.it.vec.xs.length x.it.vec.c) ∧ y.cell? ⟨w3.heap.size, 7, none⟩ = some (.slice x.it.tag.a x.it.tag.xs.length x.it.tag.c) ∧ y.cell? ⟨w3.heap.size, 8, none⟩ = some (.slice x.q.a x.q.xs.length x.q.c)) := Lib.hid fun y hy => by
                        have r := RX.out.only ((Only.refl [] w5).below hy) (by simp)
                        rw [hk] at r
                        exact ⟨(hT.below hy).doc.row.cell 0, r.cell 0, r.cell 1, r.cell 2, r.cell 3, r.cell 4, r.cell 5, r.cell 6, r.cell 7, r.cell 8⟩
                      have NX : Hid (∀ y, Below w5.heap.size w5 y → Two (i + 1) y W.heap.size p q s (dn : Int) ∧ Below W.heap.size W y) := Lib.hid fun y hy => ⟨⟨_, _, _, _, hT.next hy, hdim⟩, BW5.out.trans (hT.bNext hy)⟩
                      unfold RdTo at RC
                      rw [hk] at RC b0 ⊢
                      clear hT hdim
                      go_upto_region 23 with fail
                      go_region_held3 (fun y => y.cell? ⟨q, 0, none⟩ = some (.pointer (some ⟨s, 0, none⟩)) ∧ y.cell? ⟨w3.heap.size, 0, none⟩ = some (.int .i64 3) ∧ y.cell? ⟨w3.heap.size, 1, none⟩ = some (.int .i64 x.n) ∧ y.cell? ⟨w3.heap.size, 2, none⟩ = some (.int .u64 x.t) ∧ y.cell? ⟨w3.heap.size, 3, none⟩ = some (.int .u64 x.key) ∧ y.cell? ⟨w3.heap.size, 4, none⟩ = some (.int .u64 x.hi) ∧ y.cell? ⟨w3.heap.size, 5, none⟩ = some (.int .u64 x.it.key) ∧ y.cell? ⟨w3.heap.size, 6, none⟩ = some (.slice x.it.vec.a x.it.vec.xs.length x.it.vec.c) ∧ y.cell? ⟨w3.heap.size, 7, none⟩ = some (.slice x.it.tag.a x.it.tag.xs.length x.it.tag.c) ∧ y.cell? ⟨w3.heap.size, 8, none⟩ = some (.slice x.q.a x.q.xs.length x.q.c))
                        (first
                          | exact SO.out _ X2.out
                          | exact SO.out _ ((Below.refl _ w5).drew))
                        (first | ((with_reducible refine (RC.out w5.drew ((Below.refl _ w5).drew)).mono ?_); rintro _ w6 ⟨rfl, h1⟩; have X2 : Hid (Below w5.heap.size w5 w6) := Lib.hid (((Below.refl _ w5).drew).trans h1); clear h1))
                      all_goals
                        have NY := Lib.hid (NX.out w6 X2.out)
                        clear RC SO NX X2 b0 b1 b2 b3 b4 b5 b6 b7 b8
                        go_wp2_with fail
                        go_meet
                        exact ⟨p, rfl, NY⟩
                    · have h3 := hk
                      clear hk
                      by_cases hk : x.kind = 4
                      · have RC : Hid (∀ y, Below w5.heap.size w5 y → Calls Tryz.prog 9 #[.pointer (some ⟨p, 0, none⟩), .pointer (some ⟨s, 0, none⟩), .agg #[.int .i64 x.kind, .int .i64 x.n, .int .u64 x.t, .int .u64 x.key, .int .u64 x.hi, .int .u64 x.it.key, .slice x.it.vec.a x.it.vec.xs.length x.it.vec.c, .slice x.it.tag.a x.it.tag.xs.length x.it.tag.c, .slice x.q.a x.q.xs.length x.q.c]] y (RdTo y)) := Lib.hid fun y hy => read_range (hT.below hy) (by have := JL.out; have := HN.out; omega) x XN.out hk
                        have SO : Hid (∀ y, Below w5.heap.size w5 y → y.cell? ⟨q, 0, none⟩ = some (.pointer (some ⟨s, 0, none⟩)) ∧ y.cell? ⟨w3.heap.size, 0, none⟩ = some (.int .i64 4) ∧ y.cell? ⟨w3.heap.size, 1, none⟩ = some (.int .i64 x.n) ∧ y.cell? ⟨w3.heap.size, 2, none⟩ = some (.int .u64 x.t) ∧ y.cell? ⟨w3.heap.size, 3, none⟩ = some (.int .u64 x.key) ∧ y.cell? ⟨w3.heap.size, 4, none⟩ = some (.int .u64 x.hi) ∧ y.cell? ⟨w3.heap.size, 5, none⟩ = some (.int .u64 x.it.key) ∧ y.cell? ⟨w3.heap.size, 6, none⟩ = some (.slice x.it.vec.a x.it.vec.xs.length x.it.vec.c) ∧ y.cell? ⟨w3.heap.size, 7, none⟩ = some (.slice x.it.tag.a x.it.tag.xs.length x.it.tag.c) ∧ y.cell? ⟨w3.heap.size, 8, none⟩ = some (.slice x.q.a x.q.xs.length x.q.c)) := Lib.hid fun y hy => by
                          have r := RX.out.only ((Only.refl [] w5).below hy) (by simp)
                          rw [hk] at r
                          exact ⟨(hT.below hy).doc.row.cell 0, r.cell 0, r.cell 1, r.cell 2, r.cell 3, r.cell 4, r.cell 5, r.cell 6, r.cell 7, r.cell 8⟩
                        have NX : Hid (∀ y, Below w5.heap.size w5 y → Two (i + 1) y W.heap.size p q s (dn : Int) ∧ Below W.heap.size W y) := Lib.hid fun y hy => ⟨⟨_, _, _, _, hT.next hy, hdim⟩, BW5.out.trans (hT.bNext hy)⟩
                        unfold RdTo at RC
                        rw [hk] at RC b0 ⊢
                        clear hT hdim
                        go_upto_region 23 with fail
                        go_region_held3 (fun y => y.cell? ⟨q, 0, none⟩ = some (.pointer (some ⟨s, 0, none⟩)) ∧ y.cell? ⟨w3.heap.size, 0, none⟩ = some (.int .i64 4) ∧ y.cell? ⟨w3.heap.size, 1, none⟩ = some (.int .i64 x.n) ∧ y.cell? ⟨w3.heap.size, 2, none⟩ = some (.int .u64 x.t) ∧ y.cell? ⟨w3.heap.size, 3, none⟩ = some (.int .u64 x.key) ∧ y.cell? ⟨w3.heap.size, 4, none⟩ = some (.int .u64 x.hi) ∧ y.cell? ⟨w3.heap.size, 5, none⟩ = some (.int .u64 x.it.key) ∧ y.cell? ⟨w3.heap.size, 6, none⟩ = some (.slice x.it.vec.a x.it.vec.xs.length x.it.vec.c) ∧ y.cell? ⟨w3.heap.size, 7, none⟩ = some (.slice x.it.tag.a x.it.tag.xs.length x.it.tag.c) ∧ y.cell? ⟨w3.heap.size, 8, none⟩ = some (.slice x.q.a x.q.xs.length x.q.c))
                          (first
                            | exact SO.out _ X2.out
                            | exact SO.out _ ((Below.refl _ w5).drew))
                          (first | ((with_reducible refine (RC.out w5.drew ((Below.refl _ w5).drew)).mono ?_); rintro _ w6 ⟨rfl, h1⟩; have X2 : Hid (Below w5.heap.size w5 w6) := Lib.hid (((Below.refl _ w5).drew).trans h1); clear h1))
                        all_goals
                          have NY := Lib.hid (NX.out w6 X2.out)
                          clear RC SO NX X2 b0 b1 b2 b3 b4 b5 b6 b7 b8
                          go_wp2_with fail
                          go_meet
                          exact ⟨p, rfl, NY⟩
                      · have h4 := hk
                        clear hk
                        by_cases hk : x.kind = 5
                        · have RC : Hid (∀ y, Below w5.heap.size w5 y → Calls Tryz.prog 9 #[.pointer (some ⟨p, 0, none⟩), .pointer (some ⟨s, 0, none⟩), .agg #[.int .i64 x.kind, .int .i64 x.n, .int .u64 x.t, .int .u64 x.key, .int .u64 x.hi, .int .u64 x.it.key, .slice x.it.vec.a x.it.vec.xs.length x.it.vec.c, .slice x.it.tag.a x.it.tag.xs.length x.it.tag.c, .slice x.q.a x.q.xs.length x.q.c]] y (RdTo y)) := Lib.hid fun y hy => read_knn (hT.below hy) (by have := JL.out; have := HN.out; omega) x (fun z hz => XB.out z ((hT.bNext hy).trans hz)) TL.out.2.2 hk
                          have SO : Hid (∀ y, Below w5.heap.size w5 y → y.cell? ⟨q, 0, none⟩ = some (.pointer (some ⟨s, 0, none⟩)) ∧ y.cell? ⟨w3.heap.size, 0, none⟩ = some (.int .i64 5) ∧ y.cell? ⟨w3.heap.size, 1, none⟩ = some (.int .i64 x.n) ∧ y.cell? ⟨w3.heap.size, 2, none⟩ = some (.int .u64 x.t) ∧ y.cell? ⟨w3.heap.size, 3, none⟩ = some (.int .u64 x.key) ∧ y.cell? ⟨w3.heap.size, 4, none⟩ = some (.int .u64 x.hi) ∧ y.cell? ⟨w3.heap.size, 5, none⟩ = some (.int .u64 x.it.key) ∧ y.cell? ⟨w3.heap.size, 6, none⟩ = some (.slice x.it.vec.a x.it.vec.xs.length x.it.vec.c) ∧ y.cell? ⟨w3.heap.size, 7, none⟩ = some (.slice x.it.tag.a x.it.tag.xs.length x.it.tag.c) ∧ y.cell? ⟨w3.heap.size, 8, none⟩ = some (.slice x.q.a x.q.xs.length x.q.c)) := Lib.hid fun y hy => by
                            have r := RX.out.only ((Only.refl [] w5).below hy) (by simp)
                            rw [hk] at r
                            exact ⟨(hT.below hy).doc.row.cell 0, r.cell 0, r.cell 1, r.cell 2, r.cell 3, r.cell 4, r.cell 5, r.cell 6, r.cell 7, r.cell 8⟩
                          have NX : Hid (∀ y, Below w5.heap.size w5 y → Two (i + 1) y W.heap.size p q s (dn : Int) ∧ Below W.heap.size W y) := Lib.hid fun y hy => ⟨⟨_, _, _, _, hT.next hy, hdim⟩, BW5.out.trans (hT.bNext hy)⟩
                          unfold RdTo at RC
                          rw [hk] at RC b0 ⊢
                          clear hT hdim
                          go_upto_region 23 with fail
                          go_region_held3 (fun y => y.cell? ⟨q, 0, none⟩ = some (.pointer (some ⟨s, 0, none⟩)) ∧ y.cell? ⟨w3.heap.size, 0, none⟩ = some (.int .i64 5) ∧ y.cell? ⟨w3.heap.size, 1, none⟩ = some (.int .i64 x.n) ∧ y.cell? ⟨w3.heap.size, 2, none⟩ = some (.int .u64 x.t) ∧ y.cell? ⟨w3.heap.size, 3, none⟩ = some (.int .u64 x.key) ∧ y.cell? ⟨w3.heap.size, 4, none⟩ = some (.int .u64 x.hi) ∧ y.cell? ⟨w3.heap.size, 5, none⟩ = some (.int .u64 x.it.key) ∧ y.cell? ⟨w3.heap.size, 6, none⟩ = some (.slice x.it.vec.a x.it.vec.xs.length x.it.vec.c) ∧ y.cell? ⟨w3.heap.size, 7, none⟩ = some (.slice x.it.tag.a x.it.tag.xs.length x.it.tag.c) ∧ y.cell? ⟨w3.heap.size, 8, none⟩ = some (.slice x.q.a x.q.xs.length x.q.c))
                            (first
                              | exact SO.out _ X2.out
                              | exact SO.out _ ((Below.refl _ w5).drew))
                            (first | ((with_reducible refine (RC.out w5.drew ((Below.refl _ w5).drew)).mono ?_); rintro _ w6 ⟨rfl, h1⟩; have X2 : Hid (Below w5.heap.size w5 w6) := Lib.hid (((Below.refl _ w5).drew).trans h1); clear h1))
                          all_goals
                            have NY := Lib.hid (NX.out w6 X2.out)
                            clear RC SO NX X2 b0 b1 b2 b3 b4 b5 b6 b7 b8
                            go_wp2_with fail
                            go_meet
                            exact ⟨p, rfl, NY⟩
                        · have h5 := hk
                          clear hk
                          by_cases hk : x.kind = 8
                          · have VC0 := two_vacuum hT
                            rw [hdim] at VC0
                            have VC := Lib.hid VC0
                            rw [hk] at b0 ⊢
                            clear VC0 hT hdim
                            go_wp2_with fail
                            refine VC.out.mono ?_
                            rintro _ w6 ⟨rfl, h6⟩
                            have NX : Hid (Two (i + 1) w6 W.heap.size p q s (dn : Int) ∧ Below W.heap.size W w6) := Lib.hid ⟨h6.out.1, BW5.out.trans h6.out.2⟩
                            clear h6 VC b0 b1 b2 b3 b4 b5 b6 b7 b8
                            go_wp2_with fail
                            go_meet
                            exact ⟨p, rfl, NX⟩
                          · have h8 := hk
                            clear hk
                            by_cases hk : x.kind = 9
                            · obtain ⟨⟨z, hz⟩, hfz, _, CC0⟩ := two_crash hT
                              rw [hdim] at CC0
                              have CC := Lib.hid CC0
                              have q0 : w5.cell? ⟨q, 0, none⟩ = some (.pointer (some ⟨s, 0, none⟩)) := hT.doc.row.cell 0
                              rw [hk] at b0 ⊢
                              clear CC0 hT hdim
                              go_wp2_with fail
                              refine CC.out.mono ?_
                              rintro _ w6 ⟨rfl, h6⟩
                              have NX : Hid (Two (i + 1) w6 W.heap.size p q s (dn : Int) ∧ Below W.heap.size W w6) := Lib.hid ⟨h6.out.1, BW5.out.trans h6.out.2⟩
                              clear h6 CC b0 b1 b2 b3 b4 b5 b6 b7 b8 q0 hz hfz
                              go_wp2_with fail
                              go_meet
                              exact ⟨p, rfl, NX⟩
                            · have h9 := hk
                              clear hk
                              by_cases hk : x.kind = 10
                              · have CP0 := two_copy hT (by have := JL.out; have := HN.out; omega)
                                rw [hdim] at CP0
                                have CP := Lib.hid CP0
                                have F5 := Lib.hid hF5
                                unfold CopiedTo at CP
                                rw [hk] at b0 ⊢
                                clear CP0 hT hdim hF5
                                go_wp2_with fail
                                refine CP.out.mono ?_
                                rintro _ w6 ⟨pc, D0, H0, rfl, ho, hb, hl, h6, hst⟩
                                have B6 := Lib.hid h6
                                have ST := Lib.hid hst
                                have OB := Lib.hid (old_begin ho hb hl)
                                have X6 : Hid (∀ y, Only F w6 y → y.cell? ⟨w3.heap.size, 3, none⟩ = some (.int .u64 x.key)) := Lib.hid fun y hy => ((RX.out.only ((Only.refl [] w5).below B6.out) (by simp)).only hy F5.out).cell 3
                                clear ho hb hl h6 hst CP b0 b1 b2 b3 b4 b5 b6 b7 b8
                                go_wp2_with fail
                                refine OB.out.mono ?_
                                rintro _ w7 ⟨nn, er, rfl, h7⟩
                                have BE : Hid (Below w7.heap.size w7 (w7.alloc (.cells (Array.replicate dn (.int .i32 0)) 21)).drew) := Lib.hid (((Below.refl _ w7).alloc (Nat.le_refl _) _).drew)
                                have PK : Hid (∃ b, b = w7.heap.size ∧ Calls Tryz.prog 14 #[.pointer (some ⟨p, 0, none⟩), .int .u64 nn, .agg #[.int .u64 x.key, .slice (some ⟨b, 0, none⟩) dn dn, .slice none 0 0]] (w7.alloc (.cells (Array.replicate dn (.int .i32 0)) 21)).drew fun e w2 => ∃ er : Int, e = .returned (.int .i64 er) ∧ Hid (OldSome w6 W.heap.size p F (dn : Int) w2)) := Lib.hid ⟨_, rfl, by
                                  have g := old_put (old_below h7.out BE.out) nn x.key (vec_made ((Row.made w7 _ _).only ((Only.refl [] _).drew) (by simp)) HD.out.2) (SlRd.nil .u8 _) (by simp) (by simp)
                                  unfold Sl.v at g
                                  simpa only [List.length_replicate, List.length_nil] using g⟩
                                have ⟨k7, k8⟩ : w7.cell? ⟨w3.heap.size, 3, none⟩ = some (.int .u64 x.key) ∧ ((w7.alloc (.cells (Array.replicate dn (.int .i32 0)) 21)).drew).cell? ⟨w3.heap.size, 3, none⟩ = some (.int .u64 x.key) := by
                                  obtain ⟨D1, F1, H1, hh⟩ := h7.out
                                  exact ⟨X6.out _ hh.only, X6.out _ (hh.only.below BE.out)⟩
                                obtain ⟨bb, eb, PC⟩ := PK.out
                                have PC' := Lib.hid PC
                                have mk : ∀ y : World, (Instr.makeSlice 31 (.int .i64 (dn : Int)) (.int .i64 (dn : Int))).run Tryz.prog y = .ok (.slice (some ⟨y.heap.size, 0, none⟩) dn dn) (y.alloc (.cells (Array.replicate dn (.int .i32 0)) 21)) := make_vec dn HD.out.2
                                clear h7 OB PK PC
                                go_wp2_with fail
                                go_region_with (first
                                  | (go_at_call 14; subst eb; refine PC'.out.mono ?_; rintro _ w8 ⟨er8, rfl, h8⟩))
                                all_goals
                                  have OC := Lib.hid (old_commit h8.out nn)
                                  clear PC' h8 k7 k8 mk
                                  go_wp2_with fail
                                  refine OC.out.mono ?_
                                  rintro _ w9 ⟨er9, rfl, h9⟩
                                  have OX := Lib.hid (old_crash h9.out)
                                  clear OC h9
                                  go_wp2_with fail
                                  refine OX.out.mono ?_
                                  rintro _ w10 ⟨rfl, h10⟩
                                  have S10 : Hid (StTo i W.heap.size q s (dn : Int) pc w6 w10) := Lib.hid (ST.out w10 h10.out)
                                  have NX : Hid (Two (i + 1) w10 W.heap.size pc q s (dn : Int) ∧ Below W.heap.size W w10) := Lib.hid ⟨S10.out.1, (BW5.out.trans (B6.out.mono BW5.out.size)).trans S10.out.2⟩
                                  clear OX h10
                                  go_wp2_with fail
                                  go_meet
                                  exact ⟨pc, rfl, NX⟩
                              · have h10 := hk
                                clear hk
                                have f0 : (x.kind == 0) = false := by simpa using h0
                                have f1 : (x.kind == 1) = false := by simpa using h1
                                have f2 : (x.kind == 2) = false := by simpa using h2
                                have f3 : (x.kind == 3) = false := by simpa using h3
                                have f4 : (x.kind == 4) = false := by simpa using h4
                                have f5 : (x.kind == 5) = false := by simpa using h5
                                have f6 : (x.kind == 6) = false := by simpa using h6
                                have f7 : (x.kind == 7) = false := by simpa using h7
                                have f8 : (x.kind == 8) = false := by simpa using h8
                                have f9 : (x.kind == 9) = false := by simpa using h9
                                have f10 : (x.kind == 10) = false := by simpa using h10
                                have NX : Hid (Two (i + 1) w5 W.heap.size p q s (dn : Int) ∧ Below W.heap.size W w5) := Lib.hid ⟨⟨_, _, _, _, hT.next (Below.refl _ _), hdim⟩, BW5.out⟩
                                clear hT hdim h0 h1 h2 h3 h4 h5 h6 h7 h8 h9 h10 b1 b2 b3 b4 b5 b6 b7 b8
                                go_wp2_with fail
                                go_meet
                                exact ⟨p, rfl, NX⟩
        case rest =>
          obtain ⟨p', rfl, HT6⟩ := hcut
          obtain ⟨D, F, H, R, hT, hdim⟩ := HT6.out.1
          obtain ⟨ba, bo, hdb⟩ := hT.dbAt
          have TT := Lib.hid hT
          have DM := Lib.hid hdim
          have AL := Lib.hid (all_on hdb (hT.small (by have := JL.out; have := HN.out; omega)))
          unfold ListTo at AL
          clear hdim hdb hT
          go_wp2_with fail
          refine AL.out.mono ?_
          rintro _ w7 ⟨v, its, zs, rfl, hi, hc, hz, hm, hlen, hb⟩
          have HI7 := Lib.hid hi
          have HC7 : Hid (its.map It.c = R.done.cs) := Lib.hid (by rw [hc]; exact TT.out.rel.doneList hz hm)
          have B7 := Lib.hid hb
          obtain ⟨ia, ic, rfl, _⟩ := own_shape hi.own
          obtain ⟨m, hm2⟩ : ∃ m, its.length = m := ⟨_, rfl⟩
          have HM := Lib.hid hm2
          have ML : Hid (m ≤ 150) := Lib.hid (by
            have e1 := congrArg List.length HC7.out
            rw [List.length_map, Its.cs_len] at e1
            have := TT.out.rel.doneLen
            have := JL.out
            have := HN.out
            omega)
          have RD7 := Lib.hid hi.rd
          rw [hm2]
          clear hi hc hz hm hlen hb hm2 AL
          have T7 := Lib.hid (TT.out.below B7.out)
          obtain ⟨ba, bo, hdb⟩ := T7.out.dbAt
          have TX := Lib.hid (txns_on hdb (T7.out.small (by have := JL.out; have := HN.out; omega)))
          unfold NumsTo at TX
          clear hdb
          go_wp2_with fail
          refine TX.out.mono ?_
          rintro _ w8 ⟨v2, ys, rfl, hp, hs2, ho2, hb8⟩
          have YS : Hid (ys = R.op.map (·.n)) := Lib.hid (T7.out.rel.numList hp hs2)
          have YO := Lib.hid ho2
          have B8 := Lib.hid hb8
          obtain ⟨ta, tc, rfl, _⟩ := own_shape ho2
          obtain ⟨mt, hmt⟩ : ∃ mt, ys.length = mt := ⟨_, rfl⟩
          have HMT := Lib.hid hmt
          have MT : Hid (mt ≤ 8 ∧ R.op.length = mt) := Lib.hid (by
            have e1 := congrArg List.length YS.out
            rw [List.length_map, hmt] at e1
            have := TT.out.doc.fine.len
            omega)
          rw [hmt] at YO ⊢
          have T8 := Lib.hid (T7.out.below hb8)
          have RD8 := Lib.hid (RD7.out.below hb8)
          clear hp hs2 ho2 hb8 hmt TX
          have DB : Hid (∀ y, Below w8.heap.size w8 y → y.cell? ⟨q, 0, none⟩ = some (.pointer (some ⟨s, 0, none⟩)) ∧ y.cell? ⟨s, 1, none⟩ = some (.slice R.done.a R.done.l.length R.done.c) ∧ y.cell? ⟨s, 2, none⟩ = some (.slice R.oa mt R.oc) ∧ Calls Tryz.prog 19 #[.pointer (some ⟨p', 0, none⟩)] y fun e w' => e = .returned (.int .i64 (dn : Int)) ∧ w' = y) := Lib.hid fun y hy => by
            have g := T8.out.below hy
            obtain ⟨ba, bo, hdb⟩ := g.dbAt
            refine ⟨g.doc.row.cell 0, g.doc.srow.cell 1, ?_, ?_⟩
            · have := g.doc.srow.cell 2
              unfold RDB.ov at this
              rw [MT.out.2] at this
              exact this
            · have := dim_on hdb
              rw [DM.out] at this
              exact this
          obtain ⟨k0, k1, k2, _⟩ := DB.out w8 (Below.refl _ _)
          have LS := Lib.hid (lsame_on (n := m) (c := ic) RD8.out HM.out T8.out.doc.done (by rw [HC7.out]) (by have := ML.out; omega))
          unfold Its.v at LS
          go_wp2_with fail
          refine LS.out.mono ?_
          rintro _ w9 ⟨rfl, hb9⟩
          have B9 := Lib.hid hb9
          obtain ⟨l0, l1, l2, DC⟩ := DB.out w9 hb9
          have DC' := Lib.hid DC
          clear k0 k1 k2 LS hb9 DC
          go_wp2_with fail
          refine DC'.out.mono ?_
          rintro _ w10 ⟨rfl, hw⟩
          subst w10
          clear l0 l1 l2
          go_wp2_with fail
          go_loopw [15] (fun u wr => ∃ j : Nat, u = .int .i64 (j : Int) ∧ Hid (j ≤ mt) ∧ Hid (Below w9.heap.size w9 wr)) (fun u _ => mt - (intOf u).toNat)
          case atStart => exact ⟨0, rfl, Lib.hid (Nat.zero_le _), Lib.hid (Below.refl _ _)⟩
          case round =>
            obtain ⟨j, rfl, HJ, HB⟩ := hrel
            rename World => w11
            have ej : IntKind.i64.wrap ((j : Int) + 1) = ((j + 1 : Nat) : Int) := w_inc _ (by have := MT.out.1; have := HJ.out; omega)
            by_cases hjm : j < mt
            · have d5 : decide ((j : Int) < (mt : Int)) = true := decide_eq_true (by omega)
              have d5' : decide (j < mt) = true := decide_eq_true hjm
              have j3 : (j : Int) < (mt : Int) := by omega
              have JM := Lib.hid hjm
              have g11 := T8.out.below (B9.out.trans (HB.out.mono B9.out.size))
              obtain ⟨y, hy⟩ : ∃ y, R.op[j]? = some y := ⟨_, List.getElem?_eq_getElem (by rw [MT.out.2]; exact hjm)⟩
              obtain ⟨g, eg, _, hcg⟩ := g11.doc.at_ hy
              have u0 : w11.cell? ⟨g, j * 4, none⟩ = some (.int .u64 y.n) := hcg 0 (by omega)
              have s0 : w11.cell? ⟨q, 0, none⟩ = some (.pointer (some ⟨s, 0, none⟩)) := g11.doc.row.cell 0
              have s2 : w11.cell? ⟨s, 2, none⟩ = some (.slice (some ⟨g, 0, none⟩) mt R.oc) := by
                have := g11.doc.srow.cell 2
                unfold RDB.ov at this
                rw [MT.out.2, eg] at this
                exact this
              obtain ⟨tb, etb, ctb⟩ : ∃ tb, ta = some ⟨tb, 0, none⟩ ∧ w11.cell? ⟨tb, j, none⟩ = some (.int .u64 y.n) := by
                have hyj : ys[j]? = some y.n := by rw [YS.out, List.getElem?_map, hy]; rfl
                have ho := YO.out
                rcases ho.2 with ⟨_, h0⟩ | ⟨g2, cap, cur, e, _⟩
                · omega
                · simp only [Value.slice.injEq] at e
                  obtain ⟨rfl, _, rfl⟩ := e
                  refine ⟨g2, rfl, ?_⟩
                  have h1 := (YO.out.lt g2 rfl).2
                  rw [(B9.out.trans (HB.out.mono B9.out.size)).cell (p := ⟨g2, j, none⟩) h1, ho.cellAt j (by omega)]
                  simp [hyj]
              have nn : (y.n != y.n) = false := by simp
              subst etb
              clear hjm hy eg hcg g11
              generalize y.n = yn at u0 ctb nn
              go_wp2_with fail
              go_quiet (fail)
              go_wp2_with fail
              go_roundw
              case rel => exact ⟨j + 1, by go_num, Lib.hid (by have := JM.out; omega), Lib.hid (below_drewN HB.out _)⟩
              case measure => have := JM.out; simp [intOf]; omega
            · have d5 : decide ((j : Int) < (mt : Int)) = false := decide_eq_false (by omega)
              have d5' : decide (j < mt) = false := decide_eq_false hjm
              have RD11 : Hid (RdAt w11 wc.heap.size ia its) := Lib.hid ((RD8.out.below B9.out).below HB.out)
              have BC11 : Hid (Below wc.heap.size wc w11) := Lib.hid (B7.out.trans ((B8.out.trans ((B9.out.trans (HB.out.mono B9.out.size)).mono B8.out.size)).mono B7.out.size))
              have G1 : Hid (∀ c ∈ its.map It.c, 1 ≤ c.2.1.length) := Lib.hid fun c hc => by
                rw [HC7.out] at hc
                have := TT.out.rel.doneOk ((TT.out.rel.done.mem c).1 hc)
                have := TT.out.doc.fine.dim
                have := TT.out.rel.dim
                omega
              have GE : Hid (∀ b ∈ vecB its, wc.heap.size ≤ b) := Lib.hid fun b hb => by
                obtain ⟨y, hy, hb⟩ := List.mem_flatMap.1 hb
                exact RD11.out.ge y hy b (List.mem_append_left _ hb)
              have SP := Lib.hid (SpIts.start RD11.out)
              clear hjm
              go_wp2_with fail
              go_loopw [16] (fun u wr => ∃ j : Nat, u = .int .i64 (j : Int) ∧ Hid (j ≤ m) ∧ Hid (SpIts w11 wr ia its)) (fun u _ => m - (intOf u).toNat)
              case atStart => exact ⟨0, rfl, Lib.hid (Nat.zero_le _), SP⟩
              case round =>
                obtain ⟨k, rfl, HK, HS⟩ := hrel
                rename World => w12
                have ek : IntKind.i64.wrap ((k : Int) + 1) = ((k + 1 : Nat) : Int) := w_inc _ (by have := ML.out; have := HK.out; omega)
                by_cases hkm : k < m
                · have d6 : decide ((k : Int) < (m : Int)) = true := decide_eq_true (by omega)
                  have d6' : decide (k < m) = true := decide_eq_true hkm
                  have k3 : (k : Int) < (m : Int) := by omega
                  obtain ⟨g, v9, o9, n9, c9, z9, ea, hcell, hn1, hz, hfr, hnx⟩ := HS.out.at_ RD11.out G1.out (by rw [HM.out]; exact hkm)
                  have n1 : (0 : Int) < (n9 : Int) := by omega
                  have n2 : 0 < n9 := by omega
                  have KL := Lib.hid hkm
                  have NX := Lib.hid hnx
                  subst ea
                  clear hkm hnx
                  go_wp2_with fail
                  go_roundw
                  case rel => exact ⟨k + 1, by go_num, Lib.hid (by have := KL.out; omega), Lib.hid (NX.out _)⟩
                  case measure => have := KL.out; simp [intOf]; omega
                · have d6 : decide ((k : Int) < (m : Int)) = false := decide_eq_false (by omega)
                  have d6' : decide (k < m) = false := decide_eq_false hkm
                  have BE : Hid (Below wc.heap.size wc w12) := Lib.hid (BC11.out.trans (HS.out.only.toBelow BC11.out.size GE.out))
                  have NE : Hid (Two (i + 1) w12 W.heap.size p' q s (dn : Int) ∧ Below W.heap.size W w12) := Lib.hid ⟨⟨D, F, H, R, TT.out.below BE.out, DM.out⟩, HT6.out.2.trans (TT.out.bNext BE.out)⟩
                  clear hkm
                  go_wp2_with fail
                  go_roundw
                  case rel => exact ⟨i + 1, p', ⟨by go_num, rfl⟩, Lib.hid (by have := JL.out; omega), NE⟩
                  case measure => have := JL.out; simp [intOf]; omega
      · skip
        have NE : Hid (Two (i + 1) w5 W.heap.size p q s (dn : Int) ∧ Below W.heap.size W w5) := Lib.hid (by
          obtain ⟨D, F, H, R, hT, hdim⟩ := HT.out.1
          have hb := O5.out.toBelow (Nat.le_refl _) (by simp)
          exact ⟨⟨_, _, _, _, hT.next hb, hdim⟩, HT.out.2.trans (hT.bNext hb)⟩)
        rw [show tameB x = false by simpa using htm]
        clear htm hb5 z0 z1 z2 z3 z4 z5 z6 z7 z8
        go_wp2_with fail
        go_roundw
        case rel => exact ⟨i + 1, p, ⟨by go_num, rfl⟩, Lib.hid (by have := JL.out; omega), NE⟩
        case measure => have := JL.out; simp [intOf]; omega
    · skip
      have d1 : decide ((i : Int) < (n : Int)) = false := decide_eq_false (by omega)
      have d1' : decide (i < n) = false := decide_eq_false hlt
      have KN := Lib.hid (known_on w3)
      clear hlt
      go_wp2_with fail
      refine KN.out.mono ?_
      rintro _ w4 ⟨rfl, hb4⟩
      have N : Hid (Below W.heap.size W w4) := Lib.hid (HT.out.2.trans (hb4.mono HT.out.2.size))
      clear hb4
      go_wp2_with fail
      go_ret
      exact ⟨rfl, N.out⟩
end Go.Proofs.YtmbmkfhdiljalaaGreat
