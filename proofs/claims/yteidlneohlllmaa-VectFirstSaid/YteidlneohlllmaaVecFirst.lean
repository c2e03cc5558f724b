/- VectFirst: the order of hits, and the first hits of any list, are the document's; the list stays. -/
import Derived.Test.YteidlneohlllmaaVecL
import Derived.ProofKit
import Derived.OpenShut
import Derived.Lib.SmallJoins
namespace Go.Proofs.Yteidlneohlllmaa.vectFirst
open Go.ChangeShapes Go.WideShapes Go.ChangeAt Go.RowKit Go.Joins
set_option linter.unusedVariables false

theorem cellsHit : Try.prog.cellsOf 35 = 2 := by kernel_rfl
theorem hit_shape {H : Type} {enc : TypeId × Value → H} {W : World} {base : Nat} {v : Value} {d : DataW H} {p : List MemPlace} (hv : Value.okWide Try.prog W .any base 35 v) (h : DataW.Trod enc Try.prog W 0 (fun _ => true) true 35 v d p) :
    ∃ a b : Int, v = .agg #[.int .u64 a, .int .i64 b] := by
  obtain ⟨c0, c1, y0, y1, m, rfl, rfl, rfl, hy0, hy1⟩ := open_agg2 Try.underlying35 (by kernel_rfl) cellsHit hv h
  obtain ⟨a, e0, _, _⟩ := DataW.trod_int Try.underlying33 hy0
  obtain ⟨b, e1, _, _⟩ := DataW.trod_int Try.underlying2 hy1
  simp at e0 e1
  subst e0 e1
  exact ⟨a, b, rfl⟩

def Goal (a : Option Addr) (n c : Nat) (k ka da kb db : Int) (w : World) : Prop := Calls Try.prog 7 #[.slice a n c, .int .i64 k, .agg #[.int .u64 ka, .int .i64 da], .agg #[.int .u64 kb, .int .i64 db]] w fun e w' => e = .returned (.bool true) ∧ Below w.heap.size w w'

theorem order_n {k1 d1 k2 d2 o : Int} (h : ordF k1 d1 k2 d2 = o) (w : World) :
    Calls Try.prog 19 #[.agg #[.int .u64 k1, .int .i64 d1], .agg #[.int .u64 k2, .int .i64 d2]] w fun e w' => e = .returned (.int .i64 o) ∧ Below w.heap.size w w' := h ▸ order_any k1 d1 k2 d2 w
theorem ahead_n {k1 d1 k2 d2 : Int} {b : Bool} (h : aheadB (k1, d1) (k2, d2) = b) (w : World) :
    Calls Try.prog 20 #[.agg #[.int .u64 k1, .int .i64 d1], .agg #[.int .u64 k2, .int .i64 d2]] w fun e w' => e = .returned (.bool b) ∧ Below w.heap.size w w' := h ▸ ahead_any k1 d1 k2 d2 w
theorem two_new (w : World) (a b c d : Int) : let W := (w.alloc (.cells #[.int .u64 a, .int .i64 b] 35)).alloc (.cells #[.int .u64 c, .int .i64 d] 35)
    Below w.heap.size w W ∧ W.cell? ⟨w.heap.size, 0, none⟩ = some (.int .u64 a) ∧ W.cell? ⟨w.heap.size, 1, none⟩ = some (.int .i64 b) ∧ W.cell? ⟨w.heap.size + 1, 0, none⟩ = some (.int .u64 c) ∧ W.cell? ⟨w.heap.size + 1, 1, none⟩ = some (.int .i64 d) ∧ W.heap.size = w.heap.size + 1 + 1 := by
  intro W
  refine ⟨((Below.refl _ _).alloc (Nat.le_refl _) _).alloc (by simp) _, ?_, ?_, ?_, ?_, ?_⟩ <;> simp [W, go_sem]
theorem hit_spare {w : World} {base : Nat} {e : TypeId} {v : Value} {n : Nat} {xs : List (Int × Int)} {p q : Value} (h : w.ownsRow base e 2 v (n + 1) (hc xs ++ [p, q])) (hn : xs.length = n) :
    ∃ g cap, v = .slice (some ⟨g, 0, none⟩) (n + 1) cap ∧ base ≤ g ∧ g < w.heap.size ∧ n + 1 ≤ cap ∧ cap ≤ 9223372036854775807 ∧ HitsAt w (.slice (some ⟨g, 0, none⟩) n cap) xs ∧ SrcOf w (.slice (some ⟨g, 0, none⟩) n cap) n 2 (hc xs) ∧ w.cell? ⟨g, n * 2, none⟩ = some p ∧ w.cell? ⟨g, n * 2 + 1, none⟩ = some q := by
  have hlt := h.lt
  rcases h.2 with ⟨_, h0⟩ | ⟨g, cap, cur, rfl, hg, _, hc', hm, _⟩
  · omega
  · have hl := hc_len xs
    have c1 := h.cellAt (n * 2) (by omega)
    have c2 := h.cellAt (n * 2 + 1) (by omega)
    rw [List.getElem?_append_right (by omega), hl, hn] at c1 c2
    simp at c1 c2
    have hall : ∀ i, i < xs.length → w.cell? ⟨g, 0 + i * 2, none⟩ = some (.int .u64 (xs[i]?.getD (0, 0)).1) ∧ w.cell? ⟨g, 0 + i * 2 + 1, none⟩ = some (.int .i64 (xs[i]?.getD (0, 0)).2) := by
      intro i hi
      have hg := hc_at xs i hi
      rw [Nat.zero_add]
      refine ⟨?_, ?_⟩
      · rw [h.cellAt (i * 2) (by omega), List.getElem?_append_left (by omega), Nat.mul_comm]; exact hg.1
      · rw [h.cellAt (i * 2 + 1) (by omega), List.getElem?_append_left (by omega), Nat.mul_comm]; exact hg.2
    exact ⟨g, cap, rfl, hg, (hlt g rfl).2, hc', by unfold maxLen at hm; omega, .inr ⟨g, 0, cap, by rw [hn], hall⟩, hits_in_src hn hall, by rw [c1], by rw [c2]⟩

set_option maxRecDepth 100000 in
set_option maxHeartbeats 4000000 in
theorem walk_bad0 (a : Option Addr) (n c : Nat) (k ka da kb db : Int) (w : World) (m0 : n ≤ c) (m1 : c ≤ 9223372036854775807) (g1 : 1500 < n) (ho : ordF ka da kb db = -1) (h1 : aheadB (ka, da) (kb, db) = true) (h2 : aheadB (kb, db) (ka, da) = false) : Goal a n c k ka da kb db w := by
  unfold Goal
  obtain ⟨bb0, c0, c1, c2, c3, sz0⟩ := two_new w ka da kb db
  go_enter Try.func7, Try.ntmps7
  go_wp2_with fail
  refine (order_n ho _).mono ?_
  rintro e w1 ⟨rfl, hb1⟩
  have B1 := Lib.hid (bb0.trans (hb1.mono bb0.size))
  have E1 := hb1.cell (p := ⟨w.heap.size, 0, none⟩) (by show w.heap.size < _; rw [sz0]; omega) |>.trans c0
  have E2 := hb1.cell (p := ⟨w.heap.size, 1, none⟩) (by show w.heap.size < _; rw [sz0]; omega) |>.trans c1
  have E3 := hb1.cell (p := ⟨w.heap.size + 1, 0, none⟩) (by show w.heap.size + 1 < _; rw [sz0]; omega) |>.trans c2
  have E4 := hb1.cell (p := ⟨w.heap.size + 1, 1, none⟩) (by show w.heap.size + 1 < _; rw [sz0]; omega) |>.trans c3
  have s1 : w.heap.size + 1 + 1 ≤ w1.heap.size := by have := hb1.size; rw [sz0] at this; exact this
  clear hb1
  go_wp2_with fail
  refine (ahead_n h1 _).mono ?_
  rintro e w2 ⟨rfl, hb2⟩
  have B2 := Lib.hid (B1.out.trans (hb2.mono B1.out.size))
  have F1 := hb2.cell (p := ⟨w.heap.size, 0, none⟩) (by simp; omega) |>.trans E1
  have F2 := hb2.cell (p := ⟨w.heap.size, 1, none⟩) (by simp; omega) |>.trans E2
  have F3 := hb2.cell (p := ⟨w.heap.size + 1, 0, none⟩) (by simp; omega) |>.trans E3
  have F4 := hb2.cell (p := ⟨w.heap.size + 1, 1, none⟩) (by simp; omega) |>.trans E4
  clear hb2
  go_wp2_with fail
  refine (ahead_n h2 _).mono ?_
  rintro e w3 ⟨rfl, hb3⟩
  have B3 := Lib.hid (B2.out.trans (hb3.mono B2.out.size))
  clear hb3 E1 E2 E3 E4 F1 F2 F3 F4 c0 c1 c2 c3 ho h1 h2
  go_wp2_with (go_at_call 13; refine (known_any _).mono ?_; rintro e w' ⟨rfl, hb2⟩)
  go_ret
  exact ⟨rfl, B3.out.trans (hb2.mono B3.out.size)⟩

set_option maxRecDepth 100000 in
set_option maxHeartbeats 4000000 in
theorem walk_good0 (a : Option Addr) (n c : Nat) (xs : List (Int × Int)) (k ka da kb db : Int) (w : World) (hi : HitsIn w a n c xs) (k1 : -9223372036854775808 ≤ k) (k2 : k ≤ 9223372036854775807) (g1 : n ≤ 1500) (ho : ordF ka da kb db = -1) (h1 : aheadB (ka, da) (kb, db) = true) (h2 : aheadB (kb, db) (ka, da) = false) : Goal a n c k ka da kb db w := by
  unfold Goal
  obtain ⟨hl, m0, m1, hsrc, hat⟩ := hi
  have HL := Lib.hid hl
  have S1 := Lib.hid hsrc
  have HAT := Lib.hid hat
  clear hl hsrc hat
  obtain ⟨i0, hi, hz0, hz1, hz2⟩ := info_parts infoHit
  obtain ⟨bb0, c0, c1, c2, c3, sz0⟩ := two_new w ka da kb db
  go_enter Try.func7, Try.ntmps7
  go_wp2_with fail
  refine (order_n ho _).mono ?_
  rintro e w1 ⟨rfl, hb1⟩
  have B1 := Lib.hid (bb0.trans (hb1.mono bb0.size))
  have E1 := hb1.cell (p := ⟨w.heap.size, 0, none⟩) (by show w.heap.size < _; rw [sz0]; omega) |>.trans c0
  have E2 := hb1.cell (p := ⟨w.heap.size, 1, none⟩) (by show w.heap.size < _; rw [sz0]; omega) |>.trans c1
  have E3 := hb1.cell (p := ⟨w.heap.size + 1, 0, none⟩) (by show w.heap.size + 1 < _; rw [sz0]; omega) |>.trans c2
  have E4 := hb1.cell (p := ⟨w.heap.size + 1, 1, none⟩) (by show w.heap.size + 1 < _; rw [sz0]; omega) |>.trans c3
  have s1 : w.heap.size + 1 + 1 ≤ w1.heap.size := by have := hb1.size; rw [sz0] at this; exact this
  clear hb1
  go_wp2_with fail
  refine (ahead_n h1 _).mono ?_
  rintro e w2 ⟨rfl, hb2⟩
  have B2 := Lib.hid (B1.out.trans (hb2.mono B1.out.size))
  have F1 := hb2.cell (p := ⟨w.heap.size, 0, none⟩) (by simp; omega) |>.trans E1
  have F2 := hb2.cell (p := ⟨w.heap.size, 1, none⟩) (by simp; omega) |>.trans E2
  have F3 := hb2.cell (p := ⟨w.heap.size + 1, 0, none⟩) (by simp; omega) |>.trans E3
  have F4 := hb2.cell (p := ⟨w.heap.size + 1, 1, none⟩) (by simp; omega) |>.trans E4
  clear hb2
  go_wp2_with fail
  refine (ahead_n h2 _).mono ?_
  rintro e w3 ⟨rfl, hb3⟩
  have B3 := Lib.hid (B2.out.trans (hb3.mono B2.out.size))
  clear hb3 E1 E2 E3 E4 F1 F2 F3 F4 c0 c1 c2 c3 ho h1 h2
  go_wp2_with (at_builtin; refine wpList_append_src rfl (.tmp 42) (.tmp 43) 38 rfl w3.heap.size 35 i0 (.agg #[.int .u64 0, .int .i64 0]) 2 16 Try.underlying38 hi hz0 hz1 hz2 rfl (by decide) _ 0 [] rfl (World.ownsRow_made w3 #[] 0 (Nat.le_refl _) (by decide) rfl) _ n (hc xs) rfl ?s1 ?s2 ?s3 ?s4 ?s5 ?s6)
  case s1 => exact S1.out.below (B3.out.alloc B3.out.size _)
  case s2 => exact hc_one xs
  case s3 => unfold maxLen; omega
  case s4 => omega
  case s5 => simp
  case s6 =>
    intro v5 w5 hown5 hg5
    have b5 : Below w3.heap.size w3 w5 := ((Below.refl _ _).alloc (Nat.le_refl _) _).grown hg5 (by simp) (by simp [Value.ownBlock])
    have O5 := Lib.hid hown5
    have B5 := Lib.hid b5
    clear hown5 hg5 b5
    go_wp2_with (at_builtin; refine wpList_append_src rfl (.tmp 44) (.tmp 46) 38 rfl w3.heap.size 35 i0 (.agg #[.int .u64 0, .int .i64 0]) 2 16 Try.underlying38 hi hz0 hz1 hz2 rfl (by decide) _ n (hc xs) rfl (O5.out.alloc _) _ 1 [.int .u64 77, .int .i64 0] rfl ?s1 ?s2 ?s3 ?s4 ?s5 ?s6)
    case s1 => exact .inr ⟨_, _, rfl, rfl, fun q u hq => by rcases q with _ | _ | q <;> simp at hq <;> subst hq <;> simp [go_sem]⟩
    case s2 => simp [Value.oneCell']
    case s3 => unfold maxLen; omega
    case s4 => omega
    case s5 => have := B5.out.size; simp; omega
    case s6 =>
      intro v6 w6 hown6 hg6
      have b6 : Below w3.heap.size w3 w6 := (B5.out.alloc B5.out.size _).grown hg6 (by have := B5.out.size; simp; omega) (fun k hk => (O5.out.lt k hk).1)
      obtain ⟨gx, cap, rfl, gx1, gx2, gx3, gx4, gh, gs, g77, g0⟩ := hit_spare hown6 HL.out
      have GH := Lib.hid gh
      have B6 := Lib.hid (B3.out.trans (b6.mono B3.out.size))
      have FF := Lib.hid (first_any n xs w6 (some ⟨gx, 0, none⟩) cap k k1 k2 HL.out gs (by omega))
      have G7 := Lib.hid (And.intro g77 g0)
      clear hown6 hg6 b6 gh gs g77 g0
      go_wp2_with fail
      refine FF.out.mono ?_
      rintro e w7 ⟨v7, rfl, hown7, hb7⟩
      obtain ⟨p7, q7, rfl, u3, u4⟩ := own_shape hown7
      have O7 := Lib.hid hown7
      have B7 := Lib.hid hb7
      have W7 := Lib.hid (B6.out.trans (hb7.mono B6.out.size))
      have RF := Lib.hid (rfirst_any n xs w7 a c k HL.out (S1.out.below W7.out) (by omega))
      clear hown7 hb7 FF
      go_wp2_with fail
      refine RF.out.mono ?_
      rintro e w8 ⟨v8, rfl, hown8, hb8⟩
      have lm : (firstF xs k).length ≤ 9223372036854775807 := by rw [firstF_len]; unfold askN; have := HL.out; omega
      have X1 := rsame_any (.slice p7 (askN n k) q7) v8 _ _ w8 ((hits_of_own O7.out).below hb8) (hits_of_own hown8) lm lm
      rw [sameH_refl] at X1
      have H1 := Lib.hid X1
      have B8 := Lib.hid (B7.out.trans (hb8.mono B7.out.size))
      have O8 := Lib.hid (own_keep O7.out fun g hg => hb8.block g (O7.out.lt g hg).2)
      have ha1 : askN n k ≤ 1500 := by unfold askN; omega
      have FL := Lib.hid (show (firstF xs k).length = askN n k by rw [firstF_len, HL.out])
      clear X1 lm hown8 hb8 RF
      go_wp2_with fail
      refine H1.out.mono ?_
      rintro e w' ⟨rfl, q, rfl⟩
      have O9 := Lib.hid (own_keep (w' := w8.drewN q) O8.out fun g hg => rfl)
      have B9 := Lib.hid (below_drewN B8.out q)
      generalize w8.drewN q = w9 at O9 B9
      generalize askN n k = len at *
      go_wp2_with fail
      go_loopw [12] (fun i wr => ∃ (j : Nat) (news : List Value), j ≤ len ∧ i = .int .i64 j ∧ Hid (wr.ownsRow w6.heap.size 35 2 (.slice p7 len q7) len news ∧ ∀ i, i < len → ∃ a : Int, news[i * 2]? = some (.int .u64 a)) ∧ Hid (Below w6.heap.size w6 wr)) (fun i _ => len - (intOf i).toNat)
      case atStart => exact ⟨0, hc (firstF xs k), Nat.zero_le _, rfl, Lib.hid ⟨O9.out, fun i hi => ⟨_, by rw [Nat.mul_comm]; exact (hc_at _ i (by rw [FL.out]; exact hi)).1⟩⟩, B9⟩
      case round =>
        obtain ⟨j, news, hj, rfl, OL, BL⟩ := hrel
        by_cases hlt : j < len
        · obtain ⟨g, rfl⟩ : ∃ g, p7 = some ⟨g, 0, none⟩ := by
            rcases OL.out.1.2 with ⟨h, _⟩ | ⟨g, _, _, h, _⟩
            · simp at h; omega
            · simp at h; exact ⟨g, h.1⟩
          obtain ⟨a, ha⟩ := OL.out.2 j hlt
          have x1 := OL.out.1.cellAt (j * 2) (by omega)
          rw [ha] at x1
          have fz := OL.out.1.frozenAt (j * 2)
          clear ha
          go_wp2_with fail
          go_roundw
          case rel =>
            refine ⟨j + 1, _, by omega, by go_num, Lib.hid ⟨(OL.out.1.stored (j * 2) _).1, fun i hi => ?_⟩, Lib.hid (BL.out.grown (OL.out.1.stored (j * 2) _).2 BL.out.size (fun k hk => ?_))⟩
            · obtain ⟨b, hb⟩ := OL.out.2 i hi
              rw [List.getElem?_set]
              split
              · exact ⟨_, by rw [if_pos (by have := OL.out.1.1; omega)]⟩
              · exact ⟨b, hb⟩
            · simp at hk
              have := (OL.out.1.lt g rfl).1
              omega
          case measure => simp [intOf]; omega
        · obtain rfl : len = j := by omega
          have lm : xs.length ≤ 9223372036854775807 := by rw [HL.out]; omega
          have X2 := rsame_any (.slice (some ⟨gx, 0, none⟩) n cap) (.slice a n c) xs xs wr (GH.out.below BL.out) (HAT.out.below (B6.out.trans (BL.out.mono B6.out.size))) lm lm
          rw [sameH_refl] at X2
          have H2 := Lib.hid X2
          have y1 := (BL.out.cell (p := ⟨gx, n * 2, none⟩) gx2).trans G7.out.1
          have y2 := (BL.out.cell (p := ⟨gx, n * 2 + 1, none⟩) gx2).trans G7.out.2
          have BW := Lib.hid (B6.out.trans (BL.out.mono B6.out.size))
          clear X2 lm
          go_wp2_with fail
          refine H2.out.mono ?_
          rintro e w' ⟨rfl, q', rfl⟩
          have z1 := (show (wr.drewN q').cell? ⟨gx, n * 2, none⟩ = _ from y1)
          have z2 := (show (wr.drewN q').cell? ⟨gx, n * 2 + 1, none⟩ = _ from y2)
          go_wp2_with (go_at_call 13; refine (known_any _).mono ?_; rintro e w' ⟨rfl, hb2⟩)
          go_ret
          exact ⟨rfl, (below_drewN BW.out _).trans (hb2.mono (by have := BW.out.size; simpa using this))⟩

set_option maxRecDepth 100000 in
set_option maxHeartbeats 4000000 in
theorem walk_bad1 (a : Option Addr) (n c : Nat) (k ka da kb db : Int) (w : World) (m0 : n ≤ c) (m1 : c ≤ 9223372036854775807) (g1 : 1500 < n) (ho : ordF ka da kb db = 1) (h1 : aheadB (ka, da) (kb, db) = false) (h2 : aheadB (kb, db) (ka, da) = true) : Goal a n c k ka da kb db w := by
  unfold Goal
  obtain ⟨bb0, c0, c1, c2, c3, sz0⟩ := two_new w ka da kb db
  go_enter Try.func7, Try.ntmps7
  go_wp2_with fail
  refine (order_n ho _).mono ?_
  rintro e w1 ⟨rfl, hb1⟩
  have B1 := Lib.hid (bb0.trans (hb1.mono bb0.size))
  have E1 := hb1.cell (p := ⟨w.heap.size, 0, none⟩) (by show w.heap.size < _; rw [sz0]; omega) |>.trans c0
  have E2 := hb1.cell (p := ⟨w.heap.size, 1, none⟩) (by show w.heap.size < _; rw [sz0]; omega) |>.trans c1
  have E3 := hb1.cell (p := ⟨w.heap.size + 1, 0, none⟩) (by show w.heap.size + 1 < _; rw [sz0]; omega) |>.trans c2
  have E4 := hb1.cell (p := ⟨w.heap.size + 1, 1, none⟩) (by show w.heap.size + 1 < _; rw [sz0]; omega) |>.trans c3
  have s1 : w.heap.size + 1 + 1 ≤ w1.heap.size := by have := hb1.size; rw [sz0] at this; exact this
  clear hb1
  go_wp2_with fail
  refine (ahead_n h1 _).mono ?_
  rintro e w2 ⟨rfl, hb2⟩
  have B2 := Lib.hid (B1.out.trans (hb2.mono B1.out.size))
  have F1 := hb2.cell (p := ⟨w.heap.size, 0, none⟩) (by simp; omega) |>.trans E1
  have F2 := hb2.cell (p := ⟨w.heap.size, 1, none⟩) (by simp; omega) |>.trans E2
  have F3 := hb2.cell (p := ⟨w.heap.size + 1, 0, none⟩) (by simp; omega) |>.trans E3
  have F4 := hb2.cell (p := ⟨w.heap.size + 1, 1, none⟩) (by simp; omega) |>.trans E4
  clear hb2
  go_wp2_with fail
  refine (ahead_n h2 _).mono ?_
  rintro e w3 ⟨rfl, hb3⟩
  have B3 := Lib.hid (B2.out.trans (hb3.mono B2.out.size))
  clear hb3 E1 E2 E3 E4 F1 F2 F3 F4 c0 c1 c2 c3 ho h1 h2
  go_wp2_with (go_at_call 13; refine (known_any _).mono ?_; rintro e w' ⟨rfl, hb2⟩)
  go_ret
  exact ⟨rfl, B3.out.trans (hb2.mono B3.out.size)⟩

set_option maxRecDepth 100000 in
set_option maxHeartbeats 4000000 in
theorem walk_good1 (a : Option Addr) (n c : Nat) (xs : List (Int × Int)) (k ka da kb db : Int) (w : World) (hi : HitsIn w a n c xs) (k1 : -9223372036854775808 ≤ k) (k2 : k ≤ 9223372036854775807) (g1 : n ≤ 1500) (ho : ordF ka da kb db = 1) (h1 : aheadB (ka, da) (kb, db) = false) (h2 : aheadB (kb, db) (ka, da) = true) : Goal a n c k ka da kb db w := by
  unfold Goal
  obtain ⟨hl, m0, m1, hsrc, hat⟩ := hi
  have HL := Lib.hid hl
  have S1 := Lib.hid hsrc
  have HAT := Lib.hid hat
  clear hl hsrc hat
  obtain ⟨i0, hi, hz0, hz1, hz2⟩ := info_parts infoHit
  obtain ⟨bb0, c0, c1, c2, c3, sz0⟩ := two_new w ka da kb db
  go_enter Try.func7, Try.ntmps7
  go_wp2_with fail
  refine (order_n ho _).mono ?_
  rintro e w1 ⟨rfl, hb1⟩
  have B1 := Lib.hid (bb0.trans (hb1.mono bb0.size))
  have E1 := hb1.cell (p := ⟨w.heap.size, 0, none⟩) (by show w.heap.size < _; rw [sz0]; omega) |>.trans c0
  have E2 := hb1.cell (p := ⟨w.heap.size, 1, none⟩) (by show w.heap.size < _; rw [sz0]; omega) |>.trans c1
  have E3 := hb1.cell (p := ⟨w.heap.size + 1, 0, none⟩) (by show w.heap.size + 1 < _; rw [sz0]; omega) |>.trans c2
  have E4 := hb1.cell (p := ⟨w.heap.size + 1, 1, none⟩) (by show w.heap.size + 1 < _; rw [sz0]; omega) |>.trans c3
  have s1 : w.heap.size + 1 + 1 ≤ w1.heap.size := by have := hb1.size; rw [sz0] at this; exact this
  clear hb1
  go_wp2_with fail
  refine (ahead_n h1 _).mono ?_
  rintro e w2 ⟨rfl, hb2⟩
  have B2 := Lib.hid (B1.out.trans (hb2.mono B1.out.size))
  have F1 := hb2.cell (p := ⟨w.heap.size, 0, none⟩) (by simp; omega) |>.trans E1
  have F2 := hb2.cell (p := ⟨w.heap.size, 1, none⟩) (by simp; omega) |>.trans E2
  have F3 := hb2.cell (p := ⟨w.heap.size + 1, 0, none⟩) (by simp; omega) |>.trans E3
  have F4 := hb2.cell (p := ⟨w.heap.size + 1, 1, none⟩) (by simp; omega) |>.trans E4
  clear hb2
  go_wp2_with fail
  refine (ahead_n h2 _).mono ?_
  rintro e w3 ⟨rfl, hb3⟩
  have B3 := Lib.hid (B2.out.trans (hb3.mono B2.out.size))
  clear hb3 E1 E2 E3 E4 F1 F2 F3 F4 c0 c1 c2 c3 ho h1 h2
  go_wp2_with (at_builtin; refine wpList_append_src rfl (.tmp 42) (.tmp 43) 38 rfl w3.heap.size 35 i0 (.agg #[.int .u64 0, .int .i64 0]) 2 16 Try.underlying38 hi hz0 hz1 hz2 rfl (by decide) _ 0 [] rfl (World.ownsRow_made w3 #[] 0 (Nat.le_refl _) (by decide) rfl) _ n (hc xs) rfl ?s1 ?s2 ?s3 ?s4 ?s5 ?s6)
  case s1 => exact S1.out.below (B3.out.alloc B3.out.size _)
  case s2 => exact hc_one xs
  case s3 => unfold maxLen; omega
  case s4 => omega
  case s5 => simp
  case s6 =>
    intro v5 w5 hown5 hg5
    have b5 : Below w3.heap.size w3 w5 := ((Below.refl _ _).alloc (Nat.le_refl _) _).grown hg5 (by simp) (by simp [Value.ownBlock])
    have O5 := Lib.hid hown5
    have B5 := Lib.hid b5
    clear hown5 hg5 b5
    go_wp2_with (at_builtin; refine wpList_append_src rfl (.tmp 44) (.tmp 46) 38 rfl w3.heap.size 35 i0 (.agg #[.int .u64 0, .int .i64 0]) 2 16 Try.underlying38 hi hz0 hz1 hz2 rfl (by decide) _ n (hc xs) rfl (O5.out.alloc _) _ 1 [.int .u64 77, .int .i64 0] rfl ?s1 ?s2 ?s3 ?s4 ?s5 ?s6)
    case s1 => exact .inr ⟨_, _, rfl, rfl, fun q u hq => by rcases q with _ | _ | q <;> simp at hq <;> subst hq <;> simp [go_sem]⟩
    case s2 => simp [Value.oneCell']
    case s3 => unfold maxLen; omega
    case s4 => omega
    case s5 => have := B5.out.size; simp; omega
    case s6 =>
      intro v6 w6 hown6 hg6
      have b6 : Below w3.heap.size w3 w6 := (B5.out.alloc B5.out.size _).grown hg6 (by have := B5.out.size; simp; omega) (fun k hk => (O5.out.lt k hk).1)
      obtain ⟨gx, cap, rfl, gx1, gx2, gx3, gx4, gh, gs, g77, g0⟩ := hit_spare hown6 HL.out
      have GH := Lib.hid gh
      have B6 := Lib.hid (B3.out.trans (b6.mono B3.out.size))
      have FF := Lib.hid (first_any n xs w6 (some ⟨gx, 0, none⟩) cap k k1 k2 HL.out gs (by omega))
      have G7 := Lib.hid (And.intro g77 g0)
      clear hown6 hg6 b6 gh gs g77 g0
      go_wp2_with fail
      refine FF.out.mono ?_
      rintro e w7 ⟨v7, rfl, hown7, hb7⟩
      obtain ⟨p7, q7, rfl, u3, u4⟩ := own_shape hown7
      have O7 := Lib.hid hown7
      have B7 := Lib.hid hb7
      have W7 := Lib.hid (B6.out.trans (hb7.mono B6.out.size))
      have RF := Lib.hid (rfirst_any n xs w7 a c k HL.out (S1.out.below W7.out) (by omega))
      clear hown7 hb7 FF
      go_wp2_with fail
      refine RF.out.mono ?_
      rintro e w8 ⟨v8, rfl, hown8, hb8⟩
      have lm : (firstF xs k).length ≤ 9223372036854775807 := by rw [firstF_len]; unfold askN; have := HL.out; omega
      have X1 := rsame_any (.slice p7 (askN n k) q7) v8 _ _ w8 ((hits_of_own O7.out).below hb8) (hits_of_own hown8) lm lm
      rw [sameH_refl] at X1
      have H1 := Lib.hid X1
      have B8 := Lib.hid (B7.out.trans (hb8.mono B7.out.size))
      have O8 := Lib.hid (own_keep O7.out fun g hg => hb8.block g (O7.out.lt g hg).2)
      have ha1 : askN n k ≤ 1500 := by unfold askN; omega
      have FL := Lib.hid (show (firstF xs k).length = askN n k by rw [firstF_len, HL.out])
      clear X1 lm hown8 hb8 RF
      go_wp2_with fail
      refine H1.out.mono ?_
      rintro e w' ⟨rfl, q, rfl⟩
      have O9 := Lib.hid (own_keep (w' := w8.drewN q) O8.out fun g hg => rfl)
      have B9 := Lib.hid (below_drewN B8.out q)
      generalize w8.drewN q = w9 at O9 B9
      generalize askN n k = len at *
      go_wp2_with fail
      go_loopw [12] (fun i wr => ∃ (j : Nat) (news : List Value), j ≤ len ∧ i = .int .i64 j ∧ Hid (wr.ownsRow w6.heap.size 35 2 (.slice p7 len q7) len news ∧ ∀ i, i < len → ∃ a : Int, news[i * 2]? = some (.int .u64 a)) ∧ Hid (Below w6.heap.size w6 wr)) (fun i _ => len - (intOf i).toNat)
      case atStart => exact ⟨0, hc (firstF xs k), Nat.zero_le _, rfl, Lib.hid ⟨O9.out, fun i hi => ⟨_, by rw [Nat.mul_comm]; exact (hc_at _ i (by rw [FL.out]; exact hi)).1⟩⟩, B9⟩
      case round =>
        obtain ⟨j, news, hj, rfl, OL, BL⟩ := hrel
        by_cases hlt : j < len
        · obtain ⟨g, rfl⟩ : ∃ g, p7 = some ⟨g, 0, none⟩ := by
            rcases OL.out.1.2 with ⟨h, _⟩ | ⟨g, _, _, h, _⟩
            · simp at h; omega
            · simp at h; exact ⟨g, h.1⟩
          obtain ⟨a, ha⟩ := OL.out.2 j hlt
          have x1 := OL.out.1.cellAt (j * 2) (by omega)
          rw [ha] at x1
          have fz := OL.out.1.frozenAt (j * 2)
          clear ha
          go_wp2_with fail
          go_roundw
          case rel =>
            refine ⟨j + 1, _, by omega, by go_num, Lib.hid ⟨(OL.out.1.stored (j * 2) _).1, fun i hi => ?_⟩, Lib.hid (BL.out.grown (OL.out.1.stored (j * 2) _).2 BL.out.size (fun k hk => ?_))⟩
            · obtain ⟨b, hb⟩ := OL.out.2 i hi
              rw [List.getElem?_set]
              split
              · exact ⟨_, by rw [if_pos (by have := OL.out.1.1; omega)]⟩
              · exact ⟨b, hb⟩
            · simp at hk
              have := (OL.out.1.lt g rfl).1
              omega
          case measure => simp [intOf]; omega
        · obtain rfl : len = j := by omega
          have lm : xs.length ≤ 9223372036854775807 := by rw [HL.out]; omega
          have X2 := rsame_any (.slice (some ⟨gx, 0, none⟩) n cap) (.slice a n c) xs xs wr (GH.out.below BL.out) (HAT.out.below (B6.out.trans (BL.out.mono B6.out.size))) lm lm
          rw [sameH_refl] at X2
          have H2 := Lib.hid X2
          have y1 := (BL.out.cell (p := ⟨gx, n * 2, none⟩) gx2).trans G7.out.1
          have y2 := (BL.out.cell (p := ⟨gx, n * 2 + 1, none⟩) gx2).trans G7.out.2
          have BW := Lib.hid (B6.out.trans (BL.out.mono B6.out.size))
          clear X2 lm
          go_wp2_with fail
          refine H2.out.mono ?_
          rintro e w' ⟨rfl, q', rfl⟩
          have z1 := (show (wr.drewN q').cell? ⟨gx, n * 2, none⟩ = _ from y1)
          have z2 := (show (wr.drewN q').cell? ⟨gx, n * 2 + 1, none⟩ = _ from y2)
          go_wp2_with (go_at_call 13; refine (known_any _).mono ?_; rintro e w' ⟨rfl, hb2⟩)
          go_ret
          exact ⟨rfl, (below_drewN BW.out _).trans (hb2.mono (by have := BW.out.size; simpa using this))⟩

set_option maxRecDepth 100000 in
set_option maxHeartbeats 4000000 in
theorem walk_bad2 (a : Option Addr) (n c : Nat) (k ka da kb db : Int) (w : World) (m0 : n ≤ c) (m1 : c ≤ 9223372036854775807) (g1 : 1500 < n) (ho : ordF ka da kb db = 0) (h1 : aheadB (ka, da) (kb, db) = false) (h2 : aheadB (kb, db) (ka, da) = false) : Goal a n c k ka da kb db w := by
  unfold Goal
  obtain ⟨bb0, c0, c1, c2, c3, sz0⟩ := two_new w ka da kb db
  go_enter Try.func7, Try.ntmps7
  go_wp2_with fail
  refine (order_n ho _).mono ?_
  rintro e w1 ⟨rfl, hb1⟩
  have B1 := Lib.hid (bb0.trans (hb1.mono bb0.size))
  have E1 := hb1.cell (p := ⟨w.heap.size, 0, none⟩) (by show w.heap.size < _; rw [sz0]; omega) |>.trans c0
  have E2 := hb1.cell (p := ⟨w.heap.size, 1, none⟩) (by show w.heap.size < _; rw [sz0]; omega) |>.trans c1
  have E3 := hb1.cell (p := ⟨w.heap.size + 1, 0, none⟩) (by show w.heap.size + 1 < _; rw [sz0]; omega) |>.trans c2
  have E4 := hb1.cell (p := ⟨w.heap.size + 1, 1, none⟩) (by show w.heap.size + 1 < _; rw [sz0]; omega) |>.trans c3
  have s1 : w.heap.size + 1 + 1 ≤ w1.heap.size := by have := hb1.size; rw [sz0] at this; exact this
  clear hb1
  go_wp2_with fail
  refine (ahead_n h1 _).mono ?_
  rintro e w2 ⟨rfl, hb2⟩
  have B2 := Lib.hid (B1.out.trans (hb2.mono B1.out.size))
  have F1 := hb2.cell (p := ⟨w.heap.size, 0, none⟩) (by simp; omega) |>.trans E1
  have F2 := hb2.cell (p := ⟨w.heap.size, 1, none⟩) (by simp; omega) |>.trans E2
  have F3 := hb2.cell (p := ⟨w.heap.size + 1, 0, none⟩) (by simp; omega) |>.trans E3
  have F4 := hb2.cell (p := ⟨w.heap.size + 1, 1, none⟩) (by simp; omega) |>.trans E4
  clear hb2
  go_wp2_with fail
  refine (ahead_n h2 _).mono ?_
  rintro e w3 ⟨rfl, hb3⟩
  have B3 := Lib.hid (B2.out.trans (hb3.mono B2.out.size))
  clear hb3 E1 E2 E3 E4 F1 F2 F3 F4 c0 c1 c2 c3 ho h1 h2
  go_wp2_with (go_at_call 13; refine (known_any _).mono ?_; rintro e w' ⟨rfl, hb2⟩)
  go_ret
  exact ⟨rfl, B3.out.trans (hb2.mono B3.out.size)⟩

set_option maxRecDepth 100000 in
set_option maxHeartbeats 4000000 in
theorem walk_good2 (a : Option Addr) (n c : Nat) (xs : List (Int × Int)) (k ka da kb db : Int) (w : World) (hi : HitsIn w a n c xs) (k1 : -9223372036854775808 ≤ k) (k2 : k ≤ 9223372036854775807) (g1 : n ≤ 1500) (ho : ordF ka da kb db = 0) (h1 : aheadB (ka, da) (kb, db) = false) (h2 : aheadB (kb, db) (ka, da) = false) : Goal a n c k ka da kb db w := by
  unfold Goal
  obtain ⟨hl, m0, m1, hsrc, hat⟩ := hi
  have HL := Lib.hid hl
  have S1 := Lib.hid hsrc
  have HAT := Lib.hid hat
  clear hl hsrc hat
  obtain ⟨i0, hi, hz0, hz1, hz2⟩ := info_parts infoHit
  obtain ⟨bb0, c0, c1, c2, c3, sz0⟩ := two_new w ka da kb db
  go_enter Try.func7, Try.ntmps7
  go_wp2_with fail
  refine (order_n ho _).mono ?_
  rintro e w1 ⟨rfl, hb1⟩
  have B1 := Lib.hid (bb0.trans (hb1.mono bb0.size))
  have E1 := hb1.cell (p := ⟨w.heap.size, 0, none⟩) (by show w.heap.size < _; rw [sz0]; omega) |>.trans c0
  have E2 := hb1.cell (p := ⟨w.heap.size, 1, none⟩) (by show w.heap.size < _; rw [sz0]; omega) |>.trans c1
  have E3 := hb1.cell (p := ⟨w.heap.size + 1, 0, none⟩) (by show w.heap.size + 1 < _; rw [sz0]; omega) |>.trans c2
  have E4 := hb1.cell (p := ⟨w.heap.size + 1, 1, none⟩) (by show w.heap.size + 1 < _; rw [sz0]; omega) |>.trans c3
  have s1 : w.heap.size + 1 + 1 ≤ w1.heap.size := by have := hb1.size; rw [sz0] at this; exact this
  clear hb1
  go_wp2_with fail
  refine (ahead_n h1 _).mono ?_
  rintro e w2 ⟨rfl, hb2⟩
  have B2 := Lib.hid (B1.out.trans (hb2.mono B1.out.size))
  have F1 := hb2.cell (p := ⟨w.heap.size, 0, none⟩) (by simp; omega) |>.trans E1
  have F2 := hb2.cell (p := ⟨w.heap.size, 1, none⟩) (by simp; omega) |>.trans E2
  have F3 := hb2.cell (p := ⟨w.heap.size + 1, 0, none⟩) (by simp; omega) |>.trans E3
  have F4 := hb2.cell (p := ⟨w.heap.size + 1, 1, none⟩) (by simp; omega) |>.trans E4
  clear hb2
  go_wp2_with fail
  refine (ahead_n h2 _).mono ?_
  rintro e w3 ⟨rfl, hb3⟩
  have B3 := Lib.hid (B2.out.trans (hb3.mono B2.out.size))
  clear hb3 E1 E2 E3 E4 F1 F2 F3 F4 c0 c1 c2 c3 ho h1 h2
  go_wp2_with (at_builtin; refine wpList_append_src rfl (.tmp 42) (.tmp 43) 38 rfl w3.heap.size 35 i0 (.agg #[.int .u64 0, .int .i64 0]) 2 16 Try.underlying38 hi hz0 hz1 hz2 rfl (by decide) _ 0 [] rfl (World.ownsRow_made w3 #[] 0 (Nat.le_refl _) (by decide) rfl) _ n (hc xs) rfl ?s1 ?s2 ?s3 ?s4 ?s5 ?s6)
  case s1 => exact S1.out.below (B3.out.alloc B3.out.size _)
  case s2 => exact hc_one xs
  case s3 => unfold maxLen; omega
  case s4 => omega
  case s5 => simp
  case s6 =>
    intro v5 w5 hown5 hg5
    have b5 : Below w3.heap.size w3 w5 := ((Below.refl _ _).alloc (Nat.le_refl _) _).grown hg5 (by simp) (by simp [Value.ownBlock])
    have O5 := Lib.hid hown5
    have B5 := Lib.hid b5
    clear hown5 hg5 b5
    go_wp2_with (at_builtin; refine wpList_append_src rfl (.tmp 44) (.tmp 46) 38 rfl w3.heap.size 35 i0 (.agg #[.int .u64 0, .int .i64 0]) 2 16 Try.underlying38 hi hz0 hz1 hz2 rfl (by decide) _ n (hc xs) rfl (O5.out.alloc _) _ 1 [.int .u64 77, .int .i64 0] rfl ?s1 ?s2 ?s3 ?s4 ?s5 ?s6)
    case s1 => exact .inr ⟨_, _, rfl, rfl, fun q u hq => by rcases q with _ | _ | q <;> simp at hq <;> subst hq <;> simp [go_sem]⟩
    case s2 => simp [Value.oneCell']
    case s3 => unfold maxLen; omega
    case s4 => omega
    case s5 => have := B5.out.size; simp; omega
    case s6 =>
      intro v6 w6 hown6 hg6
      have b6 : Below w3.heap.size w3 w6 := (B5.out.alloc B5.out.size _).grown hg6 (by have := B5.out.size; simp; omega) (fun k hk => (O5.out.lt k hk).1)
      obtain ⟨gx, cap, rfl, gx1, gx2, gx3, gx4, gh, gs, g77, g0⟩ := hit_spare hown6 HL.out
      have GH := Lib.hid gh
      have B6 := Lib.hid (B3.out.trans (b6.mono B3.out.size))
      have FF := Lib.hid (first_any n xs w6 (some ⟨gx, 0, none⟩) cap k k1 k2 HL.out gs (by omega))
      have G7 := Lib.hid (And.intro g77 g0)
      clear hown6 hg6 b6 gh gs g77 g0
      go_wp2_with fail
      refine FF.out.mono ?_
      rintro e w7 ⟨v7, rfl, hown7, hb7⟩
      obtain ⟨p7, q7, rfl, u3, u4⟩ := own_shape hown7
      have O7 := Lib.hid hown7
      have B7 := Lib.hid hb7
      have W7 := Lib.hid (B6.out.trans (hb7.mono B6.out.size))
      have RF := Lib.hid (rfirst_any n xs w7 a c k HL.out (S1.out.below W7.out) (by omega))
      clear hown7 hb7 FF
      go_wp2_with fail
      refine RF.out.mono ?_
      rintro e w8 ⟨v8, rfl, hown8, hb8⟩
      have lm : (firstF xs k).length ≤ 9223372036854775807 := by rw [firstF_len]; unfold askN; have := HL.out; omega
      have X1 := rsame_any (.slice p7 (askN n k) q7) v8 _ _ w8 ((hits_of_own O7.out).below hb8) (hits_of_own hown8) lm lm
      rw [sameH_refl] at X1
      have H1 := Lib.hid X1
      have B8 := Lib.hid (B7.out.trans (hb8.mono B7.out.size))
      have O8 := Lib.hid (own_keep O7.out fun g hg => hb8.block g (O7.out.lt g hg).2)
      have ha1 : askN n k ≤ 1500 := by unfold askN; omega
      have FL := Lib.hid (show (firstF xs k).length = askN n k by rw [firstF_len, HL.out])
      clear X1 lm hown8 hb8 RF
      go_wp2_with fail
      refine H1.out.mono ?_
      rintro e w' ⟨rfl, q, rfl⟩
      have O9 := Lib.hid (own_keep (w' := w8.drewN q) O8.out fun g hg => rfl)
      have B9 := Lib.hid (below_drewN B8.out q)
      generalize w8.drewN q = w9 at O9 B9
      generalize askN n k = len at *
      go_wp2_with fail
      go_loopw [12] (fun i wr => ∃ (j : Nat) (news : List Value), j ≤ len ∧ i = .int .i64 j ∧ Hid (wr.ownsRow w6.heap.size 35 2 (.slice p7 len q7) len news ∧ ∀ i, i < len → ∃ a : Int, news[i * 2]? = some (.int .u64 a)) ∧ Hid (Below w6.heap.size w6 wr)) (fun i _ => len - (intOf i).toNat)
      case atStart => exact ⟨0, hc (firstF xs k), Nat.zero_le _, rfl, Lib.hid ⟨O9.out, fun i hi => ⟨_, by rw [Nat.mul_comm]; exact (hc_at _ i (by rw [FL.out]; exact hi)).1⟩⟩, B9⟩
      case round =>
        obtain ⟨j, news, hj, rfl, OL, BL⟩ := hrel
        by_cases hlt : j < len
        · obtain ⟨g, rfl⟩ : ∃ g, p7 = some ⟨g, 0, none⟩ := by
            rcases OL.out.1.2 with ⟨h, _⟩ | ⟨g, _, _, h, _⟩
            · simp at h; omega
            · simp at h; exact ⟨g, h.1⟩
          obtain ⟨a, ha⟩ := OL.out.2 j hlt
          have x1 := OL.out.1.cellAt (j * 2) (by omega)
          rw [ha] at x1
          have fz := OL.out.1.frozenAt (j * 2)
          clear ha
          go_wp2_with fail
          go_roundw
          case rel =>
            refine ⟨j + 1, _, by omega, by go_num, Lib.hid ⟨(OL.out.1.stored (j * 2) _).1, fun i hi => ?_⟩, Lib.hid (BL.out.grown (OL.out.1.stored (j * 2) _).2 BL.out.size (fun k hk => ?_))⟩
            · obtain ⟨b, hb⟩ := OL.out.2 i hi
              rw [List.getElem?_set]
              split
              · exact ⟨_, by rw [if_pos (by have := OL.out.1.1; omega)]⟩
              · exact ⟨b, hb⟩
            · simp at hk
              have := (OL.out.1.lt g rfl).1
              omega
          case measure => simp [intOf]; omega
        · obtain rfl : len = j := by omega
          have lm : xs.length ≤ 9223372036854775807 := by rw [HL.out]; omega
          have X2 := rsame_any (.slice (some ⟨gx, 0, none⟩) n cap) (.slice a n c) xs xs wr (GH.out.below BL.out) (HAT.out.below (B6.out.trans (BL.out.mono B6.out.size))) lm lm
          rw [sameH_refl] at X2
          have H2 := Lib.hid X2
          have y1 := (BL.out.cell (p := ⟨gx, n * 2, none⟩) gx2).trans G7.out.1
          have y2 := (BL.out.cell (p := ⟨gx, n * 2 + 1, none⟩) gx2).trans G7.out.2
          have BW := Lib.hid (B6.out.trans (BL.out.mono B6.out.size))
          clear X2 lm
          go_wp2_with fail
          refine H2.out.mono ?_
          rintro e w' ⟨rfl, q', rfl⟩
          have z1 := (show (wr.drewN q').cell? ⟨gx, n * 2, none⟩ = _ from y1)
          have z2 := (show (wr.drewN q').cell? ⟨gx, n * 2 + 1, none⟩ = _ from y2)
          go_wp2_with (go_at_call 13; refine (known_any _).mono ?_; rintro e w' ⟨rfl, hb2⟩)
          go_ret
          exact ⟨rfl, (below_drewN BW.out _).trans (hb2.mono (by have := BW.out.size; simpa using this))⟩

theorem walk (a : Option Addr) (n c : Nat) (xs : List (Int × Int)) (k ka da kb db : Int) (w : World) (hi : HitsIn w a n c xs) (w1 : (Lit.int .i64 k).wf = true) : Goal a n c k ka da kb db w := by
  have ⟨k1, k2⟩ : -9223372036854775808 ≤ k ∧ k ≤ 9223372036854775807 := by simpa [Lit.wf, IntKind.min, IntKind.max, IntKind.signed, IntKind.bits] using w1
  have h : (ordF ka da kb db = -1 ∧ aheadB (ka, da) (kb, db) = true ∧ aheadB (kb, db) (ka, da) = false) ∨ (ordF ka da kb db = 1 ∧ aheadB (ka, da) (kb, db) = false ∧ aheadB (kb, db) (ka, da) = true) ∨ (ordF ka da kb db = 0 ∧ aheadB (ka, da) (kb, db) = false ∧ aheadB (kb, db) (ka, da) = false) := by
    rw [aheadB_lt, aheadB_lt]
    simp only [decide_eq_true_eq, decide_eq_false_iff_not]
    have := ordF_spec ka da kb db
    omega
  by_cases hg : n ≤ 1500
  · rcases h with ⟨x, y, z⟩ | ⟨x, y, z⟩ | ⟨x, y, z⟩
    · exact walk_good0 a n c xs k ka da kb db w hi k1 k2 hg x y z
    · exact walk_good1 a n c xs k ka da kb db w hi k1 k2 hg x y z
    · exact walk_good2 a n c xs k ka da kb db w hi k1 k2 hg x y z
  · rcases h with ⟨x, y, z⟩ | ⟨x, y, z⟩ | ⟨x, y, z⟩
    · exact walk_bad0 a n c k ka da kb db w hi.2.1 hi.2.2.1 (by omega) x y z
    · exact walk_bad1 a n c k ka da kb db w hi.2.1 hi.2.2.1 (by omega) x y z
    · exact walk_bad2 a n c k ka da kb db w hi.2.1 hi.2.2.1 (by omega) x y z

theorem own : ownKnob Try.prog.godebug = none := by kernel_rfl
theorem laidOut : laidOutB Try.prog = true := by kernel_rfl

set_option maxRecDepth 100000 in
theorem contract (H : Type) (enc : TypeId × Value → H) (W : World) (base : Nat) (args : Array Value) (ds gs : List (DataW H)) (before : List MemPlace)
    (hval0 : ∀ (j : Nat) t v, Try.f7.params[j]? = some t → args[j]? = some v → Value.okWide Try.prog W .any base t v)
    (hW : DataW.Whole enc Try.prog Try.f7.params.toList Rows.vectFirstSpec.vars false W args.toList ds gs before)
    (hsz0 : (DataW.weightsEach Try.prog (Try.f7.params.toList ++ Rows.vectFirstSpec.plain.varTypes Try.prog) (ds ++ gs)).all (· ≤ reachBytes) = true) :
    Calls Try.prog 7 args W fun e W' => ∃ v, e = .returned v ∧ Rows.vectFirstSpec.post enc Try.prog Try.f7 false true false false W args v W' := by
  have hval : ∀ (j : Nat) t v, Try.f7.params[j]? = some t → args[j]? = some v → Value.okWide Try.prog W .any base t v := hval0
  have hW' := hW
  obtain ⟨p, q, hA0, hV, rfl, hfz, hnd⟩ := hW
  have hA : DataW.TrodAll enc Try.prog W 0 (fun _ => true) true Try.f7.params.toList args.toList ds p := hA0
  have hsz : (DataW.weightsEach Try.prog (Try.f7.params.toList ++ Rows.vectFirstSpec.plain.varTypes Try.prog) (ds ++ gs)).all (· ≤ reachBytes) = true := hsz0
  rw [Try.params7] at hA hval hsz
  obtain ⟨v0, vs0, d0, ds0, p0, q0, hargs, rfl, rfl, h0, r0'⟩ := trodAll_cons hA
  obtain ⟨v1, vs1, d1, ds1, p1, q1, rfl, rfl, rfl, h1, r1'⟩ := trodAll_cons r0'
  obtain ⟨v2, vs2, d2, ds2, p2, q2, rfl, rfl, rfl, h2, r2'⟩ := trodAll_cons r1'
  obtain ⟨v3, vs3, d3, ds3, p3, q3, rfl, rfl, rfl, h3, r3'⟩ := trodAll_cons r2'
  obtain ⟨rfl, rfl, rfl⟩ := trodAll_nil r3'
  obtain rfl : args = #[v0, v1, v2, v3] := by cases args; simp_all
  obtain ⟨rfl, rfl⟩ := trodVars_none hV
  have k0 := h0
  have lt0 : ∀ x ∈ p0, x.block < W.heap.size := by obtain ⟨m, hm⟩ := k0; exact DataW.trod_lt m _ _ _ hm
  have k1 := h1
  have lt1 : ∀ x ∈ p1, x.block < W.heap.size := by obtain ⟨m, hm⟩ := k1; exact DataW.trod_lt m _ _ _ hm
  have k2 := h2
  have lt2 : ∀ x ∈ p2, x.block < W.heap.size := by obtain ⟨m, hm⟩ := k2; exact DataW.trod_lt m _ _ _ hm
  have k3 := h3
  have lt3 : ∀ x ∈ p3, x.block < W.heap.size := by obtain ⟨m, hm⟩ := k3; exact DataW.trod_lt m _ _ _ hm
  obtain ⟨a0, n0, c0, rfl⟩ := okWide_slice Try.underlying38 (hval 0 38 v0 rfl rfl)
  obtain ⟨z0, w0⟩ : ∃ zs, HitsIn W a0 n0 c0 zs := by
    obtain ⟨fuel, hf⟩ := h0
    simp [Value.cells] at hf
    exact hits_in hf
  obtain ⟨x1, rfl, hd1, hp1, w1⟩ := open_int Try.underlying3 (hval 1 3 v1 rfl rfl) h1
  obtain ⟨x2, y2, rfl⟩ := hit_shape (hval 2 35 v2 rfl rfl) h2
  obtain ⟨x3, y3, rfl⟩ := hit_shape (hval 3 35 v3 rfl rfl) h3
  clear hA0 hval0 hsz0
  refine (walk a0 n0 c0 z0 x1 x2 y2 x3 y3 W w0 w1).mono fun e W' ⟨he, bel⟩ => ?_
  subst he
  exact ⟨_, rfl, _, _, _, [], _, [], hW', trodAll_mk1 (shut_bool Try.underlying4 _), (trodAll_cons_mk (Below.trod laidOut (by kernel_rfl) (of_decide_eq_true (by kernel_rfl)) k0 bel lt0) (trodAll_cons_mk (Below.trod laidOut (by kernel_rfl) (of_decide_eq_true (by kernel_rfl)) k1 bel lt1) (trodAll_cons_mk (Below.trod laidOut (by kernel_rfl) (of_decide_eq_true (by kernel_rfl)) k2 bel lt2) (trodAll_cons_mk (Below.trod laidOut (by kernel_rfl) (of_decide_eq_true (by kernel_rfl)) k3 bel lt3) trodAll_mk0)))), rfl, bel.frame _, fun h => by cases h⟩

set_option maxRecDepth 100000 in
theorem lifted (os : Os) (started : os.Started) (H : Type) (enc : TypeId × Value → H) :
    ReturnsInHanded {} Try.checked os 7 .any (Rows.vectFirstSpec.pre6 enc Try.prog Try.f7 Rows.vectFirstRow.domain false) (Rows.vectFirstSpec.post enc Try.prog Try.f7 false true false false) := by
  refine returnsInHanded_of_change_sized (C := Try.checked) own started (by kernel_rfl) Try.func7
    (ChangeSpec.witness6 (enc := enc) (C := Try.checked) false ⟨#[], #[.slice none 0 0, .int .i64 0, .agg #[.int .u64 0, .int .i64 0], .agg #[.int .u64 0, .int .i64 0]], []⟩ 8 (by kernel_rfl) (by kernel_rfl) (by kernel_rfl) (by kernel_rfl)) ?_
  intro W base args ds gs before hval hW _ hsz _
  exact contract H enc W base args ds gs before hval hW hsz

theorem over : Rows.vectFirstRow.holds Try.pinned (OpenSpec.ofChange Rows.vectFirstSpec) :=
  OpenClaim.holds_of_wide 7 Try.f7 rfl rfl rfl rfl rfl rfl rfl ⟨rfl, rfl, rfl, rfl, rfl⟩ rfl rfl rfl rfl rfl (by kernel_rfl) Try.func7 (by kernel_rfl)
    (of_decide_eq_true (by kernel_rfl)) (by unfold Func.isWrapper; first | (rw [if_pos (by decide +kernel)]; kernel_rfl) | (rw [if_neg (by decide +kernel)]; exact ⟨rfl, rfl⟩))
    (fun os started H enc _ => lifted os started H enc)

theorem proved : Rows.VectFirstSaid := over
#print axioms proved
end Go.Proofs.Yteidlneohlllmaa.vectFirst
