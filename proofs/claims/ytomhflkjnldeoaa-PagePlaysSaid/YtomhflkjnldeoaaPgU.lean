/- PagePlays: the walk. -/
import Derived.Test.YtomhflkjnldeoaaPgT
import Derived.Deep.CutRange
namespace Go.Proofs.Ytomhflkjnldeoaa.pagePlays
open Go.RowKit Go.ChangeShapes Go.WideShapes Go.ChangeAt
open Go.Proofs.Ytomhflkjnldeoaa.dk (Dk Dev newD new_no new_dev errOff DoneTo)
set_option linter.unusedVariables false

def Goal (s b : Int) (a : Option Addr) (n c : Nat) (w : World) : Prop := Calls Try.prog 5 #[.int .i64 s, .int .i64 b, .slice a n c] w fun e w' => e = .returned (.bool true) ∧ Below w.heap.size w w'
theorem PgsAt.own' {B : Nat} {w : World} {v : Value} {n : Nat} {l : List Pg} (h : PgsAt B w v l) (hl : l.length = n) : w.ownsRow B 25 2 v n (cellsP l) := hl ▸ h.own
theorem PgsAt.some {B : Nat} {w : World} {g c n : Nat} {l : List Pg} (h : PgsAt B w (.slice (some ⟨g, 0, none⟩) n c) l) (hl : l.length = n) {j : Nat} (hj : j < n * 2) : ∃ z, w.cell? ⟨g, j, none⟩ = some z :=
  ⟨(cellsP l)[j]'(by rw [cellsP_len, hl]; exact hj), by rw [(PgsAt.own' h hl).cellAt j hj, List.getElem?_eq_getElem (by rw [cellsP_len, hl]; exact hj)]⟩
/-- Between two rounds. -/
structure PInv (w wr : World) (p : Nat) (F : List Nat) (s b : Int) (v : Value) (B : Nat) (D : Dk) (l : List Pg) : Prop where
  dev : Dev w wr p D F
  calm : dk.Calm D
  sec : D.sectors = s
  most : D.most = s
  pgs : PgsAt B wr v l
  len : l.length = 15
  told : Told D s b l
theorem PInv.none {w wr w' : World} {p : Nat} {F : List Nat} {s b : Int} {v : Value} {B : Nat} {D : Dk} {l : List Pg} (h : PInv w wr p F s b v B D l) (k : Only [] wr w') : PInv w w' p F s b v B D l :=
  ⟨h.dev.none k, h.calm, h.sec, h.most, h.pgs.only k (by simp), h.len, h.told⟩
theorem inv_put {w wc w9 : World} {p : Nat} {F : List Nat} {s b : Int} {g9 c9 B : Nat} {D D' : Dk} {l : List Pg} {m : Nat} {x : Pg} (h : PInv w wc p F s b (.slice (some ⟨g9, 0, none⟩) 15 c9) B D l) (hm : m < 15) (hd : Dev w w9 p D' F) (k : Only F wc w9) (hD : D' = pageW D (b + 4 * (m : Int)) (pageB x.n x.xs) 4) (hx : Held B wc x) (hne : x.b ≠ g9) (hF : ∀ y ∈ F, y < B) (hB : w.heap.size ≤ B) (h0 : 0 ≤ x.n) (h1 : x.n < 18446744073709551616) :
    PInv w ((w9.setCell ⟨g9, m * 2, none⟩ (.int .u64 x.n)).setCell ⟨g9, m * 2 + 1, none⟩ (.slice (some ⟨x.b, 0, none⟩) 500 500)).drew p F s b (.slice (some ⟨g9, 0, none⟩) 15 c9) B D' (l.set m x) := by
  have p9 := h.pgs.only k hF
  have o9 := PgsAt.own' p9 h.len
  have hg := (o9.lt g9 rfl).1
  have k1 : Only [g9] w9 ((w9.setCell ⟨g9, m * 2, none⟩ (.int .u64 x.n)).setCell ⟨g9, m * 2 + 1, none⟩ (.slice (some ⟨x.b, 0, none⟩) 500 500)).drew := (((Only.refl [g9] w9).setCell (.inl (by simp)) _).setCell (.inl (by simp)) _).drew
  have hF9 : g9 ∉ F := fun hf => by have := hF _ hf; omega
  have x9 : Held B w9 x := hx.only k fun hf => by have := hF _ hf; have := hx.ge; omega
  have st := ((o9.stored (m * 2) (.int .u64 x.n)).1.stored (m * 2 + 1) (.slice (some ⟨x.b, 0, none⟩) 500 500)).1
  rw [cellsP_set] at st
  refine ⟨hd.only k1 (by simpa using hF9) (fun y hy => by simp at hy; omega), hD ▸ pageW_calm h.calm _ _ 4, by rw [hD, pageW_sectors]; exact h.sec, by rw [hD, pageW_most]; exact h.most, ⟨?_, fun q hq => ?_⟩, by rw [List.length_set]; exact h.len, by rw [hD]; exact h.told.write h.calm (by rw [h.len]; exact hm) h0 h1 hx.len hx.by_⟩
  · rw [List.length_set, h.len]
    exact own_keep st fun _ _ => rfl
  · rcases List.mem_or_eq_of_mem_set hq with hq | rfl
    · have := p9.held q hq
      exact ⟨this.1.only k1 (by simp only [List.mem_singleton]; exact fun e => this.2 (by rw [e]; rfl)), this.2⟩
    · exact ⟨x9.only k1 (by simpa using hne), fun e => hne (by simp [Value.ownBlock] at e; exact e.symm)⟩
theorem write_empty {W w : World} {p : Nat} {D : Dk} {F : List Nat} (h : Dev W w p D F) (hs1 : 1 ≤ D.sectors) :
    Calls Try.prog 18 #[.pointer (some ⟨p, 0, none⟩), .int .i64 0, .int .i64 0, .agg #[.int .u64 0, .slice none 0 0]] w (Said 2 w) := by
  by_cases hl : Lies D.sectors 0 0
  · exact write_short h 0 0 0 none 0 0 hl (by omega)
  · exact write_no h 0 0 0 none 0 0 hs1 (by omega) hl
set_option maxRecDepth 100000 in
theorem held_body {B base : Nat} {w : World} {g : Nat} {N n : Int} (h : w.ownsRow base 5 1 (.slice (some ⟨g, 0, none⟩) 500 500) 500 ((bodyL n).map (Value.int .u8))) (hB : B ≤ g) : Held B w ⟨N, g, bodyL n⟩ :=
  ⟨fun j v hj => by
    have hlt : j < 500 := by have := (List.getElem?_eq_some_iff.1 hj).1; rw [List.length_map, bodyL_len] at this; exact this
    rw [Nat.zero_add, h.cellAt j (by omega)]; exact hj, bodyL_len n, bodyL_by n, hB⟩
set_option maxRecDepth 100000 in
set_option maxHeartbeats 4000000 in
theorem no_dev (s b : Int) (a : Option Addr) (n c : Nat) (w : World) (h : s < 1 ∨ 65536 < s) : Goal s b a n c w := by
  unfold Goal
  have NN := Lib.hid (new_no s s w (by omega))
  by_cases h6 : 60 < s
  · have d1 : decide (60 < s) = true := decide_eq_true h6
    clear h
    go_enter Try.func5, Try.ntmps5
    go_wp2_with fail
    refine NN.out.mono ?_
    rintro _ w1 ⟨rfl, rfl⟩
    go_wp2_with fail
    refine (known_any _).mono ?_
    rintro _ w' ⟨rfl, hb⟩
    go_wp2_with fail
    go_ret
    exact ⟨rfl, hb⟩
  · have d1 : decide (60 < s) = false := decide_eq_false h6
    clear h
    go_enter Try.func5, Try.ntmps5
    go_wp2_with fail
    refine NN.out.mono ?_
    rintro _ w1 ⟨rfl, rfl⟩
    go_wp2_with fail
    refine (known_any _).mono ?_
    rintro _ w' ⟨rfl, hb⟩
    go_wp2_with fail
    go_ret
    exact ⟨rfl, hb⟩
set_option maxRecDepth 100000 in
set_option maxHeartbeats 4000000 in
theorem too_much (s b : Int) (a : Option Addr) (n c : Nat) (w : World) (h1 : 1 ≤ s) (h2 : s ≤ 65536) (h : 60 < s ∨ 60 < n) (hn : n ≤ 9223372036854775807) : Goal s b a n c w := by
  unfold Goal
  have NN := Lib.hid (new_dev (Below.refl w.heap.size w) s s h1 h2 (by omega) (by omega))
  by_cases h6 : 60 < s
  · have d1 : decide (60 < s) = true := decide_eq_true h6
    clear h h1 h2
    go_enter Try.func5, Try.ntmps5
    go_wp2_with fail
    refine NN.out.mono ?_
    rintro _ w1 ⟨p, F, rfl, hd, k1, hF⟩
    have B1 := Lib.hid hd.bl
    clear hd k1 hF
    go_wp2_with fail
    refine (known_any _).mono ?_
    rintro _ w' ⟨rfl, hb⟩
    have B2 := Lib.hid (B1.out.trans (hb.mono B1.out.size))
    go_wp2_with fail
    go_ret
    exact ⟨rfl, B2.out⟩
  · have d1 : decide (60 < s) = false := decide_eq_false h6
    have d2 : decide ((60 : Int) < (n : Int)) = true := decide_eq_true (by omega)
    clear h h1 h2
    go_enter Try.func5, Try.ntmps5
    go_wp2_with fail
    refine NN.out.mono ?_
    rintro _ w1 ⟨p, F, rfl, hd, k1, hF⟩
    have B1 := Lib.hid hd.bl
    clear hd k1 hF
    go_wp2_with fail
    refine (known_any _).mono ?_
    rintro _ w' ⟨rfl, hb⟩
    have B2 := Lib.hid (B1.out.trans (hb.mono B1.out.size))
    go_wp2_with fail
    go_ret
    exact ⟨rfl, B2.out⟩
set_option maxRecDepth 100000 in
set_option maxHeartbeats 8000000 in
theorem main_ (s b : Int) (a : Option Addr) (n c : Nat) (os : List PutV) (w : World) (ho : PutsIn w a n c os) (h1 : 1 ≤ s) (h2 : s ≤ 60) (hn : n ≤ 60) (hb : -9223372036854775808 ≤ b ∧ b ≤ 9223372036854775807) : Goal s b a n c w := by
  unfold Goal
  have NN := Lib.hid (new_dev (Below.refl w.heap.size w) s s h1 (by omega) (by omega) (by omega))
  have d1 : decide (60 < s) = false := decide_eq_false (by omega)
  have d2 : decide ((60 : Int) < (n : Int)) = false := decide_eq_false (by omega)
  have H := Lib.hid ho
  have S := Lib.hid (show 1 ≤ s ∧ s ≤ 60 from ⟨h1, h2⟩)
  have NL := Lib.hid hn
  have HB := Lib.hid hb
  clear ho h1 h2 hb hn
  go_enter Try.func5, Try.ntmps5
  go_wp2_with fail
  refine NN.out.mono ?_
  rintro _ w1 ⟨p, F, rfl, hd, k1, hF⟩
  have D1 := Lib.hid hd
  clear hd k1 hF NN
  go_wp2_with fail
  refine (blanks_any 15 (by omega) w1).mono ?_
  rintro _ w2 ⟨v, l, rfl, hl, hp, hz, k2⟩
  have FB : Hid (∀ x ∈ F, x < w1.heap.size) := Lib.hid D1.out.lt
  have WB : Hid (w.heap.size ≤ w1.heap.size) := Lib.hid D1.out.bl.size
  have F0 : Hid (∃ D l, PInv w w2 p F s b v w1.heap.size D l) := Lib.hid ⟨_, l, D1.out.none k2, dk.calm_new s s, rfl, rfl, hp, hl, told_new s b l S.out.2 hl hz⟩
  have VO : Hid (∃ g9 c9, v = .slice (some ⟨g9, 0, none⟩) 15 c9 ∧ 15 ≤ c9) := Lib.hid (by
    have := hp.own
    rw [hl] at this
    obtain ⟨q, c9, rfl, h1, h2⟩ := own_shape this
    rcases this.2 with ⟨hv, h0⟩ | ⟨g, cap, cur, hv, _⟩
    · omega
    · simp only [Value.slice.injEq] at hv
      obtain ⟨rfl, _, rfl⟩ := hv
      exact ⟨g, c9, rfl, h1⟩)
  obtain ⟨g9, c9, rfl, hc9⟩ := VO.out
  have HC9 := Lib.hid hc9
  generalize w1.heap.size = B at *
  clear hl hp hz k2 D1 VO hc9
  go_wp2_with fail
  go_loopw [10] (fun u wr => ∃ i : Nat, i ≤ n ∧ u = .int .i64 i ∧ Hid (∃ D l, PInv w wr p F s b (.slice (some ⟨g9, 0, none⟩) 15 c9) B D l)) (fun u _ => n - (intOf u).toNat)
  case atStart => exact ⟨0, by omega, rfl, F0⟩
  case round =>
    clear F0
    obtain ⟨i, hi, rfl, HF⟩ := hrel
    have hi0 : (0 : Int) ≤ (i : Int) := Int.natCast_nonneg _
    by_cases hlt : i < n
    · have d1 : decide ((i : Int) < (n : Int)) = true := decide_eq_true (by omega)
      have hilt : (i : Int) < (n : Int) := by omega
      have HLT := Lib.hid hlt
      have w1e : IntKind.i64.wrap ((i : Int) + 1) = (i : Int) + 1 := IntWalk.i64_in _ (by have := NL.out; omega)
      obtain ⟨D, l, HI⟩ := HF.out
      obtain ⟨ho1, ho2, ho3⟩ := H.out
      rcases ho3 with h0 | ⟨bb, off, rfl, hput⟩
      · omega
      obtain ⟨x, hx⟩ : ∃ x, os[i]? = some x := ⟨_, List.getElem?_eq_getElem (by omega)⟩
      have px := hput i x hx
      have L0 : wr.cell? ⟨bb, off + i * 4, none⟩ = some (.int .i64 x.n) := (HI.dev.bl.cell (World.block_lt_of_cell? w _ px.c0)).trans px.c0
      have L1 : wr.cell? ⟨bb, off + i * 4 + 1, none⟩ = some (.int .i64 x.fill) := (HI.dev.bl.cell (World.block_lt_of_cell? w _ px.c1)).trans px.c1
      have L2 : wr.cell? ⟨bb, off + i * 4 + 2, none⟩ = some (.int .u64 x.lsn) := (HI.dev.bl.cell (World.block_lt_of_cell? w _ px.c2)).trans px.c2
      have BL : Hid (bb < wr.heap.size) := Lib.hid (World.block_lt_of_cell? wr _ L0)
      have PX := Lib.hid px
      have BNF : Hid (bb ∉ F) := Lib.hid fun hf => by
        have h1 := HI.dev.ge _ hf
        have h2 : bb < w.heap.size := World.block_lt_of_cell? w _ px.c0
        omega
      have HI' := Lib.hid HI
      clear ho1 ho2 hput hx px HI HF
      go_upto_region 8 with fail
      go_cut [11] from 35 to 82 (fun s11 wc => ∃ q g : Nat, s11 = .pointer (some ⟨q, 0, none⟩) ∧ Hid (Row wc q #[.int .u64 x.lsn, .slice (some ⟨g, 0, none⟩) 500 500] 25) ∧ Hid (Held wr.heap.size wc ⟨x.lsn, g, bodyL x.fill⟩) ∧ Hid (Only [] wr wc) ∧ Hid (wr.heap.size ≤ q))
      case first =>
        have LL : Hid (∀ y, Only [] wr y → y.cell? ⟨bb, off + i * 4 + 1, none⟩ = some (.int .i64 x.fill) ∧ y.cell? ⟨bb, off + i * 4 + 2, none⟩ = some (.int .u64 x.lsn)) := Lib.hid fun y k => ⟨(k.cell BL.out (by simp)).trans L1, (k.cell BL.out (by simp)).trans L2⟩
        have BO := Lib.hid fun y => body_any x.fill y
        have bl : bb < wr.heap.size := BL.out
        have RA : Hid (Row (wr.alloc (.cells #[.int .u64 0, .slice none 0 0] 25)).drew wr.heap.size #[.int .u64 0, .slice none 0 0] 25) := Lib.hid (Row.made wr _ _)
        go_region_with (first
          | (go_at_call 17; refine (BO.out wr.drew).mono ?_; rintro _ w6 ⟨rfl, ho6, k6, hs6⟩; have O6 := Lib.hid ho6; have K6 : Hid (Only [] wr w6) := Lib.hid ((Only.refl [] wr).drew.and k6); have L6 := (LL.out w6 K6.out).2; have b6 : bb < w6.heap.size := Nat.lt_of_lt_of_le BL.out K6.out.size; have S6 := Lib.hid hs6; clear ho6 k6 hs6)
          | (go_at_call 17; refine (BO.out (wr.alloc (.cells #[.int .u64 0, .slice none 0 0] 25)).drew).mono ?_; rintro _ w6 ⟨rfl, ho6, k6, hs6⟩; have O6 := Lib.hid ho6; have K6 : Hid (Only [] wr w6) := Lib.hid (((Only.refl [] wr).alloc _).drew.and k6); have L6 := (LL.out w6 K6.out).2; have b6 : bb < w6.heap.size := Nat.lt_of_lt_of_le BL.out K6.out.size; have RB := Lib.hid (RA.out.only k6 (by simp)); have f0 := RB.out.free 0; have f1 := RB.out.free 1; have r0 : w6.cell? ⟨wr.heap.size, 0, none⟩ = some (.int .u64 0) := RB.out.cell 0; have r1 : w6.cell? ⟨wr.heap.size, 1, none⟩ = some (.slice none 0 0) := RB.out.cell 1; clear ho6 k6 hs6))
        all_goals (try go_wp2_with fail)
        all_goals go_meet
        all_goals (first
          | exact ⟨w6.heap.size, wr.heap.size, rfl, Lib.hid (Row.made w6 _ _), Lib.hid ((held_body O6.out (Nat.le_refl _)).only ((Only.refl [] w6).alloc _) (by simp)), Lib.hid (K6.out.alloc _), Lib.hid K6.out.size⟩
          | exact ⟨wr.heap.size, wr.heap.size + 1, rfl, Lib.hid (stored_row RB.out), Lib.hid ((held_body (by simpa [go_sem] using O6.out) (Nat.le_succ _)).only (((Only.refl [wr.heap.size] w6).setCell (.inl (by simp)) _).setCell (.inl (by simp)) _) (by simp)), Lib.hid ((K6.out.setCell (.inr (Nat.le_refl _)) _).setCell (.inr (Nat.le_refl _)) _), Lib.hid (Nat.le_refl _)⟩)
      case rest =>
        obtain ⟨q, g, rfl, RP, HH, KC, QQ⟩ := hcut
        have HC := Lib.hid (HI'.out.none KC.out)
        have BR : Hid (B ≤ wr.heap.size ∧ g ≠ g9) := Lib.hid (by have := HI'.out.pgs.own.lt g9 rfl; have : wr.heap.size ≤ g := HH.out.ge; omega)
        have QF : Hid (q ∉ F) := Lib.hid fun hf => by have := HI'.out.dev.lt _ hf; have := QQ.out; omega
        have LN : Hid (∀ G y, Only G wc y → bb ∉ G → y.cell? ⟨bb, off + i * 4, none⟩ = some (.int .i64 x.n)) := Lib.hid fun G y k hG => (k.cell (Nat.lt_of_lt_of_le BL.out KC.out.size) hG).trans ((KC.out.cell BL.out (by simp)).trans L0)
        have l0 := LN.out [] wc (Only.refl _ _) (by simp)
        clear L0 L1 L2 HI'
        by_cases hL : Lies s b x.n
        · obtain ⟨m, hm⟩ : ∃ m : Nat, x.n = (m : Int) := ⟨x.n.toNat, by have := hL.2.1; omega⟩
          have M15 : Hid (m < 15) := Lib.hid (by have := S.out; obtain ⟨g1, g2, g3, g4⟩ := hL; omega)
          have HL' := Lib.hid hL
          rw [hm] at l0 HL'
          rw [hm] at LN
          have HX := Lib.hid PX.out.w2
          have T := Lib.hid fun y (k : Only [] wc y) => (write_page ((HC.out.none k).dev) b (m : Int) x.lsn (some ⟨g, 0, none⟩) 500 (bodyL x.fill) (by rw [HC.out.sec]; exact HL'.out) (by rw [HC.out.most, HC.out.sec]) HX.out.1 HX.out.2 (bodyL_len _) ((HH.out.only k (by simp)).ints) (bodyL_by _) : Calls _ _ _ y _)
          have hon : errOff (pageW D (b + 4 * (m : Int)) (pageB x.lsn (bodyL x.fill)) 4).off = 0 := by rw [(pageW_calm HC.out.calm _ _ 4).off]; rfl
          have c0 : wc.cell? ⟨q, 0, none⟩ = some (.int .u64 x.lsn) := RP.out.cell 0
          have c1 : wc.cell? ⟨q, 1, none⟩ = some (.slice (some ⟨g, 0, none⟩) 500 500) := RP.out.cell 1
          rw [hon] at T
          clear hL hm hon
          go_wp2_with fail
          go_region_with (first
            | (go_at_call 18; refine (T.out wc.drew ((Only.refl [] wc).drew)).mono ?_; rintro _ w8 ⟨rfl, hd8, k8⟩; have D8 := Lib.hid hd8; have K8 : Hid (Only F wc w8) := Lib.hid (((Only.refl F wc).drew).and k8); have l8 := LN.out F w8 K8.out BNF.out; clear hd8 k8))
          all_goals
            clear c0 c1
            go_wp2_with fail
            refine (lies_yes HL'.out (by have := S.out; omega) w8).mono ?_
            rintro _ w9 ⟨rfl, hw9⟩
            subst hw9
            go_wp2_with fail
            have R9 := Lib.hid (RP.out.only K8.out QF.out)
            have c0 : w9.cell? ⟨q, 0, none⟩ = some (.int .u64 x.lsn) := R9.out.cell 0
            have c1 : w9.cell? ⟨q, 1, none⟩ = some (.slice (some ⟨g, 0, none⟩) 500 500) := R9.out.cell 1
            have P9 := Lib.hid (HC.out.pgs.only K8.out FB.out)
            have f0 := (PgsAt.own' P9.out HC.out.len).frozenAt (m * 2)
            have f1 := (PgsAt.own' P9.out HC.out.len).frozenAt (m * 2 + 1)
            obtain ⟨z0, hz0⟩ : ∃ z, w9.cell? ⟨g9, m * 2, none⟩ = some z := PgsAt.some P9.out HC.out.len (by have := M15.out; omega)
            obtain ⟨z1, hz1⟩ : ∃ z, w9.cell? ⟨g9, m * 2 + 1, none⟩ = some z := PgsAt.some P9.out HC.out.len (by have := M15.out; omega)
            have m15 : (m : Int) < 15 := by have := M15.out; omega
            have m0 : (0 : Int) ≤ (m : Int) := Int.natCast_nonneg _
            have NEW := Lib.hid fun (D' : Dk) (hd : Dev w w9 p D' F) hD => inv_put HC.out (x := ⟨x.lsn, g, bodyL x.fill⟩) M15.out hd K8.out hD (HH.out.raise BR.out.1) BR.out.2 FB.out WB.out HX.out.1 HX.out.2
            go_region_with fail
            all_goals
              go_wp2_with fail
              go_roundw
              case rel => exact ⟨i + 1, HLT.out, by first | rfl | go_num, Lib.hid ⟨_, _, NEW.out _ D8.out rfl⟩⟩
              case measure =>
                have := HLT.out
                simp [intOf]
                omega
        · have K := Lib.hid fun y (k : Only [] wc y) => (write_no ((HC.out.none k).dev) b x.n x.lsn (some ⟨g, 0, none⟩) 500 500 (by rw [HC.out.sec]; exact S.out.1) HB.out (by rw [HC.out.sec]; exact hL) : Calls _ _ _ y _)
          have c0 : wc.cell? ⟨q, 0, none⟩ = some (.int .u64 x.lsn) := RP.out.cell 0
          have c1 : wc.cell? ⟨q, 1, none⟩ = some (.slice (some ⟨g, 0, none⟩) 500 500) := RP.out.cell 1
          go_wp2_with fail
          go_region_with (first
            | (go_at_call 18; refine (K.out wc.drew ((Only.refl [] wc).drew)).mono ?_; rintro _ w8 ⟨rfl, k8⟩; have I8 := Lib.hid (HC.out.none ((Only.refl [] wc).drew.and k8)); have l8 := LN.out [] w8 ((Only.refl [] wc).drew.and k8) (by simp); clear k8))
          all_goals
            clear c0 c1
            go_wp2_with fail
            refine (lies_no hL (by have := S.out; omega) (by have := S.out; omega) w8).mono ?_
            rintro _ w9 ⟨rfl, hw9⟩
            subst hw9
            go_wp2_with fail
            go_roundw
            case rel => exact ⟨i + 1, HLT.out, by first | rfl | go_num, Lib.hid ⟨D, l, I8.out⟩⟩
            case measure =>
              have := HLT.out
              simp [intOf]
              omega
    · have d1 : decide ((i : Int) < (n : Int)) = false := decide_eq_false (by omega)
      obtain ⟨D, l, HI⟩ := HF.out
      have HJ := Lib.hid HI
      have off : Hid (D.off = false) := Lib.hid HI.calm.off
      clear HI HF H
      go_wp2_with fail
      go_loopw [13] (fun u wr => ∃ j : Int, -1 ≤ j ∧ j ≤ 17 ∧ u = .int .i64 j ∧ Hid (PInv w wr p F s b (.slice (some ⟨g9, 0, none⟩) 15 c9) B D l)) (fun u _ => (17 - intOf u).toNat)
      case atStart => exact ⟨-1, by omega, by omega, rfl, HJ⟩
      case round =>
        clear HJ
        obtain ⟨j, hj0, hj1, rfl, HI⟩ := hrel
        have w1e : IntKind.i64.wrap (j + 1) = j + 1 := IntWalk.i64_in _ (by omega)
        by_cases hj : j < 17
        · have d3 : decide (j < 17) = true := decide_eq_true hj
          have HJ0 := Lib.hid hj0
          have HJT := Lib.hid hj
          by_cases hL : Lies s b j
          · obtain ⟨m, rfl⟩ : ∃ m : Nat, j = (m : Int) := ⟨j.toNat, by have := hL.2.1; omega⟩
            have M15 : Hid (m < 15) := Lib.hid (by have := S.out; obtain ⟨g1, g2, g3, g4⟩ := hL; omega)
            obtain ⟨x, hx, t1, t2, t3⟩ := HI.out.told m hL
            obtain ⟨hh, hne⟩ := HI.out.pgs.held x (List.mem_of_getElem? hx)
            have RK := Lib.hid (read_page HI.out.dev b (m : Int) (by rw [HI.out.sec]; exact hL) off.out)
            have RP : Hid (∀ e w', ReadPost w p F D (b + 4 * (m : Int)) wr e w' → ∃ v, e = .returned (.tuple #[.agg #[.int .u64 x.n, v], .int .i64 0]) ∧ w'.ownsRow wr.heap.size 5 1 v 500 (x.xs.map (Value.int .u8)) ∧ Only [] wr w') := Lib.hid fun e w' h => by
              obtain ⟨v, h1, h2, h3, h4⟩ := h
              rw [t1, t2] at h1
              rw [t3, hh.len] at h2
              exact ⟨v, h1, h2, h4⟩
            have CA := cellsP_at l m x hx
            have GA : Hid (wr.cell? ⟨g9, m * 2, none⟩ = some (.int .u64 x.n) ∧ wr.cell? ⟨g9, m * 2 + 1, none⟩ = some (.slice (some ⟨x.b, 0, none⟩) 500 500)) := Lib.hid (by
              have o := PgsAt.own' HI.out.pgs HI.out.len
              exact ⟨(o.cellAt (m * 2) (by have := M15.out; omega)).trans CA.1, (o.cellAt (m * 2 + 1) (by have := M15.out; omega)).trans CA.2⟩)
            have G9 : Hid (g9 < wr.heap.size) := Lib.hid (HI.out.pgs.own.lt g9 rfl).2
            have HL := Lib.hid hL
            have HH := Lib.hid hh
            clear hx t1 t2 t3 hne CA hL hh hj0 hj1
            go_wp2_with fail
            refine RK.out.mono ?_
            rintro e6 w6 h6
            obtain ⟨v6, rfl, ho6, k6⟩ := RP.out _ _ h6
            obtain ⟨p6, c6, rfl, hp6, hq6⟩ := own_shape ho6
            have O6 := Lib.hid ho6
            have K6 := Lib.hid k6
            clear h6 ho6 k6 RK RP hp6 hq6
            go_wp2_with fail
            have R7 : Hid (Row (w6.alloc (.cells #[.int .u64 x.n, .slice p6 500 c6] 25)) w6.heap.size #[.int .u64 x.n, .slice p6 500 c6] 25) := Lib.hid (Row.made _ _ _)
            have I7 : Hid (Ints .u8 (w6.alloc (.cells #[.int .u64 x.n, .slice p6 500 c6] 25)) (.slice p6 500 c6) x.xs) := Lib.hid ((ints_own' O6.out HH.out.len).below' ((Below.refl _ _).alloc (Nat.le_refl _) _))
            have K7 : Hid (Only [] wr (w6.alloc (.cells #[.int .u64 x.n, .slice p6 500 c6] 25))) := Lib.hid (K6.out.alloc _)
            generalize w6.alloc (.cells #[.int .u64 x.n, .slice p6 500 c6] 25) = w7 at *
            generalize w6.heap.size = q7 at *
            clear O6 K6
            refine (lies_yes HL.out (by have := S.out; omega) w7).mono ?_
            rintro _ w8 ⟨rfl, hw8⟩
            subst hw8
            have c0 : w8.cell? ⟨q7, 0, none⟩ = some (.int .u64 x.n) := R7.out.cell 0
            have c1 : w8.cell? ⟨q7, 1, none⟩ = some (.slice p6 500 c6) := R7.out.cell 1
            have c2 : w8.cell? ⟨g9, m * 2, none⟩ = some (.int .u64 x.n) := (K7.out.cell G9.out (by simp)).trans GA.out.1
            have c3 : w8.cell? ⟨g9, m * 2 + 1, none⟩ = some (.slice (some ⟨x.b, 0, none⟩) 500 500) := (K7.out.cell G9.out (by simp)).trans GA.out.2
            have m15 : (m : Int) < 15 := by have := M15.out; omega
            have m0 : (0 : Int) ≤ (m : Int) := Int.natCast_nonneg _
            have SM := same_any w8.drew x.n x.n (.slice p6 500 c6) (.slice (some ⟨x.b, 0, none⟩) 500 500) x.xs x.xs (I7.out.below' ((Below.refl _ _).drew)) ((HH.out.only K7.out (by simp)).only ((Only.refl [] _).drew) (by simp)).ints HH.out.by_ HH.out.by_
            rw [show decide (x.n = x.n ∧ x.xs = x.xs) = true from by simp] at SM
            have SM' := Lib.hid SM
            clear SM R7 I7
            go_wp2_with fail
            go_region_with (first
              | (go_at_call 11; refine SM'.out.mono ?_; rintro _ w9 ⟨rfl, hb9⟩; have K9 : Hid (Only [] wr w9) := Lib.hid ((K7.out.drew).below hb9); clear hb9))
            all_goals
              clear c0 c1 c2 c3
              go_wp2_with fail
              go_roundw
              case rel => exact ⟨(m : Int) + 1, by omega, by have := HJT.out; omega, by first | rfl | go_num, Lib.hid (HI.out.none K9.out)⟩
              case measure =>
                have := HJT.out
                simp [intOf]
                omega
          · have RN := Lib.hid (read_no HI.out.dev b j (by rw [HI.out.sec]; exact S.out.1) HB.out (by rw [HI.out.sec]; exact hL))
            have HL := Lib.hid hL
            clear hL hj0 hj1
            go_wp2_with fail
            refine RN.out.mono ?_
            rintro _ w6 ⟨rfl, k6⟩
            have R7 : Hid (Row (w6.alloc (.cells #[.int .u64 0, .slice none 0 0] 25)) w6.heap.size #[.int .u64 0, .slice none 0 0] 25) := Lib.hid (Row.made _ _ _)
            have K7 : Hid (Only [] wr (w6.alloc (.cells #[.int .u64 0, .slice none 0 0] 25))) := Lib.hid (k6.alloc _)
            clear k6 RN
            go_wp2_with fail
            generalize w6.alloc (.cells #[.int .u64 0, .slice none 0 0] 25) = w7 at *
            generalize w6.heap.size = q7 at *
            refine (lies_no HL.out (by have := S.out; omega) (by have := S.out; omega) w7).mono ?_
            rintro _ w8 ⟨rfl, hw8⟩
            subst hw8
            have c1 : w8.cell? ⟨q7, 1, none⟩ = some (.slice none 0 0) := R7.out.cell 1
            clear R7
            go_wp2_with fail
            go_roundw
            case rel => exact ⟨j + 1, by have := HJ0.out; omega, by have := HJT.out; omega, by first | rfl | go_num, Lib.hid (HI.out.none K7.out)⟩
            case measure =>
              have := HJT.out
              simp [intOf]
              omega
        · have d3 : decide (j < 17) = false := decide_eq_false hj
          clear hj
          go_wp2_with fail
          refine (body_any 1 wr).mono ?_
          rintro _ w6 ⟨rfl, ho6, k6, hs6⟩
          have I6 := Lib.hid (HI.out.none k6)
          clear ho6 k6 hs6 HI
          go_wp2_with fail
          refine (write_nil _ _ _ _ _ _ _).mono ?_
          rintro _ w7 ⟨rfl, k7⟩
          have I7 := Lib.hid (I6.out.none k7)
          clear k7 I6
          go_wp2_with fail
          refine (write_empty I7.out.dev (by rw [I7.out.sec]; exact S.out.1)).mono ?_
          rintro _ w8 ⟨rfl, k8⟩
          have I8 := Lib.hid (I7.out.none k8)
          clear k8 I7
          go_wp2_with fail
          refine (known_any w8).mono ?_
          rintro _ w9 ⟨rfl, hb9⟩
          have B9 := Lib.hid (I8.out.dev.bl.trans (hb9.mono I8.out.dev.bl.size))
          clear hb9 I8
          go_wp2_with fail
          go_ret
          exact ⟨rfl, B9.out⟩
end Go.Proofs.Ytomhflkjnldeoaa.pagePlays
