/- SessionFloats: a record whose vector is told by floats is as one that is told by the whole numbers that they become; so are the nearest ones; where a float has no number nothing is done: for every input. -/
import Derived.Test.YtcgmgdjeamidlaaGreatFlD
import Derived.Deep.RegionWith
namespace Go.Proofs.YtcgmgdjeamidlaaGreat.sessionFloats
open Go.ChangeShapes Go.WideShapes Go.ChangeAt Go.RowKit Go.Joins
set_option linter.unusedVariables false
set_option linter.unusedSimpArgs false

def Goal (a0 : Option Addr) (n0 c0 : Nat) (k1 : Int) (W : World) : Prop := Calls Tryz.prog 4 #[.slice a0 n0 c0, .int .i64 k1] W fun e w' => e = .returned (.bool true) ∧ Below W.heap.size W w'
set_option maxRecDepth 100000 in
set_option maxHeartbeats 16000000 in
theorem short (a0 : Option Addr) (n0 c0 : Nat) (k1 : Int) (W : World) (h : 30 < n0 ∨ (k1 < -64 ∨ 64 < k1)) : Goal a0 n0 c0 k1 W := by
  unfold Goal
  have KN := Lib.hid (known23 W)
  obtain ⟨b1, e1⟩ : ∃ b, decide ((30 : Int) < (n0 : Int)) = b := ⟨_, rfl⟩
  obtain ⟨b2, e2⟩ : ∃ b, decide (k1 < -64) = b := ⟨_, rfl⟩
  obtain ⟨b3, e3⟩ : ∃ b, decide (64 < k1) = b := ⟨_, rfl⟩
  have hb : (b1 || (b2 || b3)) = true := by
    rw [← e1, ← e2, ← e3]
    simp
    omega
  have HB := Lib.hid hb
  clear h hb
  cases b1 <;> cases b2 <;> cases b3
  all_goals first
    | (exfalso; exact Bool.noConfusion HB.out)
    | (go_enter Tryz.func4, Tryz.ntmps4
       go_wp2_with fail
       refine KN.out.mono ?_
       rintro _ w9 ⟨rfl, hb⟩
       have BE := Lib.hid hb
       clear hb
       go_wp2_with fail
       go_ret
       exact ⟨rfl, BE.out⟩)

set_option maxRecDepth 100000 in
set_option maxHeartbeats 16000000 in
theorem walk (a0 : Option Addr) (n0 c0 : Nat) (l : List (Int × Int)) (k1 : Int) (W : World) (h0 : PrsIn W a0 n0 l) (wk : (Lit.int .i64 k1).wf = true) : Goal a0 n0 c0 k1 W := by
  unfold Goal
  by_cases hn : 30 < n0
  · exact short a0 n0 c0 k1 W (.inl hn)
  by_cases hk : k1 < -64 ∨ 64 < k1
  · exact short a0 n0 c0 k1 W (.inr hk)
  have d1 : decide ((30 : Int) < (n0 : Int)) = false := decide_eq_false (by omega)
  have d1' : decide (30 < n0) = false := decide_eq_false (by omega)
  have d2 : decide (k1 < -64) = false := decide_eq_false (by omega)
  have d3 : decide (64 < k1) = false := decide_eq_false (by omega)
  have H0 := Lib.hid h0
  have HN := Lib.hid (show n0 ≤ 30 by omega)
  have HK := Lib.hid (show -64 ≤ k1 ∧ k1 ≤ 64 by omega)
  have N1 := Lib.hid (new_on 2 W (by omega) (by omega))
  clear h0 hn hk wk
  go_enter Tryz.func4, Tryz.ntmps4
  go_wp2_with fail
  refine N1.out.mono ?_
  rintro _ wa ⟨p1, F1, H1, rfl, hd1, hb1⟩
  have D1 := Lib.hid (And.intro hd1 hb1)
  have N2 := Lib.hid (new_on 2 wa (by omega) (by omega))
  clear hd1 hb1 N1
  go_wp2_with fail
  refine N2.out.mono ?_
  rintro _ wb ⟨p2, F2, H2, rfl, hd2, hb2⟩
  have D2 := Lib.hid (And.intro hd2 hb2)
  have S1 := Lib.hid (sess_new (baseV p1) ⟨_, _, rfl⟩ wb)
  clear hd2 hb2 N2
  go_wp2_with fail
  refine S1.out.mono ?_
  rintro _ wc ⟨rfl, hc⟩
  have T0 := Lib.hid (two_new (d := 2) (by omega) D1.out.1 D1.out.2 D2.out.1 D2.out.2 hc)
  have S2 := Lib.hid (sess_new (baseV p2) ⟨_, _, rfl⟩ wc)
  clear hc S1
  go_wp2_with fail
  refine S2.out.mono ?_
  rintro _ wd ⟨rfl, hc⟩
  rw [← hc] at T0
  have AK := Lib.hid (rq1_ask wd)
  generalize wb.heap.size = g1 at *
  generalize wc.heap.size = g2 at *
  clear hc S2 D1 D2
  go_wp2_with fail
  refine AK.out.mono ?_
  intro e w1 hg
  obtain ⟨v1, rfl, hdo⟩ := two_do1 T0.out fm1.1 fm1.2 (by omega) hg
  have DO := Lib.hid hdo
  clear hg hdo AK T0
  go_wp2_with fail
  refine DO.out.mono ?_
  rintro _ w2 ⟨va, zs, D, u, Z1, rfl, hst, hT, hK, hv⟩
  have ST := Lib.hid hst
  have T1 := Lib.hid hT
  have AK := Lib.hid (rq1_ask w2)
  clear hst hT hK hv DO
  go_wp2_with fail
  refine AK.out.mono ?_
  intro e w3 hg
  obtain ⟨v3, rfl, hdo⟩ := two_do2 T1.out fm1.1 fm1.2 (by omega) hg
  have DO := Lib.hid hdo
  clear hg hdo AK T1
  go_wp2_with fail
  refine DO.out.mono ?_
  rintro _ w4 ⟨vb, zt, E, v, Z2, rfl, hst, hT, hK, hv⟩
  have I0 : Hid (FlI W g1 g2 0 w4) := Lib.hid (by
    obtain ⟨q1, x1, y1, rfl⟩ := bg_step2 ST.out rfl
    obtain ⟨q2, x2, y2, rfl⟩ := bg_step2 hst rfl
    subst q1 q2
    exact ⟨_, _, _, _, _, _, _, hT, (Sim.refl (newP 2)).opened _ _ _ _, Live.opened rfl (by simp [newP]), by omega, by omega⟩)
  clear hst hT hK hv DO ST
  go_wp2_with fail
  go_loopw [11, 12, 13, 14, 15, 16, 17, 18, 19, 20, 21] (fun i _ _ _ _ _ _ _ _ _ _ wr => ∃ k : Nat, i = .int .i64 (k : Int) ∧ Hid (k ≤ n0) ∧ Hid (FlI W g1 g2 k wr)) (fun i _ _ _ _ _ _ _ _ _ _ _ => n0 - (intOf i).toNat)
  case atStart => exact ⟨0, rfl, Lib.hid (Nat.zero_le _), I0⟩
  case round =>
    clear I0
    obtain ⟨k, rfl, HI, FI⟩ := hrel
    rename World => w5
    by_cases hk : k < n0
    · have d4 : decide ((k : Int) < (n0 : Int)) = true := decide_eq_true (by omega)
      have d4' : decide (k < n0) = true := decide_eq_true hk
      have j3 : (k : Int) < (n0 : Int) := by omega
      have ek : IntKind.i64.wrap ((k : Int) + 1) = ((k + 1 : Nat) : Int) := IntWalk.i64_in _ (by have := HN.out; omega)
      obtain ⟨x, hx⟩ : ∃ x, l[k]? = some x := ⟨_, List.getElem?_eq_getElem (by have := H0.out.1; omega)⟩
      obtain ⟨ya, yb⟩ := x
      have HX : ∃ b off, a0 = some ⟨b, off, none⟩ ∧ (∀ y, Only [] w5 y → y.cell? ⟨b, off + k * 2, none⟩ = some (.int .u64 ya)) ∧ (∀ y, Only [] w5 y → y.cell? ⟨b, off + k * 2 + 1, none⟩ = some (.int .u64 yb)) ∧ U64 ya ∧ U64 yb := by
        rcases (H0.out.below FI.out.bl).2 with h0 | ⟨b, off, e, h⟩
        · omega
        · obtain ⟨p0, p1, p2, p3⟩ := h k _ hx
          exact ⟨b, off, e, fun y hy => by rw [hy.cell (World.block_lt_of_cell? w5 _ p0) (by simp)]; exact p0, fun y hy => by rw [hy.cell (World.block_lt_of_cell? w5 _ p1) (by simp)]; exact p1, p2, p3⟩
      obtain ⟨b, off, rfl, c0, c1, hya, hyb⟩ := HX
      have q0 := c0 w5 (Only.refl [] w5)
      have q1 := c1 w5 (Only.refl [] w5)
      have r0 := c0 w5.drew ((Only.refl [] w5).drew)
      have r1 := c1 w5.drew ((Only.refl [] w5).drew)
      have HY := Lib.hid (And.intro hya hyb)
      have KK := Lib.hid hk
      clear c0 c1 hya hyb hx hk
      have NA : Hid (∀ y, (y = (w5.alloc (.cells #[.int .u64 ya, .int .u64 yb] 34)).drew ∨ y = w5.drew.alloc (.cells #[.int .u64 ya, .int .u64 yb] 34)) → Only [] w5 y ∧ y.ownsRow W.heap.size 34 1 (.slice (some ⟨w5.heap.size, 0, none⟩) 2 2) 2 [.int .u64 ya, .int .u64 yb]) := Lib.hid (by
        have hz := FI.out.bl.size
        rintro y (rfl | rfl)
        · exact ⟨((Only.refl [] w5).alloc _).drew, own_mono (own_keep (World.ownsRow_lit w5 #[.int .u64 ya, .int .u64 yb] 2 (Nat.le_refl _) (by unfold maxLen; simp) rfl) fun _ _ => rfl) hz⟩
        · exact ⟨((Only.refl [] w5).drew).alloc _, own_mono (World.ownsRow_lit w5.drew #[.int .u64 ya, .int .u64 yb] 2 (Nat.le_refl _) (by unfold maxLen; simp) rfl) hz⟩)
      go_upto_region 11 with fail
      go_cut [12] from 63 to 73 (fun s12 wc => s12 = .slice (some ⟨w5.heap.size, 0, none⟩) 2 2 ∧ Hid (Only [] w5 wc ∧ wc.ownsRow W.heap.size 34 1 (.slice (some ⟨w5.heap.size, 0, none⟩) 2 2) 2 [.int .u64 ya, .int .u64 yb]))
      case first =>
        go_region
        all_goals
          go_wp2_with fail
          go_meet
          first
            | exact ⟨rfl, Lib.hid (NA.out _ (.inl rfl))⟩
            | exact ⟨rfl, Lib.hid (NA.out _ (.inr rfl))⟩
      case rest =>
        obtain ⟨rfl, HX⟩ := hcut
        rename World => w6
        clear q0 q1 r0 r1 NA
        obtain ⟨t1, t2, D, E, u, Z1, Z2, hT, hS, hL, hb1, hb2⟩ := FI.out
        have T6 := Lib.hid (hT.same HX.out.1)
        have XV6 : Hid (KvZ W.heap.size (Z1 ++ Z2) .u64 34 w6 (.slice (some ⟨w5.heap.size, 0, none⟩) 2 2) [ya, yb]) := Lib.hid ⟨HX.out.2, fun b hb => by
          obtain rfl : w5.heap.size = b := Option.some.inj hb
          have l1 := hT.a.lt
          have l2 := hT.b.lt
          intro hm
          rcases List.mem_append.1 hm with hm | hm
          · have := l1 _ hm; omega
          · have := l2 _ hm; omega⟩
        have SQ := Lib.hid (And.intro hS (And.intro hL (And.intro hb1 hb2)))
        obtain ⟨G, hG⟩ : ∃ G, allG k1 ([ya, yb].map Int.toNat) = G := ⟨_, rfl⟩
        have QA := Lib.hid (rall_two (s := ⟨some ⟨w5.heap.size, 0, none⟩, 2, [ya, yb]⟩) (XV6.out.sl2 (by simp)).2 rfl HK.out.1 HK.out.2 (by
          intro z hz
          simp only [List.mem_cons, List.mem_nil_iff, or_false] at hz
          rcases hz with rfl | rfl
          · exact HY.out.1
          · exact HY.out.2))
        simp only [hG] at QA
        have GM := Lib.hid (show 0 ≤ G.2.1 ∧ G.2.1 < 256 by rw [← hG]; exact mark_rg)
        have GW := Lib.hid (show (∀ x ∈ G.1, -2147483648 ≤ x ∧ x ≤ 2147483647) ∧ 0 ≤ G.2.2.2 ∧ G.2.2.2 < 256 ∧ 0 ≤ G.2.2.1 ∧ G.2.2.1 ≤ 2 by rw [← hG]; exact allG_wf)
        have GL := Lib.hid (show G.2.2.2 = 0 → G.1.length = 2 by rw [← hG]; exact allG_len)
        have HG := Lib.hid hG
        obtain ⟨vs, mk, pl, er⟩ := G
        simp only at QA GM GW GL
        unfold AllC Sl.v at QA
        generalize w5.heap.size = gx at *
        clear hT hS hL hb1 hb2 hG HX FI
        go_wp2_with fail
        refine QA.out.mono ?_
        rintro _ w7 ⟨r, rfl, ho, hb⟩
        obtain ⟨ra, rc, rfl, _, _⟩ := own_shape ho
        have k7 : Only [] w6 w7 := (Only.refl [] w6).below hb
        have RV7 : Hid (KvZ W.heap.size (Z1 ++ Z2) .i32 21 w7 (.slice ra vs.length rc) vs) := Lib.hid ⟨own_mono ho T6.out.bl.size, fun b hb => by
          have h1 := (ho.lt b hb).1
          have l1 := T6.out.a.lt
          have l2 := T6.out.b.lt
          intro hm
          rcases List.mem_append.1 hm with hm | hm
          · have := l1 _ hm; omega
          · have := l2 _ hm; omega⟩
        have XV7 := Lib.hid (XV6.out.keep (.of k7))
        have T7 := Lib.hid (T6.out.same k7)
        have A1 := Lib.hid (ask_pf (ik := (k : Int) % 5) (m := (k : Int) % 256) (sc := k1) XV7.out HY.out.1 HY.out.2 (by unfold U64; omega) (by omega))
        have KA : Hid (Only [] w7 (w7.alloc (.cells #[.int .u8 ((k : Int) % 256)] 5))) := Lib.hid ((Only.refl [] w7).alloc _)
        have B1 := Lib.hid (show (0 : Int) ≤ (k : Int) % 256 ∧ (k : Int) % 256 < 256 by omega)
        have B2 := Lib.hid (show (0 : Int) ≤ (k : Int) % 5 ∧ (k : Int) % 5 < 18446744073709551616 by omega)
        clear ho hb k7 QA XV6 T6
        go_wp2_with fail
        refine A1.out.mono ?_
        intro e w8 hg
        obtain ⟨v8, rfl, hdo⟩ := two_do1 (T7.out.same KA.out) (fm_pf rfl B1.out).1 (fm_pf rfl B1.out).2 (by have := SQ.out.2.2.1; have := KK.out; have := HN.out; omega) hg
        have DO := Lib.hid hdo
        clear hg hdo A1
        go_wp2_with fail
        refine DO.out.mono ?_
        rintro _ w9 ⟨va, za, D1, u1, Z1', rfl, hst1, hT, hK, hv⟩
        have K9 := (Kpp.of KA.out).trans hK
        have XV9 := Lib.hid (XV7.out.keep K9)
        have RV9 := Lib.hid (RV7.out.keep K9)
        have VA9 := Lib.hid hv
        have T9 := Lib.hid hT
        have ST1 := Lib.hid hst1
        have A2 := Lib.hid (ask_kf (sc := k1) XV9.out HY.out.1 HY.out.2)
        clear K9 hst1 hT hK hv DO XV7 RV7 T7 KA
        go_wp2_with fail
        refine A2.out.mono ?_
        intro e w10 hg
        obtain ⟨v10, rfl, hdo⟩ := two_do1 T9.out (fm_kf rfl).1 (fm_kf rfl).2 (by have := SQ.out.2.2.1; have := KK.out; have := HN.out; omega) hg
        have DO := Lib.hid hdo
        clear hg hdo A2
        go_wp2_with fail
        refine DO.out.mono ?_
        rintro _ w11 ⟨vh, zh, D2, u2, Z1'', rfl, hst2, hT, hK, hv⟩
        have RV11 := Lib.hid (RV9.out.keep hK)
        have VA11 := Lib.hid (VA9.out.keep hK)
        have VH11 := Lib.hid hv
        have T11 := Lib.hid hT
        have FR := fl_round SQ.out.1 SQ.out.2.1 B2.out.1 B2.out.2 HK.out.1 HK.out.2 rfl (by
          intro z hz
          simp only [List.mem_cons, List.mem_nil_iff, or_false] at hz
          rcases hz with rfl | rfl
          · exact HY.out.1
          · exact HY.out.2) rfl (IsBy.one B1.out.1 B1.out.2) ST1.out hst2
        obtain ⟨hu, hbad, hgood⟩ := FR
        rw [HG.out] at hbad hgood
        simp only at hbad hgood
        subst hu
        have HB := Lib.hid hbad
        have HD := Lib.hid hgood
        clear hst2 hT hK hv DO RV9 VA9 T9 XV9 ST1 hbad hgood
        by_cases he : er = 0
        · subst he
          have hl := GL.out rfl
          have HL := Lib.hid hl
          generalize hn : vs.length = n at *
          subst hl
          have HVN := Lib.hid hn
          have HDD := Lib.hid (HD.out rfl)
          clear HB HD hn
          obtain ⟨hza, hlv, hrest⟩ := HDD.out
          subst hza
          have LV := Lib.hid hlv
          have RS := Lib.hid hrest
          clear hlv hrest HDD
          have KA : Hid (Only [] w11 (w11.alloc (.cells #[.int .u8 ((k : Int) % 256)] 5))) := Lib.hid ((Only.refl [] w11).alloc _)
          have A3 := Lib.hid (ask_pt (ik := (k : Int) % 5) (m := (k : Int) % 256) RV11.out HVN.out B2.out B1.out)
          go_wp2_with fail
          refine A3.out.mono ?_
          intro e w12 hg
          obtain ⟨v12, rfl, hdo⟩ := two_do2 (T11.out.same KA.out) (fm_pt HVN.out B1.out).1 (fm_pt HVN.out B1.out).2 (by have := SQ.out.2.2.2; have := KK.out; have := HN.out; omega) hg
          have DO := Lib.hid hdo
          clear hg hdo A3
          go_wp2_with fail
          refine DO.out.mono ?_
          rintro _ w13 ⟨vb, zb, E1, y1, Z2', rfl, hst3, hT, hK, hv⟩
          have K13 := (Kpp.of KA.out).trans hK
          have RV13 := Lib.hid (RV11.out.keep K13)
          have VA13 := Lib.hid (VA11.out.keep K13)
          have VH13 := Lib.hid (VH11.out.keep K13)
          have VB13 := Lib.hid hv
          have T13 := Lib.hid hT
          have ST3 := Lib.hid hst3
          have A4 := Lib.hid (ask_kn RV13.out HVN.out)
          clear K13 hst3 hT hK hv DO RV11 VA11 VH11 T11 KA
          go_wp2_with fail
          refine A4.out.mono ?_
          intro e w14 hg
          obtain ⟨v14, rfl, hdo⟩ := two_do2 T13.out (fm_kn HVN.out).1 (fm_kn HVN.out).2 (by have := SQ.out.2.2.2; have := KK.out; have := HN.out; omega) hg
          have DO := Lib.hid hdo
          clear hg hdo A4
          go_wp2_with fail
          refine DO.out.mono ?_
          rintro _ w15 ⟨vk, zk, E2, y2, Z2'', rfl, hst4, hT, hK, hv⟩
          obtain ⟨hzb, hzk, hy, hsim⟩ := RS.out _ _ _ _ _ _ ST3.out hst4
          subst hzb
          subst hzk
          subst hy
          have em : mk % 256 = mk := by have := GM.out; omega
          have K16 : Hid (Only [] w15 (w15.alloc (.cells #[.int .u8 1, .int .u8 mk] 5))) := Lib.hid ((Only.refl [] w15).alloc _)
          have CL := conv_ints (ints_own (xs := [1, mk]) (World.ownsRow_lit w15 #[.int .u8 1, .int .u8 mk] 2 (e := 5) (size := 1) (Nat.le_refl _) (by unfold maxLen; simp) rfl))
          have CB := conv_ints (ints_own (VB13.out.keep hK).1)
          have CA := conv_ints (ints_own (VA13.out.keep hK).1)
          have CA2 := conv_ints (ints_own ((VA13.out.keep hK).keep (.of K16.out)).1)
          have CH := conv_ints (ints_own (VH13.out.keep hK).1)
          have CH2 := conv_ints (ints_own ((VH13.out.keep hK).keep (.of K16.out)).1)
          have CK := conv_ints (ints_own hv.1)
          have CK2 := conv_ints (ints_own (hv.keep (.of K16.out)).1)
          have eb : strOfNums [1, 0] = ⟨#[1, 0]⟩ := by decide
          rw [eb] at CB
          have T15 := Lib.hid (hT.same K16.out)
          have SM := Lib.hid hsim
          generalize strOfNums [1, mk] = S1 at *
          generalize strOfNums zh = S2 at *
          clear hst4 hT hK hv DO RV13 VA13 VH13 VB13 T13 ST3 RS hsim eb
          go_wp2_with fail
          go_roundw
          case rel => exact ⟨k + 1, by go_num, Lib.hid (by have := KK.out; omega), Lib.hid ⟨_, _, _, _, _, _, _, T15.out, SM.out, LV.out, by have := SQ.out.2.2.1; omega, by have := SQ.out.2.2.2; omega⟩⟩
          case measure => have := KK.out; simp [intOf]; omega
        · have e1 : (er == 0) = false := by simpa using he
          have e2 : (er != 0) = true := by simpa using he
          obtain ⟨h1, h2, h3⟩ := HB.out he
          subst h3
          subst h2
          subst h1
          have FT := Lib.hid (rformtell2 (er := er) (pl := pl) (w := w11) GW.out.2.1 GW.out.2.2.1 GW.out.2.2.2.1 (by have := GW.out.2.2.2.2; omega))
          have E3 := Lib.hid he
          clear he HB HD RV11
          go_wp2_with fail
          refine FT.out.mono ?_
          rintro _ w12 ⟨vw, rfl, ho, hb⟩
          have k12 : Only [] w11 w12 := (Only.refl [] w11).below hb
          have CW := conv_ints (ints_own ho)
          have CA := conv_ints (ints_own (VA11.out.keep (.of k12)).1)
          have CH := conv_ints (ints_own (VH11.out.keep (.of k12)).1)
          unfold refB at CA CH
          have T12 := Lib.hid (T11.out.same k12)
          generalize strOfNums ([2] ++ [er] ++ leB pl 2) = S0 at *
          clear ho hb k12 FT VA11 VH11 T11
          go_wp2_with fail
          go_roundw
          case rel => exact ⟨k + 1, by go_num, Lib.hid (by have := KK.out; omega), Lib.hid ⟨_, _, _, _, _, _, _, T12.out, SQ.out.1, SQ.out.2.1, by have := SQ.out.2.2.1; omega, by have := SQ.out.2.2.2; omega⟩⟩
          case measure => have := KK.out; simp [intOf]; omega
    · obtain rfl : n0 = k := by have := HI.out; omega
      have d4 : decide ((n0 : Int) < (n0 : Int)) = false := decide_eq_false (by omega)
      have d4' : decide (n0 < n0) = false := decide_eq_false (by omega)
      obtain ⟨t1, t2, D, E, u, Z1, Z2, hT, hS, hL, hb1, hb2⟩ := FI.out
      have T5 := Lib.hid hT
      have SQ := Lib.hid (And.intro hS (And.intro hb1 hb2))
      have A1 := Lib.hid (ask_rg w5)
      clear hT hS hL hb1 hb2 FI hk
      go_wp2_with fail
      refine A1.out.mono ?_
      intro e w6 hg
      obtain ⟨v6, rfl, _⟩ := two_do1 T5.out fm_rg.1 fm_rg.2 (by have := SQ.out.2.1; have := HN.out; omega) hg
      have V6 : Hid (KvZ W.heap.size (Z1 ++ Z2) .u8 5 w6 v6 rgQ.form ∧ Only [] w5 w6) := Lib.hid (by
        obtain ⟨v, e, ho, hb⟩ := hg
        cases e
        refine ⟨⟨own_mono ho T5.out.bl.size, fun b hb => ?_⟩, (Only.refl [] w5).below hb⟩
        have h1 := (ho.lt b hb).1
        have l1 := T5.out.a.lt
        have l2 := T5.out.b.lt
        intro hm
        rcases List.mem_append.1 hm with hm | hm
        · have := l1 _ hm; omega
        · have := l2 _ hm; omega)
      have DO := Lib.hid (two_row1 ((T5.out.same V6.out.2).same ((Only.refl [] w6).drew)) (V6.out.1.keep (.of (Only.refl [] w6).drew)) fm_rg.1 fm_rg.2 (by have := SQ.out.2.1; have := HN.out; omega))
      clear hg A1
      go_upto_region 24 with fail
      go_cut [4] from 156 to 167 (fun s4 wc => s4 = .bool true ∧ Hid (Below W.heap.size W wc))
      case first =>
        go_region_with (first
          | ((with_reducible refine DO.out.mono ?_)
             rintro _ w7 ⟨va, za, D1, u1, Z1', rfl, hst, hT, hK, hv⟩
             have CA := conv_ints (ints_own hv.1)
             have VA7 := Lib.hid hv
             have ST1 := Lib.hid hst
             have DO2 := Lib.hid (two_row2 hT ((V6.out.1.keep (.of (Only.refl [] w6).drew)).keep hK) fm_rg.1 fm_rg.2 (by have := SQ.out.2.2; have := HN.out; omega))
             clear hst hT hK hv)
          | ((with_reducible refine DO2.out.mono ?_)
             rintro _ w8 ⟨vb, zb, E1, y1, Z2', rfl, hst, hT, hK, hv⟩
             have hs := rg_same SQ.out.1 ST1.out hst
             subst hs
             have CB := conv_ints (ints_own hv.1)
             have CA2 := conv_ints (ints_own (VA7.out.keep hK).1)
             have T8 := Lib.hid hT
             have KN := Lib.hid (known23 w8)
             generalize strOfNums za = S0 at *
             clear hst hT hK hv)
          | ((with_reducible refine KN.out.mono ?_)
             rintro _ w9 ⟨rfl, hb⟩
             have BE := Lib.hid (T8.out.bl.trans (hb.mono T8.out.bl.size))
             clear hb))
        all_goals
          go_wp2_with fail
          go_meet
          exact ⟨rfl, BE⟩
      case rest =>
        obtain ⟨rfl, BE⟩ := hcut
        go_wp2_with fail
        go_ret
        exact ⟨rfl, BE.out⟩

theorem own : ownKnob Tryz.prog.godebug = none := by kernel_rfl
theorem laidOut : laidOutB Tryz.prog = true := by kernel_rfl

set_option maxRecDepth 100000 in
theorem contract (H : Type) (enc : TypeId × Value → H) (W : World) (base : Nat) (args : Array Value) (ds gs : List (DataW H)) (before : List MemPlace)
    (hval0 : ∀ (j : Nat) t v, Tryz.f4.params[j]? = some t → args[j]? = some v → Value.okWide Tryz.prog W .any base t v)
    (hW : DataW.Whole enc Tryz.prog Tryz.f4.params.toList Rows.sessionFloatsSpec.vars false W args.toList ds gs before)
    (hsz0 : (DataW.weightsEach Tryz.prog (Tryz.f4.params.toList ++ Rows.sessionFloatsSpec.plain.varTypes Tryz.prog) (ds ++ gs)).all (· ≤ reachBytes) = true) :
    Calls Tryz.prog 4 args W fun e W' => ∃ v, e = .returned v ∧ Rows.sessionFloatsSpec.post enc Tryz.prog Tryz.f4 false true false false W args v W' := by
  have hval : ∀ (j : Nat) t v, Tryz.f4.params[j]? = some t → args[j]? = some v → Value.okWide Tryz.prog W .any base t v := hval0
  have hW' := hW
  obtain ⟨p, q, hA0, hV, rfl, hfz, hnd⟩ := hW
  have hA : DataW.TrodAll enc Tryz.prog W 0 (fun _ => true) true Tryz.f4.params.toList args.toList ds p := hA0
  have hsz : (DataW.weightsEach Tryz.prog (Tryz.f4.params.toList ++ Rows.sessionFloatsSpec.plain.varTypes Tryz.prog) (ds ++ gs)).all (· ≤ reachBytes) = true := hsz0
  rw [Tryz.params4] at hA hval hsz
  obtain ⟨v0, vs0, d0, ds0, p0, q0, hargs, rfl, rfl, h0, r0'⟩ := trodAll_cons hA
  obtain ⟨v1, vs1, d1, ds1, p1, q1, rfl, rfl, rfl, h1, r1'⟩ := trodAll_cons r0'
  obtain ⟨rfl, rfl, rfl⟩ := trodAll_nil r1'
  obtain rfl : args = #[v0, v1] := by cases args; simp_all
  obtain ⟨rfl, rfl⟩ := trodVars_none hV
  have k0 := h0
  have lt0 : ∀ x ∈ p0, x.block < W.heap.size := by obtain ⟨m, hm⟩ := k0; exact DataW.trod_lt m _ _ _ hm
  have k1 := h1
  have lt1 : ∀ x ∈ p1, x.block < W.heap.size := by obtain ⟨m, hm⟩ := k1; exact DataW.trod_lt m _ _ _ hm
  obtain ⟨a0, n0, c0, rfl⟩ := okWide_slice Tryz.underlying45 (hval 0 45 v0 rfl rfl)
  obtain ⟨z0, w0⟩ : ∃ zs, PrsIn W a0 n0 zs := by
    obtain ⟨fuel, hf⟩ := h0
    simp [Value.cells] at hf
    exact prs_in hf
  obtain ⟨x1, rfl, hd1, hp1, w1⟩ := open_int Tryz.underlying3 (hval 1 3 v1 rfl rfl) h1
  clear hA0 hval0 hsz0
  refine (walk a0 n0 c0 z0 x1 W w0 w1).mono fun e W' ⟨he, bel⟩ => ?_
  subst he
  exact ⟨_, rfl, _, _, _, [], _, [], hW', trodAll_mk1 (shut_bool Tryz.underlying4 _), (trodAll_cons_mk (Below.trod laidOut (by kernel_rfl) (of_decide_eq_true (by kernel_rfl)) k0 bel lt0) (trodAll_cons_mk (Below.trod laidOut (by kernel_rfl) (of_decide_eq_true (by kernel_rfl)) k1 bel lt1) trodAll_mk0)), rfl, bel.frame _, fun h => by cases h⟩

set_option maxRecDepth 100000 in
theorem lifted (os : Os) (started : os.Started) (H : Type) (enc : TypeId × Value → H) :
    ReturnsInHanded {} Tryz.checked os 4 .any (Rows.sessionFloatsSpec.pre6 enc Tryz.prog Tryz.f4 Rows.sessionFloatsRow.domain false) (Rows.sessionFloatsSpec.post enc Tryz.prog Tryz.f4 false true false false) := by
  refine returnsInHanded_of_change_sized (C := Tryz.checked) own started (by kernel_rfl) Tryz.func4
    (ChangeSpec.witness6 (enc := enc) (C := Tryz.checked) false ⟨#[], #[.slice none 0 0, .int .i64 0], []⟩ 8 (by kernel_rfl) (by kernel_rfl) (by kernel_rfl) (by kernel_rfl)) ?_
  intro W base args ds gs before hval hW _ hsz _
  exact contract H enc W base args ds gs before hval hW hsz

theorem over : Rows.sessionFloatsRow.holds Tryz.pinned (OpenSpec.ofChange Rows.sessionFloatsSpec) :=
  OpenClaim.holds_of_wide 4 Tryz.f4 rfl rfl rfl rfl rfl rfl rfl ⟨rfl, rfl, rfl, rfl, rfl⟩ rfl rfl rfl rfl rfl (by kernel_rfl) Tryz.func4 (by kernel_rfl)
    (of_decide_eq_true (by kernel_rfl)) (by unfold Func.isWrapper; first | (rw [if_pos (by decide +kernel)]; kernel_rfl) | (rw [if_neg (by decide +kernel)]; exact ⟨rfl, rfl⟩))
    (fun os started H enc _ => lifted os started H enc)

theorem proved : Rows.SessionFloatsSaid := over
#print axioms proved
end Go.Proofs.YtcgmgdjeamidlaaGreat.sessionFloats
