/- SessionQuiet: requests that are refused, but with ErrConflict or ErrFull, change nothing that is told later: for every input. -/
import Derived.Test.YtcgmgdjeamidlaaGreatQiD
import Derived.Test.YtcgmgdjeamidlaaGreatQiE
import Derived.Test.YtcgmgdjeamidlaaGreatRsP
import Derived.Deep.RegionWith
namespace Go.Proofs.YtcgmgdjeamidlaaGreat.sessionQuiet
open Go.ChangeShapes Go.WideShapes Go.ChangeAt Go.RowKit Go.Joins
set_option linter.unusedVariables false
set_option linter.unusedSimpArgs false

def Goal (a0 : Option Addr) (n0 c0 : Nat) (W : World) : Prop := Calls Tryz.prog 3 #[.slice a0 n0 c0] W fun e w' => e = .returned (.bool true) ∧ Below W.heap.size W w'
/-- At a round's beginning. -/
def QuI (W0 : World) (g1 g2 i : Nat) (w : World) : Prop := ∃ t1 t2 D E u Z1 Z2, TwoZ W0 t1 t2 g1 g2 D E u u Z1 Z2 w ∧ Sim D E ∧ InvU D u ∧ t1 ≤ i ∧ t2 ≤ i
theorem QuI.only {W0 : World} {g1 g2 i : Nat} {w w' : World} (h : QuI W0 g1 g2 i w) (k : Only [] w w') (j : Nat) (hj : i ≤ j) : QuI W0 g1 g2 j w' := by
  obtain ⟨t1, t2, D, E, u, Z1, Z2, h1, h2, h3, h4, h5⟩ := h
  exact ⟨t1, t2, D, E, u, Z1, Z2, h1.same k, h2, h3, by omega, by omega⟩
theorem two_gd {W0 : World} {t1 t2 g1 g2 : Nat} {D E : PDB} {u v : Int} {Z1 Z2 : List Nat} {w : World} (h : TwoZ W0 t1 t2 g1 g2 D E u v Z1 Z2 w) : Good t1 D := by
  obtain ⟨_, _, _, _, c, _⟩ := h.a.ex
  exact c.good
set_option maxRecDepth 100000 in
set_option maxHeartbeats 16000000 in
theorem walk (a0 : Option Addr) (n0 c0 : Nat) (l : List Sl) (W : World) (h0 : BysIn W a0 n0 l) : Goal a0 n0 c0 W := by
  unfold Goal
  have KN := Lib.hid (fun w => known23 w)
  by_cases hn : 60 < n0
  · have d1 : decide ((60 : Int) < (n0 : Int)) = true := decide_eq_true (by omega)
    have d1' : decide (60 < n0) = true := decide_eq_true (by omega)
    clear hn
    go_enter Tryz.func3, Tryz.ntmps3
    go_wp2_with fail
    refine (KN.out W).mono ?_
    rintro _ w9 ⟨rfl, hb⟩
    have BE := Lib.hid hb
    clear hb
    go_wp2_with fail
    go_ret
    exact ⟨rfl, BE.out⟩
  have d1 : decide ((60 : Int) < (n0 : Int)) = false := decide_eq_false (by omega)
  have d1' : decide (60 < n0) = false := decide_eq_false (by omega)
  have H0 := Lib.hid h0
  have HN := Lib.hid (show n0 ≤ 60 by omega)
  have N1 := Lib.hid (new_on 2 W (by omega) (by omega))
  clear h0 hn
  go_enter Tryz.func3, Tryz.ntmps3
  go_wp2_with fail
  refine N1.out.mono ?_
  rintro _ wa ⟨p1, F1, H1, rfl, hd1, hb1⟩
  have D1 := Lib.hid (And.intro hd1 hb1)
  have N2 := Lib.hid (new_on 2 wa (by omega) (by omega))
  clear hd1 hb1 N1
  go_wp2_with fail
  refine N2.out.mono ?_
  rintro _ wb ⟨p2, F2, H2, rfl, hd2, hb2⟩
  have D2 := Lib.hid (And.intro hd2 hb2)
  have S1 := Lib.hid (sess_new (baseV p1) ⟨_, _, rfl⟩ wb)
  clear hd2 hb2 N2
  go_wp2_with fail
  refine S1.out.mono ?_
  rintro _ wc ⟨rfl, hc⟩
  have T0 := Lib.hid (two_new (d := 2) (by omega) D1.out.1 D1.out.2 D2.out.1 D2.out.2 hc)
  have S2 := Lib.hid (sess_new (baseV p2) ⟨_, _, rfl⟩ wc)
  clear hc S1
  go_wp2_with fail
  refine S2.out.mono ?_
  rintro _ wd ⟨rfl, hc⟩
  rw [← hc] at T0
  generalize wb.heap.size = g1 at *
  generalize wc.heap.size = g2 at *
  have I0 : Hid (QuI W g1 g2 0 wd) := Lib.hid ⟨0, 0, _, _, 0, _, _, T0.out, Sim.refl (newP 2), .inl rfl, by omega, by omega⟩
  clear hc S2 D1 D2 T0
  go_wp2_with fail
  go_loopw [9, 10, 11, 12] (fun i _ _ _ wr => ∃ k : Nat, i = .int .i64 (k : Int) ∧ Hid (k ≤ n0) ∧ Hid (QuI W g1 g2 k wr)) (fun i _ _ _ _ => n0 - (intOf i).toNat)
  case atStart => exact ⟨0, rfl, Lib.hid (Nat.zero_le _), I0⟩
  case round =>
    clear I0
    obtain ⟨k, rfl, HI, FI⟩ := hrel
    rename World => w5
    by_cases hk : k < n0
    · have d4 : decide ((k : Int) < (n0 : Int)) = true := decide_eq_true (by omega)
      have d4' : decide (k < n0) = true := decide_eq_true hk
      have j3 : (k : Int) < (n0 : Int) := by omega
      have ek : IntKind.i64.wrap ((k : Int) + 1) = ((k + 1 : Nat) : Int) := IntWalk.i64_in _ (by have := HN.out; omega)
      obtain ⟨s, hs⟩ : ∃ s, l[k]? = some s := ⟨_, List.getElem?_eq_getElem (by have := H0.out.1; omega)⟩
      obtain ⟨b, off, rfl, hby⟩ : ∃ b off, a0 = some ⟨b, off, none⟩ ∧ ByAt W b (off + k) s := by
        rcases H0.out.2 with h0 | ⟨b, off, e, h⟩
        · omega
        · exact ⟨b, off, e, h k s hs⟩
      have BY := Lib.hid hby
      have CC : Hid (∀ y, Below W.heap.size W y → y.cell? ⟨b, off + k, none⟩ = some s.v) := Lib.hid fun y hy => by rw [hy.cell (p := ⟨b, off + k, none⟩) (World.block_lt_of_cell? W _ hby.c0)]; exact hby.c0
      have BB : Hid (Below W.heap.size W w5) := Lib.hid (by obtain ⟨_, _, _, _, _, _, _, h, _⟩ := FI.out; exact h.bl)
      have q0 := CC.out w5 BB.out
      have KK := Lib.hid hk
      clear hs hby hk
      unfold Sl.v at q0 CC
      by_cases hl : 25000 < s.xs.length
      · have d5 : decide ((25000 : Int) < (s.xs.length : Int)) = true := decide_eq_true (by omega)
        have d5' : decide (25000 < s.xs.length) = true := decide_eq_true hl
        generalize s.xs.length = sn at *
        clear hl
        go_wp2_with fail
        go_roundw
        case rel => exact ⟨k + 1, by go_num, Lib.hid (by have := KK.out; omega), Lib.hid (FI.out.only (Only.refl _ _) _ (by omega))⟩
        case measure => have := KK.out; simp [intOf]; omega
      · have d5 : decide ((25000 : Int) < (s.xs.length : Int)) = false := decide_eq_false (by omega)
        have d5' : decide (25000 < s.xs.length) = false := decide_eq_false hl
        have SR : Hid (∀ y, Below W.heap.size W y → SlRd .u8 y s ∧ IsBy s.xs ∧ s.xs.length ≤ s.c) := Lib.hid fun y hy => BY.out.rd (by omega) hy
        obtain ⟨t1, t2, D, E, u, Z1, Z2, hT, hS, hL, hb1, hb2⟩ := FI.out
        have DO := Lib.hid (two_one1 hT (SR.out w5 BB.out).1 (SR.out w5 BB.out).2.1 (SR.out w5 BB.out).2.2 (by have := HN.out; have := KK.out; omega))
        have GD := Lib.hid (two_gd hT)
        have SQ := Lib.hid (And.intro hS (And.intro hL (And.intro hb1 hb2)))
        obtain ⟨sa, sc, sx⟩ := s
        unfold Sl.v at DO
        simp only at *
        obtain ⟨sn, hsn⟩ : ∃ sn, sx.length = sn := ⟨_, rfl⟩
        have HSN := Lib.hid hsn
        have BW := Lib.hid BB.out
        simp only [hsn] at DO q0 CC d5 d5'
        clear hT hS hL hb1 hb2 hl BY FI BB hsn
        go_wp2_with fail
        refine DO.out.mono ?_
        rintro _ w6 ⟨va, za, D1, u1, Z1', rfl, hst1, hT, hK, hv⟩
        have TT : TellB za := step_tells GD.out (SR.out _ BW.out).2.1 hst1
        obtain ⟨s1, rfl, hs1x, hs1, _, hs1c⟩ := own_sl hv.1 TT.by_.2
        subst hs1x
        have RT := Lib.hid (rreadtell_any hs1 hs1c TT)
        have BW6 : Hid (Below W.heap.size W w6) := Lib.hid hT.bl
        have ST1 := Lib.hid hst1
        have T6 := Lib.hid hT
        have V6 := Lib.hid hv
        obtain ⟨ra, rc, za⟩ := s1
        unfold Sl.v at RT V6 ⊢
        simp only at RT ST1 V6 TT ⊢
        generalize za.length = rn at *
        clear hst1 hT hK hv hs1 hs1c TT DO
        go_wp2_with fail
        refine RT.out.mono ?_
        rintro _ w7 ⟨kd, mk, er, pl, key, a1, n1, c1, a2, n2, c2, a3, n3, c3, a4, n4, c4, rfl, hke, hb7⟩
        have K8 : Hid (Only [] w6 (w7.alloc (.cells #[.int .i64 kd, .int .i64 mk, .int .i64 er, .int .i64 pl, .int .u64 key, .slice a1 n1 c1, .slice a2 n2 c2, .slice a3 n3 c3, .slice a4 n4 c4] tRp))) := Lib.hid (((Only.refl [] w6).below hb7).alloc _)
        have RX := Lib.hid (Row.made w7 #[.int .i64 kd, .int .i64 mk, .int .i64 er, .int .i64 pl, .int .u64 key, .slice a1 n1 c1, .slice a2 n2 c2, .slice a3 n3 c3, .slice a4 n4 c4] tRp)
        have x0 : (w7.alloc (.cells #[.int .i64 kd, .int .i64 mk, .int .i64 er, .int .i64 pl, .int .u64 key, .slice a1 n1 c1, .slice a2 n2 c2, .slice a3 n3 c3, .slice a4 n4 c4] tRp)).cell? ⟨w7.heap.size, 0, none⟩ = some (.int .i64 kd) := RX.out.cell 0
        have x2 : (w7.alloc (.cells #[.int .i64 kd, .int .i64 mk, .int .i64 er, .int .i64 pl, .int .u64 key, .slice a1 n1 c1, .slice a2 n2 c2, .slice a3 n3 c3, .slice a4 n4 c4] tRp)).cell? ⟨w7.heap.size, 2, none⟩ = some (.int .i64 er) := RX.out.cell 2
        have KE := Lib.hid hke
        clear hke hb7 RT
        go_upto_region 16 with fail
        generalize hg8 : w7.alloc (.cells #[.int .i64 kd, .int .i64 mk, .int .i64 er, .int .i64 pl, .int .u64 key, .slice a1 n1 c1, .slice a2 n2 c2, .slice a3 n3 c3, .slice a4 n4 c4] tRp) = w8 at *
        generalize w7.heap.size = gx at *
        clear hg8
        obtain ⟨β, hβ⟩ : ∃ β : Bool, β = decide (kd = 2 ∧ er ≠ 11 ∧ er ≠ 5) := ⟨_, rfl⟩
        have HBB := Lib.hid hβ
        clear hβ
        go_cut [74] from 37 to 84 (fun s74 wc => s74 = .bool β ∧ Hid (wc = w8))
        case first =>
          by_cases h1 : kd = 2
          · subst h1
            by_cases h2 : er = 11
            · subst h2
              obtain rfl : β = false := by rw [HBB.out]; simp
              go_wp2_with fail
              go_meet
              exact ⟨rfl, Lib.hid rfl⟩
            · by_cases h3 : er = 5
              · subst h3
                obtain rfl : β = false := by rw [HBB.out]; simp
                go_wp2_with fail
                go_meet
                exact ⟨rfl, Lib.hid rfl⟩
              · obtain rfl : β = true := by rw [HBB.out]; simp [h2, h3]
                have e1 : (er != 11) = true := by simp [h2]
                have e2 : (er != 5) = true := by simp [h3]
                clear h2 h3
                go_wp2_with fail
                go_meet
                exact ⟨rfl, Lib.hid rfl⟩
          · obtain rfl : β = false := by rw [HBB.out]; simp [h1]
            have e1 : (kd == 2) = false := by simpa using h1
            clear h1
            go_wp2_with fail
            go_meet
            exact ⟨rfl, Lib.hid rfl⟩
        case rest =>
          obtain ⟨rfl, HW⟩ := hcut
          have hw := HW.out
          subst hw
          clear x0 x2 HW
          have T8 := Lib.hid (T6.out.same K8.out)
          cases β with
          | true =>
            have Q : Hid (QuI W g1 g2 (k + 1) wc) := Lib.hid (by
              have h := of_decide_eq_true HBB.out.symm
              rcases KE.out with ⟨_, p, hz⟩ | ⟨hz, _⟩
              · have st := ST1.out
                rw [hz] at st
                obtain ⟨e1, e2⟩ := quiet_step SQ.out.2.1 st h.2.1 h.2.2
                subst e1 e2
                exact ⟨_, _, _, _, _, _, _, T8.out, SQ.out.1, SQ.out.2.1, by have := SQ.out.2.2.1; omega, by have := SQ.out.2.2.2; omega⟩
              · exact absurd h.1 hz)
            go_wp2_with fail
            go_roundw
            case rel => exact ⟨k + 1, by go_num, Lib.hid (by have := KK.out; omega), Q⟩
            case measure => have := KK.out; simp [intOf]; omega
          | false =>
            have BW8 : Hid (Below W.heap.size W wc) := Lib.hid T8.out.bl
            have DO2 : Hid (∀ y, Only [] wc y → Calls Tryz.prog 14 #[.pointer (some ⟨g2, 0, none⟩), .slice sa sn sc] y (TzTo2 W (t1 + 1) t2 g1 g2 D1 E u1 u Z1' Z2 y sx)) := Lib.hid fun y hy => by
              have h := two_one2 (T8.out.same hy) (SR.out y (T8.out.same hy).bl).1 (SR.out y (T8.out.same hy).bl).2.1 (SR.out y (T8.out.same hy).bl).2.2 (by have := SQ.out.2.2.2; have := HN.out; have := KK.out; omega)
              unfold Sl.v at h
              simp only [HSN.out] at h
              exact h
            have QC : Hid (∀ y, Only [] wc y → y.cell? ⟨b, off + k, none⟩ = some (.slice sa sn sc)) := Lib.hid fun y hy => CC.out y (T8.out.same hy).bl
            have V8 : Hid (∀ y, Only [] wc y → KvZ W.heap.size (Z1' ++ Z2) .u8 5 y (.slice ra rn rc) za) := Lib.hid fun y hy => V6.out.keep (.of (K8.out.trans hy (by simp)))
            have q1 := QC.out wc (Only.refl _ _)
            have q2 := QC.out wc.drew (Only.refl _ _).drew
            have cv1 := conv_ints (ints_own (V8.out wc (Only.refl _ _)).1)
            have cv2 := conv_ints (ints_own (V8.out wc.drew (Only.refl _ _).drew).1)
            have DN := Lib.hid (DO2.out wc.drew (Only.refl _ _).drew)
            go_upto_region 17 with fail
            go_region_with (first
              | ((with_reducible refine DN.out.mono ?_)
                 rintro _ w9 ⟨vb, zb, E1, v1, Z2', rfl, hst2, hT, hK, hv⟩
                 obtain ⟨hzb, huv, hsim⟩ := ST1.out.same SQ.out.1 hst2
                 subst hzb
                 subst huv
                 have cv3 := conv_ints (ints_own hv.1)
                 have cv4 := conv_ints (ints_own ((V8.out wc.drew (Only.refl _ _).drew).keep hK).1)
                 have T9 := Lib.hid hT
                 have SM := Lib.hid hsim
                 generalize strOfNums za = S0 at *
                 clear hst2 hT hK hv hsim))
            all_goals
              have Q : Hid (QuI W g1 g2 (k + 1) w9) := Lib.hid ⟨_, _, _, _, _, _, _, T9.out, SM.out, inv_step SQ.out.2.1 GD.out.nums.1 ST1.out, by have := SQ.out.2.2.1; omega, by have := SQ.out.2.2.2; omega⟩
              clear q1 q2 cv1 cv2 cv3 cv4
              go_wp2_with fail
              go_roundw
              case rel => exact ⟨k + 1, by go_num, Lib.hid (by have := KK.out; omega), Q⟩
              case measure => have := KK.out; simp [intOf]; omega
    · obtain rfl : n0 = k := by have := HI.out; omega
      have d4 : decide ((n0 : Int) < (n0 : Int)) = false := decide_eq_false (by omega)
      have d4' : decide (n0 < n0) = false := decide_eq_false (by omega)
      have BB : Hid (Below W.heap.size W w5) := Lib.hid (by obtain ⟨_, _, _, _, _, _, _, h, _⟩ := FI.out; exact h.bl)
      clear hk FI
      go_wp2_with fail
      refine (KN.out w5).mono ?_
      rintro _ w9 ⟨rfl, hb⟩
      have BE := Lib.hid (BB.out.trans (hb.mono BB.out.size))
      clear hb
      go_wp2_with fail
      go_ret
      exact ⟨rfl, BE.out⟩

theorem own : ownKnob Tryz.prog.godebug = none := by kernel_rfl
theorem laidOut : laidOutB Tryz.prog = true := by kernel_rfl

set_option maxRecDepth 100000 in
theorem contract (H : Type) (enc : TypeId × Value → H) (W : World) (base : Nat) (args : Array Value) (ds gs : List (DataW H)) (before : List MemPlace)
    (hval0 : ∀ (j : Nat) t v, Tryz.f3.params[j]? = some t → args[j]? = some v → Value.okWide Tryz.prog W .any base t v)
    (hW : DataW.Whole enc Tryz.prog Tryz.f3.params.toList Rows.sessionQuietSpec.vars false W args.toList ds gs before)
    (hsz0 : (DataW.weightsEach Tryz.prog (Tryz.f3.params.toList ++ Rows.sessionQuietSpec.plain.varTypes Tryz.prog) (ds ++ gs)).all (· ≤ reachBytes) = true) :
    Calls Tryz.prog 3 args W fun e W' => ∃ v, e = .returned v ∧ Rows.sessionQuietSpec.post enc Tryz.prog Tryz.f3 false true false false W args v W' := by
  have hval : ∀ (j : Nat) t v, Tryz.f3.params[j]? = some t → args[j]? = some v → Value.okWide Tryz.prog W .any base t v := hval0
  have hW' := hW
  obtain ⟨p, q, hA0, hV, rfl, hfz, hnd⟩ := hW
  have hA : DataW.TrodAll enc Tryz.prog W 0 (fun _ => true) true Tryz.f3.params.toList args.toList ds p := hA0
  have hsz : (DataW.weightsEach Tryz.prog (Tryz.f3.params.toList ++ Rows.sessionQuietSpec.plain.varTypes Tryz.prog) (ds ++ gs)).all (· ≤ reachBytes) = true := hsz0
  rw [Tryz.params3] at hA hval hsz
  obtain ⟨v0, vs0, d0, ds0, p0, q0, hargs, rfl, rfl, h0, r0'⟩ := trodAll_cons hA
  obtain ⟨rfl, rfl, rfl⟩ := trodAll_nil r0'
  obtain rfl : args = #[v0] := by cases args; simp_all
  obtain ⟨rfl, rfl⟩ := trodVars_none hV
  have k0 := h0
  have lt0 : ∀ x ∈ p0, x.block < W.heap.size := by obtain ⟨m, hm⟩ := k0; exact DataW.trod_lt m _ _ _ hm
  obtain ⟨a0, n0, c0, rfl⟩ := okWide_slice Tryz.underlying22 (hval 0 22 v0 rfl rfl)
  obtain ⟨z0, w0⟩ : ∃ zs, BysIn W a0 n0 zs := by
    obtain ⟨fuel, hf⟩ := h0
    simp [Value.cells] at hf
    exact bys_in hf
  clear hA0 hval0 hsz0
  refine (walk a0 n0 c0 z0 W w0).mono fun e W' ⟨he, bel⟩ => ?_
  subst he
  exact ⟨_, rfl, _, _, _, [], _, [], hW', trodAll_mk1 (shut_bool Tryz.underlying4 _), (trodAll_cons_mk (Below.trod laidOut (by kernel_rfl) (of_decide_eq_true (by kernel_rfl)) k0 bel lt0) trodAll_mk0), rfl, bel.frame _, fun h => by cases h⟩

set_option maxRecDepth 100000 in
theorem lifted (os : Os) (started : os.Started) (H : Type) (enc : TypeId × Value → H) :
    ReturnsInHanded {} Tryz.checked os 3 .any (Rows.sessionQuietSpec.pre6 enc Tryz.prog Tryz.f3 Rows.sessionQuietRow.domain false) (Rows.sessionQuietSpec.post enc Tryz.prog Tryz.f3 false true false false) := by
  refine returnsInHanded_of_change_sized (C := Tryz.checked) own started (by kernel_rfl) Tryz.func3
    (ChangeSpec.witness6 (enc := enc) (C := Tryz.checked) false ⟨#[], #[.slice none 0 0], []⟩ 8 (by kernel_rfl) (by kernel_rfl) (by kernel_rfl) (by kernel_rfl)) ?_
  intro W base args ds gs before hval hW _ hsz _
  exact contract H enc W base args ds gs before hval hW hsz

theorem over : Rows.sessionQuietRow.holds Tryz.pinned (OpenSpec.ofChange Rows.sessionQuietSpec) :=
  OpenClaim.holds_of_wide 3 Tryz.f3 rfl rfl rfl rfl rfl rfl rfl ⟨rfl, rfl, rfl, rfl, rfl⟩ rfl rfl rfl rfl rfl (by kernel_rfl) Tryz.func3 (by kernel_rfl)
    (of_decide_eq_true (by kernel_rfl)) (by unfold Func.isWrapper; first | (rw [if_pos (by decide +kernel)]; kernel_rfl) | (rw [if_neg (by decide +kernel)]; exact ⟨rfl, rfl⟩))
    (fun os started H enc _ => lifted os started H enc)

theorem proved : Rows.SessionQuietSaid := over
#print axioms proved
end Go.Proofs.YtcgmgdjeamidlaaGreat.sessionQuiet
