/- PageCrash: the walk. -/
import Derived.Test.YtomhflkjnldeoaaPgY
import Derived.Deep.CutRange
import Derived.Deep.CutBlock
import Derived.BigQuiet
import Derived.Deep.RegionWith
namespace Go.Proofs.Ytomhflkjnldeoaa.pageCrash
open Go.RowKit Go.ChangeShapes Go.WideShapes Go.ChangeAt
open Go.Proofs.Ytomhflkjnldeoaa.dk (Dk Dev newD new_dev errOff DoneTo stepS stepA syncD sync_dev arm_dev crash_dev crashD Bytes)
set_option linter.unusedVariables false

def Goal (a : Option Addr) (n c : Nat) (arm : Int) (pa : Option Addr) (m pc : Nat) (w : World) : Prop := Calls Try.prog 6 #[.slice a n c, .int .i64 arm, .slice pa m pc] w fun e w' => e = .returned (.bool true) ∧ Below w.heap.size w w'
def armed (A : Int) : Dk := { newD 32 32 with armed := A }
set_option maxRecDepth 100000 in
set_option maxHeartbeats 8000000 in
theorem main_ (a : Option Addr) (n c : Nat) (arm : Int) (pa : Option Addr) (m pc : Nat) (os : List PutV) (pk : List Int) (w : World) (ho : PutsIn w a n c os) (hm : pk.length = m) (hpk : Ints .u8 w (.slice pa m pc) pk) (hpb : ∀ x ∈ pk, 0 ≤ x ∧ x < 256) : Goal a n c arm pa m pc w := by
  unfold Goal
  obtain ⟨i0', hi0, hz0, hz1, hz2⟩ := info_parts infoPaper
  obtain ⟨A, hA, hA0, hA1⟩ := arm_eq arm
  have NN := Lib.hid (new_dev (Below.refl w.heap.size w) 32 32 (by omega) (by omega) (by omega) (by omega))
  have H := Lib.hid ho
  have PK : Hid (pk.length = m ∧ Ints .u8 w (.slice pa m pc) pk ∧ ∀ x ∈ pk, 0 ≤ x ∧ x < 256) := Lib.hid ⟨hm, hpk, hpb⟩
  have RA : Hid (0 ≤ A ∧ A < 200) := Lib.hid ⟨hA0, hA1⟩
  clear ho hm hpk hpb hA0 hA1
  go_enter Try.func6, Try.ntmps6
  go_wp2_with fail
  refine NN.out.mono ?_
  rintro _ w1 ⟨p, F, rfl, hd, k1, hF⟩
  have D1 := Lib.hid hd
  clear hd k1 hF NN
  go_wp2_with fail
  have HA := Lib.hid hA
  refine (arm_dev (n := A) D1.out RA.out.1 (by have := RA.out; omega)).mono ?_
  rintro _ w2 ⟨rfl, hd2, k2⟩
  have D2 : Hid (Dev w w2 p (armed A) F) := Lib.hid hd2
  have e0 : errOff (newD 32 32).off = 0 := rfl
  clear hd2 k2 D1 hA
  go_wp2_with fail
  refine (blanks_any 8 (by omega) w2).mono ?_
  rintro _ w3 ⟨v9, ls, rfl, hl3, hp3, hz3, k3⟩
  have FB : Hid (∀ x ∈ F, x < w2.heap.size) := Lib.hid D2.out.lt
  have WB : Hid (w.heap.size ≤ w2.heap.size) := Lib.hid D2.out.bl.size
  have D3 := Lib.hid (D2.out.none k3)
  have P3 : Hid (ls.length = 8 ∧ PgsAt w2.heap.size w3 v9 ls ∧ (∀ p ∈ ls, zeroPg p) ∧ w2.heap.size ≤ w3.heap.size) := Lib.hid ⟨hl3, hp3, hz3, k3.size⟩
  clear hl3 hp3 hz3 k3 D2
  go_wp2_with fail
  refine (blanks_any 8 (by omega) w3).mono ?_
  rintro _ w4 ⟨v10, ns, rfl, hl4, hp4, hz4, k4⟩
  obtain ⟨g9, c9, rfl, _⟩ := pgs_shape P3.out.2.1 P3.out.1 (by omega)
  obtain ⟨g, cg, rfl, hcg⟩ := pgs_shape hp4 hl4 (by omega)
  have HC := Lib.hid hcg
  obtain ⟨f, hf⟩ : ∃ f : Nat → Int, (fun k => ((os[k]?.getD default).n)) = f := ⟨_, rfl⟩
  have F0 : Hid (QInv w w4 p F (fun k => place8 (f k)) (.slice (some ⟨g9, 0, none⟩) 8 c9) g cg w2.heap.size (armed A) ls ns 0 ∧ CNow (armed A) ns ∧ (armed A).off = false) := Lib.hid (by
    obtain ⟨q1, q2, q3, q4⟩ := P3.out
    obtain ⟨c1, c2⟩ := cinv_new (fun k => place8 (f k)) (armed A) rfl rfl q1 hl4 q3 hz4
    have hg := (hp4.own.lt g rfl).1
    refine ⟨⟨D3.out.none k4, rfl, rfl, c1, q2.only k4 (by simp), pgs_raise hp4 q4, ?_, fun x hx e => ?_⟩, c2, rfl⟩
    · intro e
      have := (q2.own.lt g e).2
      omega
    · have := (q2.held x hx).1.lt
      omega)
  have HF' := Lib.hid hf
  generalize w2.heap.size = B at *
  clear hl4 hp4 hz4 k4 D3 P3 hcg hf
  go_upto_block 0 with fail
  go_cut [9] from 35 (fun s9 wc => ∃ g9 c9 : Nat, s9 = .slice (some ⟨g9, 0, none⟩) 8 c9 ∧ Hid (∃ D ls ns i, i ≤ 40 ∧ i ≤ n ∧ QInv w wc p F (fun k => place8 (f k)) (.slice (some ⟨g9, 0, none⟩) 8 c9) g cg B D ls ns i))
  case first =>
    go_wp2_with fail
    go_loopw [9, 11] (fun u v wr => ∃ (i g9 c9 : Nat), v = .int .i64 i ∧ u = .slice (some ⟨g9, 0, none⟩) 8 c9 ∧ Hid (i ≤ 40 ∧ i ≤ n) ∧ Hid (∃ D ls ns, QInv w wr p F (fun k => place8 (f k)) (.slice (some ⟨g9, 0, none⟩) 8 c9) g cg B D ls ns i ∧ CNow D ns ∧ D.off = false)) (fun _ v _ => 40 - (intOf v).toNat)
    case atStart => exact ⟨0, g9, c9, rfl, rfl, Lib.hid (by omega), Lib.hid ⟨_, _, _, F0.out⟩⟩
    case round =>
      clear F0
      obtain ⟨i, h9, d9, rfl, rfl, HI, HF⟩ := hrel
      have i0 : (0 : Int) ≤ (i : Int) := Int.natCast_nonneg _
      have ei : IntKind.i64.wrap ((i : Int) + 1) = (i : Int) + 1 := IntWalk.i64_in _ (by have := HI.out; omega)
      have eu : IntKind.u64.wrap ((i : Int) + 1) = (i : Int) + 1 := by rw [show IntKind.u64.wrap ((i : Int) + 1) = ((i : Int) + 1) % 18446744073709551616 from rfl]; have := HI.out; omega
      by_cases hin : i < n ∧ i < 40
      · obtain ⟨q1, q2⟩ := hin
        have d3 : decide ((i : Int) < (n : Int)) = true := decide_eq_true (by omega)
        have d4 : decide ((i : Int) < 40) = true := decide_eq_true (by omega)
        have d5 : (i : Int) < (n : Int) := by omega
        have HQ : Hid (i < n ∧ i < 40) := Lib.hid ⟨q1, q2⟩
        obtain ⟨D, ls, ns, hq, hnow, hoff⟩ := HF.out
        obtain ⟨ho1, ho2, ho3⟩ := H.out
        rcases ho3 with hn0 | ⟨bb, off, rfl, hput⟩
        · omega
        obtain ⟨x, hx⟩ : ∃ x, os[i]? = some x := ⟨_, List.getElem?_eq_getElem (by omega)⟩
        have px := hput i x hx
        have bw : bb < w.heap.size := World.block_lt_of_cell? w _ px.c0
        have FX : Hid (f i = x.n) := Lib.hid (by rw [← HF'.out]; show (os[i]?.getD default).n = _; rw [hx]; rfl)
        have c0 : wr.cell? ⟨bb, off + i * 4, none⟩ = some (.int .i64 x.n) := (hq.dev.bl.cell (p := ⟨bb, _, none⟩) bw).trans px.c0
        have LS : Hid (∀ y, Below w.heap.size w y → y.cell? ⟨bb, off + i * 4 + 3, none⟩ = some (.bool x.sync)) := Lib.hid fun y k => (k.cell (p := ⟨bb, _, none⟩) bw).trans px.c3
        have ep := place8_eq x.n
        obtain ⟨j, hj⟩ : ∃ j, place8 x.n = j := ⟨_, rfl⟩
        have J8 : Hid (j < 8) := Lib.hid (by rw [← hj]; unfold place8; omega)
        rw [hj] at ep
        have AT : Hid ((fun k => place8 (f k)) i = j) := Lib.hid (by show place8 (f i) = j; rw [FX.out, hj])
        have HQI := Lib.hid hq
        have HNOW := Lib.hid hnow
        have HOFF := Lib.hid hoff
        have BW := Lib.hid bw
        clear hj ho1 ho2 hput hx px hq hnow hoff HF q1 q2 bw
        go_wp2_with fail
        refine (body_any ((i : Int) + 1) wr).mono ?_
        rintro _ w6 ⟨rfl, ho6, k6, hs6⟩
        have K6 := Lib.hid k6
        have H6 : Hid (Held wr.heap.size w6 ⟨(i : Int) + 1, wr.heap.size, bodyL ((i : Int) + 1)⟩) := Lib.hid (held_body ho6 (Nat.le_refl _))
        clear ho6 k6 hs6 c0
        go_wp2_with fail
        have Q7 : Hid (QInv w (w6.alloc (.cells #[.int .u64 ((i : Int) + 1), .slice (some ⟨wr.heap.size, 0, none⟩) 500 500] 25)) p F (fun k => place8 (f k)) (.slice (some ⟨h9, 0, none⟩) 8 d9) g cg B D ls ns i) := Lib.hid (inv_none HQI.out (K6.out.alloc _))
        have H7 : Hid (Held wr.heap.size (w6.alloc (.cells #[.int .u64 ((i : Int) + 1), .slice (some ⟨wr.heap.size, 0, none⟩) 500 500] 25)) ⟨(i : Int) + 1, wr.heap.size, bodyL ((i : Int) + 1)⟩) := Lib.hid (H6.out.only ((Only.refl [] _).alloc _) (by simp))
        have R7 : Hid (Row (w6.alloc (.cells #[.int .u64 ((i : Int) + 1), .slice (some ⟨wr.heap.size, 0, none⟩) 500 500] 25)) w6.heap.size #[.int .u64 ((i : Int) + 1), .slice (some ⟨wr.heap.size, 0, none⟩) 500 500] 25) := Lib.hid (Row.made _ _ _)
        have G7 : Hid (g < wr.heap.size ∧ B ≤ wr.heap.size ∧ w6.heap.size ∉ F) := Lib.hid (by
          have h1 := HQI.out.pn.own.lt g rfl
          have h2 := K6.out.size
          exact ⟨h1.2, by omega, fun hf => by have := FB.out _ hf; omega⟩)
        generalize w6.alloc (.cells #[.int .u64 ((i : Int) + 1), .slice (some ⟨wr.heap.size, 0, none⟩) 500 500] 25) = w7 at *
        generalize w6.heap.size = q7 at *
        generalize wr.heap.size = gb at *
        obtain ⟨D', hD'⟩ : ∃ D', pageW D (4 * (j : Int)) (roundB i) 4 = D' := ⟨_, rfl⟩
        have T : Calls Try.prog 18 #[.pointer (some ⟨p, 0, none⟩), .int .i64 0, .int .i64 j, .agg #[.int .u64 ((i : Int) + 1), .slice (some ⟨gb, 0, none⟩) 500 500]] w7 (DoneTo w p F D' (errOff D'.off) w7) := by
          have h := write_page Q7.out.dev 0 (j : Int) ((i : Int) + 1) (some ⟨gb, 0, none⟩) 500 (bodyL ((i : Int) + 1)) (by rw [Q7.out.sec]; have := J8.out; exact ⟨by omega, by omega, by omega, by omega⟩) (by rw [Q7.out.most, Q7.out.sec]) (by omega) (by have := HQ.out; omega) (bodyL_len _) H7.out.ints (bodyL_by _)
          rw [Int.zero_add] at h
          rw [← hD']
          exact h
        have HD' := Lib.hid hD'
        clear hD' HQI K6 H6
        refine T.mono ?_
        rintro _ w8 ⟨rfl, hd8, k8⟩
        have D8 := Lib.hid hd8
        have K8 := Lib.hid k8
        have R8 := Lib.hid (R7.out.only k8 G7.out.2.2)
        have P8 := Lib.hid (Q7.out.pn.only k8 FB.out)
        clear hd8 k8 T
        have r0 : w8.cell? ⟨q7, 0, none⟩ = some (.int .u64 ((i : Int) + 1)) := R8.out.cell 0
        have r1 : w8.cell? ⟨q7, 1, none⟩ = some (.slice (some ⟨gb, 0, none⟩) 500 500) := R8.out.cell 1
        have f0 := (pgs_own P8.out Q7.out.inv.ln).frozenAt (j * 2)
        have f1 := (pgs_own P8.out Q7.out.inv.ln).frozenAt (j * 2 + 1)
        obtain ⟨z0, hz0'⟩ : ∃ z, w8.cell? ⟨g, j * 2, none⟩ = some z := pgs_some P8.out Q7.out.inv.ln (by have := J8.out; omega)
        obtain ⟨z1, hz1'⟩ : ∃ z, w8.cell? ⟨g, j * 2 + 1, none⟩ = some z := pgs_some P8.out Q7.out.inv.ln (by have := J8.out; omega)
        have j8 : (j : Int) < 8 := by have := J8.out; omega
        have j0 : (0 : Int) ≤ (j : Int) := Int.natCast_nonneg _
        have NEW : Hid (QInv w ((w8.setCell ⟨g, j * 2, none⟩ (.int .u64 ((i : Int) + 1))).setCell ⟨g, j * 2 + 1, none⟩ (.slice (some ⟨gb, 0, none⟩) 500 500)) p F (fun k => place8 (f k)) (.slice (some ⟨h9, 0, none⟩) 8 d9) g cg B D' ls (ns.set j ⟨(i : Int) + 1, gb, bodyL ((i : Int) + 1)⟩) (i + 1)) := Lib.hid (inv_put Q7.out J8.out AT.out D8.out K8.out HD'.out.symm (H7.out.raise G7.out.2.1) (by have := G7.out.1; show gb ≠ g; omega) rfl rfl FB.out WB.out)
        cases hoff : D'.off
        · have e6 : errOff false = 0 := rfl
          have NOW : Hid (CNow D' (ns.set j ⟨(i : Int) + 1, gb, bodyL ((i : Int) + 1)⟩)) := Lib.hid (by
            rw [← HD'.out]
            exact HNOW.out.write Q7.out.inv.ln J8.out rfl rfl (by rw [HD'.out]; exact hoff))
          have HO := Lib.hid hoff
          clear hoff
          go_upto_region 15 with fail
          generalize (w8.setCell ⟨g, j * 2, none⟩ (.int .u64 ((i : Int) + 1))).setCell ⟨g, j * 2 + 1, none⟩ (.slice (some ⟨gb, 0, none⟩) 500 500) = w9 at *
          obtain ⟨ns', hns⟩ : ∃ ns', ns.set j ⟨(i : Int) + 1, gb, bodyL ((i : Int) + 1)⟩ = ns' := ⟨_, rfl⟩
          rw [hns] at NEW NOW
          have l3 := LS.out w9 NEW.out.dev.bl
          generalize x.sync = sy at *
          clear r0 r1 f0 f1 hz0' hz1' hns R8 P8 D8 K8 R7 H7 Q7 HD' HNOW HOFF
          cases sy
          · go_wp2_with fail
            go_roundw
            case rel => exact ⟨i + 1, h9, d9, by first | rfl | go_num, rfl, Lib.hid (by have := HQ.out; omega), Lib.hid ⟨_, _, _, NEW.out, NOW.out, HO.out⟩⟩
            case measure =>
              have := HQ.out
              simp [intOf]
              omega
          · go_wp2_with fail
            refine (sync_dev NEW.out.dev).mono ?_
            rintro _ w10 ⟨rfl, hd10, k10⟩
            have D10 := Lib.hid hd10
            have K10 := Lib.hid k10
            clear hd10 k10
            cases hs : (stepS D').off
            · have e6' : errOff false = 0 := rfl
              have HS : Hid (stepS D' = syncD D') := Lib.hid (stepS_on hs HO.out)
              have HSO : Hid ((syncD D').off = false) := Lib.hid (by rw [← HS.out]; exact hs)
              have P10 := Lib.hid (NEW.out.pn.only K10.out FB.out)
              have C10 := Lib.hid (NEW.out.inv.sync NOW.out)
              have SZ : Hid (B ≤ w10.heap.size) := Lib.hid (by have := (P10.out.own.lt g rfl); omega)
              have PX : Hid (PgsAt B (w10.alloc (.cells #[] 25)) (.slice (some ⟨g, 0, none⟩) 8 cg) ns') := Lib.hid (P10.out.only ((Only.refl [] _).alloc _) (by simp))
              clear hs
              go_wp2_with (at_builtin; refine wpList_append_at rfl (.tmp 84) (.tmp 85) 40 rfl B 25 i0' (.agg #[.int .u64 0, .slice none 0 0]) 2 32 Try.underlying40 hi0 hz0 hz1 hz2 rfl (by decide) _ 0 [] rfl (World.ownsRow_made w10 #[] 0 SZ.out (by decide) rfl) ⟨g, 0, none⟩ 8 cg (cellsP ns') rfl (by rw [cellsP_len, NEW.out.inv.ln]) (fun q' u hq => by rw [add_plain, Nat.zero_add, (pgs_own PX.out NEW.out.inv.ln).cellAt q' (by have := (List.getElem?_eq_some_iff.1 hq).1; rw [cellsP_len, NEW.out.inv.ln] at this; exact this)]; exact hq) (cellsP_one ns') (by unfold maxLen; omega) (by omega) (Nat.le_trans SZ.out (by simp)) ?_)
              intro v11 w11 hown11 hg11 hf11
              have hv11 : ∀ b, v11.ownBlock = some b → w10.heap.size ≤ b := fun b hb => by
                rcases hf11 with e | e
                · rw [e] at hb
                  simp [Value.ownBlock] at hb
                  omega
                · have h1 := e b hb
                  first | omega | (simp at h1; omega)
              have k11 : Only [] w10 w11 := ((Only.refl [] w10).alloc _).grown hg11 fun b hb => .inr (by simp [Value.ownBlock] at hb; omega)
              obtain ⟨u1, u2, u3⟩ := pgs_copy P10.out NEW.out.inv.ln k11 (by simpa using hown11) hv11
              obtain ⟨x9, y9, rfl, _⟩ := pgs_shape u1 NEW.out.inv.ln (by omega)
              have QN : Hid (QInv w w11 p F (fun k => place8 (f k)) (.slice (some ⟨x9, 0, none⟩) 8 y9) g cg B (syncD D') ns' ns' (i + 1)) := Lib.hid ⟨by
                have h := D10.out.none k11
                rw [HS.out] at h
                exact h, by
                have : (stepS D').sectors = D'.sectors := by rw [HS.out]; exact dk.opD_sectors D'
                rw [← HS.out, this]; exact NEW.out.sec, by
                have : (stepS D').most = D'.most := by rw [HS.out]; exact dk.opD_most D'
                rw [← HS.out, this]; exact NEW.out.most, C10.out.1, u1, P10.out.only k11 (by simp), u2, u3⟩
              clear hown11 hg11 hf11 hv11 k11 u1 u2 u3
              go_wp2_with fail
              go_roundw
              case rel => exact ⟨i + 1, x9, y9, by first | rfl | go_num, rfl, Lib.hid (by have := HQ.out; omega), Lib.hid ⟨_, _, _, QN.out, C10.out.2, HSO.out⟩⟩
              case measure =>
                have := HQ.out
                simp [intOf]
                omega
            · have e6' : errOff true = 6 := rfl
              obtain ⟨z1, z2, z3, z4⟩ := stepS_same hs HO.out
              have QN : Hid (QInv w w10 p F (fun k => place8 (f k)) (.slice (some ⟨h9, 0, none⟩) 8 d9) g cg B (stepS D') ls ns' (i + 1)) := Lib.hid ⟨D10.out, by rw [z3]; exact NEW.out.sec, by rw [z4]; exact NEW.out.most, cinv_eq NEW.out.inv z1 z2, NEW.out.pl.only K10.out FB.out, NEW.out.pn.only K10.out FB.out, NEW.out.s1, NEW.out.s2⟩
              clear hs z1 z2 z3 z4
              go_wp2_with fail
              go_meet
              exact ⟨h9, d9, rfl, Lib.hid ⟨_, _, _, i + 1, by have := HQ.out; omega, by have := HQ.out; omega, QN.out⟩⟩
        · have e6 : errOff true = 6 := rfl
          clear hoff
          go_wp2_with fail
          go_meet
          exact ⟨h9, d9, rfl, Lib.hid ⟨_, _, _, i + 1, by have := HQ.out; omega, by have := HQ.out; omega, NEW.out⟩⟩
      · obtain ⟨D, ls, ns, hq, hnow, hoff⟩ := HF.out
        have GO : Hid (∃ D ls ns i, i ≤ 40 ∧ i ≤ n ∧ QInv w wr p F (fun k => place8 (f k)) (.slice (some ⟨h9, 0, none⟩) 8 d9) g cg B D ls ns i) := Lib.hid ⟨D, ls, ns, i, HI.out.1, HI.out.2, hq⟩
        clear HF hq hnow hoff
        by_cases q1 : i < n
        · have d3 : decide ((i : Int) < (n : Int)) = true := decide_eq_true (by omega)
          have d5 : (i : Int) < (n : Int) := by omega
          have d4 : decide ((i : Int) < 40) = false := decide_eq_false (by omega)
          clear hin
          go_wp2_with fail
          go_meet
          exact ⟨h9, d9, rfl, GO⟩
        · have d3 : decide ((i : Int) < (n : Int)) = false := decide_eq_false (by omega)
          have d5 : ¬ (i : Int) < (n : Int) := by omega
          clear hin
          go_wp2_with fail
          go_meet
          exact ⟨h9, d9, rfl, GO⟩
  case rest =>
    obtain ⟨h9, d9, rfl, HR⟩ := hcut
    obtain ⟨D, ls', ns', i, hi1, hi2, hq⟩ := HR.out
    have IN : Hid (i ≤ 40 ∧ i ≤ n) := Lib.hid ⟨hi1, hi2⟩
    have Q := Lib.hid hq
    obtain ⟨p1, p2, p3⟩ := PK.out
    have CR := Lib.hid (crash_dev (pk := pk) hq.dev p1 (p2.below' hq.dev.bl) p3 (fun hm a ha hf => by
      obtain ⟨b', off', cap', hv, hc⟩ := p2.shape (by rw [p1]; exact hm)
      simp only [Value.slice.injEq] at hv
      obtain ⟨e1, _, _⟩ := hv
      rw [e1] at ha
      cases ha
      have h1 : b' < w.heap.size := World.block_lt_of_cell? w _ (hc 0 (by rw [p1]; exact hm))
      have h2 : w.heap.size ≤ b' := hq.dev.ge _ hf
      omega))
    clear F0 HR hi1 hi2 hq p1 p2 p3
    go_wp2_with fail
    refine CR.out.mono ?_
    rintro _ w2' ⟨rfl, hd2, k2⟩
    have D2 := Lib.hid hd2
    have F1 : Hid (FInv w w2' p F (crashD D pk) h9 d9 g cg B ls' ns') := Lib.hid ⟨hd2, Q.out.pl.only k2 FB.out, Q.out.pn.only k2 FB.out⟩
    clear hd2 k2 CR
    go_wp2_with fail
    go_loopw [15] (fun u wr => ∃ j : Nat, j ≤ 8 ∧ u = .int .i64 j ∧ Hid (FInv w wr p F (crashD D pk) h9 d9 g cg B ls' ns')) (fun u _ => 8 - (intOf u).toNat)
    case atStart => exact ⟨0, by omega, rfl, F1⟩
    case round =>
      clear F1
      obtain ⟨j, hj, rfl, HF⟩ := hrel
      have j0 : (0 : Int) ≤ (j : Int) := Int.natCast_nonneg _
      by_cases hlt : j < 8
      · have d1 : decide ((j : Int) < 8) = true := decide_eq_true (by omega)
        have d2 : (j : Int) < 8 := by omega
        have ej : IntKind.i64.wrap ((j : Int) + 1) = (j : Int) + 1 := IntWalk.i64_in _ (by omega)
        have J8 := Lib.hid hlt
        obtain ⟨x, y, hx, hy, haf⟩ := inv_after Q.out D2.out hlt
        obtain ⟨x0, x1⟩ := pgs_cells HF.out.pl Q.out.inv.ll hlt hx
        obtain ⟨y0, y1⟩ := pgs_cells HF.out.pn Q.out.inv.ln hlt hy
        have XC : Hid (wr.cell? ⟨h9, j * 2, none⟩ = some (.int .u64 x.n) ∧ wr.cell? ⟨h9, j * 2 + 1, none⟩ = some (.slice (some ⟨x.b, 0, none⟩) 500 500) ∧ wr.cell? ⟨g, j * 2, none⟩ = some (.int .u64 y.n) ∧ wr.cell? ⟨g, j * 2 + 1, none⟩ = some (.slice (some ⟨y.b, 0, none⟩) 500 500)) := Lib.hid ⟨x0, x1, y0, y1⟩
        have HX := Lib.hid (HF.out.pl.held x (List.mem_of_getElem? hx)).1
        have HY := Lib.hid (HF.out.pn.held y (List.mem_of_getElem? hy)).1
        have AF := Lib.hid haf
        have RK : Hid (Calls Try.prog 20 #[.pointer (some ⟨p, 0, none⟩), .int .i64 0, .int .i64 j] wr (ReadPost w p F (crashD D pk) (4 * (j : Int)) wr)) := Lib.hid (by
          have h := read_page HF.out.dev 0 (j : Int) (by rw [show (crashD D pk).sectors = D.sectors from rfl, Q.out.sec]; exact ⟨by omega, by omega, by omega, by omega⟩) rfl
          rw [Int.zero_add] at h
          exact h)
        obtain ⟨Bs, hBs⟩ : ∃ Bs, pageOn (crashD D pk) (4 * (j : Int)) 4 = Bs := ⟨_, rfl⟩
        rw [hBs] at AF
        have RP : Hid (∀ e w', ReadPost w p F (crashD D pk) (4 * (j : Int)) wr e w' → ∃ v, e = .returned (.tuple #[.agg #[.int .u64 (openN Bs), v], .int .i64 (openE Bs)]) ∧ w'.ownsRow wr.heap.size 5 1 v (openB Bs).length ((openB Bs).map (Value.int .u8)) ∧ Only [] wr w') := Lib.hid fun e w' h => by
          obtain ⟨v, h1, h2, h3, h4⟩ := h
          rw [hBs] at h1 h2
          exact ⟨v, h1, h2, h4⟩
        clear hx hy haf x0 x1 y0 y1 hBs hlt hj
        go_wp2_with fail
        refine RK.out.mono ?_
        rintro e6 w6 h6
        obtain ⟨v6, rfl, ho6, k6⟩ := RP.out _ _ h6
        obtain ⟨p6, c6, rfl, _, _⟩ := own_shape ho6
        have I6 := Lib.hid (ints_own ho6)
        have K6 := Lib.hid k6
        clear h6 ho6 k6 RK RP
        go_wp2_with fail
        have R7 : Hid (Row (w6.alloc (.cells #[.int .u64 (openN Bs), .slice p6 (openB Bs).length c6] 25)) w6.heap.size #[.int .u64 (openN Bs), .slice p6 (openB Bs).length c6] 25) := Lib.hid (Row.made _ _ _)
        have I7 : Hid (Ints .u8 (w6.alloc (.cells #[.int .u64 (openN Bs), .slice p6 (openB Bs).length c6] 25)) (.slice p6 (openB Bs).length c6) (openB Bs)) := Lib.hid (I6.out.below' ((Below.refl _ _).alloc (Nat.le_refl _) _))
        have K7 : Hid (Only [] wr (w6.alloc (.cells #[.int .u64 (openN Bs), .slice p6 (openB Bs).length c6] 25))) := Lib.hid (K6.out.alloc _)
        generalize w6.alloc (.cells #[.int .u64 (openN Bs), .slice p6 (openB Bs).length c6] 25) = w7 at *
        generalize w6.heap.size = q7 at *
        clear I6 K6
        have CE : Hid (∀ z, Only [] wr z → z.cell? ⟨h9, j * 2, none⟩ = some (.int .u64 x.n) ∧ z.cell? ⟨h9, j * 2 + 1, none⟩ = some (.slice (some ⟨x.b, 0, none⟩) 500 500) ∧ z.cell? ⟨g, j * 2, none⟩ = some (.int .u64 y.n) ∧ z.cell? ⟨g, j * 2 + 1, none⟩ = some (.slice (some ⟨y.b, 0, none⟩) 500 500)) := Lib.hid fun z k => by
          obtain ⟨a1, a2, a3, a4⟩ := XC.out
          have b1 := World.block_lt_of_cell? wr _ a1
          have b2 := World.block_lt_of_cell? wr _ a3
          exact ⟨(k.cell b1 (by simp)).trans a1, (k.cell b1 (by simp)).trans a2, (k.cell b2 (by simp)).trans a3, (k.cell b2 (by simp)).trans a4⟩
        have j8 : (j : Int) < 8 := by have := J8.out; omega
        have DONE : Hid (∀ wz, Only [] wr wz → ((∃ j_1, j_1 ≤ 8 ∧ Value.int IntKind.i64 ((j : Int) + 1) = Value.int IntKind.i64 (j_1 : Nat) ∧ Hid (FInv w wz p F (crashD D pk) h9 d9 g cg B ls' ns')) ∧ 8 - (intOf (Value.int IntKind.i64 ((j : Int) + 1))).toNat < 8 - (intOf (Value.int IntKind.i64 (j : Int))).toNat)) := Lib.hid fun wz k => ⟨⟨j + 1, by have := J8.out; omega, rfl, Lib.hid (HF.out.on k)⟩, by have := J8.out; simp [intOf]; omega⟩
        have CA : Hid (∀ z, Only [] wr z → ∀ v : After z.heap.size z, v.1.cell? ⟨h9, j * 2, none⟩ = some (.int .u64 x.n) ∧ v.1.cell? ⟨h9, j * 2 + 1, none⟩ = some (.slice (some ⟨x.b, 0, none⟩) 500 500) ∧ v.1.cell? ⟨g, j * 2, none⟩ = some (.int .u64 y.n) ∧ v.1.cell? ⟨g, j * 2 + 1, none⟩ = some (.slice (some ⟨y.b, 0, none⟩) 500 500)) := Lib.hid fun z k v => CE.out v.1 (k.below v.2)
        have HXY : Hid (∀ z, Only [] wr z → ∀ v : After z.heap.size z, Ints .u8 v.1 (.slice (some ⟨x.b, 0, none⟩) 500 500) x.xs ∧ Ints .u8 v.1 (.slice (some ⟨y.b, 0, none⟩) 500 500) y.xs) := Lib.hid fun z k v => ⟨(HX.out.only (k.below v.2) (by simp)).ints, (HY.out.only (k.below v.2) (by simp)).ints⟩
        have BX := Lib.hid HX.out.by_
        have BY := Lib.hid HY.out.by_
        rcases openE_two AF.out.mix.len with he | he
        · have HE := Lib.hid he
          rw [he]
          clear he
          refine region_quiet_in w7.heap.size w7 (by kernel_rfl) (by kernel_rfl) (Below.refl _ _).drew ?_
          repeat (go_big_quiet_step (fail))
          refine wpQuiet_nil ?_
          intro w8 hb8
          have K8 : Hid (Only [] wr w8) := Lib.hid (K7.out.below hb8)
          have R8 : Hid (Row w8 q7 #[.int .u64 (openN Bs), .slice p6 (openB Bs).length c6] 25) := Lib.hid (R7.out.of_block (hb8.block _ R7.out.lt))
          have I8 := Lib.hid (I7.out.below' hb8)
          clear hb8 K7 R7 I7
          have C8 : Hid (∀ v : After w8.heap.size w8, v.1.cell? ⟨q7, 0, none⟩ = some (.int .u64 (openN Bs)) ∧ v.1.cell? ⟨q7, 1, none⟩ = some (.slice p6 (openB Bs).length c6)) := Lib.hid fun v => ⟨(v.cell R8.out.lt).trans (R8.out.cell 0), (v.cell R8.out.lt).trans (R8.out.cell 1)⟩
          have OB : Hid (IsBy (openB Bs)) := Lib.hid (openB_by' AF.out.mix.by_)
          have S1 : Hid (∀ v : After w8.heap.size w8, Calls Try.prog 11 #[.agg #[.int .u64 (openN Bs), .slice p6 (openB Bs).length c6], .agg #[.int .u64 x.n, .slice (some ⟨x.b, 0, none⟩) 500 500]] v.1 fun e w' => e = .returned (.bool (decide (openN Bs = x.n ∧ openB Bs = x.xs))) ∧ Below v.1.heap.size v.1 w') := Lib.hid fun v =>
            same_any v.1 (openN Bs) x.n (.slice p6 (openB Bs).length c6) (.slice (some ⟨x.b, 0, none⟩) 500 500) (openB Bs) x.xs (I8.out.below' v.2) (HXY.out w8 K8.out v).1 OB.out BX.out
          have S2 : Hid (∀ v : After w8.heap.size w8, Calls Try.prog 11 #[.agg #[.int .u64 (openN Bs), .slice p6 (openB Bs).length c6], .agg #[.int .u64 y.n, .slice (some ⟨y.b, 0, none⟩) 500 500]] v.1 fun e w' => e = .returned (.bool (decide (openN Bs = y.n ∧ openB Bs = y.xs))) ∧ Below v.1.heap.size v.1 w') := Lib.hid fun v =>
            same_any v.1 (openN Bs) y.n (.slice p6 (openB Bs).length c6) (.slice (some ⟨y.b, 0, none⟩) 500 500) (openB Bs) y.xs (I8.out.below' v.2) (HXY.out w8 K8.out v).2 OB.out BY.out
          have MX : Hid (¬ (openN Bs = x.n ∧ openB Bs = x.xs) → ∀ v : After w8.heap.size w8, Calls Try.prog 24 #[.agg #[.int .u64 (openN Bs), .slice p6 (openB Bs).length c6], .int .i64 j, .slice a n c] v.1 fun e w' => e = .returned (.bool true) ∧ Below v.1.heap.size v.1 w') := Lib.hid fun hne v => by
            obtain ⟨m1, m2, m3, m4, m5⟩ := after_new AF.out HE.out hne
            have ns : NsAt w a n f := by rw [← HF'.out]; exact puts_ns H.out
            have bl := (HF.out.on K8.out).dev.bl
            exact mixed_any v.1 (openN Bs) (.slice p6 (openB Bs).length c6) (openB Bs) j a n c f m4 m5 m2 (I8.out.below' v.2) m3 J8.out (ns.below (bl.trans (v.2.mono bl.size))) H.out.2.1 (by rw [m1]; exact after_half AF.out IN.out.2 IN.out.1)
          clear I8 HXY
          go_wp2_with fail
          have c1 := CA.out w8 K8.out
          have c2 := C8.out
          clear C8 CA CE
          by_cases hs1 : openN Bs = x.n ∧ openB Bs = x.xs
          · have S1' : ∀ v : After w8.heap.size w8, Calls Try.prog 11 #[.agg #[.int .u64 (openN Bs), .slice p6 (openB Bs).length c6], .agg #[.int .u64 x.n, .slice (some ⟨x.b, 0, none⟩) 500 500]] v.1 fun e w' => e = .returned (.bool true) ∧ Below v.1.heap.size v.1 w' := fun v => by
              have h := S1.out v
              rw [decide_eq_true hs1] at h
              exact h
            have S1h := Lib.hid S1'
            clear S1' hs1 S1 S2 MX
            refine region_quiet_in w8.heap.size w8 (by kernel_rfl) (by kernel_rfl) (Below.refl _ _).drew ?_
            repeat (go_big_quiet_step ((go_at_call 11; exact Calls.in_after' (Nat.le_refl _) (S1h.out _))))
            refine wpQuiet_nil ?_
            intro w9 hb9
            have K9 : Hid (Only [] wr w9) := Lib.hid (K8.out.below hb9)
            clear c1 c2 hb9
            go_wp2_with fail
            exact DONE.out _ K9.out
          · have S1' : ∀ v : After w8.heap.size w8, Calls Try.prog 11 #[.agg #[.int .u64 (openN Bs), .slice p6 (openB Bs).length c6], .agg #[.int .u64 x.n, .slice (some ⟨x.b, 0, none⟩) 500 500]] v.1 fun e w' => e = .returned (.bool false) ∧ Below v.1.heap.size v.1 w' := fun v => by
              have h := S1.out v
              rw [decide_eq_false hs1] at h
              exact h
            have S1h := Lib.hid S1'
            have MXh := Lib.hid (MX.out hs1)
            clear S1' S1 MX hs1
            by_cases hs2 : openN Bs = y.n ∧ openB Bs = y.xs
            · have S2' : ∀ v : After w8.heap.size w8, Calls Try.prog 11 #[.agg #[.int .u64 (openN Bs), .slice p6 (openB Bs).length c6], .agg #[.int .u64 y.n, .slice (some ⟨y.b, 0, none⟩) 500 500]] v.1 fun e w' => e = .returned (.bool true) ∧ Below v.1.heap.size v.1 w' := fun v => by
                have h := S2.out v
                rw [decide_eq_true hs2] at h
                exact h
              have S2h := Lib.hid S2'
              clear S2' S2 hs2 MXh
              refine region_quiet_in w8.heap.size w8 (by kernel_rfl) (by kernel_rfl) (Below.refl _ _).drew ?_
              repeat (go_big_quiet_step ((first | (go_at_call_of 11 x.b; exact Calls.in_after' (Nat.le_refl _) (S1h.out _)) | (go_at_call_of 11 y.b; exact Calls.in_after' (Nat.le_refl _) (S2h.out _)))))
              refine wpQuiet_nil ?_
              intro w9 hb9
              have K9 : Hid (Only [] wr w9) := Lib.hid (K8.out.below hb9)
              clear c1 c2 hb9
              go_wp2_with fail
              exact DONE.out _ K9.out
            · have S2' : ∀ v : After w8.heap.size w8, Calls Try.prog 11 #[.agg #[.int .u64 (openN Bs), .slice p6 (openB Bs).length c6], .agg #[.int .u64 y.n, .slice (some ⟨y.b, 0, none⟩) 500 500]] v.1 fun e w' => e = .returned (.bool false) ∧ Below v.1.heap.size v.1 w' := fun v => by
                have h := S2.out v
                rw [decide_eq_false hs2] at h
                exact h
              have S2h := Lib.hid S2'
              clear S2' S2 hs2
              refine region_quiet_in w8.heap.size w8 (by kernel_rfl) (by kernel_rfl) (Below.refl _ _).drew ?_
              repeat (go_big_quiet_step ((first | (first | (go_at_call_of 11 x.b; exact Calls.in_after' (Nat.le_refl _) (S1h.out _)) | (go_at_call_of 11 y.b; exact Calls.in_after' (Nat.le_refl _) (S2h.out _))) | (go_at_call 24; exact Calls.in_after' (Nat.le_refl _) (MXh.out _)))))
              refine wpQuiet_nil ?_
              intro w9 hb9
              have K9 : Hid (Only [] wr w9) := Lib.hid (K8.out.below hb9)
              clear c1 c2 hb9
              go_wp2_with fail
              exact DONE.out _ K9.out
        · have HE := Lib.hid he
          rw [he]
          have c1 := CA.out w7 K7.out
          have SM : ∀ v : After w7.heap.size w7, Calls Try.prog 11 #[.agg #[.int .u64 x.n, .slice (some ⟨x.b, 0, none⟩) 500 500], .agg #[.int .u64 y.n, .slice (some ⟨y.b, 0, none⟩) 500 500]] v.1 fun e w' => e = .returned (.bool false) ∧ Below v.1.heap.size v.1 w' := fun v => by
            have h := same_any v.1 x.n y.n (.slice (some ⟨x.b, 0, none⟩) 500 500) (.slice (some ⟨y.b, 0, none⟩) 500 500) x.xs y.xs (HXY.out w7 K7.out v).1 (HXY.out w7 K7.out v).2 BX.out BY.out
            rw [show decide (x.n = y.n ∧ x.xs = y.xs) = false from decide_eq_false fun h => after_bad AF.out IN.out.1 he h.1] at h
            exact h
          have SM' := Lib.hid SM
          clear SM he R7 I7
          refine region_quiet_in w7.heap.size w7 (by kernel_rfl) (by kernel_rfl) (Below.refl _ _).drew ?_
          repeat (go_big_quiet_step ((go_at_call 11; exact Calls.in_after' (Nat.le_refl _) (SM'.out _))))
          refine wpQuiet_nil ?_
          intro w8 hb8
          have K8 : Hid (Only [] wr w8) := Lib.hid (K7.out.below hb8)
          clear c1 hb8
          go_wp2_with fail
          exact DONE.out _ K8.out
      · have d1 : decide ((j : Int) < 8) = false := decide_eq_false (by omega)
        have B9 := Lib.hid HF.out.dev.bl
        clear HF
        go_wp2_with fail
        refine (known_any wr).mono ?_
        rintro _ w9 ⟨rfl, hb9⟩
        have B10 := Lib.hid (B9.out.trans (hb9.mono B9.out.size))
        clear hb9
        go_wp2_with fail
        go_ret
        exact ⟨rfl, B10.out⟩
end Go.Proofs.Ytomhflkjnldeoaa.pageCrash
