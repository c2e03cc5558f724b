/- DiskAll: a crash by which all that waits lasts is as a sync; one by which nothing does is as if nothing had waited: for every input. -/
import Derived.Test.YtiheobbollpaaaaDkN
import Derived.OpenShut
import Derived.OwnWalk
namespace Go.Proofs.Ytiheobbollpaaaa.diskAll
open Go.ChangeShapes Go.WideShapes Go.ChangeAt Go.RowKit Go.Joins
set_option linter.unusedVariables false

/-- The twelve picks. -/
def ones : List Int := [1, 5, 1, 1, 9, 1, 1, 1, 253, 1, 1, 1]
theorem ones_pick {j : Nat} (h : j < 12) : pickAt ones j = 1 := by
  rcases (by omega : j = 0 ∨ j = 1 ∨ j = 2 ∨ j = 3 ∨ j = 4 ∨ j = 5 ∨ j = 6 ∨ j = 7 ∨ j = 8 ∨ j = 9 ∨ j = 10 ∨ j = 11) with rfl | rfl | rfl | rfl | rfl | rfl | rfl | rfl | rfl | rfl | rfl | rfl <;> decide
/-- At most as many wait as there are. -/
theorem waits_few {D : Dk} (hf : D.Fine) (hn : (D.waits.map (·.1)).Nodup) (hs : D.sectors = 12) : D.waits.length ≤ 12 := by
  have h2 : ((D.waits.map (·.1)).map Int.toNat).Nodup := by
    rw [List.Nodup, List.pairwise_map]
    refine List.Pairwise.imp_of_mem ?_ hn
    intro a b ha hb hne e
    obtain ⟨p, hp, rfl⟩ := List.mem_map.1 ha
    obtain ⟨q, hq, rfl⟩ := List.mem_map.1 hb
    have := (hf.wa p hp).1
    have := (hf.wa q hq).1
    omega
  have := nodup_lt 12 _ h2 fun x hx => by
    simp only [List.mem_map] at hx
    obtain ⟨k, ⟨p, hp, rfl⟩, rfl⟩ := hx
    have := hf.wa p hp
    omega
  simpa using this
theorem all_as_sync {D : Dk} (hf : D.Fine) (hn : (D.waits.map (·.1)).Nodup) (hs : D.sectors = 12) (k : Int) : sectorD (crashD D ones) k = sectorD (synD D) k := by
  have e : sectorD (synD D) k = sectorD D k := rfl
  rw [e]
  rcases crash_sector (pk := ones) hn k with ⟨h1, h2⟩ | ⟨j, s, hj, h1, h2⟩
  · rw [h2, sectorD_last h1]
  · have hl := waits_few hf hn hs
    have hk := keysD_len D
    have hj2 := (List.getElem?_eq_some_iff.1 hj).1
    rw [h2, sectorD_waits h1, ones_pick (by omega), mixS_one]
theorem none_as_was {D : Dk} (hf : D.Fine) (hn : (D.waits.map (·.1)).Nodup) (k : Int) : sectorD (crashD D []) k = D.last k := by
  rcases crash_sector (pk := []) hn k with ⟨h1, h2⟩ | ⟨j, s, hj, h1, h2⟩
  · exact h2
  · have h3 : s.length = 128 := by rw [← sectorD_waits h1]; exact (sectorD_is hf k).1
    rw [h2, show pickAt [] j = 0 from rfl, mixS_zero _ _ h3 (hf.la k).1]
theorem synD_last (D : Dk) (k : Int) : sectorD (synD D) k = (synD D).last k := rfl
/-- Four devices apart. -/
structure Four (W w : World) (pd pa pn pw : Nat) (F A N V : List Nat) (Dd Da Dn Dw : Dk) : Prop where
  d : Dev W w pd Dd F
  a : Dev W w pa Da A
  n : Dev W w pn Dn N
  v : Dev W w pw Dw V
  da : ∀ b ∈ F, b ∉ A
  dn : ∀ b ∈ F, b ∉ N
  dv : ∀ b ∈ F, b ∉ V
  an : ∀ b ∈ A, b ∉ N
  av : ∀ b ∈ A, b ∉ V
  nv : ∀ b ∈ N, b ∉ V
section
variable {W w w' : World} {pd pa pn pw : Nat} {F A N V : List Nat} {Dd Da Dn Dw D' : Dk}
theorem Four.none (h : Four W w pd pa pn pw F A N V Dd Da Dn Dw) (k : Only [] w w') : Four W w' pd pa pn pw F A N V Dd Da Dn Dw :=
  ⟨h.d.none k, h.a.none k, h.n.none k, h.v.none k, h.da, h.dn, h.dv, h.an, h.av, h.nv⟩
theorem Four.onD (h : Four W w pd pa pn pw F A N V Dd Da Dn Dw) (hd : Dev W w' pd D' F) (k : Only F w w') : Four W w' pd pa pn pw F A N V D' Da Dn Dw :=
  ⟨hd, h.a.only k h.da h.d.ge, h.n.only k h.dn h.d.ge, h.v.only k h.dv h.d.ge, h.da, h.dn, h.dv, h.an, h.av, h.nv⟩
theorem Four.onA (h : Four W w pd pa pn pw F A N V Dd Da Dn Dw) (hd : Dev W w' pa D' A) (k : Only A w w') : Four W w' pd pa pn pw F A N V Dd D' Dn Dw :=
  ⟨h.d.only k (fun b hb hf => h.da b hf hb) h.a.ge, hd, h.n.only k h.an h.a.ge, h.v.only k h.av h.a.ge, h.da, h.dn, h.dv, h.an, h.av, h.nv⟩
theorem Four.onN (h : Four W w pd pa pn pw F A N V Dd Da Dn Dw) (hd : Dev W w' pn D' N) (k : Only N w w') : Four W w' pd pa pn pw F A N V Dd Da D' Dw :=
  ⟨h.d.only k (fun b hb hf => h.dn b hf hb) h.n.ge, h.a.only k (fun b hb hf => h.an b hf hb) h.n.ge, hd, h.v.only k h.nv h.n.ge, h.da, h.dn, h.dv, h.an, h.av, h.nv⟩
end
theorem four_made {W w0 w1 w2 w3 : World} {pd pa pn pw : Nat} {F A N V : List Nat} {D : Dk} (h0 : Dev W w0 pd D F) (hv : Dev W w1 pw D V) (kv : Only [] w0 w1) (bv : ∀ b ∈ V, w0.heap.size ≤ b) (ha : Dev W w2 pa D A) (ka : Only [] w1 w2) (ba : ∀ b ∈ A, w1.heap.size ≤ b)
    (hn : Dev W w3 pn D N) (kn : Only [] w2 w3) (bn : ∀ b ∈ N, w2.heap.size ≤ b) : Four W w3 pd pa pn pw F A N V D D D D := by
  have l0 := h0.lt
  have l1 := hv.lt
  have l2 := ha.lt
  have s1 := kv.size
  have s2 := ka.size
  refine ⟨((h0.none kv).none ka).none kn, ha.none kn, hn, (hv.none ka).none kn, ?_, ?_, ?_, ?_, ?_, ?_⟩ <;> intro b hb hb'
  · have := l0 b hb; have := ba b hb'; omega
  · have := l0 b hb; have := bn b hb'; omega
  · have := l0 b hb; have := bv b hb'; omega
  · have := l2 b hb; have := bn b hb'; omega
  · have := ba b hb; have := l1 b hb'; omega
  · have := bn b hb; have := l1 b hb'; omega
def Goal (a : Option Addr) (n c : Nat) (a2 : Option Addr) (n2 c2 : Nat) (w : World) : Prop := Calls Try.prog 6 #[.slice a n c, .slice a2 n2 c2] w fun e w' => e = .returned (.bool true) ∧ Below w.heap.size w w'
set_option maxRecDepth 100000 in
set_option maxHeartbeats 2000000 in
theorem out (a : Option Addr) (n c : Nat) (a2 : Option Addr) (n2 c2 : Nat) (w : World) (h : 60 < n ∨ 60 < n2) (hn : n ≤ 9223372036854775807) (hm : n2 ≤ 9223372036854775807) : Goal a n c a2 n2 c2 w := by
  unfold Goal
  by_cases h1 : 60 < n
  · have h1' : (60 : Int) < (n : Int) := by omega
    go_enter Try.func6, Try.ntmps6
    go_wp2_with fail
    refine (known_any _).mono ?_
    rintro _ w9 ⟨rfl, hb9⟩
    have H9 := Lib.hid hb9
    clear hb9
    go_wp2_with fail
    go_ret
    exact ⟨rfl, H9.out⟩
  · have h1' : ¬ (60 : Int) < (n : Int) := by omega
    have h2' : (60 : Int) < (n2 : Int) := by omega
    go_enter Try.func6, Try.ntmps6
    go_wp2_with fail
    refine (known_any _).mono ?_
    rintro _ w9 ⟨rfl, hb9⟩
    have H9 := Lib.hid hb9
    clear hb9
    go_wp2_with fail
    go_ret
    exact ⟨rfl, H9.out⟩
/-- What the second loop goes through. -/
structure AInv (W w : World) (pd pa pn pw : Nat) (F A N V : List Nat) (D0 : Dk) (D : Dk) : Prop where
  four : Four W w pd pa pn pw F A N V D D D D0
  tw : Twelve D
  last : D.last = D0.last
set_option maxRecDepth 100000 in
set_option maxHeartbeats 8000000 in
theorem main (a : Option Addr) (n c : Nat) (os : List OpV) (a2 : Option Addr) (n2 c2 : Nat) (os2 : List OpV) (w : World) (hos : OpsIn w a n c os) (hos2 : OpsIn w a2 n2 c2 os2) (h1 : n ≤ 60) (h2 : n2 ≤ 60) : Goal a n c a2 n2 c2 w := by
  unfold Goal
  have NN := Lib.hid (new_dev (W := w) (Below.refl _ _) 12 12 (by omega) (by omega) (by omega) (by omega))
  have HOS := Lib.hid hos
  have HO2 := Lib.hid hos2
  have g1 : ¬ (60 : Int) < (n : Int) := by omega
  have g2 : ¬ (60 : Int) < (n2 : Int) := by omega
  clear hos hos2
  go_enter Try.func6, Try.ntmps6
  go_wp2_with fail
  refine NN.out.mono ?_
  rintro _ w1 ⟨pd, F, rfl, hd, k1, hB⟩
  have H1 := Lib.hid hd
  clear hd k1 hB NN g1 g2
  go_wp2_with fail
  refine (writes_dev H1.out twelve_new HOS.out).mono ?_
  rintro _ w2 ⟨rfl, hd2, k2⟩
  have TW := Lib.hid (twelve_new.writesD os)
  have H2 := Lib.hid hd2
  clear hd2 k2 H1
  generalize writesD (newD 12 12) os = D1 at *
  go_wp2_with fail
  refine (sync12 H2.out TW.out).mono ?_
  rintro _ w3 ⟨rfl, hd3, k3⟩
  have H3 := Lib.hid hd3
  have T0 := Lib.hid TW.out.synD
  have L0 : Hid (∀ k, sectorD (synD D1) k = (synD D1).last k) := Lib.hid (synD_last D1)
  clear hd3 k3 H2 TW
  generalize synD D1 = D0 at *
  go_wp2_with fail
  refine (copy_dev H3.out).mono ?_
  rintro _ w4 ⟨pw, V, rfl, hv, kv, bv⟩
  have HV := Lib.hid hv
  have KV := Lib.hid kv
  have BV := Lib.hid bv
  have H4 := Lib.hid (H3.out.none kv)
  clear hv kv bv
  go_wp2_with fail
  refine (copy_dev H4.out).mono ?_
  rintro _ w5 ⟨pa, A, rfl, ha, ka, ba⟩
  have HA := Lib.hid ha
  have KA := Lib.hid ka
  have BA := Lib.hid ba
  have H5 := Lib.hid (H4.out.none ka)
  clear ha ka ba
  go_wp2_with fail
  refine (copy_dev H5.out).mono ?_
  rintro _ w6 ⟨pn, N, rfl, hn, kn, bn⟩
  have I6 : Hid (AInv w w6 pd pa pn pw F A N V D0 D0) := Lib.hid ⟨four_made H3.out HV.out KV.out BV.out HA.out KA.out BA.out hn kn bn, T0.out, rfl⟩
  clear hn kn bn H3 H4 H5 HV KV BV HA KA BA
  go_wp2_with fail
  go_loopw [10, 11] (fun u _ wr => ∃ i : Nat, i ≤ n2 ∧ u = .int .i64 i ∧ Hid (∃ D, AInv w wr pd pa pn pw F A N V D0 D)) (fun u _ _ => n2 - (intOf u).toNat)
  case atStart => exact ⟨0, by omega, rfl, Lib.hid ⟨_, I6.out⟩⟩
  case round =>
    clear I6
    obtain ⟨i, hi, rfl, HI⟩ := hrel
    have i0 : (0 : Int) ≤ (i : Int) := Int.natCast_nonneg _
    have n0 : (n2 : Int) ≤ 9223372036854775807 := by omega
    obtain ⟨D, hI⟩ := HI.out
    have AI := Lib.hid hI
    clear hI HI
    by_cases hlt : i < n2
    · have d1 : decide ((i : Int) < (n2 : Int)) = true := decide_eq_true (by omega)
      have d1' : (i : Int) < (n2 : Int) := by omega
      obtain ⟨hol, _, hor⟩ := HO2.out
      obtain ⟨ob, oo, rfl, hall⟩ := hor.resolve_left (by omega)
      obtain ⟨x, hx⟩ : ∃ x, os2[i]? = some x := ⟨_, List.getElem?_eq_getElem (by omega)⟩
      have HOA := Lib.hid (hall i x hx)
      obtain ⟨q0, q1, q2, q3, q4⟩ := opAt_below HOA.out AI.out.four.d.bl
      obtain ⟨k, hk⟩ : ∃ k, at12 x.at_ = k := ⟨_, rfl⟩
      have hk' := at12_eq _ _ hk
      have HKK := Lib.hid hk
      clear hol hor hall hx hk
      go_wp2_with fail
      refine (sector_to x.fill wr).mono ?_
      rintro _ ws0 ⟨rfl, hr, ks, hs⟩
      have FS0 := Lib.hid ((AI.out.four).none ks)
      have BS0 := Lib.hid hr
      clear hr ks hs
      go_wp2_with fail
      refine (write12' HKK.out FS0.out.a AI.out.tw (secOf_is x.fill) BS0.out (by omega)).mono ?_
      rintro _ ww0 ⟨rfl, hd, kd⟩
      have FW0 := Lib.hid (FS0.out.onA hd kd)
      obtain ⟨q00, q01, q02, q03, q04⟩ := opAt_below HOA.out hd.bl
      clear hd kd FS0 BS0 q0 q1 q2 q3 q4 
      go_wp2_with fail
      refine (sector_to x.fill ww0).mono ?_
      rintro _ ws1 ⟨rfl, hr, ks, hs⟩
      have FS1 := Lib.hid ((FW0.out).none ks)
      have BS1 := Lib.hid hr
      clear hr ks hs
      go_wp2_with fail
      refine (write12' HKK.out FS1.out.n AI.out.tw (secOf_is x.fill) BS1.out (by omega)).mono ?_
      rintro _ ww1 ⟨rfl, hd, kd⟩
      have FW1 := Lib.hid (FS1.out.onN hd kd)
      obtain ⟨q10, q11, q12, q13, q14⟩ := opAt_below HOA.out hd.bl
      clear hd kd FS1 BS1 q00 q01 q02 q03 q04 FW0
      go_wp2_with fail
      refine (sector_to x.fill ww1).mono ?_
      rintro _ ws2 ⟨rfl, hr, ks, hs⟩
      have FS2 := Lib.hid ((FW1.out).none ks)
      have BS2 := Lib.hid hr
      clear hr ks hs
      go_wp2_with fail
      refine (write12' HKK.out FS2.out.d AI.out.tw (secOf_is x.fill) BS2.out (by omega)).mono ?_
      rintro _ ww2 ⟨rfl, hd, kd⟩
      have FW2 := Lib.hid (FS2.out.onD hd kd)
      obtain ⟨q20, q21, q22, q23, q24⟩ := opAt_below HOA.out hd.bl
      clear hd kd FS2 BS2 q10 q11 q12 q13 q14 FW1
      go_wp2_with fail
      go_roundw
      case rel => exact ⟨i + 1, by omega, by go_num, Lib.hid ⟨_, FW2.out, AI.out.tw.putD _ _, AI.out.last⟩⟩
      case measure => simp [intOf]; omega
    · have d1 : decide ((i : Int) < (n2 : Int)) = false := decide_eq_false (by omega)
      go_wp2_with fail
      refine (sync12 AI.out.four.d AI.out.tw).mono ?_
      rintro _ w7 ⟨rfl, hd7, k7⟩
      have F7 := Lib.hid (AI.out.four.onD hd7 k7)
      clear hd7 k7
      have HPK : Hid (Dev w (w7.alloc (.cells (ones.map (Value.int .u8)).toArray 5)) pa D A) := Lib.hid (F7.out.a.none ((Only.refl [] _).alloc _))
      have HRO : Hid (Row (w7.alloc (.cells (ones.map (Value.int .u8)).toArray 5)) w7.heap.size (ones.map (Value.int .u8)).toArray 5) := Lib.hid (Row.made _ _ _)
      have HF8 : Hid (Four w (w7.alloc (.cells (ones.map (Value.int .u8)).toArray 5)) pd pa pn pw F A N V (synD D) D D D0) := Lib.hid (F7.out.none ((Only.refl [] _).alloc _))
      have HNF : Hid (w7.heap.size ∉ A) := Lib.hid (fun h => by have := F7.out.a.lt _ h; omega)
      clear F7
      go_wp2_with fail
      refine (crash_dev HPK.out (ap := some ⟨w7.heap.size, 0, none⟩) (m := 12) (cp := 12) (pk := ones) rfl (.inr ⟨w7.heap.size, 0, 12, rfl, fun i hi => ?_⟩) ?_ ?_).mono ?_
      · rw [HRO.out.cell, Nat.zero_add, List.getElem?_toArray, List.getElem?_map, List.getElem?_eq_getElem hi]; rfl
      · intro x hx
        simp only [ones, List.mem_cons, List.not_mem_nil, or_false] at hx
        omega
      · rintro _ a ha
        cases ha
        exact HNF.out
      rintro _ w8 ⟨rfl, hd8, k8⟩
      have F8 := Lib.hid (HF8.out.onA hd8 k8)
      clear hd8 k8 HPK HRO HF8 HNF
      go_wp2_with fail
      refine (crash_none F8.out.n).mono ?_
      rintro _ w9 ⟨rfl, hd9, k9⟩
      have R9 : Hid (∃ Ds Da Dn, Four w w9 pd pa pn pw F A N V Ds Da Dn D0 ∧ Twelve Ds ∧ Twelve Da ∧ Twelve Dn ∧ (∀ k, sectorD Da k = sectorD Ds k) ∧ ∀ k, sectorD Dn k = sectorD D0 k) :=
        Lib.hid ⟨_, _, _, F8.out.onN hd9 k9, AI.out.tw.synD, AI.out.tw.crashD _, AI.out.tw.crashD _, all_as_sync AI.out.four.d.fine AI.out.four.d.keysNodup AI.out.tw.sec, fun k => by
          rw [none_as_was AI.out.four.d.fine AI.out.four.d.keysNodup, AI.out.last, L0.out]⟩
      clear hd9 k9 F8 AI
      obtain ⟨Ds, Da, Dn, hF, t1, t2, t3, e1, e2⟩ := R9.out
      have F9 := Lib.hid hF
      have T1 := Lib.hid t1
      have T2 := Lib.hid t2
      have T3 := Lib.hid t3
      have E1 := Lib.hid e1
      have E2 := Lib.hid e2
      clear hF t1 t2 t3 e1 e2 R9
      go_wp2_with fail
      go_loopw [12, 13, 14, 15, 16, 17, 18, 19, 20] (fun u _ _ _ _ _ _ _ _ wr => ∃ i : Nat, i ≤ 12 ∧ u = .int .i64 i ∧ Hid (Four w wr pd pa pn pw F A N V Ds Da Dn D0)) (fun u _ _ _ _ _ _ _ _ _ => 12 - (intOf u).toNat)
      case atStart => exact ⟨0, by omega, rfl, F9⟩
      case round =>
        clear F9
        obtain ⟨i, hi, rfl, HQ⟩ := hrel
        have i0 : (0 : Int) ≤ (i : Int) := Int.natCast_nonneg _
        by_cases hlt : i < 12
        · have d1 : decide ((i : Int) < 12) = true := decide_eq_true (by omega)
          have i2 : (i : Int) < 12 := by omega
          go_wp2_with fail
          refine (read12 HQ.out.d T1.out i0 i2).mono ?_
          rintro _ v1 ⟨rfl, r1, _, k1, s1⟩
          have G1 := Lib.hid (HQ.out.none k1)
          have B1 := Lib.hid r1
          have l1 : wr.heap.size < v1.heap.size := by omega
          clear r1 k1 s1
          go_wp2_with fail
          refine (read12 G1.out.a T2.out i0 i2).mono ?_
          rintro _ v2 ⟨rfl, r2, _, k2, s2⟩
          have G2 := Lib.hid (G1.out.none k2)
          have B2 := Lib.hid r2
          have B1' := Lib.hid (B1.out.only k2 (by simp))
          have l2 : v1.heap.size < v2.heap.size := by omega
          clear r2 k2 s2 B1 G1
          go_wp2_with fail
          refine (read12 G2.out.n T3.out i0 i2).mono ?_
          rintro _ v3 ⟨rfl, r3, _, k3, s3⟩
          have G3 := Lib.hid (G2.out.none k3)
          have B3 := Lib.hid r3
          have C1 := Lib.hid (B1'.out.only k3 (by simp))
          have C2 := Lib.hid (B2.out.only k3 (by simp))
          clear r3 k3 s3 G2 B1' B2
          go_wp2_with fail
          refine (read12 G3.out.v T0.out i0 i2).mono ?_
          rintro _ v4 ⟨rfl, r4, _, k4, s4⟩
          have G4 := Lib.hid (G3.out.none k4)
          have y1 := conv_bytes (cap := 128) (C1.out.only k4 (by simp)) (sectorD_is G4.out.d.fine _).1
          have y2 := conv_bytes (cap := 128) (C2.out.only k4 (by simp)) (sectorD_is G4.out.a.fine _).1
          have y3 := conv_bytes (cap := 128) (B3.out.only k4 (by simp)) (sectorD_is G4.out.n.fine _).1
          have y4 := conv_bytes (cap := 128) r4 (sectorD_is G4.out.v.fine _).1
          rw [E1.out] at y2
          rw [E2.out] at y3
          clear r4 k4 s4 B3 C1 C2 G3 HQ l1 l2
          go_wp2_with fail
          go_roundw
          case rel => exact ⟨i + 1, by omega, by go_num, G4⟩
          case measure => simp [intOf]; omega
        · have d1 : decide ((i : Int) < 12) = false := decide_eq_false (by omega)
          go_wp2_with fail
          refine (known_any wr).mono ?_
          rintro _ w6 ⟨rfl, hb6⟩
          have H6 := Lib.hid (HQ.out.d.bl.trans (hb6.mono HQ.out.d.bl.size))
          clear hb6
          go_wp2_with fail
          go_ret
          exact ⟨rfl, H6.out⟩
theorem walk (a : Option Addr) (n c : Nat) (os : List OpV) (a2 : Option Addr) (n2 c2 : Nat) (os2 : List OpV) (W : World) (hos : OpsIn W a n c os) (hos2 : OpsIn W a2 n2 c2 os2) :
    Calls Try.prog 6 #[.slice a n c, .slice a2 n2 c2] W fun e w' => e = .returned (.bool true) ∧ Below W.heap.size W w' := by
  by_cases h : 60 < n ∨ 60 < n2
  · exact out a n c a2 n2 c2 W h hos.2.1 hos2.2.1
  · exact main a n c os a2 n2 c2 os2 W hos hos2 (by omega) (by omega)

theorem own : ownKnob Try.prog.godebug = none := by kernel_rfl
theorem laidOut : laidOutB Try.prog = true := by kernel_rfl

set_option maxRecDepth 100000 in
theorem contract (H : Type) (enc : TypeId × Value → H) (W : World) (base : Nat) (args : Array Value) (ds gs : List (DataW H)) (before : List MemPlace)
    (hval0 : ∀ (j : Nat) t v, Try.f6.params[j]? = some t → args[j]? = some v → Value.okWide Try.prog W .any base t v)
    (hW : DataW.Whole enc Try.prog Try.f6.params.toList Rows.diskAllSpec.vars false W args.toList ds gs before)
    (hsz0 : (DataW.weightsEach Try.prog (Try.f6.params.toList ++ Rows.diskAllSpec.plain.varTypes Try.prog) (ds ++ gs)).all (· ≤ reachBytes) = true) :
    Calls Try.prog 6 args W fun e W' => ∃ v, e = .returned v ∧ Rows.diskAllSpec.post enc Try.prog Try.f6 false true false false W args v W' := by
  have hval : ∀ (j : Nat) t v, Try.f6.params[j]? = some t → args[j]? = some v → Value.okWide Try.prog W .any base t v := hval0
  have hW' := hW
  obtain ⟨p, q, hA0, hV, rfl, hfz, hnd⟩ := hW
  have hA : DataW.TrodAll enc Try.prog W 0 (fun _ => true) true Try.f6.params.toList args.toList ds p := hA0
  have hsz : (DataW.weightsEach Try.prog (Try.f6.params.toList ++ Rows.diskAllSpec.plain.varTypes Try.prog) (ds ++ gs)).all (· ≤ reachBytes) = true := hsz0
  rw [Try.params6] at hA hval hsz
  obtain ⟨v0, vs0, d0, ds0, p0, q0, hargs, rfl, rfl, h0, r0'⟩ := trodAll_cons hA
  obtain ⟨v1, vs1, d1, ds1, p1, q1, rfl, rfl, rfl, h1, r1'⟩ := trodAll_cons r0'
  obtain ⟨rfl, rfl, rfl⟩ := trodAll_nil r1'
  obtain rfl : args = #[v0, v1] := by cases args; simp_all
  obtain ⟨rfl, rfl⟩ := trodVars_none hV
  have k0 := h0
  have lt0 : ∀ x ∈ p0, x.block < W.heap.size := by obtain ⟨m, hm⟩ := k0; exact DataW.trod_lt m _ _ _ hm
  have k1 := h1
  have lt1 : ∀ x ∈ p1, x.block < W.heap.size := by obtain ⟨m, hm⟩ := k1; exact DataW.trod_lt m _ _ _ hm
  obtain ⟨a0, n0, c0, rfl⟩ := okWide_slice Try.underlying22 (hval 0 22 v0 rfl rfl)
  obtain ⟨z0, w0⟩ : ∃ os, OpsIn W a0 n0 c0 os := by
    obtain ⟨fuel, hf⟩ := h0
    simp [Value.cells] at hf
    exact ops_in hf
  obtain ⟨a1, n1, c1, rfl⟩ := okWide_slice Try.underlying22 (hval 1 22 v1 rfl rfl)
  obtain ⟨z1, w1⟩ : ∃ os, OpsIn W a1 n1 c1 os := by
    obtain ⟨fuel, hf⟩ := h1
    simp [Value.cells] at hf
    exact ops_in hf
  clear hA0 hval0 hsz0
  refine (walk a0 n0 c0 z0 a1 n1 c1 z1 W w0 w1).mono fun e W' ⟨he, bel⟩ => ?_
  subst he
  exact ⟨_, rfl, _, _, _, [], _, [], hW', trodAll_mk1 (shut_bool Try.underlying4 _), (trodAll_cons_mk (Below.trod laidOut (by kernel_rfl) (of_decide_eq_true (by kernel_rfl)) k0 bel lt0) (trodAll_cons_mk (Below.trod laidOut (by kernel_rfl) (of_decide_eq_true (by kernel_rfl)) k1 bel lt1) trodAll_mk0)), rfl, bel.frame _, fun h => by cases h⟩

set_option maxRecDepth 100000 in
theorem lifted (os : Os) (started : os.Started) (H : Type) (enc : TypeId × Value → H) :
    ReturnsInHanded {} Try.checked os 6 .any (Rows.diskAllSpec.pre6 enc Try.prog Try.f6 Rows.diskAllRow.domain false) (Rows.diskAllSpec.post enc Try.prog Try.f6 false true false false) := by
  refine returnsInHanded_of_change_sized (C := Try.checked) own started (by kernel_rfl) Try.func6
    (ChangeSpec.witness6 (enc := enc) (C := Try.checked) false ⟨#[], #[.slice none 0 0, .slice none 0 0], []⟩ 8 (by kernel_rfl) (by kernel_rfl) (by kernel_rfl) (by kernel_rfl)) ?_
  intro W base args ds gs before hval hW _ hsz _
  exact contract H enc W base args ds gs before hval hW hsz

theorem over : Rows.diskAllRow.holds Try.pinned (OpenSpec.ofChange Rows.diskAllSpec) :=
  OpenClaim.holds_of_wide 6 Try.f6 rfl rfl rfl rfl rfl rfl rfl ⟨rfl, rfl, rfl, rfl, rfl⟩ rfl rfl rfl rfl rfl (by kernel_rfl) Try.func6 (by kernel_rfl)
    (of_decide_eq_true (by kernel_rfl)) (by unfold Func.isWrapper; first | (rw [if_pos (by decide +kernel)]; kernel_rfl) | (rw [if_neg (by decide +kernel)]; exact ⟨rfl, rfl⟩))
    (fun os started H enc _ => lifted os started H enc)

theorem proved : Rows.DiskAllSaid := over
#print axioms proved
end Go.Proofs.Ytiheobbollpaaaa.diskAll
