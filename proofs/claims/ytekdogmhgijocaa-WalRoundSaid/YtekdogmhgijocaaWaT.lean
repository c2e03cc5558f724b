/- wal: Make, with what the device holds then. -/
import Derived.Test.YtekdogmhgijocaaMg16
set_option linter.unusedSimpArgs false
namespace Go.Proofs.Ytekdogmhgijocaa
open Go.RowKit Go.ChangeShapes Go.WideShapes Go.ChangeAt
open Go.Proofs.Ytekdogmhgijocaa.dk (Dk Dev IsSec Bytes write_dev putD synD sectorD findS)
set_option linter.unusedVariables false

theorem sectorD_put (D : Dk) (k : Int) (s : List Int) (k' : Int) : sectorD (putD D k s) k' = if k' = k then s else sectorD D k' := by
  unfold sectorD putD
  simp only [dk.findS_up]
  split <;> rfl
theorem sectorD_syn (D : Dk) (k : Int) : sectorD (synD D) k = sectorD D k := rfl
/-- A ring that was wiped as far as cnt, its masters told i times. -/
structure RingAt (D : Dk) (at_ : Int) (cnt i : Nat) : Prop where
  ring : ∀ j : Nat, j < cnt → sectorD D (at_ + 2 + (j : Int)) = dk.blank
  m1 : 1 ≤ i → sectorD D (at_ + 1) = masterB 1 1 52 0 52
  m2 : 2 ≤ i → sectorD D at_ = masterB 2 1 52 0 52
theorem RingAt.wipe {D : Dk} {at_ : Int} {i : Nat} (h : RingAt D at_ i 0) : RingAt (putD D (at_ + 2 + (i : Int)) dk.blank) at_ (i + 1) 0 :=
  ⟨fun j hj => by
    rw [sectorD_put]
    by_cases e : j = i
    · subst e; rw [if_pos rfl]
    · rw [if_neg (by omega)]; exact h.ring j (by omega), fun h => by omega, fun h => by omega⟩
theorem RingAt.tell {D : Dk} {at_ : Int} {m k : Nat} (h : RingAt D at_ m k) (hk : k < 2) : RingAt (toldD D (mL at_ (m : Int) k) 1 52 0 52) at_ m (k + 1) := by
  have e (x : Int) : sectorD (toldD D (mL at_ (m : Int) k) 1 52 0 52) x = if x = at_ + ((k : Int) + 1) % 2 then masterB ((k : Int) + 1) 1 52 0 52 else sectorD D x := by
    unfold toldD
    rw [sectorD_syn, sectorD_put, (mL_parts _ _ _).1, (mL_parts _ _ _).2]
  refine ⟨fun j hj => by rw [e, if_neg (by omega)]; exact h.ring j hj, fun _ => ?_, fun h2 => ?_⟩
  · rw [e]
    by_cases h0 : k = 0
    · subst h0; rw [if_pos (by omega)]; rfl
    · rw [if_neg (by omega)]; exact h.m1 (by omega)
  · obtain rfl : k = 1 := by omega
    rw [e, if_pos (by omega)]; rfl
/-- Between two writes, two tells. -/
structure MkRing (W w wr : World) (p : Nat) (F : List Nat) (s : Int) (L : Lg) (D : Dk) (cnt i : Nat) : Prop where
  lg : LgAt W wr p w.heap.size D F L (.slice none 0 0)
  calm : dk.Calm D
  sec : D.sectors = s
  most : D.most = s
  only : Only F w wr
  ra : RingAt D L.at_ cnt i
def MadePost (W : World) (p : Nat) (F : List Nat) (D : Dk) (at_ count : Int) (w : World) (e : Ending) (w' : World) : Prop := ∃ D', e = .returned (.tuple #[.pointer (some ⟨w.heap.size, 0, none⟩), .int .i64 0]) ∧ LgAt W w' p w.heap.size D' F (madeL at_ count) (.slice none 0 0) ∧ dk.Calm D' ∧ D'.sectors = D.sectors ∧ D'.most = D.most ∧ Only F w w' ∧ RingAt D' at_ count.toNat 2
set_option maxRecDepth 100000 in
set_option maxHeartbeats 8000000 in
theorem make_ring {W w : World} {p : Nat} {D : Dk} {F : List Nat} (h : Dev W w p D F) (hc : dk.Calm D) (hm : D.most = D.sectors) (at_ : Int) (m : Nat) (hl : LogAt D.sectors at_ (m : Int)) :
    Calls Try.prog 9 #[.pointer (some ⟨p, 0, none⟩), .int .i64 at_, .int .i64 (m : Int)] w (MadePost W p F D at_ (m : Int) w) := by
  obtain ⟨l0, l1, l2, l3, l4⟩ := id hl
  have mk := make_128
  have s1 := h.fine.s1
  have FN := Lib.hid (wfind_ok h at_ (m : Int) hl)
  have QF : Hid (w.heap.size ∉ F) := Lib.hid fun hf => by have := h.lt _ hf; omega
  have HW : Hid (W.heap.size ≤ w.heap.size) := Lib.hid h.bl.size
  have R : Hid (16 ≤ (m : Int) ∧ (m : Int) ≤ 8192 ∧ 0 ≤ at_ ∧ at_ + (m : Int) + 2 ≤ D.sectors ∧ D.sectors ≤ 65536) := Lib.hid (by omega)
  have I0 : Hid (MkRing W w (w.alloc (.cells ((lg0 at_ (m : Int)).cells (.pointer (some ⟨p, 0, none⟩)) (.slice none 0 0)) 66)) p F D.sectors (lg0 at_ (m : Int)) D 0 0) := Lib.hid ⟨⟨h.none ((Only.refl [] _).alloc _), Row.made _ _ _, QF.out, HW.out⟩, hc, rfl, hm, (Only.refl _ _).alloc _, ⟨fun j hj => by omega, fun h => by omega, fun h => by omega⟩⟩
  have HM := Lib.hid hm
  clear h hc hm hl l0 l1 l2 l3 l4 s1
  go_enter Try.func9, Try.ntmps9
  go_wp2_with fail
  refine FN.out.mono ?_
  rintro _ w1 ⟨rfl, hw1⟩
  rw [← hw1] at I0
  clear hw1 FN
  have e2 : IntKind.i64.wrap (at_ + 2) = at_ + 2 := IntWalk.i64_in _ (by have := R.out; omega)
  go_wp2_with fail
  go_loopw [24] (fun u wr => ∃ i : Nat, i ≤ m ∧ u = .int .i64 i ∧ Hid (∃ D1, MkRing W w wr p F D.sectors (lg0 at_ (m : Int)) D1 i 0)) (fun u _ => m - (intOf u).toNat)
  case atStart => exact ⟨0, by omega, rfl, Lib.hid ⟨_, I0.out⟩⟩
  case round =>
    clear I0
    obtain ⟨i, hi, rfl, HF⟩ := hrel
    have i0 : (0 : Int) ≤ (i : Int) := Int.natCast_nonneg _
    by_cases hlt : i < m
    · have d1 : decide ((i : Int) < (m : Int)) = true := decide_eq_true (by omega)
      have d2 : (i : Int) < (m : Int) := by omega
      have HLT := Lib.hid hlt
      have ei : IntKind.i64.wrap ((i : Int) + 1) = (i : Int) + 1 := IntWalk.i64_in _ (by have := R.out; omega)
      have ea : IntKind.i64.wrap (at_ + 2 + (i : Int)) = at_ + 2 + (i : Int) := IntWalk.i64_in _ (by have := R.out; omega)
      obtain ⟨D1, hd1⟩ := HF.out
      have HD1 := Lib.hid hd1
      have WR : Hid (Calls Try.prog 25 #[.pointer (some ⟨p, 0, none⟩), .int .i64 (at_ + 2 + (i : Int)), .slice (some ⟨wr.heap.size, 0, none⟩) 128 128] (wr.alloc (.cells zs128 5)) fun e w' => e = .returned (.int .i64 0) ∧ Dev W w' p (putD D1 (at_ + 2 + (i : Int)) dk.blank) F ∧ Only F (wr.alloc (.cells zs128 5)) w') := Lib.hid (by
        have h := write_dev (k := at_ + 2 + (i : Int)) (g := wr.heap.size) (off := 0) (cap := 128) (s := dk.blank) (hd1.lg.dev.none ((Only.refl [] _).alloc (.cells zs128 5))) (by have := R.out; omega) (by rw [hd1.sec]; have := R.out; omega) (by rw [hd1.most, hd1.sec]) dk.blank_is (zs128_bytes wr) (by omega)
        unfold dk.DoneTo at h
        rw [hd1.calm.write, (hd1.calm.putD _ _).off] at h
        exact h)
      clear hd1 HF hlt
      go_wp2_with fail
      refine WR.out.mono ?_
      rintro _ w3 ⟨rfl, d3, k3⟩
      have K3 : Hid (Only F wr w3) := Lib.hid (((Only.refl F wr).alloc _).and k3)
      have N3 : Hid (∃ D1, MkRing W w w3 p F D.sectors (lg0 at_ (m : Int)) D1 (i + 1) 0) := Lib.hid ⟨_, ⟨⟨d3, HD1.out.lg.row.only K3.out HD1.out.lg.qF, HD1.out.lg.qF, HD1.out.lg.qW⟩, HD1.out.calm.putD _ _, HD1.out.sec, HD1.out.most, HD1.out.only.and K3.out, HD1.out.ra.wipe⟩⟩
      clear d3 k3 WR HD1
      go_wp2_with fail
      go_roundw
      case rel => exact ⟨i + 1, HLT.out, by first | rfl | go_num, N3⟩
      case measure =>
        have := HLT.out
        simp [intOf]
        omega
    · have d1 : decide ((i : Int) < (m : Int)) = false := decide_eq_false (by omega)
      have d2 : ¬ (i : Int) < (m : Int) := by omega
      have IM : Hid (i = m) := Lib.hid (by omega)
      have T0 : Hid (∃ D1, MkRing W w wr p F D.sectors (mL at_ (m : Int) 0) D1 m 0) := Lib.hid (by have h := HF.out; rw [IM.out] at h; exact h)
      clear HF
      go_wp2_with fail
      go_loopw [38] (fun u wr => ∃ i : Nat, i ≤ 2 ∧ u = .int .i64 i ∧ Hid (∃ D1, MkRing W w wr p F D.sectors (mL at_ (m : Int) i) D1 m i)) (fun u _ => 2 - (intOf u).toNat)
      case atStart => exact ⟨0, by omega, rfl, T0⟩
      case round =>
        clear T0
        obtain ⟨k, hk, rfl, HF⟩ := hrel
        have k0 : (0 : Int) ≤ (k : Int) := Int.natCast_nonneg _
        obtain ⟨D1, hd1⟩ := HF.out
        have HD1 := Lib.hid hd1
        by_cases hlt : k < 2
        · have d3 : decide ((k : Int) < 2) = true := decide_eq_true (by omega)
          have d4 : (k : Int) < 2 := by omega
          have HLT := Lib.hid hlt
          have ek : IntKind.i64.wrap ((k : Int) + 1) = (k : Int) + 1 := IntWalk.i64_in _ (by omega)
          have TE := Lib.hid (tell_on hd1.lg hd1.calm (by rw [hd1.most, hd1.sec]) (by rw [(mL_parts _ _ _).1]; have := R.out; omega) (by rw [(mL_parts _ _ _).1, hd1.sec]; have := R.out; omega) (by rw [(mL_parts _ _ _).2]; omega) 0 1 52 0 52 ⟨by rw [(mL_parts _ _ _).2]; omega, by omega, by omega, by omega, by omega⟩)
          clear hd1 HF hlt
          go_wp2_with fail
          refine TE.out.mono ?_
          rintro _ w3 ⟨rfl, l3, k3⟩
          rw [mL_told] at l3
          have RT : Hid (RingAt (toldD D1 (mL at_ (m : Int) k) 1 52 0 52) (mL at_ (m : Int) (k + 1)).at_ m (k + 1)) := Lib.hid (by have h := HD1.out.ra; rw [(mL_parts _ _ _).1] at h ⊢; exact h.tell HLT.out)
          have hcl := (HD1.out.calm.putD ((mL at_ (m : Int) k).at_ + ((mL at_ (m : Int) k).seq + 1) % 2) (masterB ((mL at_ (m : Int) k).seq + 1) 1 52 0 52)).synD
          have N3 : Hid (∃ D1, MkRing W w w3 p F D.sectors (mL at_ (m : Int) (k + 1)) D1 m (k + 1)) := Lib.hid ⟨_, ⟨l3, hcl, HD1.out.sec, HD1.out.most, HD1.out.only.trans k3 fun i hi => by
            rcases List.mem_cons.1 hi with rfl | hi
            · exact .inr (Nat.le_refl _)
            · exact .inl hi, RT.out⟩⟩
          clear l3 k3 TE HD1 hcl
          go_wp2_with fail
          go_roundw
          case rel => exact ⟨k + 1, HLT.out, by first | rfl | go_num, N3⟩
          case measure =>
            have := HLT.out
            simp [intOf]
            omega
        · have d3 : decide ((k : Int) < 2) = false := decide_eq_false (by omega)
          obtain rfl : k = 2 := by omega
          have RQ := Lib.hid HD1.out.lg.row
          have n8 : wr.cell? ⟨w.heap.size, 8, none⟩ = some (.int .u64 0) := RQ.out.cell 8
          have n9 : wr.cell? ⟨w.heap.size, 9, none⟩ = some (.int .u64 0) := RQ.out.cell 9
          have n10 : wr.cell? ⟨w.heap.size, 10, none⟩ = some (.int .u32 0) := RQ.out.cell 10
          have f8 := RQ.out.free 8
          have f9 := RQ.out.free 9
          have f10 := RQ.out.free 10
          clear hd1 HF hlt
          go_wp2_with fail
          go_ret2
          have kk : Only [w.heap.size] wr (((wr.setCell ⟨w.heap.size, 8, none⟩ (.int .u64 52)).setCell ⟨w.heap.size, 9, none⟩ (.int .u64 52)).setCell ⟨w.heap.size, 10, none⟩ (.int .u32 1)) := (((Only.refl [w.heap.size] wr).setCell (.inl (by simp)) _).setCell (.inl (by simp)) _).setCell (.inl (by simp)) _
          refine ⟨D1, rfl, ⟨HD1.out.lg.dev.only kk (by simpa using QF.out) (by simpa using HW.out), ?_, QF.out, HW.out⟩, HD1.out.calm, HD1.out.sec, by rw [HD1.out.most]; exact HM.out.symm, HD1.out.only.trans kk fun i hi => by simp at hi; subst hi; exact .inr (Nat.le_refl _), by have h := HD1.out.ra; rw [(mL_parts _ _ _).1] at h; rw [Int.toNat_natCast]; exact h⟩
          have h := ((RQ.out.set 8 (.int .u64 52)).set 9 (.int .u64 52)).set 10 (.int .u32 1)
          simpa [Lg.cells, mL, madeL, lg0] using h
end Go.Proofs.Ytekdogmhgijocaa
