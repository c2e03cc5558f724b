/- writes, copies. -/
import Derived.Test.YtiheobbollpaaaaDkM
namespace Go.Proofs.Ytiheobbollpaaaa
open Go.RowKit Go.ChangeShapes Go.WideShapes Go.ChangeAt
set_option linter.unusedVariables false

def CopyTo (W : World) (D : Dk) (w : World) (e : Ending) (w' : World) : Prop := ∃ p F, e = .returned (.pointer (some ⟨p, 0, none⟩)) ∧ Dev W w' p D F ∧ Only [] w w' ∧ ∀ b ∈ F, w.heap.size ≤ b
theorem copy_dev {W w : World} {p : Nat} {D : Dk} {F : List Nat} (h : Dev W w p D F) : Calls Try.prog 19 #[.pointer (some ⟨p, 0, none⟩)] w (CopyTo W D w) := by
  obtain ⟨bl, bw, bn, hd, rfl, hB⟩ := h.dk
  refine (copy_at w p bl bw bn D hd).mono ?_
  rintro e w' ⟨p', bl', bw', bn', rfl, hd', k', hb⟩
  have hs := h.bl.size
  exact ⟨p', _, rfl, ⟨⟨bl', bw', bn', hd', rfl, fun b hb' => Nat.le_trans hs (hb b hb')⟩, h.bl.trans (k'.toBelow hs (by simp))⟩, k', hb⟩
/-- Sector of a number. -/
def at12 (x : Int) : Int := wrap64 ((IntKind.u64.wrap x).tmod 12)
theorem at12_range (x : Int) : 0 ≤ at12 x ∧ at12 x < 12 := by
  have e : IntKind.u64.wrap x = x % 18446744073709551616 := rfl
  unfold at12
  rw [Int.tmod_eq_emod_of_nonneg (by omega), e]
  unfold wrap64
  omega
def stepO (D : Dk) (x : OpV) : Dk := if x.fill.tmod 5 = 0 then synD (putD D (at12 x.at_) (secOf x.fill)) else putD D (at12 x.at_) (secOf x.fill)
def writesD (D : Dk) (os : List OpV) : Dk := os.foldl stepO D
theorem writesD_succ {D : Dk} {os : List OpV} {i : Nat} {x : OpV} (h : os[i]? = some x) : writesD D (os.take (i + 1)) = stepO (writesD D (os.take i)) x := by
  obtain ⟨hi, hx⟩ := List.getElem?_eq_some_iff.1 h
  rw [List.take_succ_eq_append_getElem hi, writesD, List.foldl_append, hx]; rfl
/-- A device of twelve sectors, its power on, nothing armed. -/
structure Twelve (D : Dk) : Prop where
  calm : Calm D
  sec : D.sectors = 12
  most : D.most = 12
theorem Twelve.putD {D : Dk} (h : Twelve D) (k : Int) (s : List Int) : Twelve (putD D k s) := ⟨h.calm.putD k s, h.sec, h.most⟩
theorem Twelve.synD {D : Dk} (h : Twelve D) : Twelve (synD D) := ⟨h.calm.synD, h.sec, h.most⟩
theorem Twelve.crashD {D : Dk} (h : Twelve D) (pk : List Int) : Twelve (crashD D pk) := ⟨calm_crash D pk, h.sec, h.most⟩
theorem Twelve.stepO {D : Dk} (h : Twelve D) (x : OpV) : Twelve (stepO D x) := by
  unfold Go.Proofs.Ytiheobbollpaaaa.stepO
  split
  · exact (h.putD _ _).synD
  · exact h.putD _ _
theorem Twelve.writesD {D : Dk} (h : Twelve D) : ∀ os, Twelve (writesD D os) := by
  intro os
  unfold Go.Proofs.Ytiheobbollpaaaa.writesD
  induction os generalizing D with
  | nil => exact h
  | cons x r ih => exact ih (h.stepO x)
theorem twelve_new : Twelve (newD 12 12) := ⟨calm_new _ _, rfl, rfl⟩
/-- A write of a sector by twelve. -/
theorem write12 {W w : World} {p : Nat} {D : Dk} {F : List Nat} (h : Dev W w p D F) (t : Twelve D) (x : Int) {g off cap : Nat} {s : List Int} (hs : IsSec s) (hg : Bytes w g off s) (hc : 128 ≤ cap) :
    Calls Try.prog 10 #[.pointer (some ⟨p, 0, none⟩), .int .i64 (at12 x), .slice (some ⟨g, off, none⟩) 128 cap] w (DoneTo W p F (putD D (at12 x) s) 0 w) := by
  have e : errOff (putD D (at12 x) s).off = 0 := by show errOff D.off = 0; rw [t.calm.off]; rfl
  have := write_dev h (at12_range x).1 (by rw [t.sec]; exact (at12_range x).2) (by rw [t.sec, t.most]) hs hg hc
  rw [t.calm.write, e] at this
  exact this
theorem write12' {W w : World} {p : Nat} {D : Dk} {F : List Nat} {x k : Int} (hk : at12 x = k) (h : Dev W w p D F) (t : Twelve D) {g off cap : Nat} {s : List Int} (hs : IsSec s) (hg : Bytes w g off s) (hc : 128 ≤ cap) :
    Calls Try.prog 10 #[.pointer (some ⟨p, 0, none⟩), .int .i64 k, .slice (some ⟨g, off, none⟩) 128 cap] w (DoneTo W p F (putD D k s) 0 w) := by
  subst hk
  exact write12 h t x hs hg hc
theorem sync12 {W w : World} {p : Nat} {D : Dk} {F : List Nat} (h : Dev W w p D F) (t : Twelve D) : Calls Try.prog 12 #[.pointer (some ⟨p, 0, none⟩)] w (DoneTo W p F (synD D) 0 w) := by
  have e : errOff (synD D).off = 0 := by show errOff D.off = 0; rw [t.calm.off]; rfl
  have := sync_dev h
  rw [t.calm.sync, e] at this
  exact this
theorem read12 {W w : World} {p : Nat} {D : Dk} {F : List Nat} (h : Dev W w p D F) (t : Twelve D) {k : Int} (h0 : 0 ≤ k) (h1 : k < 12) : Calls Try.prog 15 #[.pointer (some ⟨p, 0, none⟩), .int .i64 k] w (ReadTo W p F D k w) :=
  read_dev h t.calm.off h0 (by rw [t.sec]; exact h1)
def WritesTo (W : World) (p : Nat) (F : List Nat) (D' : Dk) (w : World) (e : Ending) (w' : World) : Prop := e = .returned (.tuple #[]) ∧ Dev W w' p D' F ∧ Only F w w'
structure WInv (W w wr : World) (p : Nat) (F : List Nat) (D : Dk) : Prop where
  dev : Dev W wr p D F
  on : Only F w wr
  tw : Twelve D
theorem at12_eq (x : Int) : ∀ y, at12 x = y → wrap64 ((IntKind.u64.wrap x).tmod 12) = y := fun y h => h
set_option maxRecDepth 100000 in
set_option maxHeartbeats 4000000 in
theorem writes_dev {W w : World} {p : Nat} {D : Dk} {F : List Nat} (h : Dev W w p D F) (t : Twelve D) {a : Option Addr} {n c : Nat} {os : List OpV} (hos : OpsIn W a n c os) :
    Calls Try.prog 18 #[.pointer (some ⟨p, 0, none⟩), .slice a n c] w (WritesTo W p F (writesD D os) w) := by
  have HOS := Lib.hid hos
  have I0 : Hid (WInv W w w p F (writesD D (os.take 0))) := Lib.hid ⟨h, Only.refl _ _, t⟩
  have n0 : (n : Int) ≤ 9223372036854775807 := by have := hos.2.1; omega
  clear hos h t
  go_enter Try.func18, Try.ntmps18
  go_wp2_with fail
  go_loopw [4] (fun u wr => ∃ i : Nat, i ≤ n ∧ u = .int .i64 i ∧ Hid (WInv W w wr p F (writesD D (os.take i)))) (fun u _ => n - (intOf u).toNat)
  case atStart => exact ⟨0, by omega, rfl, I0⟩
  case round =>
    clear I0
    obtain ⟨i, hi, rfl, HI⟩ := hrel
    have i0 : (0 : Int) ≤ (i : Int) := Int.natCast_nonneg _
    by_cases hlt : i < n
    · have d1 : decide ((i : Int) < (n : Int)) = true := decide_eq_true (by omega)
      have d1' : (i : Int) < (n : Int) := by omega
      obtain ⟨hol, _, hor⟩ := HOS.out
      obtain ⟨ob, oo, rfl, hall⟩ := hor.resolve_left (by omega)
      obtain ⟨x, hx⟩ : ∃ x, os[i]? = some x := ⟨_, List.getElem?_eq_getElem (by omega)⟩
      have HOA := Lib.hid (hall i x hx)
      have HE := Lib.hid (writesD_succ (D := D) hx)
      obtain ⟨q0, q1, q2, q3, q4⟩ := opAt_below HOA.out HI.out.dev.bl
      obtain ⟨k, hk⟩ : ∃ k, at12 x.at_ = k := ⟨_, rfl⟩
      have hk' := at12_eq _ _ hk
      have hk'' : IntKind.i64.wrap ((IntKind.u64.wrap x.at_).tmod 12) = k := (IntWalk.i64_left _).trans hk'
      have HKK := Lib.hid hk
      generalize hD1 : writesD D (os.take i) = D1 at HI HE
      clear hol hor hall hx hk hD1
      go_wp2_with fail
      go_region_with (first
        | (go_at_call 11; refine (sector_to x.fill _).mono ?_; rintro _ y ⟨rfl, hry, ky, hsy⟩; have HY : Hid (WInv W w y p F D1) := Lib.hid ⟨(HI.out.dev.none (Only.refl [] wr).drew).none ky, HI.out.on.trans ((Only.refl [] wr).drew.trans ky (by simp)) (by simp), HI.out.tw⟩; have HRY := Lib.hid hry; obtain ⟨z0, z1, z2, z3, z4⟩ := opAt_below HOA.out HY.out.dev.bl; clear hry ky hsy)
        | (go_at_call 10; refine (write12' HKK.out HY.out.dev HY.out.tw (secOf_is x.fill) HRY.out (by omega)).mono ?_; rintro _ y2 ⟨rfl, hd2, k2⟩; have HZ : Hid (WInv W w y2 p F (putD D1 k (secOf x.fill))) := Lib.hid ⟨hd2, HY.out.on.and k2, HY.out.tw.putD _ _⟩; obtain ⟨v0, v1, v2, v3, v4⟩ := opAt_below HOA.out hd2.bl; clear hd2 k2))
      all_goals
        by_cases h5 : x.fill.tmod 5 = 0
        · have d5 : decide (x.fill.tmod 5 = 0) = true := decide_eq_true h5
          go_wp2_with fail
          refine (sync12 HZ.out.dev HZ.out.tw).mono ?_
          rintro _ y3 ⟨rfl, hd3, k3⟩
          have H3 : Hid (WInv W w y3 p F (writesD D (os.take (i + 1)))) := Lib.hid (by
            rw [HE.out, stepO, if_pos h5, HKK.out]
            exact ⟨hd3, HZ.out.on.and k3, HZ.out.tw.synD⟩)
          clear hd3 k3
          go_wp2_with fail
          go_roundw
          case rel => exact ⟨i + 1, by omega, by go_num, H3⟩
          case measure => simp [intOf]; omega
        · have d5 : decide (x.fill.tmod 5 = 0) = false := decide_eq_false h5
          have H3 : Hid (WInv W w y2 p F (writesD D (os.take (i + 1)))) := Lib.hid (by
            rw [HE.out, stepO, if_neg h5, HKK.out]
            exact HZ.out)
          go_wp2_with fail
          go_roundw
          case rel => exact ⟨i + 1, by omega, by go_num, H3⟩
          case measure => simp [intOf]; omega
    · have d1 : decide ((i : Int) < (n : Int)) = false := decide_eq_false (by omega)
      go_wp2_with fail
      go_end0
      have e : os.take i = os := List.take_of_length_le (by rw [HOS.out.1]; omega)
      have := HI.out
      rw [e] at this
      exact ⟨rfl, this.dev, this.on⟩
end Go.Proofs.Ytiheobbollpaaaa
