/- known. -/
import Derived.Test.YtiheobbollpaaaaDkH
namespace Go.Proofs.Ytiheobbollpaaaa
open Go.RowKit Go.ChangeShapes Go.WideShapes Go.ChangeAt
set_option linter.unusedVariables false

theorem newD_sectors (s m : Int) : (newD s m).sectors = s := rfl
/-- Whether the power is on, no operation is armed. -/
structure Calm (D : Dk) : Prop where
  off : D.off = false
  armed : D.armed = 0
theorem Calm.opD {D : Dk} (h : Calm D) : opD D = D := by unfold Go.Proofs.Ytiheobbollpaaaa.opD; rw [h.armed]; simp
theorem Calm.write {D : Dk} (h : Calm D) (k : Int) (s : List Int) : stepW D k s = putD D k s := by
  have h2 : Calm (putD D k s) := ⟨h.off, h.armed⟩
  rw [stepW, if_neg (by rw [h.off]; simp), writeD, h2.opD]
def synD (D : Dk) : Dk := { D with last := fun k => (findS k D.waits).getD (D.last k), waits := [] }
theorem Calm.sync {D : Dk} (h : Calm D) : stepS D = synD D := by
  rw [stepS, if_neg (by rw [h.off]; simp), h.opD, if_neg (by rw [h.off]; simp), syncD, h.opD]; rfl
theorem Calm.putD {D : Dk} (h : Calm D) (k : Int) (s : List Int) : Calm (putD D k s) := ⟨h.off, h.armed⟩
theorem Calm.synD {D : Dk} (h : Calm D) : Calm (synD D) := ⟨h.off, h.armed⟩
theorem calm_new (s m : Int) : Calm (newD s m) := ⟨rfl, rfl⟩
theorem calm_crash (D : Dk) (pk : List Int) : Calm (crashD D pk) := ⟨rfl, rfl⟩
def KnownPost (w : World) (e : Ending) (w' : World) : Prop := e = .returned (.bool true) ∧ Below w.heap.size w w'
/-- What the device holds in known. -/
def kD : Dk := crashD (putD (synD (putD (newD 2 2) 1 (secOf 3))) 1 (secOf 4)) []
theorem kD_sector : sectorD kD 1 = secOf 3 := by
  have e1 : (putD (synD (putD (newD 2 2) 1 (secOf 3))) 1 (secOf 4)).waits = [(1, secOf 4)] := rfl
  have e2 : (putD (synD (putD (newD 2 2) 1 (secOf 3))) 1 (secOf 4)).last = fun k => (findS k [(1, secOf 3)]).getD ((newD 2 2).last k) := rfl
  have hk : keysD (putD (synD (putD (newD 2 2) 1 (secOf 3))) 1 (secOf 4)) = [1] := by unfold keysD; rw [e1]; simp [sortI]
  show ((findS 1 kD.waits).getD (kD.last 1)) = _
  have e3 : kD.waits = [] := rfl
  rw [e3]
  show lastC _ [] 1 1 = _
  simp only [lastC, hk, e2, pickAt, findS]
  simp
  have h1 := (secOf_is 3).1
  have h2 := (secOf_is 4).1
  simp only [mixS, mixA, e1, findS]
  simp
  rw [List.drop_left' (by rw [List.length_take, h2]; rfl), List.take_append_drop]
/-- String s of a sector, at any world at which the cells stand. -/
def ConvAt (b : Nat) (s : List Int) (x : World) : Prop := Bytes x b 0 s ∧ (convert 23 9 (.slice (some ⟨b, 0, none⟩) 128 128)).run Try.prog x = .ok (.string (strOfNums s)) x
theorem ConvAt.of {b : Nat} {s : List Int} {x : World} (h : Bytes x b 0 s) (hl : s.length = 128) : ConvAt b s x := ⟨h, conv_bytes h hl⟩
theorem ConvAt.only {b : Nat} {s : List Int} {x y : World} (h : ConvAt b s x) (k : Only [] x y) (hl : s.length = 128) : ConvAt b s y := .of (h.1.only k (by simp)) hl
set_option maxRecDepth 100000 in
set_option maxHeartbeats 4000000 in
theorem known_any (w : World) : Calls Try.prog 16 #[] w (KnownPost w) := by
  have N := Lib.hid (new_dev (W := w) (Below.refl _ _) 2 2 (by omega) (by omega) (by omega) (by omega))
  go_enter Try.func16, Try.ntmps16
  go_wp2_with fail
  refine N.out.mono ?_
  rintro _ w1 ⟨p, F, rfl, hd, k1, hB⟩
  have H1 := Lib.hid hd
  clear hd k1 hB N
  go_wp2_with fail
  refine (sector_to 3 w1).mono ?_
  rintro _ w2 ⟨rfl, hr2, k2, hs2⟩
  have H2 := Lib.hid (H1.out.none k2)
  have B2 := Lib.hid hr2
  clear hr2 k2 hs2
  go_wp2_with fail
  refine (write_dev H2.out (by omega) (by decide) rfl (secOf_is 3) B2.out (by omega)).mono ?_
  rintro _ w3 ⟨rfl, hd3, k3⟩
  have C1 := calm_new 2 2
  rw [C1.write] at *
  have C2 := C1.putD 1 (secOf 3)
  have e0 : errOff (putD (newD 2 2) 1 (secOf 3)).off = 0 := rfl
  have H3 := Lib.hid hd3
  clear hd3 k3
  go_wp2_with fail
  refine (sync_dev H3.out).mono ?_
  rintro _ w4 ⟨rfl, hd4, k4⟩
  rw [C2.sync] at *
  have C3 := C2.synD
  have e1 : errOff (synD (putD (newD 2 2) 1 (secOf 3))).off = 0 := rfl
  have H4 := Lib.hid hd4
  clear hd4 k4
  go_wp2_with fail
  refine (sector_to 4 w4).mono ?_
  rintro _ w5 ⟨rfl, hr5, k5, hs5⟩
  have H5 := Lib.hid (H4.out.none k5)
  have B5 := Lib.hid hr5
  clear hr5 k5 hs5
  go_wp2_with fail
  refine (write_dev H5.out (by omega) (by decide) rfl (secOf_is 4) B5.out (by omega)).mono ?_
  rintro _ w6 ⟨rfl, hd6, k6⟩
  rw [C3.write] at *
  have e2 : errOff (putD (synD (putD (newD 2 2) 1 (secOf 3))) 1 (secOf 4)).off = 0 := rfl
  have H6 := Lib.hid hd6
  clear hd6 k6
  go_wp2_with fail
  refine (crash_none H6.out).mono ?_
  rintro _ w7 ⟨rfl, hd7, k7⟩
  have H7 := Lib.hid hd7
  clear hd7 k7
  go_wp2_with fail
  refine (read_dev (D := kD) H7.out rfl (by omega) (by decide)).mono ?_
  rintro _ w8 ⟨rfl, hr8, hd8, k8, hs8⟩
  rw [kD_sector] at hr8
  have B8 := Lib.hid (ConvAt.of hr8 (secOf_is 3).1)
  have L8 := Lib.hid hd8.bl
  generalize w7.heap.size = b8 at *
  clear hr8 hd8 k8 hs8 e0 e1 e2 C1 C2 C3 H1 H2 B2 H3 H4 H5 B5 H6 H7
  go_wp2_with fail
  have G8 := Lib.hid (B8.out.only ((Only.refl [] w8).drew) (secOf_is 3).1)
  have e8 := G8.out.2
  go_region_with ((go_at_call 11; refine (sector_to 3 _).mono ?_; rintro _ y ⟨rfl, hry, ky, hsy⟩; have e9 := (G8.out.only ky (secOf_is 3).1).2; have ey : (convert 23 9 (.slice (some ⟨w8.heap.size, 0, none⟩) 128 128)).run Try.prog y = .ok (.string (strOfNums (secOf 3))) y := conv_bytes hry (secOf_is 3).1))
  all_goals
    go_wp2_with fail
    go_ret
    exact ⟨rfl, L8.out.trans ((Only.refl [] w8).drew.trans ky (by simp) |>.toBelow L8.out.size (by simp))⟩
end Go.Proofs.Ytiheobbollpaaaa
