/- QuantOrder: case a. -/
import Derived.Test.YtkohgkbeecadeaaQuOrA
namespace Go.Proofs.Ytkohgkbeecadeaa.quantOrder
open Go.ChangeShapes Go.WideShapes Go.ChangeAt Go.RowKit Go.Joins
open Go.Sort Go.Lib Go.Shelf
set_option linter.unusedVariables false
set_option maxRecDepth 100000 in
set_option maxHeartbeats 4000000 in
theorem bad_a (a : Option Addr) (n c : Nat) (x z : Int) (w : World) (hx : 0 ≤ x ∧ x < 18446744073709551616) (hz : 0 ≤ z ∧ z < 18446744073709551616) (m0 : n ≤ c) (m1 : c ≤ 9223372036854775807) (g1 : 2000 < n) (p : totF x x = 0) (q : totF x z ≤ 0) : Goal a n c x x z w := by
  unfold Goal
  have K0 := Lib.hid (fun w => tot_n p hx hx w)
  have K1 := Lib.hid (fun w => rtot_n p hx hx w)
  have K2 := Lib.hid (fun w => tot_n p hx hx w)
  have K3 := Lib.hid (fun w => tot_n (rfl : totF x z = _) hx hz w)
  have K4 := Lib.hid (fun w => tot_n (rfl : totF x z = _) hx hz w)
  clear hx hz
  clear p
  generalize totF x z = v at *
  go_enter Try.func8, Try.ntmps8
  go_wp2_with fail
  refine ((K0).out _).mono ?_
  rintro _ w' ⟨rfl, rfl⟩
  go_wp2_with fail
  refine ((K1).out _).mono ?_
  rintro _ w' ⟨rfl, rfl⟩
  go_wp2_with fail
  refine ((K2).out _).mono ?_
  rintro _ w' ⟨rfl, rfl⟩
  go_wp2_with fail
  refine ((K3).out _).mono ?_
  rintro _ w' ⟨rfl, rfl⟩
  go_wp2_with fail
  refine ((K4).out _).mono ?_
  rintro _ w' ⟨rfl, rfl⟩
  go_wp2_with (go_at_call 13; refine (known_any _).mono ?_; rintro e w' ⟨rfl, rfl⟩)
  go_ret
  exact ⟨rfl, Below.refl _ _⟩

set_option maxRecDepth 100000 in
set_option maxHeartbeats 4000000 in
theorem none_a (a : Option Addr) (n c : Nat) (l : List U64) (x z : Int) (w : World) (hx : 0 ≤ x ∧ x < 18446744073709551616) (hz : 0 ≤ z ∧ z < 18446744073709551616) (hi : NumsIn w a n c l) (g1 : n = 0) (p : totF x x = 0) (q : totF x z ≤ 0) : Goal a n c x x z w := by
  unfold Goal
  obtain ⟨hl, m0, m1, hsrc, hints0⟩ := hi
  subst g1
  have KL := Lib.hid (lent_any a 0 c (nums l) w (by rw [nums_len, hl]) hsrc (by omega))
  have L := Lib.hid hl
  have HI := Lib.hid hints0
  clear hl hsrc hints0
  have K0 := Lib.hid (fun w => tot_n p hx hx w)
  have K1 := Lib.hid (fun w => rtot_n p hx hx w)
  have K2 := Lib.hid (fun w => tot_n p hx hx w)
  have K3 := Lib.hid (fun w => tot_n (rfl : totF x z = _) hx hz w)
  have K4 := Lib.hid (fun w => tot_n (rfl : totF x z = _) hx hz w)
  clear hx hz
  clear p
  generalize totF x z = v at *
  go_enter Try.func8, Try.ntmps8
  go_wp2_with fail
  refine ((K0).out _).mono ?_
  rintro _ w' ⟨rfl, rfl⟩
  go_wp2_with fail
  refine ((K1).out _).mono ?_
  rintro _ w' ⟨rfl, rfl⟩
  go_wp2_with fail
  refine ((K2).out _).mono ?_
  rintro _ w' ⟨rfl, rfl⟩
  go_wp2_with fail
  refine ((K3).out _).mono ?_
  rintro _ w' ⟨rfl, rfl⟩
  go_wp2_with fail
  refine ((K4).out _).mono ?_
  rintro _ w' ⟨rfl, rfl⟩
  go_wp2_with fail
  refine KL.out.mono ?_
  rintro _ w1 ⟨g, cap, rfl, c1, c2, hg0, hg1, hints, h77, hb1⟩
  have I1 := Lib.hid hints
  have B1 := Lib.hid hb1
  have S77 := Lib.hid h77
  clear hints hb1 h77 KL
  have KS := Lib.hid (sorted_z g cap w1)
  go_wp2_with fail
  refine KS.out.mono ?_
  rintro _ w2 ⟨p2, c3, rfl, u1, hb2⟩
  have B2 := Lib.hid hb2
  clear hb2 KS
  have KK := Lib.hid (fun W (hb : Below w1.heap.size w1 W) => kept_any g cap 0 c a (nums l) W (by rw [nums_len, L.out]) (I1.out.below' hb) (ints_keep HI.out (Nat.le_refl _) (B1.out.trans (hb.mono B1.out.size))) c1 c2 (by rw [hb.cell (p := ⟨g, 0, none⟩) hg1]; exact S77.out))
  go_wp2_with fail
  refine (KK.out _ B2.out).mono ?_
  rintro _ w' ⟨rfl, q, rfl⟩
  go_wp2_with fail
  refine wp_loop_once ?_
  go_wp2_with fail
  refine wp_loop_once ?_
  go_wp2_with fail
  refine (KK.out (w2.drewN q) (below_drewN B2.out _)).mono ?_
  rintro _ w' ⟨rfl, q', rfl⟩
  go_wp2_with (go_at_call 13; refine (known_any _).mono ?_; rintro e w' ⟨rfl, rfl⟩)
  go_ret
  exact ⟨rfl, below_drewN (B1.out.trans (B2.out.mono B1.out.size)) _⟩

end Go.Proofs.Ytkohgkbeecadeaa.quantOrder
