/- The document's manager: Check. -/
import Derived.Test.YtodkflnpcfepfaaTxZe
namespace Go.Proofs.Ytodkflnpcfepfaa
open Go.RowKit Go.ChangeShapes Go.WideShapes Go.ChangeAt
set_option linter.unusedVariables false
set_option linter.unusedSimpArgs false

def BadR (x y : RT) : Prop := x.start < y.at_ ∧ ∃ z ∈ x.keys, z ∈ y.keys
def ClashR (R : Rf) (x : RT) : Prop := ∃ y ∈ R.all, BadR x y
instance (x y : RT) : Decidable (BadR x y) := inferInstanceAs (Decidable (x.start < y.at_ ∧ ∃ z ∈ x.keys, z ∈ y.keys))
instance (R : Rf) (x : RT) : Decidable (ClashR R x) := inferInstanceAs (Decidable (∃ y ∈ R.all, BadR x y))
def chkR (R : Rf) (x : RT) : Int := if ClashR R x then 11 else 0
def CheckRTo (v : Int) (w : World) (e : Ending) (w' : World) : Prop := e = .returned (.int .i64 v) ∧ Only [] w w'
theorem check_refno {w : World} {B p : Nat} {av : Value} {R : Rf} {n : Int} (hf : NotFound R n) (h : RfAt w B p av R) :
    Calls Try.prog 19 #[.pointer (some ⟨p, 0, none⟩), .int .u64 n] w fun e w' => e = .returned (.int .i64 12) ∧ w' = w := by
  have FI := Lib.hid (find_none hf h)
  clear h hf
  go_enter Try.func19, Try.ntmps19
  go_wp2_with fail
  refine FI.out.mono ?_
  rintro _ w1 ⟨rfl, rfl⟩
  go_wp2_with fail
  go_ret
  exact ⟨rfl, rfl⟩
theorem RfAt.drewN {w : World} {B p : Nat} {av : Value} {R : Rf} (h : RfAt w B p av R) (z : Nat) : RfAt (w.drewN z) B p av R := h.only ((Only.refl [] w).drewN z) (by simp)
set_option maxHeartbeats 2000000 in
theorem check_ref {w : World} {B p : Nat} {av : Value} {R : Rf} {n : Int} {i : Nat} {x : RT} (hf : FoundAt R n i) (hx : R.all[i]? = some x) (h : RfAt w B p av R) :
    Calls Try.prog 19 #[.pointer (some ⟨p, 0, none⟩), .int .u64 n] w (CheckRTo (chkR R x) w) := by
  have FI := Lib.hid (find_ref hf h)
  have H := Lib.hid h
  obtain ⟨a0, c, hav⟩ := h.av_shape
  have hil := (List.getElem?_eq_some_iff.1 hx).1
  have hlen := h.fine.len
  have hkl := (h.fine.each x (List.mem_of_getElem? hx)).2.2.2
  have HAV := Lib.hid hav
  have HX := Lib.hid hx
  obtain ⟨m, hm⟩ : ∃ m, R.all.length = m := ⟨_, rfl⟩
  rw [hm] at hil hlen HAV
  have HM := Lib.hid hm
  obtain ⟨nk, hnk⟩ : ∃ nk, x.keys.length = nk := ⟨_, rfl⟩
  rw [hnk] at hkl
  have HNK := Lib.hid hnk
  have d0 : decide ((i : Int) < 0) = false := decide_eq_false (by omega)
  clear h hf hx hm hav hnk
  go_enter Try.func19, Try.ntmps19
  go_wp2_with fail
  refine FI.out.mono ?_
  rintro _ w1 ⟨rfl, hw1⟩
  subst w1
  clear FI
  go_wp2_with fail
  clear d0
  go_loopw [6] (fun u wr => ∃ j : Nat, j ≤ m ∧ u = .int .i64 j ∧ Hid (∀ q y, q < j → R.all[q]? = some y → ¬ BadR x y) ∧ Hid (∃ z, wr = w.drewN z)) (fun u _ => m - (intOf u).toNat)
  case atStart => exact ⟨0, by omega, rfl, Lib.hid (fun q y hq => by omega), Lib.hid ⟨0, rfl⟩⟩
  case round =>
    obtain ⟨j, hj, rfl, HN, HZ⟩ := hrel
    rename World => w3
    have H3 : Hid (RfAt w3 B p av R) := Lib.hid (by obtain ⟨z, hz⟩ := HZ.out; rw [hz]; exact H.out.drewN z)
    have Z3 : Hid (∀ n, ∃ z, w3.drewN n = w.drewN z) := Lib.hid (by obtain ⟨z, hz⟩ := HZ.out; rw [hz]; exact fun n => ⟨z + n, by rw [World.drewN_drewN]⟩)
    clear HZ
    have c1 : w3.cell? ⟨p, 1, none⟩ = some (.slice a0 m c) := by rw [← HAV.out]; exact H3.out.row.cell 1
    by_cases hlt : j < m
    · have d1 : decide ((j : Int) < (m : Int)) = true := decide_eq_true (by omega)
      have d1' : decide (j < m) = true := decide_eq_true hlt
      obtain ⟨y, hy⟩ : ∃ y, R.all[j]? = some y := ⟨_, List.getElem?_eq_getElem (by rw [HM.out]; exact hlt)⟩
      obtain ⟨g, cap, e1, hcap, hB, hRx⟩ := H3.out.at_ HX.out
      obtain ⟨g', cap', e1', _, _, hRy⟩ := H3.out.at_ hy
      rw [HAV.out] at e1 e1'
      simp only [Value.slice.injEq] at e1 e1'
      obtain ⟨rfl, _, rfl⟩ := e1
      obtain ⟨e1', _⟩ := e1'
      simp only [Option.some.injEq, Addr.mk.injEq] at e1'
      obtain ⟨rfl, _⟩ := e1'
      have rx := hRx.c1
      have ry := hRy.c2
      have HY := Lib.hid hy
      clear hRx hRy hy hB hcap
      by_cases hgt : x.start < y.at_
      · have d2 : decide (x.start < y.at_) = true := decide_eq_true hgt
        have HG := Lib.hid hgt
        clear hgt
        go_wp2_with fail
        go_quiet (fail)
        clear d1 d1' d2 rx ry c1
        have Z4 : Hid (∃ z, w3.drewN nq = w.drewN z) := Lib.hid (Z3.out nq)
        generalize w3.drewN nq = w4 at *
        go_wp2_with fail
        go_loopw [7] (fun u wr => ∃ q : Nat, q ≤ nk ∧ u = .int .i64 q ∧ Hid (∀ t, t < q → at0 x.keys t ∉ y.keys) ∧ Hid (∃ z, wr = w.drewN z)) (fun u _ => nk - (intOf u).toNat)
        case atStart => exact ⟨0, by omega, rfl, Lib.hid (fun q hq => by omega), Z4⟩
        case round =>
          obtain ⟨q, hq, rfl, HQ, HZ⟩ := hrel
          rename World => w5
          have H5 : Hid (RfAt w5 B p (.slice (some ⟨g, 0, none⟩) m c) R) := Lib.hid (by obtain ⟨z, hz⟩ := HZ.out; rw [hz, ← HAV.out]; exact H.out.drewN z)
          have Z5 : Hid (∀ n, ∃ z, w5.drewN n = w.drewN z) := Lib.hid (by obtain ⟨z, hz⟩ := HZ.out; rw [hz]; exact fun n => ⟨z + n, by rw [World.drewN_drewN]⟩)
          clear HZ
          have c1 : w5.cell? ⟨p, 1, none⟩ = some (.slice (some ⟨g, 0, none⟩) m c) := H5.out.row.cell 1
          obtain ⟨g2, cap2, e2, _, _, hRx⟩ := H5.out.at_ HX.out
          obtain ⟨g3, cap3, e3, _, _, hRy⟩ := H5.out.at_ HY.out
          simp only [Value.slice.injEq, Option.some.injEq, Addr.mk.injEq] at e2 e3
          obtain ⟨⟨rfl, _⟩, _⟩ := e2
          obtain ⟨⟨rfl, _⟩, _⟩ := e3
          have rx := hRx.c4
          have ry := hRy.c4
          rw [HNK.out] at rx
          clear hRx hRy
          by_cases hlq : q < nk
          · have d3 : decide ((q : Int) < (nk : Int)) = true := decide_eq_true (by omega)
            have d3' : decide (q < nk) = true := decide_eq_true hlq
            obtain ⟨b1, o1, k1, hv1, hc1⟩ := (ints_own (H5.out.keys x (List.mem_of_getElem? HX.out))).shape (by rw [HNK.out]; omega)
            have C1 := hc1 q (by rw [HNK.out]; omega)
            have e0 : x.keys[q]?.getD 0 = at0 x.keys q := rfl
            rw [e0] at C1
            unfold RT.kv at hv1
            simp only [Value.slice.injEq] at hv1
            obtain ⟨hv1, _, hv2⟩ := hv1
            rw [hv1] at rx
            have HV1 := Lib.hid hv1
            have KM := Lib.hid (fun n => has_any y.ka y.keys.length y.kc y.keys (at0 x.keys q) (w5.drewN n) rfl ((ints_own (H5.out.keys y (List.mem_of_getElem? HY.out))).drewN n) (by have := (H5.out.fine.each y (List.mem_of_getElem? HY.out)).2.2.2; omega))
            clear hc1 e0 hv1 hv2
            by_cases hm : at0 x.keys q ∈ y.keys
            · have BAD : Hid (chkR R x = 11) := Lib.hid (by
                unfold chkR
                rw [if_pos]
                refine ⟨y, List.mem_of_getElem? HY.out, HG.out, at0 x.keys q, ?_, hm⟩
                unfold at0
                rw [List.getElem?_eq_getElem (by rw [HNK.out]; exact hlq)]
                exact List.getElem_mem _)
              rw [decide_eq_true hm] at KM
              clear hm
              generalize at0 x.keys q = kx at *
              generalize y.keys.length = ny at *
              go_wp2_with fail
              go_quiet ((go_at_call 38; exact Calls.quiet_of_same (KM.out _)))
              go_wp2_with fail
              go_ret
              refine ⟨ret_int BAD.out.symm, ?_⟩
              obtain ⟨z, hz⟩ := Z5.out nq
              rw [hz]
              exact (Only.refl [] w).drewN z
            · have HQ2 : Hid (∀ t, t < q + 1 → at0 x.keys t ∉ y.keys) := Lib.hid fun t ht => by
                by_cases e : t = q
                · subst e; exact hm
                · exact HQ.out t (by omega)
              rw [decide_eq_false hm] at KM
              clear hm
              generalize at0 x.keys q = kx at C1 KM
              generalize y.keys.length = ny at *
              go_wp2_with fail
              go_quiet ((go_at_call 38; exact Calls.quiet_of_same (KM.out _)))
              go_wp2_with fail
              go_roundw
              case rel => exact ⟨q + 1, by omega, by go_num, HQ2, Lib.hid (Z5.out nq)⟩
              case measure => simp [intOf]; omega
          · have d3 : decide ((q : Int) < (nk : Int)) = false := decide_eq_false (by omega)
            have d3' : decide (q < nk) = false := decide_eq_false hlq
            have HN2 : Hid (∀ q y, q < j + 1 → R.all[q]? = some y → ¬ BadR x y) := Lib.hid fun t y' ht hy' => by
              by_cases e : t = j
              · subst e
                have := HY.out
                rw [hy'] at this
                simp only [Option.some.injEq] at this
                subst this
                rintro ⟨_, z, hz1, hz2⟩
                obtain ⟨t2, ht2, e2⟩ := List.getElem_of_mem hz1
                refine HQ.out t2 (by rw [HNK.out] at ht2; omega) ?_
                unfold at0
                rw [List.getElem?_eq_getElem ht2]
                simp only [Option.getD_some]
                rw [e2]
                exact hz2
              · exact HN.out t y' (by omega) hy'
            have Z6 := Lib.hid (Z5.out 0)
            clear hlq
            go_wp2_with fail
            go_roundw
            case rel => exact ⟨j + 1, by omega, by go_num, HN2, Z6⟩
            case measure => simp [intOf]; omega
      · have d2 : decide (x.start < y.at_) = false := decide_eq_false hgt
        have HN2 : Hid (∀ q y, q < j + 1 → R.all[q]? = some y → ¬ BadR x y) := Lib.hid fun t y' ht hy' => by
          by_cases e : t = j
          · subst e
            have := HY.out
            rw [hy'] at this
            simp only [Option.some.injEq] at this
            subst this
            exact fun hb => hgt hb.1
          · exact HN.out t y' (by omega) hy'
        clear hgt
        go_wp2_with fail
        go_quiet (fail)
        go_wp2_with fail
        go_roundw
        case rel => exact ⟨j + 1, by omega, by go_num, HN2, Lib.hid (Z3.out nq)⟩
        case measure => simp [intOf]; omega
    · have d1 : decide ((j : Int) < (m : Int)) = false := decide_eq_false (by omega)
      have d1' : decide (j < m) = false := decide_eq_false hlt
      have OK : Hid (chkR R x = 0) := Lib.hid (by
        unfold chkR
        rw [if_neg]
        rintro ⟨y, hy, hb⟩
        obtain ⟨t, ht, e⟩ := List.getElem_of_mem hy
        exact HN.out t y (by rw [HM.out] at ht; omega) (by rw [List.getElem?_eq_getElem ht, e]) hb)
      clear hlt
      go_wp2_with fail
      go_ret
      refine ⟨ret_int OK.out.symm, ?_⟩
      obtain ⟨z, hz⟩ := Z3.out 0
      rw [show w3 = w3.drewN 0 from rfl, hz]
      exact (Only.refl [] w).drewN z
end Go.Proofs.Ytodkflnpcfepfaa
