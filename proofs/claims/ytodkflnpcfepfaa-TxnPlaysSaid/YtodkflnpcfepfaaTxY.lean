/- The law's same; the document's done. -/
import Derived.Test.YtodkflnpcfepfaaTxX
import Derived.Maps.AppendAt
namespace Go.Proofs.Ytodkflnpcfepfaa
open Go.RowKit Go.ChangeShapes Go.WideShapes Go.ChangeAt
set_option linter.unusedVariables false
set_option linter.unusedSimpArgs false

set_option maxRecDepth 100000 in
set_option maxHeartbeats 2000000 in
theorem same_any (a b : Option Addr) (n c d : Nat) (xs ys : List Int) (w : World) (hx : xs.length = n) (h1 : Ints .u64 w (.slice a n c) xs) (h2 : Ints .u64 w (.slice b n d) ys) (he : xs = ys) (hn : n ≤ 1000000) :
    Calls Try.prog 29 #[.slice a n c, .slice b n d] w fun e w' => e = .returned (.bool true) ∧ Below w.heap.size w w' := by
  subst he
  have HX := Lib.hid hx
  have H1 := Lib.hid h1
  have H2 := Lib.hid h2
  clear hx h1 h2
  go_enter Try.func29, Try.ntmps29
  go_wp2_with fail
  go_loopw [5] (fun u wr => ∃ i : Nat, i ≤ n ∧ u = .int .i64 i ∧ Hid (Below w.heap.size w wr)) (fun u _ => n - (intOf u).toNat)
  case atStart => exact ⟨0, by omega, rfl, Lib.hid (Below.refl _ _)⟩
  case round =>
    obtain ⟨i, hi, rfl, BW⟩ := hrel
    by_cases hlt : i < n
    · have d1 : decide ((i : Int) < (n : Int)) = true := decide_eq_true (by omega)
      have d1' : decide (i < n) = true := decide_eq_true hlt
      obtain ⟨b1, o1, c1, hv1, hc1⟩ := (H1.out.below' BW.out).shape (by rw [HX.out]; omega)
      obtain ⟨b2, o2, c2, hv2, hc2⟩ := (H2.out.below' BW.out).shape (by rw [HX.out]; omega)
      rw [HX.out] at hv1 hv2
      simp only [Value.slice.injEq] at hv1 hv2
      obtain ⟨rfl, _, rfl⟩ := hv1
      obtain ⟨rfl, _, rfl⟩ := hv2
      have C1 := hc1 i (by rw [HX.out]; omega)
      have C2 := hc2 i (by rw [HX.out]; omega)
      clear hc1 hc2
      generalize xs[i]?.getD 0 = x at C1 C2
      go_wp2_with fail
      go_quiet (fail)
      have BN : Hid (Below w.heap.size w (wr.drewN nq)) := Lib.hid (below_drewN BW.out nq)
      go_wp2_with fail
      go_roundw
      case rel => exact ⟨i + 1, by omega, by go_num, BN⟩
      case measure => simp [intOf]; omega
    · have d1 : decide ((i : Int) < (n : Int)) = false := decide_eq_false (by omega)
      have d1' : decide (i < n) = false := decide_eq_false hlt
      clear hlt
      go_wp2_with fail
      go_ret
      exact ⟨rfl, BW.out⟩
end Go.Proofs.Ytodkflnpcfepfaa
