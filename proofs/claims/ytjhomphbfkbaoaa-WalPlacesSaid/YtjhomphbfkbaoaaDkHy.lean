/- Sync at the level of devices. -/
import Derived.Test.YtjhomphbfkbaoaaDkH
import Derived.Test.YtjhomphbfkbaoaaDkD
namespace Go.Proofs.Ytjhomphbfkbaoaa.dk
open Go.RowKit Go.ChangeShapes Go.WideShapes Go.ChangeAt
set_option linter.unusedVariables false
theorem sync_off (w : World) (p bl bw bn : Nat) (D : Dk) (h : DkAt w p bl bw bn D) (ho : D.off = true) : Calls Try.prog 34 #[.pointer (some ⟨p, 0, none⟩)] w fun e w' => e = .returned (.int .i64 6) ∧ w' = w := by
  have T := Lib.hid (there_off h ho)
  clear h ho
  go_enter Try.func34, Try.ntmps34
  go_wp2_with fail
  refine T.out.mono ?_
  rintro _ w' ⟨rfl, hw'⟩
  subst hw'
  go_wp2_with fail
  go_ret
  exact ⟨rfl, rfl⟩
def stepS (D : Dk) : Dk := if D.off = true then D else if (opD D).off = true then opD D else syncD D
theorem sync_dev {W w : World} {p : Nat} {D : Dk} {F : List Nat} (h : Dev W w p D F) :
    Calls Try.prog 34 #[.pointer (some ⟨p, 0, none⟩)] w (DoneTo W p F (stepS D) (errOff (stepS D).off) w) := by
  obtain ⟨bl, bw, bn, hd, rfl, hB⟩ := h.dk
  by_cases ho : D.off = true
  · refine (sync_off w p bl bw bn D hd ho).mono ?_
    rintro e w' ⟨rfl, rfl⟩
    rw [stepS, if_pos ho]
    exact ⟨by rw [ho]; rfl, h, Only.refl _ _⟩
  · have ho' : D.off = false := by simpa using ho
    refine (sync_ok w p bl bw bn D hd ho').mono ?_
    rintro e w' ⟨rfl, hd', k'⟩
    rw [stepS, if_neg ho]
    refine ⟨?_, h.to hd' k' (by simp)⟩
    by_cases h2 : (opD D).off = true
    · rw [if_pos h2]
    · rw [if_neg h2]; rfl
end Go.Proofs.Ytjhomphbfkbaoaa.dk
