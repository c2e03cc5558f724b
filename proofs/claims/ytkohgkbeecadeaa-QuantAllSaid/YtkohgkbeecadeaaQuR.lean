/- The reference's KindOf, parts, near. -/
import Derived.Test.YtkohgkbeecadeaaQuK
namespace Go.Proofs.Ytkohgkbeecadeaa
open Go.RowKit Go.ChangeShapes Go.WideShapes Go.ChangeAt
set_option linter.unusedVariables false

theorem field64 (x : Nat) (hx : x < 18446744073709551616) : bits .and .u64 ((x : Int) / 4503599627370496) 2047 = ((Fl.fld x : Nat) : Int) := by
  have e : (x : Int) / 4503599627370496 = ((x / 4503599627370496 : Nat) : Int) := by omega
  rw [e, show (2047 : Int) = ((2047 : Nat) : Int) from rfl, u64_and_nat _ _ (by omega) (by omega), show (2047 : Nat) = 2 ^ 11 - 1 from rfl, Nat.and_two_pow_sub_one_eq_mod]; rfl
theorem frac64 (x : Nat) (hx : x < 18446744073709551616) : bits .and .u64 (x : Int) 4503599627370495 = ((Fl.frc x : Nat) : Int) := by
  rw [show (4503599627370495 : Int) = ((4503599627370495 : Nat) : Int) from rfl, u64_and_nat _ _ hx (by omega), show (4503599627370495 : Nat) = 2 ^ 52 - 1 from rfl, Nat.and_two_pow_sub_one_eq_mod]; rfl
theorem or52 (m : Nat) (hm : m < 4503599627370496) : bits .or .u64 (m : Int) 4503599627370496 = ((4503599627370496 + m : Nat) : Int) := by
  rw [show (4503599627370496 : Int) = ((4503599627370496 : Nat) : Int) from rfl, u64_or_nat _ _ (by omega) (by omega)]
  have := Nat.two_pow_add_eq_or_of_lt (i := 52) (b := m) hm 1
  rw [Nat.or_comm]
  congr 1
  simpa using this.symm
def kindF (x : Nat) : Int := if Fl.fld x = 2047 then (if Fl.frc x = 0 then 4 else 5) else if Fl.fld x = 0 then (if Fl.frc x = 0 then 1 else 2) else 3

set_option maxHeartbeats 1000000 in
theorem rkind_any (x : Nat) (w : World) (hx : x < 18446744073709551616) : Calls Try.prog 12 #[.int .u64 x] w fun e w' => e = .returned (.int .i64 (kindF x)) ∧ w' = w := by
  have f1 := field64 x hx
  have f2 := frac64 x hx
  have K : kindF x = if Fl.fld x = 2047 then (if Fl.frc x = 0 then 4 else 5) else if Fl.fld x = 0 then (if Fl.frc x = 0 then 1 else 2) else 3 := rfl
  generalize kindF x = kd at K ⊢
  have hf : Fl.fld x < 2048 := by unfold Fl.fld; omega
  have hm : Fl.frc x < 4503599627370496 := by unfold Fl.frc; omega
  generalize Fl.fld x = f at f1 hf K
  generalize Fl.frc x = m at f2 hm K
  have HK := Lib.hid K
  clear K
  by_cases a : f = 2047
  · subst a
    by_cases b : m = 0
    · subst b
      go_enter Try.func12, Try.ntmps12
      go_wp2
      go_ret
      exact ⟨ret_int (by rw [HK.out]; rfl), rfl⟩
    · have b' : ((m : Int) == 0) = false := by simpa using b
      have b2 : ¬ (m : Int) = 0 := by omega
      go_enter Try.func12, Try.ntmps12
      go_wp2
      go_ret
      exact ⟨ret_int (by rw [HK.out]; simp [b]), rfl⟩
  · have a' : ((f : Int) == 2047) = false := by simpa using (by omega : ¬ (f : Int) = 2047)
    by_cases b : f = 0
    · subst b
      by_cases c : m = 0
      · subst c
        go_enter Try.func12, Try.ntmps12
        go_wp2
        go_ret
        exact ⟨ret_int (by rw [HK.out]; rfl), rfl⟩
      · have c' : ((m : Int) == 0) = false := by simpa using c
        have c2 : ¬ (m : Int) = 0 := by omega
        go_enter Try.func12, Try.ntmps12
        go_wp2
        go_ret
        exact ⟨ret_int (by rw [HK.out]; simp [c]), rfl⟩
    · have b1 : (0 : Int) < (f : Int) := by omega
      go_enter Try.func12, Try.ntmps12
      go_wp2
      go_ret
      exact ⟨ret_int (by rw [HK.out]; simp [a, b]), rfl⟩

set_option maxHeartbeats 1000000 in
theorem parts_any (x : Nat) (w : World) (hx : x < 18446744073709551616) : Calls Try.prog 29 #[.int .u64 x] w fun e w' => e = .returned (.tuple #[.int .u64 (Fl.mM x : Nat), .int .i64 ((Fl.mE x : Nat) - 1075 : Int)]) ∧ w' = w := by
  have f1 := field64 x hx
  have f2 := frac64 x hx
  have M : Fl.mM x = if Fl.fld x = 0 then Fl.frc x else 4503599627370496 + Fl.frc x := rfl
  have E : Fl.mE x = if Fl.fld x = 0 then 1 else Fl.fld x := rfl
  generalize Fl.mM x = mm at M ⊢
  generalize Fl.mE x = me at E ⊢
  have hf : Fl.fld x < 2048 := by unfold Fl.fld; omega
  have hm : Fl.frc x < 4503599627370496 := by unfold Fl.frc; omega
  have f3 := or52 _ hm
  generalize Fl.fld x = f at f1 hf M E
  generalize Fl.frc x = m at f2 f3 hm M
  by_cases b : f = 0
  · rw [if_pos b] at M E
    subst b M E
    go_enter Try.func29, Try.ntmps29
    go_wp2
    go_ret2
    exact ⟨ret_int2 rfl (by omega), rfl⟩
  · rw [if_neg b] at M E
    have b' : ((f : Int) == 0) = false := by simpa using b
    have b2 : ¬ (f : Int) = 0 := by omega
    have HM := Lib.hid M
    have HE := Lib.hid E
    clear M E
    go_enter Try.func29, Try.ntmps29
    go_wp2
    go_ret2
    exact ⟨ret_int2 (by rw [HM.out]; omega) (by rw [HE.out]), rfl⟩
end Go.Proofs.Ytkohgkbeecadeaa
