/- ldexp of what falls below the normal floats; of subnormal ones. -/
import Derived.Test.YtkohgkbeecadeaaQuA2
namespace Go.Proofs.Ytkohgkbeecadeaa
open Go.RowKit Go.ChangeShapes Go.WideShapes Go.ChangeAt
set_option linter.unusedVariables false

theorem Fl.mul_sub (s : Bool) (f : Nat) (h0 : 0 < f) (h1 : f < 4503599627370496) :
    Ieee.double.mul (Fl.mk s 0 f) 4841369599423283200 = some (Fl.mk s (f.log2 + 1) (f * 2 ^ (52 - f.log2) - 4503599627370496)) ∧ f * 2 ^ (52 - f.log2) - 4503599627370496 < 4503599627370496 ∧ f.log2 + 1 ≤ 52 := by
  have hl : f.log2 ≤ 51 := by
    have a1 : 2 ^ f.log2 ≤ f := Nat.log2_self_le (by omega)
    have a2 : 2 ^ f.log2 < 2 ^ 52 := Nat.lt_of_le_of_lt a1 h1
    have := (Nat.pow_lt_pow_iff_right (by omega : 1 < 2)).1 a2
    omega
  obtain ⟨b1, b2⟩ := Fl.norm_bounds (show f ≠ 0 by omega) (by omega)
  refine ⟨?_, by omega, by omega⟩
  have e1 : (4841369599423283200 : Nat) = Fl.mk false 1075 0 := by decide
  unfold Ieee.Format.mul
  have rd : Ieee.double.read (Fl.mk s 0 f) = .number s f (-1074) := by
    obtain ⟨a, b, c, d⟩ := Fl.mk_fields s 0 f (by omega) h1
    rw [Fl.read_eq _ d, a, b, c, if_neg (by omega), if_pos rfl]
  rw [e1, Fl.read_mk false 1075 0 (by omega) (by omega) (by omega), rd]
  unfold Ieee.Datum.product
  dsimp only
  rw [Option.map_some]
  unfold Ieee.Format.write
  dsimp only
  have e2 : f * (4503599627370496 + 0) = f * 2 ^ (52 - f.log2) * 2 ^ f.log2 := by
    rw [Nat.mul_assoc, ← Nat.pow_add, show 52 - f.log2 + f.log2 = 52 by omega]
  rw [Bool.xor_false, e2, Fl.nearest_norm s _ _ _ b1 b2 (by omega) (by omega)]
  rw [show ((-1074 : Int) + (((1075 : Nat) : Int) - 1075) + ((f.log2 : Nat) : Int) + 1075).toNat = f.log2 + 1 by omega]
theorem Fl.mul_tiny (s : Bool) (F m : Nat) (h1 : 1 ≤ F) (h2 : F ≤ 60) (h3 : m < 4503599627370496) :
    ∃ r, Ieee.double.mul 4368491638549381120 (Fl.mk s F m) = some ((if s then 9223372036854775808 else 0) + r) ∧ r ≤ 900719925474099200 := by
  have e1 : (4368491638549381120 : Nat) = Fl.mk false 970 0 := by decide
  unfold Ieee.Format.mul
  rw [e1, Fl.read_mk false 970 0 (by omega) (by omega) (by omega), Fl.read_mk s F m h1 (by omega) h3]
  unfold Ieee.Datum.product
  dsimp only
  rw [Option.map_some]
  unfold Ieee.Format.write
  dsimp only
  rw [Bool.false_xor]
  have hlog : ((4503599627370496 + 0) * (4503599627370496 + m)).log2 ≤ 105 := by
    refine Fl.log2_le ?_
    have : (4503599627370496 + 0) * (4503599627370496 + m) ≤ 4503599627370496 * 9007199254740992 := Nat.mul_le_mul (by omega) (by omega)
    exact Nat.le_trans this (by decide)
  obtain ⟨r, hr, hb⟩ := Fl.nearest_tiny s ((4503599627370496 + 0) * (4503599627370496 + m)) (((970 : Nat) : Int) - 1075 + ((F : Int) - 1075)) (by omega)
  exact ⟨r, by rw [hr], hb⟩

theorem copysign0 (x : Nat) (w : World) (hx : x < 18446744073709551616) : Calls Try.prog 45 #[.float .f64 0, .float .f64 x] w fun e w' => e = .returned (.float .f64 (if Fl.sg x then 9223372036854775808 else 0)) ∧ w' = w := by
  have r1 := run_bits
  have r2 := run_frombits
  have c0 : bits .andNot .u64 0 9223372036854775808 = 0 := by decide +kernel
  by_cases h : 9223372036854775808 ≤ x
  · have hs : Fl.sg x = true := by unfold Fl.sg; exact decide_eq_true h
    have c1 := hiand_hi x (by omega) (by omega)
    have c2 : bits .or .u64 0 9223372036854775808 = 9223372036854775808 := by decide +kernel
    rw [hs]
    clear hs h
    go_enter Try.func45, Try.ntmps45
    go_wp2
    go_ret
    exact ⟨rfl, rfl⟩
  · have hs : Fl.sg x = false := by unfold Fl.sg; exact decide_eq_false h
    have c1 := hiand_lo x (by omega) (by omega)
    have c2 : bits .or .u64 0 0 = 0 := by decide +kernel
    rw [hs]
    clear hs h
    go_enter Try.func45, Try.ntmps45
    go_wp2
    go_ret
    exact ⟨rfl, rfl⟩

theorem normalize_sub (s : Bool) (f : Nat) (w : World) (h0 : 0 < f) (h1 : f < 4503599627370496) :
    Calls Try.prog 44 #[.float .f64 (Fl.mk s 0 f)] w fun e w' => e = .returned (.tuple #[.float .f64 (Fl.mk s (f.log2 + 1) (f * 2 ^ (52 - f.log2) - 4503599627370496)), .int .i64 (-52)]) ∧ w' = w := by
  obtain ⟨a, b, c, d⟩ := Fl.mk_fields s 0 f (by omega) h1
  have hr := Fl.mk_rg s 0 f (by omega) h1
  have ho := (Fl.mul_sub s f h0 h1).1
  generalize Fl.mk s (f.log2 + 1) (f * 2 ^ (52 - f.log2) - 4503599627370496) = y at ho ⊢
  generalize Fl.mk s 0 f = x at a b c d hr ho ⊢
  have nx : Fl.Num x := ⟨d, by rw [hr]; omega⟩
  have o1 : (FloatKind.f64.format.order (x % 9223372036854775808) 4503599627370496 == some .lt) = true := by
    show (Ieee.double.order _ _ == _) = _
    rw [Fl.ord_lt (num_abs nx) (Fl.num_lit (by omega) (by omega)), rk_abs, Fl.rk_pos (by omega), decide_eq_true_eq]
    omega
  have fm : ∀ w, (binOp .mul 47 (.float .f64 x) (.float .f64 4841369599423283200)).run Try.prog w = .ok (.float .f64 y) w := by
    intro w
    have ho' : FloatKind.f64.format.mul x 4841369599423283200 = some y := ho
    simp [binOp, Op.floatArith, ho']
  have A1 := Lib.hid (abs_any x w d)
  clear nx a b c hr ho h0 h1 d
  go_enter Try.func44, Try.ntmps44
  go_wp2_with fail
  refine A1.out.mono ?_
  rintro e w' ⟨rfl, rfl⟩
  go_wp2_with fail
  go_ret2
  exact ⟨rfl, rfl⟩

/-- What the tests at ldexp's head answer of a finite float that is not nought. -/
theorem fin_facts (x : Nat) (hx : x < 18446744073709551616) (h0 : Fl.rg x ≠ 0) (h1 : Fl.rg x < 9218868437227405312) :
    Fl.Num x ∧ (FloatKind.f64.format.order x 0 == some .eq) = false ∧ (∀ w, Calls Try.prog 31 #[.float .f64 x, .int .i64 0] w fun e w' => e = .returned (.bool false) ∧ w' = w) ∧ (∀ w, Calls Try.prog 43 #[.float .f64 x] w fun e w' => e = .returned (.bool false) ∧ w' = w) := by
  have nx : Fl.Num x := ⟨hx, by omega⟩
  refine ⟨nx, ?_, fun w => ?_, fun w => ?_⟩
  · rw [zero_eq nx, decide_eq_false h0]
  · have := isinf_num w nx
    rw [decide_eq_false (by omega)] at this
    exact this
  · exact isnan_any x w false (self_eq nx)

set_option maxHeartbeats 400000 in
/-- ldexp of what normalize makes mk s e m, where a normal float comes of it. -/
theorem ldexp_mid (x : Nat) (s : Bool) (e m : Nat) (k k2 : Int) (hx : x < 18446744073709551616) (h0 : Fl.rg x ≠ 0) (hf : Fl.rg x < 9218868437227405312) (h1 : 1 ≤ e) (h2 : e ≤ 2046) (h3 : m < 4503599627370496) (k1 : -64 ≤ k) (k1' : k ≤ 64) (j1 : -52 ≤ k2) (j2 : k2 ≤ 0) (g1 : 1 ≤ e + (k + k2)) (g2 : e + (k + k2) ≤ 2046)
    (HN : ∀ w, Calls Try.prog 44 #[.float .f64 x] w fun e' w' => e' = .returned (.tuple #[.float .f64 (Fl.mk s e m), .int .i64 k2]) ∧ w' = w) (w : World) :
    Calls Try.prog 39 #[.float .f64 x, .int .i64 k] w fun e' w' => e' = .returned (.float .f64 (Fl.mk s (e + (k + k2)).toNat m)) ∧ w' = w := by
  obtain ⟨nx, o1, i1, n1⟩ := fin_facts x hx h0 hf
  obtain ⟨a, b, c, d⟩ := Fl.mk_fields s e m (by omega) h3
  have ho := Fl.mul_one s (e + (k + k2)).toNat m (by omega) (by omega) h3
  obtain ⟨u, hu⟩ : ∃ u, u = Fl.mk s e m := ⟨_, rfl⟩
  obtain ⟨y, hy⟩ : ∃ y, y = Fl.mk s (e + (k + k2)).toNat m := ⟨_, rfl⟩
  rw [← hu] at a b c d HN
  rw [← hy] at ho ⊢
  have f1 : bits .and .i64 ((u : Int) / 4503599627370496) 2047 = (e : Int) := by rw [field_and u d]; unfold Fl.fld at a; omega
  have f2 : bits .andNot .u64 (u : Int) 9218868437227405312 = (((if s then 9223372036854775808 else 0) + m : Nat) : Int) := by
    rw [off_field u d]
    unfold Fl.frc at b
    unfold Fl.sg at c
    rw [b, ← c]
    simp only [decide_eq_true_eq]
  have f3 : bits .or .u64 (((if s then 9223372036854775808 else 0) + m : Nat) : Int) ((k + k2 + ((e : Int) - 1023) + 1023) * 4503599627370496) = (y : Int) := by
    rw [show (k + k2 + ((e : Int) - 1023) + 1023) = (((e + (k + k2)).toNat : Nat) : Int) by omega, or_field s m _ h3 (by omega), hy]; rfl
  generalize (if s then 9223372036854775808 else 0) + m = B at f2 f3
  have fm : ∀ w, (binOp .mul 47 (.float .f64 4607182418800017408) (.float .f64 y)).run Try.prog w = .ok (.float .f64 y) w := by
    intro w
    have ho' : FloatKind.f64.format.mul 4607182418800017408 y = some y := ho
    simp [binOp, Op.floatArith, ho']
  have I1 := Lib.hid i1
  have N1 := Lib.hid n1
  have H1 := Lib.hid HN
  clear hy nx hu i1 n1 HN ho
  have r1 := run_bits
  have r2 := run_frombits
  go_enter Try.func39, Try.ntmps39
  go_wp2_with fail
  refine (I1.out _).mono ?_
  rintro _ w' ⟨rfl, rfl⟩
  go_wp2_with fail
  refine (N1.out _).mono ?_
  rintro _ w' ⟨rfl, rfl⟩
  go_wp2_with fail
  refine (H1.out _).mono ?_
  rintro _ w' ⟨rfl, rfl⟩
  go_wp2_with fail
  go_ret
  exact ⟨rfl, rfl⟩

set_option maxHeartbeats 400000 in
/-- ldexp of what normalize makes mk s e m, where it falls below the normal floats. -/
theorem ldexp_low (x : Nat) (s : Bool) (e m : Nat) (k k2 : Int) (hx : x < 18446744073709551616) (h0 : Fl.rg x ≠ 0) (hf : Fl.rg x < 9218868437227405312) (h1 : 1 ≤ e) (h2 : e ≤ 2046) (h3 : m < 4503599627370496) (k1 : -64 ≤ k) (k1' : k ≤ 64) (j1 : -52 ≤ k2) (j2 : k2 ≤ 0) (g1 : e + (k + k2) ≤ 0)
    (HN : ∀ w, Calls Try.prog 44 #[.float .f64 x] w fun e' w' => e' = .returned (.tuple #[.float .f64 (Fl.mk s e m), .int .i64 k2]) ∧ w' = w) :
    ∃ r, r ≤ 900719925474099200 ∧ ∀ w, Calls Try.prog 39 #[.float .f64 x, .int .i64 k] w fun e' w' => e' = .returned (.float .f64 ((if s then 9223372036854775808 else 0) + r)) ∧ w' = w := by
  obtain ⟨nx, o1, i1, n1⟩ := fin_facts x hx h0 hf
  obtain ⟨a, b, c, d⟩ := Fl.mk_fields s e m (by omega) h3
  obtain ⟨u, hu⟩ : ∃ u, u = Fl.mk s e m := ⟨_, rfl⟩
  rw [← hu] at a b c d HN
  have f1 : bits .and .i64 ((u : Int) / 4503599627370496) 2047 = (e : Int) := by rw [field_and u d]; unfold Fl.fld at a; omega
  have r1 := run_bits
  have r2 := run_frombits
  by_cases hl : k + k2 + ((e : Int) - 1023) < -1075
  · refine ⟨0, by omega, fun w => ?_⟩
    have C1 := Lib.hid (fun w => copysign0 u w d)
    rw [c] at C1
    rw [Nat.add_zero]
    generalize (if s then 9223372036854775808 else 0) = B at C1 ⊢
    have I1 := Lib.hid i1
    have N1 := Lib.hid n1
    have H1 := Lib.hid HN
    clear nx hu i1 n1 HN
    go_enter Try.func39, Try.ntmps39
    go_wp2_with fail
    refine (I1.out _).mono ?_
    rintro _ w' ⟨rfl, rfl⟩
    go_wp2_with fail
    refine (N1.out _).mono ?_
    rintro _ w' ⟨rfl, rfl⟩
    go_wp2_with fail
    refine (H1.out _).mono ?_
    rintro _ w' ⟨rfl, rfl⟩
    go_wp2_with fail
    refine (C1.out _).mono ?_
    rintro _ w' ⟨rfl, rfl⟩
    go_wp2_with fail
    go_ret
    exact ⟨rfl, rfl⟩
  · obtain ⟨r, hr, hb⟩ := Fl.mul_tiny s (e + (k + k2) + 53).toNat m (by omega) (by omega) h3
    refine ⟨r, hb, fun w => ?_⟩
    obtain ⟨z, hz⟩ : ∃ z, z = Fl.mk s (e + (k + k2) + 53).toNat m := ⟨_, rfl⟩
    rw [← hz] at hr
    have f2 : bits .andNot .u64 (u : Int) 9218868437227405312 = (((if s then 9223372036854775808 else 0) + m : Nat) : Int) := by
      rw [off_field u d]
      unfold Fl.frc at b
      unfold Fl.sg at c
      rw [b, ← c]
      simp only [decide_eq_true_eq]
    have f3 : bits .or .u64 (((if s then 9223372036854775808 else 0) + m : Nat) : Int) ((k + k2 + ((e : Int) - 1023) + 53 + 1023) * 4503599627370496) = (z : Int) := by
      rw [show (k + k2 + ((e : Int) - 1023) + 53 + 1023) = (((e + (k + k2) + 53).toNat : Nat) : Int) by omega, or_field s m _ h3 (by omega), hz]; rfl
    generalize (if s then 9223372036854775808 else 0) + m = B at f2 f3
    generalize (if s then 9223372036854775808 else 0) + r = y at hr ⊢
    have fm : ∀ w, (binOp .mul 47 (.float .f64 4368491638549381120) (.float .f64 z)).run Try.prog w = .ok (.float .f64 y) w := by
      intro w
      have ho' : FloatKind.f64.format.mul 4368491638549381120 z = some y := hr
      simp [binOp, Op.floatArith, ho']
    have I1 := Lib.hid i1
    have N1 := Lib.hid n1
    have H1 := Lib.hid HN
    clear nx hu i1 n1 HN hz hr hb
    go_enter Try.func39, Try.ntmps39
    go_wp2_with fail
    refine (I1.out _).mono ?_
    rintro _ w' ⟨rfl, rfl⟩
    go_wp2_with fail
    refine (N1.out _).mono ?_
    rintro _ w' ⟨rfl, rfl⟩
    go_wp2_with fail
    refine (H1.out _).mono ?_
    rintro _ w' ⟨rfl, rfl⟩
    go_wp2_with fail
    go_ret
    exact ⟨rfl, rfl⟩
end Go.Proofs.Ytkohgkbeecadeaa
