/- What known() computes: two and a half. -/
import Derived.Test.YtkohgkbeecadeaaGen
import Derived.Test.YtkohgkbeecadeaaQuBits
import Derived.Test.YtkohgkbeecadeaaProg
import Derived.Test.YtkohgkbeecadeaaQuD
import Derived.Laws.Externs
import Derived.Laws.FloatArith
namespace Go.Proofs.Ytkohgkbeecadeaa
open Go.RowKit Go.ChangeShapes Go.WideShapes Go.ChangeAt
set_option linter.unusedVariables false

theorem run_bits (x : Nat) (w : World) : (callFunc 33 #[.float .f64 x]).run Try.prog w = .ok (.value (.int .u64 x)) w := by
  rw [run_callFunc_extern (e := Extern.MathFloatBits.float64bits) Try.func33 (by kernel_rfl) (by kernel_rfl) (by kernel_rfl) (by kernel_rfl)]
  rfl
theorem run_frombits (x : Int) (w : World) : (callFunc 24 #[.int .u64 x]).run Try.prog w = .ok (.value (.float .f64 x.toNat)) w := by
  rw [run_callFunc_extern (e := Extern.MathFloatBits.float64frombits) Try.func24 (by kernel_rfl) (by kernel_rfl) (by kernel_rfl) (by kernel_rfl)]
  rfl
theorem run_rte (x : Nat) (w : World) (h : ∀ s t, FloatKind.f64.decode x ≠ .nan s t) : (callFunc 27 #[.float .f64 x]).run Try.prog w = .ok (.value (.float .f64 (FloatKind.f64.encode ((FloatKind.f64.decode x).integral .even)))) w := by
  rw [run_callFunc_extern (e := Extern.MathFloor.toIntegral "math.RoundToEven" .even) Try.func27 (by kernel_rfl) (by kernel_rfl) (by kernel_rfl) (by kernel_rfl)]
  have e : (Extern.MathFloor.toIntegral "math.RoundToEven" .even #[.float .f64 x]).run Try.prog w = .ok (.float .f64 (FloatKind.f64.encode ((FloatKind.f64.decode x).integral .even))) w := by
    show Sem.run _ (match FloatKind.f64.decode x with
      | .nan s t => _
      | d => _) w = _
    generalize hd : FloatKind.f64.decode x = d
    rw [hd] at h
    cases d with
    | nan s t => exact absurd rfl (h s t)
    | infinity s => rfl
    | number s m i => rfl
  rw [e]
  rfl

theorem good_zero (w : World) : Calls Try.prog 25 #[.int .i64 0] w fun e w' => e = .returned (.bool true) ∧ w' = w := by
  go_enter Try.func25, Try.ntmps25
  go_wp2
  go_ret
  exact ⟨rfl, rfl⟩
theorem abs_any (x : Nat) (w : World) (hx : x < 18446744073709551616) :
    Calls Try.prog 32 #[.float .f64 x] w fun e w' => e = .returned (.float .f64 (x % 9223372036854775808)) ∧ w' = w := by
  have r1 := run_bits
  have r2 := run_frombits
  have r3 := offtop x (by omega) (by omega)
  go_enter Try.func32, Try.ntmps32
  go_wp2
  go_ret
  exact ⟨by congr 2, rfl⟩
theorem signbit_any (x : Nat) (w : World) (hx : x < 18446744073709551616) :
    Calls Try.prog 28 #[.float .f64 x] w fun e w' => e = .returned (.bool (decide (9223372036854775808 ≤ x))) ∧ w' = w := by
  have r1 := run_bits
  go_enter Try.func28, Try.ntmps28
  go_wp2
  go_ret
  exact ⟨ret_bool (by rw [decide_eq_decide]; unfold wrap64; omega), rfl⟩
theorem isnan_any (x : Nat) (w : World) (b : Bool) (hx : (FloatKind.f64.format.order x x != some .eq) = b) :
    Calls Try.prog 43 #[.float .f64 x] w fun e w' => e = .returned (.bool b) ∧ w' = w := by
  go_enter Try.func43, Try.ntmps43
  go_wp2
  go_ret
  exact ⟨rfl, rfl⟩
theorem isinf_any (x : Nat) (w : World) (b : Bool) (hx : x < 18446744073709551616) (h : (FloatKind.f64.format.order (x % 9223372036854775808) 9218868437227405311 == some .gt) = b) :
    Calls Try.prog 31 #[.float .f64 x, .int .i64 0] w fun e w' => e = .returned (.bool b) ∧ w' = w := by
  go_enter Try.func31, Try.ntmps31
  go_wp2_with fail
  refine (abs_any x _ hx).mono ?_
  rintro e w' ⟨rfl, rfl⟩
  go_wp2_with fail
  go_ret
  exact ⟨rfl, rfl⟩

theorem normalize_big (x : Nat) (w : World) (hx : x < 18446744073709551616) (h : (FloatKind.f64.format.order (x % 9223372036854775808) 4503599627370496 == some .lt) = false) :
    Calls Try.prog 44 #[.float .f64 x] w fun e w' => e = .returned (.tuple #[.float .f64 x, .int .i64 0]) ∧ w' = w := by
  go_enter Try.func44, Try.ntmps44
  go_wp2_with fail
  refine (abs_any x _ hx).mono ?_
  rintro e w' ⟨rfl, rfl⟩
  go_wp2_with fail
  go_ret2
  exact ⟨rfl, rfl⟩

/-- ldexp of a normal number, where it stays one. -/
theorem ldexp_norm (s : Bool) (e m : Nat) (k : Int) (w : World) (h1 : 1 ≤ e) (h2 : e ≤ 2046) (h3 : m < 4503599627370496) (k1 : -64 ≤ k) (k2 : k ≤ 64) (g1 : 1 ≤ e + k) (g2 : e + k ≤ 2046) :
    Calls Try.prog 39 #[.float .f64 (Fl.mk s e m), .int .i64 k] w fun e' w' => e' = .returned (.float .f64 (Fl.mk s (e + k).toNat m)) ∧ w' = w := by
  obtain ⟨a, b, c, d⟩ := Fl.mk_fields s e m (by omega) h3
  have hr := Fl.mk_rg s e m (by omega) h3
  have ho := Fl.mul_one s (e + k).toNat m (by omega) (by omega) h3
  have hy := Fl.mk_fields s (e + k).toNat m (by omega) h3
  obtain ⟨x, hx⟩ : ∃ x, x = Fl.mk s e m := ⟨_, rfl⟩
  obtain ⟨y, hy⟩ : ∃ y, y = Fl.mk s (e + k).toNat m := ⟨_, rfl⟩
  rw [← hx] at a b c d hr ⊢
  rw [← hy] at ho ⊢
  have nx : Fl.Num x := ⟨d, by rw [hr]; omega⟩
  have na : Fl.Num (x % 9223372036854775808) := ⟨by omega, by unfold Fl.rg at hr ⊢; omega⟩
  have ka : Fl.rk (x % 9223372036854775808) = (e * 4503599627370496 + m : Nat) := by rw [Fl.rk_pos (by omega)]; unfold Fl.rg at hr; omega
  have o1 : (FloatKind.f64.format.order x 0 == some .eq) = false := by
    show (Ieee.double.order x 0 == _) = _
    rw [Fl.ord_eq nx (Fl.num_lit (by omega) (by omega)), Fl.rk_pos (x := 0) (by omega)]
    unfold Fl.rk
    rw [hr, decide_eq_false_iff_not]
    split <;> omega
  have o2 := isinf_any x w false d (by
    show (Ieee.double.order _ _ == _) = _
    rw [Fl.ord_gt na (Fl.num_lit (by omega) (by omega)), ka, Fl.rk_pos (by omega), decide_eq_false_iff_not]
    omega)
  have o3 := isnan_any x w false (by
    show (!(Ieee.double.order _ _ == _)) = _
    rw [Fl.ord_eq nx nx, decide_eq_true rfl]; rfl)
  have o4 := normalize_big x w d (by
    show (Ieee.double.order _ _ == _) = _
    rw [Fl.ord_lt na (Fl.num_lit (by omega) (by omega)), ka, Fl.rk_pos (by omega), decide_eq_false_iff_not]
    omega)
  have f1 : bits .and .i64 ((x : Int) / 4503599627370496) 2047 = (e : Int) := by rw [field_and x d]; unfold Fl.fld at a; omega
  have f2 : bits .andNot .u64 (x : Int) 9218868437227405312 = (((if s then 9223372036854775808 else 0) + m : Nat) : Int) := by
    rw [off_field x d]
    unfold Fl.frc at b
    unfold Fl.sg at c
    rw [b, ← c]
    simp only [decide_eq_true_eq]
  have f3 : bits .or .u64 (((if s then 9223372036854775808 else 0) + m : Nat) : Int) ((k + ((e : Int) - 1023) + 1023) * 4503599627370496) = (y : Int) := by
    rw [show (k + ((e : Int) - 1023) + 1023) = (((e + k).toNat : Nat) : Int) by omega, or_field s m _ h3 (by omega), hy]; rfl
  generalize (if s then 9223372036854775808 else 0) + m = B at f2 f3
  have fm : ∀ w, (binOp .mul 47 (.float .f64 4607182418800017408) (.float .f64 y)).run Try.prog w = .ok (.float .f64 y) w := by
    intro w
    have ho' : FloatKind.f64.format.mul 4607182418800017408 y = some y := ho
    simp [binOp, Op.floatArith, ho']
  have HX := Lib.hid hx
  have HY := Lib.hid hy
  clear hx hy nx na ka
  have r1 := run_bits
  have r2 := run_frombits
  go_enter Try.func39, Try.ntmps39
  go_wp2_with fail
  refine o2.mono ?_
  rintro _ w' ⟨rfl, rfl⟩
  go_wp2_with fail
  refine o3.mono ?_
  rintro _ w' ⟨rfl, rfl⟩
  go_wp2_with fail
  refine o4.mono ?_
  rintro _ w' ⟨rfl, rfl⟩
  go_wp2_with fail
  go_ret
  exact ⟨rfl, rfl⟩
theorem Ldexp_norm (s : Bool) (e m : Nat) (k : Int) (w : World) (h1 : 1 ≤ e) (h2 : e ≤ 2046) (h3 : m < 4503599627370496) (k1 : -64 ≤ k) (k2 : k ≤ 64) (g1 : 1 ≤ e + k) (g2 : e + k ≤ 2046) :
    Calls Try.prog 26 #[.float .f64 (Fl.mk s e m), .int .i64 k] w fun e' w' => e' = .returned (.float .f64 (Fl.mk s (e + k).toNat m)) ∧ w' = w := by
  have H := Lib.hid (ldexp_norm s e m k w h1 h2 h3 k1 k2 g1 g2)
  generalize Fl.mk s (e + k).toNat m = y at H ⊢
  generalize Fl.mk s e m = x at H ⊢
  clear h1 h2 h3 k1 k2 g1 g2
  go_enter Try.func26, Try.ntmps26
  go_wp2_with fail
  refine H.out.mono ?_
  rintro _ w' ⟨rfl, rfl⟩
  go_wp2_with fail
  go_ret
  exact ⟨rfl, rfl⟩
theorem known_quant (w : World) : Calls Try.prog 9 #[.int .u64 4612811918334230528, .int .i64 0] w fun e w' => e = .returned (.tuple #[.int .i32 2, .int .i64 1, .int .i64 0]) ∧ w' = w := by
  have r2 := run_frombits
  have l1 : Calls Try.prog 26 #[.float .f64 4612811918334230528, .int .i64 0] w fun e' w' => e' = .returned (.float .f64 4612811918334230528) ∧ w' = w := Ldexp_norm false 1024 1125899906842624 0 w (by omega) (by omega) (by omega) (by omega) (by omega) (by omega) (by omega)
  have L1 := Lib.hid l1
  clear l1
  have o1 : (FloatKind.f64.format.order 4612811918334230528 4612811918334230528 != some .eq) = false := by kernel_rfl
  have r3 : ∀ w, (callFunc 27 #[.float .f64 4612811918334230528]).run Try.prog w = .ok (.value (.float .f64 4611686018427387904)) w := fun w => by
    rw [run_rte 4612811918334230528 w (fun s t => by
      rw [show FloatKind.f64.decode 4612811918334230528 = .number false 5629499534213120 (-51) from by kernel_rfl]
      intro h; cases h)]
    exact congrArg (fun v => Result.ok (Next.value (Value.float .f64 v)) w) (by kernel_rfl)
  have o2 : (FloatKind.f64.format.order 4611686018427387904 4746794007244308480 == some .gt) = false := by kernel_rfl
  have o3 : (FloatKind.f64.format.order 4611686018427387904 13970166044103278592 == some .lt) = false := by kernel_rfl
  have o4 : (FloatKind.f64.format.order 4611686018427387904 4612811918334230528 != some .eq) = true := by kernel_rfl
  have o5 : (FloatKind.f64.format.order 4611686018427387904 0 == some .eq) = false := by kernel_rfl
  have cv : ∀ w, (convert 47 21 (.float .f64 4611686018427387904)).run Try.prog w = .ok (.int .i32 2) w := fun w => run_convert_float_int w _ _ _ _ _ 2 (by rw [Try.underlying47]; rfl) Try.underlying21 (by kernel_rfl)
  go_enter Try.func9, Try.ntmps9
  go_wp2_with fail
  refine (good_zero _).mono ?_
  rintro _ w' ⟨rfl, rfl⟩
  go_wp2_with fail
  refine L1.out.mono ?_
  rintro _ w' ⟨rfl, rfl⟩
  go_wp2_with fail
  go_ret3
  exact ⟨rfl, rfl⟩
theorem known_kind (w : World) : Calls Try.prog 11 #[.int .u64 1] w fun e w' => e = .returned (.int .i64 2) ∧ w' = w := by
  have r2 := run_frombits
  have o1 : (FloatKind.f64.format.order 1 1 != some .eq) = false := by kernel_rfl
  have o2 : (FloatKind.f64.format.order 1 0 == some .eq) = false := by kernel_rfl
  have o3 : (FloatKind.f64.format.order 1 4503599627370496 == some .lt) = true := by kernel_rfl
  have i1 := Lib.hid (isinf_any 1 w false (by omega) (by kernel_rfl))
  have a1 := Lib.hid (abs_any 1 w (by omega))
  go_enter Try.func11, Try.ntmps11
  go_wp2_with fail
  refine i1.out.mono ?_
  rintro _ w' ⟨rfl, rfl⟩
  go_wp2_with fail
  refine a1.out.mono ?_
  rintro _ w' ⟨rfl, rfl⟩
  go_wp2_with fail
  go_ret
  exact ⟨rfl, rfl⟩
set_option maxHeartbeats 400000 in
theorem known_any (w : World) : Calls Try.prog 13 #[] w fun e w' => e = .returned (.bool true) ∧ w' = w := by
  go_enter Try.func13, Try.ntmps13
  go_wp2_with fail
  refine (known_quant _).mono ?_
  rintro _ w' ⟨rfl, rfl⟩
  go_wp2_with fail
  refine (known_kind _).mono ?_
  rintro _ w' ⟨rfl, rfl⟩
  go_wp2_with fail
  go_ret
  exact ⟨rfl, rfl⟩
end Go.Proofs.Ytkohgkbeecadeaa
