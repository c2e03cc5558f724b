/- Back: a whole number's float; both ways. -/
import Derived.Test.YtkohgkbeecadeaaQuA6
import Derived.Laws.Cover2
namespace Go.Proofs.Ytkohgkbeecadeaa
open Go.RowKit Go.ChangeShapes Go.WideShapes Go.ChangeAt
set_option linter.unusedVariables false

/-- The size of a whole number. -/
def szI (v : Int) : Nat := v.natAbs
def ngI (v : Int) : Bool := decide (v < 0)
/-- The mantissa of a whole number's float, its leading one away. -/
def manI (v : Int) : Nat := szI v * 2 ^ (52 - (szI v).log2) - 4503599627370496
def backG (v k : Int) : Nat × Int := if k < -64 ∨ 64 < k then (0, 2) else if v = 0 then (0, 0) else (Fl.mk (ngI v) (((szI v).log2 : Int) + 1023 - k).toNat (manI v), 0)
theorem man_lt {v : Int} (h : v ≠ 0) (h1 : -2147483648 ≤ v) (h2 : v ≤ 2147483647) : (szI v).log2 ≤ 31 ∧ manI v < 4503599627370496 ∧ 4503599627370496 ≤ szI v * 2 ^ (52 - (szI v).log2) := by
  have hs : szI v ≤ 2147483648 := by unfold szI; omega
  have hl : (szI v).log2 ≤ 31 := Fl.log2_le (k := 31) (by omega)
  have := Fl.norm_bounds (n := szI v) (by unfold szI; omega) (by omega)
  exact ⟨hl, by unfold manI; omega, this.1⟩
def BackC (f : FuncId) (v k : Int) (x : Nat) (e : Int) : Prop := ∀ w, Calls Try.prog f #[.int .i32 v, .int .i64 k] w fun e' w' => e' = .returned (.tuple #[.int .u64 x, .int .i64 e]) ∧ w' = w
theorem float_of (v : Int) (h : v ≠ 0) (h1 : -2147483648 ≤ v) (h2 : v ≤ 2147483647) : floatOfInt .f64 v = Fl.mk (ngI v) ((szI v).log2 + 1023) (manI v) := by
  obtain ⟨a, b, c⟩ := man_lt h h1 h2
  have := (Fl.nearest_whole (ngI v) (szI v) (by unfold szI; omega) (by omega)).1
  unfold manI
  rw [← this]
  show Ieee.double.nearest (v < 0) v.natAbs 0 = _
  rfl
set_option maxHeartbeats 400000 in
theorem back_any (v k : Int) (h1 : -2147483648 ≤ v) (h2 : v ≤ 2147483647) : BackC 14 v k (backG v k).1 (backG v k).2 := by
  intro w
  unfold backG
  have r1 := run_bits
  by_cases hk : k < -64 ∨ 64 < k
  · rw [if_pos hk]
    have G := good_any k
    rw [decide_eq_false (by omega)] at G
    have G' := Lib.hid G
    clear G hk
    go_enter Try.func14, Try.ntmps14
    go_wp2_with fail
    refine (G'.out _).mono ?_
    rintro _ w' ⟨rfl, rfl⟩
    go_wp2_with fail
    go_ret2
    exact ⟨rfl, rfl⟩
  · rw [if_neg hk]
    have k1 : -64 ≤ k := by omega
    have k2 : k ≤ 64 := by omega
    have G := good_any k
    rw [decide_eq_true (by omega)] at G
    have G' := Lib.hid G
    clear G hk
    by_cases h0 : v = 0
    · rw [if_pos h0]
      subst h0
      have e0 : floatOfInt .f64 0 = 0 := by decide +kernel
      have L := Lib.hid (ldL fun w => ldexp_zero 0 (-k) w ⟨by omega, by decide⟩ (by decide))
      go_enter Try.func14, Try.ntmps14
      go_wp2_with fail
      refine (G'.out _).mono ?_
      rintro _ w' ⟨rfl, rfl⟩
      go_wp2_with fail
      refine (L.out _).mono ?_
      rintro _ w' ⟨rfl, rfl⟩
      go_wp2_with fail
      go_ret2
      exact ⟨rfl, rfl⟩
    · rw [if_neg h0]
      obtain ⟨a, b, c⟩ := man_lt h0 h1 h2
      have e0 := float_of v h0 h1 h2
      have L := fun w => Ldexp_norm (ngI v) ((szI v).log2 + 1023) (manI v) (-k) w (by omega) (by omega) b (by omega) (by omega) (by omega) (by omega)
      rw [show (((szI v).log2 + 1023 : Nat) : Int) + -k = ((szI v).log2 : Int) + 1023 - k by omega] at L
      generalize Fl.mk (ngI v) (((szI v).log2 : Int) + 1023 - k).toNat (manI v) = y at L ⊢
      generalize Fl.mk (ngI v) ((szI v).log2 + 1023) (manI v) = x at L e0
      have L' := Lib.hid L
      clear a b c L h0
      go_enter Try.func14, Try.ntmps14
      go_wp2_with fail
      refine (G'.out _).mono ?_
      rintro _ w' ⟨rfl, rfl⟩
      go_wp2_with fail
      refine (L'.out _).mono ?_
      rintro _ w' ⟨rfl, rfl⟩
      go_wp2_with fail
      go_ret2
      exact ⟨rfl, rfl⟩

/-- The document's Back, of a number that is not nought. -/
theorem or_parts (s : Bool) (e m : Nat) (he : e < 2048) (hm : m < 4503599627370496) : bits .or .u64 (bits .or .u64 (if s then 9223372036854775808 else 0) ((e : Int) * 4503599627370496)) (m : Int) = (Fl.mk s e m : Nat) := by
  have a := or_field s 0 e (by omega) he
  rw [show (((if s = true then 9223372036854775808 else 0) + 0 : Nat) : Int) = (if s = true then 9223372036854775808 else 0 : Int) by split <;> rfl] at a
  rw [a]
  have hb : (if s = true then 9223372036854775808 else 0) + e * 4503599627370496 + 0 < 18446744073709551616 := by split <;> omega
  rw [u64_or_nat _ _ hb (by omega)]
  congr 1
  obtain ⟨q, hq⟩ : ∃ q, (if s = true then 9223372036854775808 else 0) + e * 4503599627370496 + 0 = 2 ^ 52 * q := ⟨(if s then 2048 else 0) + e, by split <;> omega⟩
  have := Nat.two_pow_add_eq_or_of_lt (i := 52) (b := m) hm q
  rw [hq, ← this]
  unfold Fl.mk
  omega
set_option maxHeartbeats 1000000 in
theorem rback_go (s : Bool) (n : Nat) (v k : Int) (h0 : 0 < n) (hn : n ≤ 2147483648) (k1 : -64 ≤ k) (k2 : k ≤ 64) (hv : v = if s then -(n : Int) else n) :
    BackC 15 v k (Fl.mk s ((n.log2 : Int) + 1023 - k).toNat (n * 2 ^ (52 - n.log2) - 4503599627370496)) 0 := by
  intro w
  have hl : n.log2 ≤ 31 := Fl.log2_le (k := 31) (by omega)
  obtain ⟨b1, b2⟩ := Fl.norm_bounds (n := n) (by omega) (by omega)
  have ho := or_parts s ((n.log2 : Int) + 1023 - k).toNat (n * 2 ^ (52 - n.log2) - 4503599627370496) (by omega) (by omega)
  generalize Fl.mk s ((n.log2 : Int) + 1023 - k).toNat (n * 2 ^ (52 - n.log2) - 4503599627370496) = x at ho ⊢
  have hm : bits .and .u64 ((n * 2 ^ (52 - n.log2) : Nat) : Int) 4503599627370495 = ((n * 2 ^ (52 - n.log2) - 4503599627370496 : Nat) : Int) := by
    rw [frac64 _ (by omega)]
    unfold Fl.frc
    omega
  rw [← hm] at ho
  clear hm
  rw [show ((((n.log2 : Int) + 1023 - k).toNat : Nat) : Int) = ((52 : Int) - ((52 - n.log2 : Nat) : Int) - k + 1023) by omega] at ho
  have grow : ∀ j, j < 52 - n.log2 → n * 2 ^ j < 4503599627370496 := by
    intro j hj
    have a1 : n < 2 ^ (n.log2 + 1) := Nat.lt_log2_self
    have a2 : n * 2 ^ j < 2 ^ (n.log2 + 1) * 2 ^ j := Nat.mul_lt_mul_of_pos_right a1 (Nat.pow_pos (by omega))
    rw [← Nat.pow_add] at a2
    have a3 : 2 ^ (n.log2 + 1 + j) ≤ 2 ^ 52 := Nat.pow_le_pow_right (by omega) (by omega)
    omega
  have G := Lib.hid grow
  have B1 := Lib.hid b1
  have B2 := Lib.hid b2
  have HL := Lib.hid hl
  generalize 52 - n.log2 = J at G B1 B2 ho
  clear grow b1 b2 hl
  cases s
  all_goals
    simp only [Bool.false_eq_true, if_false, if_true] at hv ho
    have O := Lib.hid ho
    clear ho
    subst hv
    have z : ((n : Int) == 0) = false := by simpa using (by omega : ¬ n = 0)
    have z' : ((-(n : Int)) == 0) = false := by simpa using (by omega : ¬ n = 0)
    have p0 : (0 : Int) < (n : Int) := by omega
    have p1 : (n : Int) ≤ 2147483648 := by omega
    go_enter Try.func15, Try.ntmps15
    go_wp2_with fail
    go_loop [8, 9] (fun a b => ∃ j : Nat, j ≤ J ∧ a = .int .u64 ((n * 2 ^ j : Nat) : Int) ∧ b = .int .i64 (52 - (j : Int))) (fun _ b => (100 + intOf b).toNat)
    case atStart => exact ⟨0, Nat.zero_le _, by rw [Nat.pow_zero, Nat.mul_one], rfl⟩
    case round =>
      obtain ⟨j, hj, rfl, rfl⟩ := hrel
      have hJ : J ≤ 52 := by
        rcases Nat.lt_or_ge 52 J with g | g
        · have := G.out 52 g
          have : 1 * 2 ^ 52 ≤ n * 2 ^ 52 := Nat.mul_le_mul_right _ (by omega)
          omega
        · exact g
      by_cases hlt : j < J
      · have hb := G.out j hlt
        have hs : n * 2 ^ (j + 1) = n * 2 ^ j * 2 := by rw [Nat.pow_succ, Nat.mul_assoc]
        have HS := Lib.hid hs
        clear hs
        generalize n * 2 ^ j = M at hb HS
        have hd : decide ((M : Int) < 4503599627370496) = true := decide_eq_true (by omega)
        have kA : (M : Int) * 2 ≤ 18446744073709551615 := by omega
        have kB : (0 : Int) ≤ (M : Int) * 2 := by omega
        clear hb
        generalize hkk : (M : Int) = kk at *
        have HKK := Lib.hid hkk
        clear hkk
        go_wp2_with fail
        go_round
        case rel => exact ⟨j + 1, by omega, by rw [HS.out, Int.natCast_mul, HKK.out]; rfl, by first | rfl | (congr 1; omega)⟩
        case measure => simp [intOf]; omega
      · obtain rfl : j = J := by omega
        have hb := B1.out
        generalize n * 2 ^ j = M at hb O
        have hd : decide ((M : Int) < 4503599627370496) = false := decide_eq_false (by omega)
        clear hb
        generalize hkk : (M : Int) = kk at *
        have HKK := Lib.hid hkk
        clear hkk
        go_wp2_with fail
        go_ret2
        exact ⟨ret_int2 O.out rfl, rfl⟩
/-- The document's Back. -/
theorem rback_any (v k : Int) (h1 : -2147483648 ≤ v) (h2 : v ≤ 2147483647) : BackC 15 v k (backG v k).1 (backG v k).2 := by
  unfold backG
  by_cases hk : k < -64 ∨ 64 < k
  · rw [if_pos hk]
    intro w
    rcases hk with hk | hk
    all_goals
      go_enter Try.func15, Try.ntmps15
      go_wp2
      go_ret2
      exact ⟨rfl, rfl⟩
  · rw [if_neg hk]
    have k1 : -64 ≤ k := by omega
    have k2 : k ≤ 64 := by omega
    clear hk
    by_cases h0 : v = 0
    · rw [if_pos h0]
      subst h0
      intro w
      go_enter Try.func15, Try.ntmps15
      go_wp2
      go_ret2
      exact ⟨rfl, rfl⟩
    · rw [if_neg h0]
      exact rback_go (ngI v) (szI v) v k (by unfold szI; omega) (by unfold szI; omega) k1 k2 (by unfold ngI szI; by_cases g : v < 0 <;> simp [g] <;> omega)

/-- A number's float becomes it again. -/
theorem quant_back (v k : Int) (h1 : -2147483648 ≤ v) (h2 : v ≤ 2147483647) (k1 : -64 ≤ k) (k2 : k ≤ 64) : quantG (backG v k).1 k = (v, 0, 0) := by
  unfold backG
  rw [if_neg (by omega)]
  by_cases h0 : v = 0
  · rw [if_pos h0]
    subst h0
    unfold quantG
    rw [if_neg (by omega), if_neg (by decide), if_neg (by decide)]
    have hM : Fl.mM 0 = 0 := by decide
    have hg : ∀ p, nearG 0 p = (0, true) := fun p => by unfold nearG; rw [if_pos rfl]
    rw [hM, hg]
    decide
  · rw [if_neg h0]
    obtain ⟨a, b, c⟩ := man_lt h0 h1 h2
    dsimp only
    obtain ⟨f1, f2, f3, f4⟩ := Fl.mk_fields (ngI v) (((szI v).log2 : Int) + 1023 - k).toNat (manI v) (by omega) b
    have hr := Fl.mk_rg (ngI v) (((szI v).log2 : Int) + 1023 - k).toNat (manI v) (by omega) b
    generalize Fl.mk (ngI v) (((szI v).log2 : Int) + 1023 - k).toNat (manI v) = x at f1 f2 f3 f4 hr ⊢
    unfold quantG
    rw [if_neg (by omega), if_neg (by omega), if_neg (by omega)]
    have hM : Fl.mM x = szI v * 2 ^ (52 - (szI v).log2) := by
      unfold Fl.mM; rw [if_neg (by omega), f2]; unfold manI; omega
    have hE : (Fl.mE x : Int) - 1075 + k = -((52 - (szI v).log2 : Nat) : Int) := by
      unfold Fl.mE; rw [if_neg (by omega), f1]; omega
    have hG : nearG (szI v * 2 ^ (52 - (szI v).log2)) (-((52 - (szI v).log2 : Nat) : Int)) = (szI v, true) := by
      unfold nearG Fl.nearF
      rw [if_neg (by omega), if_neg (by omega), show (- -((52 - (szI v).log2 : Nat) : Int)).toNat = 52 - (szI v).log2 by omega]
      rw [Fl.cut_exact _ _ (Nat.mul_mod_left _ _), Nat.mul_div_cancel _ (Nat.pow_pos (by omega)), decide_eq_true (Nat.mul_mod_left _ _)]
    rw [hM, hE, hG, f3]
    unfold limV limM ngI szI
    by_cases g : v < 0
    · rw [decide_eq_true g]
      simp only [if_true]
      rw [if_neg (by omega), if_neg (by omega), if_neg (by omega)]
      exact Prod.ext (by show -(v.natAbs : Int) = v; omega) rfl
    · rw [decide_eq_false g]
      simp only [Bool.false_eq_true, if_false]
      rw [if_neg (by omega), if_neg (by omega)]
      exact Prod.ext (by show (v.natAbs : Int) = v; omega) rfl
theorem back_lt (v k : Int) (h1 : -2147483648 ≤ v) (h2 : v ≤ 2147483647) : (backG v k).1 < 18446744073709551616 := by
  unfold backG
  by_cases hk : k < -64 ∨ 64 < k
  · rw [if_pos hk]; decide
  · rw [if_neg hk]
    by_cases h0 : v = 0
    · rw [if_pos h0]; decide
    · rw [if_neg h0]
      obtain ⟨a, b, c⟩ := man_lt h0 h1 h2
      exact (Fl.mk_fields _ _ _ (by omega) b).2.2.2
end Go.Proofs.Ytkohgkbeecadeaa
