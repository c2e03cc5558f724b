/- quant.Quant, whole: it tells quantG. -/
import Derived.Test.YtkohgkbeecadeaaQuA5
namespace Go.Proofs.Ytkohgkbeecadeaa
open Go.RowKit Go.ChangeShapes Go.WideShapes Go.ChangeAt
set_option linter.unusedVariables false

theorem Fl.read_nn (y : Nat) (h : Fl.Num y) : ∀ s t, Ieee.double.read y ≠ .nan s t := by
  intro s t
  rw [Fl.read_eq y h.1]
  have := h.2
  by_cases a : Fl.fld y = 2047
  · rw [if_pos a, if_pos (by unfold Fl.rg Fl.frc Fl.fld at *; omega)]
    intro h; cases h
  · rw [if_neg a]
    split <;> (intro h; cases h)
theorem Fl.num_sign (s : Bool) (r : Nat) (h : r ≤ 9218868437227405312) : Fl.Num ((if s then 9223372036854775808 else 0) + r) ∧ Fl.rg ((if s then 9223372036854775808 else 0) + r) = r ∧ Fl.sg ((if s then 9223372036854775808 else 0) + r) = s := by
  unfold Fl.Num Fl.rg Fl.sg
  cases s
  · simp only [Bool.false_eq_true, if_false]
    exact ⟨⟨by omega, by omega⟩, by omega, decide_eq_false (by omega)⟩
  · simp only [if_true]
    exact ⟨⟨by omega, by omega⟩, by omega, decide_eq_true (by omega)⟩
theorem Fl.rk_of (x : Nat) : Fl.rk x = if Fl.sg x then -(Fl.rg x : Int) else (Fl.rg x : Int) := rfl
theorem nearG_small (m : Nat) (p : Int) (h0 : 0 < m) (h1 : m < 9007199254740992) (hp : p ≤ -60) : nearG m p = (0, false) := by
  unfold nearG Fl.nearF
  rw [if_neg (by omega), if_neg (by omega)]
  have : 2 ^ 60 ≤ 2 ^ (-p).toNat := Nat.pow_le_pow_right (by omega) (by omega)
  rw [Fl.cut_small _ _ (by omega), decide_eq_false]
  rw [Nat.mod_eq_of_lt (by omega)]
  omega
theorem nne_eq {x y : Nat} (hx : Fl.Num x) (hy : Fl.Num y) : (FloatKind.f64.format.order x y != some .eq) = !decide (Fl.rk x = Fl.rk y) := by
  show (!(Ieee.double.order x y == some .eq)) = _
  rw [Fl.ord_eq hx hy]
/-- A float whose power falls near nought. -/
theorem qp_small (x y : Nat) (k : Int) (h : -64 ≤ k) (h' : k ≤ 64) (hx : Fl.Num x) (h0 : Fl.rg x ≠ 0) (hy : y < 18446744073709551616) (hys : Fl.sg y = Fl.sg x) (hyr : Fl.rg y < 4602678819172646912)
    (L : ∀ w, Calls Try.prog 26 #[.float .f64 x, .int .i64 k] w fun e' w' => e' = .returned (.float .f64 y) ∧ w' = w) : QP x k 0 (1 + if Fl.sg x then 4 else 0) 0 := by
  have ny : Fl.Num y := ⟨hy, by omega⟩
  obtain ⟨nn, nr, ns⟩ := Fl.num_sign (Fl.sg y) 0 (by omega)
  have hn : Fl.rteF y = (if Fl.sg y then 9223372036854775808 else 0) + 0 := by rw [Fl.rte_small y hy hyr, Nat.add_zero]
  generalize hnn : (if Fl.sg y = true then 9223372036854775808 else 0) + 0 = n at *
  have rn : Fl.rk n = 0 := by rw [rk_zero_iff]; exact nr
  have hv : floatToIntVal .f64 n .i32 = some 0 := by
    have := Fl.toint (Fl.sg y) 0 (by split <;> omega)
    rw [show Fl.rgN 0 = 0 from rfl, hnn] at this
    rw [this]
    cases Fl.sg y <;> rfl
  have q := qp_mid x y n k 0 _ _ _ _ _ h h' hx L (Fl.read_nn y ny) hn nn (by omega) (by omega) rfl rfl rfl rfl rfl hv
  have c3 := nne_eq nn ny
  have c4 := zero_eq ny
  have c5 : (FloatKind.f64.format.order x 0 != some .eq) = true := by
    show (!(FloatKind.f64.format.order x 0 == some .eq)) = true
    rw [zero_eq hx, decide_eq_false h0]; rfl
  have c6 := zero_eq nn
  rw [c3, c4, c5, c6] at q
  rw [decide_eq_true nr] at q
  have e1 : mark1 (!decide (Fl.rk n = Fl.rk y)) (decide (Fl.rg y = 0)) true = 1 := by
    rw [rn]
    by_cases g : Fl.rg y = 0
    · rw [decide_eq_true g]; unfold mark1; simp
    · rw [decide_eq_false (show ¬ (0 : Int) = Fl.rk y from fun h => g ((rk_zero_iff y).1 h.symm))]; rfl
  rw [e1, Bool.true_and] at q
  exact q
theorem limV_big (s : Bool) (N : Nat) (ex : Bool) (h : 2147483648 < N) : limV s N = (if s then -2147483648 else 2147483647) ∧ limM s N ex = 2 := by
  unfold limV limM
  cases s
  · simp only [Bool.false_eq_true, if_false]
    rw [if_pos (by omega), if_pos (by omega)]; exact ⟨rfl, rfl⟩
  · simp only [if_true]
    rw [if_pos (by omega), if_pos (by omega)]; exact ⟨rfl, rfl⟩
/-- A float that goes beyond all whole numbers of 32 bits. -/
theorem qp_clip (x y n : Nat) (k : Int) (s : Bool) (h : -64 ≤ k) (h' : k ≤ 64) (hx : Fl.Num x) (L : ∀ w, Calls Try.prog 26 #[.float .f64 x, .int .i64 k] w fun e' w' => e' = .returned (.float .f64 y) ∧ w' = w)
    (hy : Fl.Num y) (hn : Fl.rteF y = n) (nn : Fl.Num n) (hs : Fl.sg n = s) (c : if s then 4746794007248502784 < Fl.rg n else 4746794007244308480 < Fl.rg n) : QP x k (if s then -2147483648 else 2147483647) 2 0 := by
  cases s
  · simp only [Bool.false_eq_true, if_false] at c ⊢
    refine qp_high x y n k h h' hx L (Fl.read_nn y hy) hn nn ?_
    rw [Fl.rk_of, hs]; simp only [Bool.false_eq_true, if_false]; omega
  · simp only [if_true] at c ⊢
    refine qp_deep x y n k h h' hx L (Fl.read_nn y hy) hn nn ?_
    rw [Fl.rk_of, hs]; simp only [if_true]; omega
/-- A normal float whose power is a normal one. -/
theorem qp_norm (s : Bool) (e m : Nat) (k : Int) (h : -64 ≤ k) (h' : k ≤ 64) (h1 : 1 ≤ e) (h2 : e ≤ 2046) (h3 : m < 4503599627370496) (g1 : 1 ≤ e + k) (g2 : e + k ≤ 2046) :
    QP (Fl.mk s e m) k (limV s (nearG (4503599627370496 + m) ((e : Int) - 1075 + k)).1) (limM s (nearG (4503599627370496 + m) ((e : Int) - 1075 + k)).1 (nearG (4503599627370496 + m) ((e : Int) - 1075 + k)).2) 0 := by
  have L := fun w => Ldexp_norm s e m k w h1 h2 h3 h h' g1 g2
  obtain ⟨xa, xb, xc, xd⟩ := Fl.mk_fields s e m (by omega) h3
  have xr := Fl.mk_rg s e m (by omega) h3
  have nx : Fl.Num (Fl.mk s e m) := ⟨xd, by rw [xr]; omega⟩
  obtain ⟨F, hF⟩ : ∃ F : Nat, F = (e + k).toNat := ⟨_, rfl⟩
  rw [← hF] at L
  rw [show (e : Int) - 1075 + k = (F : Int) - 1075 by omega]
  obtain ⟨ya, yb, yc, yd⟩ := Fl.mk_fields s F m (by omega) h3
  have yr := Fl.mk_rg s F m (by omega) h3
  have ny : Fl.Num (Fl.mk s F m) := ⟨yd, by rw [yr]; omega⟩
  have hrte := Fl.rte_mk s F m (by omega) (by omega) h3
  unfold nearG Fl.nearF
  rw [if_neg (by omega)]
  by_cases hb : 1075 ≤ F
  · rw [if_pos hb] at hrte
    rw [if_pos (by omega)]
    have hbig : 4503599627370496 ≤ (4503599627370496 + m) * 2 ^ ((F : Int) - 1075).toNat := Nat.le_trans (by omega) (Nat.le_mul_of_pos_right _ (Nat.pow_pos (by omega)))
    obtain ⟨v1, v2⟩ := limV_big s _ true (show 2147483648 < (4503599627370496 + m) * 2 ^ ((F : Int) - 1075).toNat by omega)
    rw [v1, v2]
    exact qp_clip _ _ _ k s h h' nx L ny hrte ny yc (by rw [yr]; split <;> omega)
  · rw [if_neg hb] at hrte
    rw [if_neg (by omega), show (-((F : Int) - 1075)).toNat = 1075 - F by omega]
    have hsame := Fl.rte_same F m (by omega) (by omega) h3
    have hlog := Fl.cut_log (4503599627370496 + m) (1075 - F) (by omega) (by omega)
    generalize Fl.cut (4503599627370496 + m) (1075 - F) = c at *
    obtain ⟨l1, l2⟩ := Fl.rgN_le hlog
    obtain ⟨nn, nr, ns⟩ := Fl.num_sign s (Fl.rgN c) (by omega)
    generalize hnn : (if s = true then 9223372036854775808 else 0) + Fl.rgN c = n at *
    have t1 := Fl.rgN_lt_iff (a := 2147483647) (b := c) (Fl.log31 (by omega)) hlog
    have t2 := Fl.rgN_lt_iff (a := 2147483648) (b := c) (Fl.log31 (by omega)) hlog
    rw [Fl.rgN_max] at t1
    rw [Fl.rgN_min] at t2
    by_cases hc : if s then 2147483648 < c else 2147483647 < c
    · have v : limV s c = (if s then -2147483648 else 2147483647) ∧ limM s c (decide ((4503599627370496 + m) % 2 ^ (1075 - F) = 0)) = 2 := by
        unfold limV limM
        cases s
        · simp only [Bool.false_eq_true, if_false] at hc ⊢
          rw [if_pos hc, if_pos hc]; exact ⟨rfl, rfl⟩
        · simp only [if_true] at hc ⊢
          rw [if_pos hc, if_pos hc]; exact ⟨rfl, rfl⟩
      rw [v.1, v.2]
      refine qp_clip _ _ _ k s h h' nx L ny hrte nn ns ?_
      rw [nr]
      cases s
      · simp only [Bool.false_eq_true, if_false] at hc ⊢; exact t1.2 hc
      · simp only [if_true] at hc ⊢; exact t2.2 hc
    · have hc' : if s then c ≤ 2147483648 else c ≤ 2147483647 := by
        cases s
        · simp only [Bool.false_eq_true, if_false] at hc ⊢; omega
        · simp only [if_true] at hc ⊢; omega
      have hv := Fl.toint s c hc'
      rw [hnn] at hv
      have rkn : Fl.rk n = if s then -(Fl.rgN c : Int) else Fl.rgN c := by rw [Fl.rk_of, ns, nr]
      have q := qp_mid (Fl.mk s e m) (Fl.mk s F m) n k _ _ _ _ _ s h h' nx L (Fl.read_nn _ ny) hrte nn (by
        rw [rkn]
        cases s
        · simp only [Bool.false_eq_true, if_false] at hc ⊢; have := fun x => hc (t1.1 x); omega
        · simp only [if_true]; omega) (by
        rw [rkn]
        cases s
        · simp only [Bool.false_eq_true, if_false]; omega
        · simp only [if_true] at hc ⊢; have := fun x => hc (t2.1 x); omega) rfl rfl rfl rfl xc hv
      rw [nne_eq nn ny, zero_eq ny, zero_eq nn, nr, yr] at q
      rw [show decide (F * 4503599627370496 + m = 0) = false from decide_eq_false (by omega)] at q
      have rky : Fl.rk (Fl.mk s F m) = if s then -((F * 4503599627370496 + m : Nat) : Int) else ((F * 4503599627370496 + m : Nat) : Int) := by rw [Fl.rk_of, yc, yr]
      have hex : decide (Fl.rk n = Fl.rk (Fl.mk s F m)) = decide ((4503599627370496 + m) % 2 ^ (1075 - F) = 0) := by
        rw [decide_eq_decide, ← hsame, rkn, rky]
        cases s
        · simp only [Bool.false_eq_true, if_false]; omega
        · simp only [if_true]; omega
      rw [hex] at q
      have hz : decide (Fl.rgN c = 0) = decide (c = 0) := by
        rw [decide_eq_decide]
        constructor
        · intro hh
          by_cases g : c = 0
          · exact g
          · have := Fl.rgN_lt (a := 0) (b := c) (by decide) hlog (by omega); omega
        · intro hh; subst hh; rfl
      rw [hz] at q
      generalize decide ((4503599627370496 + m) % 2 ^ (1075 - F) = 0) = ex at q ⊢
      have v1 : limV s c = if s then -(c : Int) else c := by
        unfold limV
        cases s
        · simp only [Bool.false_eq_true, if_false] at hc ⊢; rw [if_neg hc]
        · simp only [if_true] at hc ⊢; rw [if_neg hc]
      have v2 : limM s c ex = mark1 (!ex) false (FloatKind.f64.format.order (Fl.mk s e m) 0 != some .eq) + if decide (c = 0) && s then 4 else 0 := by
        unfold limM mark1
        cases s
        · simp only [Bool.false_eq_true, if_false] at hc ⊢; rw [if_neg hc]; cases ex <;> simp
        · simp only [if_true] at hc ⊢; rw [if_neg hc]; by_cases g : c = 0 <;> cases ex <;> simp [g]
      rw [v1, v2]
      exact q
theorem ldL {x y : Nat} {k : Int} (h : ∀ w, Calls Try.prog 39 #[.float .f64 x, .int .i64 k] w fun e' w' => e' = .returned (.float .f64 y) ∧ w' = w) :
    ∀ w, Calls Try.prog 26 #[.float .f64 x, .int .i64 k] w fun e' w' => e' = .returned (.float .f64 y) ∧ w' = w := fun w => Ldexp_of x y k w (h w)
theorem quant_any (x : Nat) (k : Int) (hx : x < 18446744073709551616) : QP x k (quantG x k).1 (quantG x k).2.1 (quantG x k).2.2 := by
  unfold quantG
  by_cases hk : k < -64 ∨ 64 < k
  · rw [if_pos hk]; exact qp_scale x k hk
  · rw [if_neg hk]
    have k1 : -64 ≤ k := by omega
    have k2 : k ≤ 64 := by omega
    by_cases hn : 9218868437227405312 < Fl.rg x
    · rw [if_pos hn]; exact qp_nan x k k1 k2 hx hn
    · rw [if_neg hn]
      have nx : Fl.Num x := ⟨hx, by omega⟩
      have hof := Fl.mk_of x hx
      have ra : Fl.rg x = Fl.fld x * 4503599627370496 + Fl.frc x := by unfold Fl.rg Fl.fld Fl.frc; omega
      have rb : Fl.frc x < 4503599627370496 := by unfold Fl.frc; omega
      by_cases hi : Fl.rg x = 9218868437227405312
      · rw [if_pos hi]
        have hof' : x = Fl.mk (Fl.sg x) 2047 0 := by rw [show Fl.fld x = 2047 by omega, show Fl.frc x = 0 by omega] at hof; exact hof
        have hr : Fl.rteF x = x := by
          have := Fl.rte_inf (Fl.sg x)
          rw [← hof'] at this
          exact this
        exact qp_clip x x x k _ k1 k2 nx (ldL fun w => ldexp_inf x k w nx hi) nx hr nx rfl (by rw [hi]; split <;> omega)
      · rw [if_neg hi]
        by_cases hz : Fl.rg x = 0
        · have hM : Fl.mM x = 0 := by unfold Fl.mM; rw [if_pos (by omega)]; omega
          rw [hM]
          have hg : nearG 0 ((Fl.mE x : Int) - 1075 + k) = (0, true) := by unfold nearG; rw [if_pos rfl]
          rw [hg]
          have hr : Fl.rteF x = x := by
            rw [Fl.rte_small x hx (by omega)]
            conv => rhs; rw [hof, show Fl.fld x = 0 by omega, show Fl.frc x = 0 by omega]
            unfold Fl.mk; simp
          have hv : floatToIntVal .f64 x .i32 = some 0 := by
            have := Fl.toint (Fl.sg x) 0 (by split <;> omega)
            have e1 : (if Fl.sg x = true then 9223372036854775808 else 0) + Fl.rgN 0 = x := by
              conv => rhs; rw [hof, show Fl.fld x = 0 by omega, show Fl.frc x = 0 by omega]
              unfold Fl.mk; simp [Fl.rgN]
            rw [e1] at this
            rw [this]
            cases Fl.sg x <;> rfl
          have r0 : Fl.rk x = 0 := (rk_zero_iff x).2 hz
          have q := qp_mid x x x k 0 _ _ _ _ _ k1 k2 nx (ldL fun w => ldexp_zero x k w nx hz) (Fl.read_nn x nx) hr nx (by omega) (by omega) rfl rfl rfl rfl rfl hv
          have c5 : (FloatKind.f64.format.order x 0 != some .eq) = false := by
            show (!(FloatKind.f64.format.order x 0 == some .eq)) = false
            rw [zero_eq nx, decide_eq_true hz]; rfl
          rw [self_eq nx, zero_eq nx, c5, decide_eq_true hz, Bool.true_and] at q
          have v1 : limV (Fl.sg x) 0 = 0 := by cases Fl.sg x <;> rfl
          have v2 : limM (Fl.sg x) 0 true = mark1 false true false + if Fl.sg x then 4 else 0 := by cases Fl.sg x <;> rfl
          show QP x k (limV _ _) (limM _ _ _) 0
          rw [v1, v2]
          exact q
        · obtain ⟨m1, m2, m3, m4, m5, m6⟩ := Fl.rung_eq x
          have m0 : 0 < Fl.mM x := by
            rcases Nat.lt_or_ge 1 (Fl.mE x) with g | g
            · have := m4 g; omega
            · omega
          have hfin : Fl.rg x < 9218868437227405312 := by omega
          have lim0 : limV (Fl.sg x) 0 = 0 ∧ limM (Fl.sg x) 0 false = 1 + if Fl.sg x then 4 else 0 := by cases Fl.sg x <;> exact ⟨rfl, rfl⟩
          by_cases hf : Fl.fld x = 0
          · have hE : Fl.mE x = 1 := by unfold Fl.mE; rw [if_pos hf]
            rw [nearG_small (Fl.mM x) _ m0 m2 (by omega)]
            show QP x k (limV _ _) (limM _ _ _) 0
            rw [lim0.1, lim0.2]
            rw [hf] at hof
            have f0 : 0 < Fl.frc x := by omega
            obtain ⟨_, n2, n3⟩ := Fl.mul_sub (Fl.sg x) (Fl.frc x) f0 rb
            have HN := fun w => normalize_sub (Fl.sg x) (Fl.frc x) w f0 rb
            rw [← hof] at HN
            generalize Fl.frc x * 2 ^ (52 - (Fl.frc x).log2) - 4503599627370496 = mm at n2 HN
            generalize (Fl.frc x).log2 = l at n3 HN
            by_cases g : l + 1 + (k + -52) ≤ 0
            · obtain ⟨r, hr, HL⟩ := ldexp_low x (Fl.sg x) (l + 1) mm k (-52) hx hz hfin (by omega) (by omega) n2 k1 k2 (by omega) (by omega) (by omega) HN
              obtain ⟨a1, a2, a3⟩ := Fl.num_sign (Fl.sg x) r (by omega)
              exact qp_small x _ k k1 k2 nx hz a1.1 a3 (by rw [a2]; omega) (ldL HL)
            · have HL := ldexp_mid x (Fl.sg x) (l + 1) mm k (-52) hx hz hfin (by omega) (by omega) n2 k1 k2 (by omega) (by omega) (by omega) (by omega) HN
              obtain ⟨b1, b2, b3, b4⟩ := Fl.mk_fields (Fl.sg x) (((l + 1 : Nat) : Int) + (k + -52)).toNat mm (by omega) n2
              exact qp_small x _ k k1 k2 nx hz b4 b3 (by rw [Fl.mk_rg _ _ _ (by omega) n2]; omega) (ldL HL)
          · have hE : Fl.mE x = Fl.fld x := by unfold Fl.mE; rw [if_neg hf]
            have hM : Fl.mM x = 4503599627370496 + Fl.frc x := by unfold Fl.mM; rw [if_neg hf]
            have hl : Fl.fld x ≤ 2046 := by omega
            by_cases g : Fl.fld x + k ≤ 0
            · rw [nearG_small (Fl.mM x) _ m0 m2 (by omega)]
              show QP x k (limV _ _) (limM _ _ _) 0
              rw [lim0.1, lim0.2]
              have HN : ∀ w, Calls Try.prog 44 #[.float .f64 x] w fun e' w' => e' = .returned (.tuple #[.float .f64 (Fl.mk (Fl.sg x) (Fl.fld x) (Fl.frc x)), .int .i64 0]) ∧ w' = w := by
                intro w
                rw [← hof]
                refine normalize_big x w hx ?_
                show (Ieee.double.order _ _ == _) = _
                rw [Fl.ord_lt (num_abs nx) (Fl.num_lit (by omega) (by omega)), rk_abs, Fl.rk_pos (by omega), decide_eq_false_iff_not]
                omega
              obtain ⟨r, hr, HL⟩ := ldexp_low x (Fl.sg x) (Fl.fld x) (Fl.frc x) k 0 hx hz hfin (by omega) (by omega) rb k1 k2 (by omega) (by omega) (by omega) HN
              obtain ⟨a1, a2, a3⟩ := Fl.num_sign (Fl.sg x) r (by omega)
              exact qp_small x _ k k1 k2 nx hz a1.1 a3 (by rw [a2]; omega) (ldL HL)
            · rw [hE, hM]
              by_cases gg : Fl.fld x + k ≤ 2046
              · have q := qp_norm (Fl.sg x) (Fl.fld x) (Fl.frc x) k k1 k2 (by omega) hl rb (by omega) gg
                rw [← hof] at q
                exact q
              · have hG : nearG (4503599627370496 + Fl.frc x) ((Fl.fld x : Int) - 1075 + k) = ((4503599627370496 + Fl.frc x) * 2 ^ ((Fl.fld x : Int) - 1075 + k).toNat, true) := by
                  unfold nearG Fl.nearF
                  rw [if_neg (by omega), if_pos (by omega)]
                rw [hG]
                have hbig : 4503599627370496 ≤ (4503599627370496 + Fl.frc x) * 2 ^ ((Fl.fld x : Int) - 1075 + k).toNat := Nat.le_trans (by omega) (Nat.le_mul_of_pos_right _ (Nat.pow_pos (by omega)))
                obtain ⟨v1, v2⟩ := limV_big (Fl.sg x) _ true (show 2147483648 < (4503599627370496 + Fl.frc x) * 2 ^ ((Fl.fld x : Int) - 1075 + k).toNat by omega)
                show QP x k (limV _ _) (limM _ _ _) 0
                rw [v1, v2]
                have HL := fun w => ldexp_over (Fl.sg x) (Fl.fld x) (Fl.frc x) k w (by omega) hl rb k1 k2 (by omega)
                rw [← hof] at HL
                have hy := Fl.mk_fields (Fl.sg x) 2047 0 (by omega) (by omega)
                have yr := Fl.mk_rg (Fl.sg x) 2047 0 (by omega) (by omega)
                have ny : Fl.Num (Fl.mk (Fl.sg x) 2047 0) := ⟨hy.2.2.2, by rw [yr]; omega⟩
                exact qp_clip x _ _ k (Fl.sg x) k1 k2 nx (ldL HL) ny (Fl.rte_inf _) ny hy.2.2.1 (by rw [yr]; split <;> omega)
end Go.Proofs.Ytkohgkbeecadeaa
