/- Plain: a whole number's float, told at another scale. -/
import Derived.Test.YtkohgkbeecadeaaQuC1
namespace Go.Proofs.Ytkohgkbeecadeaa
set_option linter.unusedVariables false

theorem quant_step (v a b : Int) (h0 : v ≠ 0) (h1 : -2147483648 ≤ v) (h2 : v ≤ 2147483647) (a1 : -64 ≤ a) (a2 : a ≤ 64) (b1 : -64 ≤ b) (b2 : b ≤ 64) :
    quantG (backG v a).1 b = (limV (ngI v) (Fl.nearF (szI v) (b - a)).1, limM (ngI v) (Fl.nearF (szI v) (b - a)).1 (Fl.nearF (szI v) (b - a)).2, 0) := by
  unfold backG
  rw [if_neg (by omega), if_neg h0]
  obtain ⟨l1, l2, l3⟩ := man_lt h0 h1 h2
  dsimp only
  obtain ⟨f1, f2, f3, f4⟩ := Fl.mk_fields (ngI v) (((szI v).log2 : Int) + 1023 - a).toNat (manI v) (by omega) l2
  have hr := Fl.mk_rg (ngI v) (((szI v).log2 : Int) + 1023 - a).toNat (manI v) (by omega) l2
  generalize Fl.mk (ngI v) (((szI v).log2 : Int) + 1023 - a).toNat (manI v) = x at f1 f2 f3 f4 hr ⊢
  unfold quantG
  rw [if_neg (by omega), if_neg (by omega), if_neg (by omega)]
  have hM : Fl.mM x = szI v * 2 ^ (52 - (szI v).log2) := by
    unfold Fl.mM; rw [if_neg (by omega), f2]; unfold manI; omega
  have hE : (Fl.mE x : Int) - 1075 + b = (b - a) - ((52 - (szI v).log2 : Nat) : Int) := by
    unfold Fl.mE; rw [if_neg (by omega), f1]; omega
  rw [hM, hE, nearG_scale _ _ _ (by unfold szI; omega), f3]
theorem quant_zero (a b : Int) (a1 : -64 ≤ a) (a2 : a ≤ 64) (b1 : -64 ≤ b) (b2 : b ≤ 64) : quantG (backG 0 a).1 b = (0, 0, 0) := by
  unfold backG
  rw [if_neg (by omega), if_pos rfl]
  unfold quantG
  rw [if_neg (by omega), if_neg (by decide), if_neg (by decide)]
  have hM : Fl.mM 0 = 0 := by decide
  have hg : ∀ p, nearG 0 p = (0, true) := fun p => by unfold nearG; rw [if_pos rfl]
  rw [hM, hg]
  decide
theorem nearF_up (n d : Nat) (q : Int) (h : q = d) : Fl.nearF n q = (n * 2 ^ d, true) := by
  subst h
  unfold Fl.nearF
  rw [if_pos (by omega), Int.toNat_natCast]
theorem nearF_dn (n d : Nat) (q : Int) (h : q = -(d : Int)) (h0 : 0 < d) : Fl.nearF n q = (Fl.cut n d, decide (n % 2 ^ d = 0)) := by
  subst h
  unfold Fl.nearF
  rw [if_neg (by omega), show (-(-(d : Int))).toNat = d by omega]
/-- Below 2^40 it is all the same how far down. -/
theorem cut_far (n d : Nat) (hn : n ≤ 2147483648) (h : 40 ≤ d) : Fl.cut n d = 0 ∧ Fl.cut n 40 = 0 ∧ n % 2 ^ d = n ∧ n % 2 ^ 40 = n := by
  have : 2 ^ 40 ≤ 2 ^ d := Nat.pow_le_pow_right (by omega) h
  exact ⟨Fl.cut_small _ _ (by omega), Fl.cut_small _ _ (by omega), Nat.mod_eq_of_lt (by omega), Nat.mod_eq_of_lt (by omega)⟩
theorem cut_le_half (n d : Nat) (hn : n ≤ 2147483648) (h : 1 ≤ d) : Fl.cut n d ≤ 1073741825 := by
  have h1 := Fl.cut_le n d
  have h2 : n / 2 ^ d ≤ n / 2 := by
    obtain ⟨j, rfl⟩ : ∃ j, d = j + 1 := ⟨d - 1, by omega⟩
    rw [Nat.pow_succ, Nat.mul_comm, ← Nat.div_div_eq_div_mul]
    exact Nat.div_le_self _ _
  omega
/-- The rounding of the law: the quotient q and the rest r (at least 0) of v by D. -/
def rndI (q r D : Int) : Int := if D < 2 * r ∨ (2 * r = D ∧ q % 2 ≠ 0) then q + 1 else q
theorem cut_rnd (n d : Nat) : (Fl.cut n d : Int) = rndI (n / 2 ^ d : Nat) (n % 2 ^ d : Nat) (2 ^ d : Nat) := by
  unfold Fl.cut rndI
  generalize n / 2 ^ d = q
  generalize n % 2 ^ d = r
  generalize 2 ^ d = D
  by_cases a : D < 2 * r
  · rw [decide_eq_true a, if_pos (.inl (by omega))]; simp
  · rw [decide_eq_false a, Bool.false_or]
    by_cases b : D = 2 * r
    · rw [show (D == 2 * r) = true by simpa using b]
      by_cases c : q % 2 = 1
      · rw [show (q % 2 == 1) = true by simpa using c, if_pos (.inr ⟨by omega, by omega⟩)]; simp
      · rw [show (q % 2 == 1) = false by simpa using c, if_neg (by rintro (x | ⟨_, x⟩) <;> omega)]; simp
    · rw [show (D == 2 * r) = false by simpa using b, if_neg (by rintro (x | ⟨x, _⟩) <;> omega)]; simp
theorem cut_rnd_neg (n d : Nat) (h : n % 2 ^ d ≠ 0) : -(Fl.cut n d : Int) = rndI (-((n / 2 ^ d : Nat) : Int) - 1) (((2 ^ d : Nat) : Int) - (n % 2 ^ d : Nat)) (2 ^ d : Nat) := by
  rw [cut_rnd]
  have hr := Nat.mod_lt n (Nat.pow_pos (n := d) (show 0 < 2 by omega))
  unfold rndI
  generalize n / 2 ^ d = q at *
  generalize n % 2 ^ d = r at *
  generalize 2 ^ d = D at *
  by_cases a : D < 2 * r
  · rw [if_pos (.inl (by omega)), if_neg (by rintro (x | ⟨x, _⟩) <;> omega)]; omega
  · by_cases b : D = 2 * r
    · by_cases c : q % 2 = 1
      · rw [if_pos (.inr ⟨by omega, by omega⟩), if_neg (by rintro (x | ⟨_, x⟩) <;> omega)]; omega
      · rw [if_neg (by rintro (x | ⟨_, x⟩) <;> omega), if_pos (.inr ⟨by omega, by omega⟩)]; omega
    · rw [if_neg (by rintro (x | ⟨x, _⟩) <;> omega), if_pos (.inl (by omega))]; omega
end Go.Proofs.Ytkohgkbeecadeaa
