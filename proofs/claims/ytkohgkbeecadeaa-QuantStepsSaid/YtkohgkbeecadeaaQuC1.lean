/- Plain: what a float becomes rises with it; a whole number told at another scale. -/
import Derived.Test.YtkohgkbeecadeaaQuB1
namespace Go.Proofs.Ytkohgkbeecadeaa
set_option linter.unusedVariables false

theorem Fl.cut_mono {a b : Nat} (d : Nat) (h : a ≤ b) : Fl.cut a d ≤ Fl.cut b d := by
  unfold Fl.cut
  have hp : 0 < 2 ^ d := Nat.pow_pos (by omega)
  have ha := Nat.div_add_mod a (2 ^ d)
  have hb := Nat.div_add_mod b (2 ^ d)
  have ra := Nat.mod_lt a hp
  have rb := Nat.mod_lt b hp
  have hq : a / 2 ^ d ≤ b / 2 ^ d := Nat.div_le_div_right h
  generalize a / 2 ^ d = qa at *
  generalize b / 2 ^ d = qb at *
  generalize a % 2 ^ d = xa at *
  generalize b % 2 ^ d = xb at *
  generalize 2 ^ d = D at *
  rcases Nat.lt_or_ge qa qb with g | g
  · have := Bool.toNat_le (decide (D < 2 * xa) || (D == 2 * xa && qa % 2 == 1))
    omega
  · obtain rfl : qa = qb := by omega
    have hx : xa ≤ xb := by omega
    refine Nat.add_le_add_left ?_ _
    by_cases u : D < 2 * xb
    · rw [decide_eq_true u, Bool.true_or]
      exact Bool.toNat_le _
    · rw [decide_eq_false u, decide_eq_false (show ¬ D < 2 * xa by omega), Bool.false_or, Bool.false_or]
      by_cases e : D = 2 * xa
      · have : xa = xb := by omega
        subst this
        exact Nat.le_refl _
      · rw [show (D == 2 * xa) = false by simpa using e]
        exact Nat.zero_le _
theorem Fl.cut_scale (n j d : Nat) : Fl.cut (n * 2 ^ j) (d + j) = Fl.cut n d ∧ (n * 2 ^ j % 2 ^ (d + j) = 0 ↔ n % 2 ^ d = 0) := by
  have hp : 0 < 2 ^ j := Nat.pow_pos (by omega)
  have e1 : n * 2 ^ j / 2 ^ (d + j) = n / 2 ^ d := by rw [Nat.pow_add, Nat.mul_div_mul_right _ _ hp]
  have e2 : n * 2 ^ j % 2 ^ (d + j) = n % 2 ^ d * 2 ^ j := by rw [Nat.pow_add, Nat.mul_mod_mul_right]
  refine ⟨?_, ?_⟩
  · unfold Fl.cut
    rw [e1, e2, Nat.pow_add]
    generalize n % 2 ^ d = r
    generalize 2 ^ d = D
    generalize 2 ^ j = J at hp ⊢
    have b1 : decide (D * J < 2 * (r * J)) = decide (D < 2 * r) := by
      rw [decide_eq_decide, ← Nat.mul_assoc]
      exact Nat.mul_lt_mul_right hp
    have b2 : (D * J == 2 * (r * J)) = (D == 2 * r) := by
      rw [Bool.eq_iff_iff, beq_iff_eq, beq_iff_eq, ← Nat.mul_assoc]
      exact ⟨fun h => Nat.eq_of_mul_eq_mul_right hp h, fun h => by rw [h]⟩
    rw [b1, b2]
  · rw [e2]
    constructor
    · intro h
      rcases Nat.mul_eq_zero.1 h with h | h
      · exact h
      · omega
    · intro h; rw [h, Nat.zero_mul]
/-- nearF does not see how a number is told. -/
theorem Fl.nearF_scale (n j : Nat) (q : Int) : (Fl.nearF (n * 2 ^ j) (q - j)).1 = (Fl.nearF n q).1 ∧ (Fl.nearF (n * 2 ^ j) (q - j)).2 = (Fl.nearF n q).2 := by
  unfold Fl.nearF
  by_cases h1 : 0 ≤ q
  · rw [if_pos h1]
    by_cases h2 : 0 ≤ q - (j : Int)
    · rw [if_pos h2]
      refine ⟨?_, rfl⟩
      show n * 2 ^ j * 2 ^ (q - (j : Int)).toNat = n * 2 ^ q.toNat
      rw [Nat.mul_assoc, ← Nat.pow_add, show j + (q - (j : Int)).toNat = q.toNat by omega]
    · rw [if_neg h2]
      have e : n * 2 ^ j = n * 2 ^ q.toNat * 2 ^ (-(q - (j : Int))).toNat := by
        rw [Nat.mul_assoc, ← Nat.pow_add, show q.toNat + (-(q - (j : Int))).toNat = j by omega]
      have hp : 0 < 2 ^ (-(q - (j : Int))).toNat := Nat.pow_pos (by omega)
      refine ⟨?_, ?_⟩
      · show Fl.cut (n * 2 ^ j) _ = n * 2 ^ q.toNat
        rw [e, Fl.cut_exact _ _ (Nat.mul_mod_left _ _), Nat.mul_div_cancel _ hp]
      · show decide _ = true
        rw [e]
        exact decide_eq_true (Nat.mul_mod_left _ _)
  · rw [if_neg h1, if_neg (by omega), show (-(q - (j : Int))).toNat = (-q).toNat + j by omega]
    obtain ⟨a, b⟩ := Fl.cut_scale n j (-q).toNat
    exact ⟨a, by show decide _ = decide _; rw [decide_eq_decide]; exact b⟩
theorem nearG_scale (n j : Nat) (q : Int) (h0 : n ≠ 0) : nearG (n * 2 ^ j) (q - j) = Fl.nearF n q := by
  have : n * 2 ^ j ≠ 0 := by have := Nat.mul_pos (show 0 < n by omega) (Nat.pow_pos (n := j) (show 0 < 2 by omega)); omega
  unfold nearG
  rw [if_neg this]
  obtain ⟨a, b⟩ := Fl.nearF_scale n j q
  exact Prod.ext a b
/-- What a finite float becomes, ahead of all limits, in one cut. -/
theorem nearG_cut (x : Nat) (k : Int) (h : -64 ≤ k) (h' : k ≤ 64) : (nearG (Fl.mM x) ((Fl.mE x : Int) - 1075 + k)).1 = Fl.cut (Fl.mM x * 2 ^ Fl.mE x) (1075 - k).toNat := by
  by_cases h0 : Fl.mM x = 0
  · rw [h0, Nat.zero_mul]
    unfold nearG
    rw [if_pos rfl, Fl.cut_exact _ _ (Nat.zero_mod _), Nat.zero_div]
  · have := nearG_scale (Fl.mM x) (Fl.mE x) ((Fl.mE x : Int) - 1075 + k) h0
    have e : nearG (Fl.mM x) ((Fl.mE x : Int) - 1075 + k) = Fl.nearF (Fl.mM x) ((Fl.mE x : Int) - 1075 + k) := by unfold nearG; rw [if_neg h0]
    rw [e, ← this]
    have hz : Fl.mM x * 2 ^ Fl.mE x ≠ 0 := by have := Nat.mul_pos (show 0 < Fl.mM x by omega) (Nat.pow_pos (n := Fl.mE x) (show 0 < 2 by omega)); omega
    unfold nearG Fl.nearF
    rw [if_neg hz, if_neg (by omega)]
    show Fl.cut _ _ = _
    rw [show (-((Fl.mE x : Int) - 1075 + k - (Fl.mE x : Int))).toNat = (1075 - k).toNat by omega]
theorem size_mono {x y : Nat} (h : Fl.rg x ≤ Fl.rg y) : Fl.mM x * 2 ^ Fl.mE x ≤ Fl.mM y * 2 ^ Fl.mE y := by
  obtain ⟨r1, r2, r3, r4, _, _⟩ := Fl.rung_eq x
  obtain ⟨q1, q2, q3, q4, _, _⟩ := Fl.rung_eq y
  rcases Nat.lt_trichotomy (Fl.mE x) (Fl.mE y) with g | g | g
  · have a1 := q4 (by omega)
    have a2 : Fl.mM x * 2 ^ Fl.mE x ≤ 2 ^ 53 * 2 ^ Fl.mE x := Nat.mul_le_mul_right _ (by omega)
    have a3 : 2 ^ 53 * 2 ^ Fl.mE x ≤ 2 ^ 52 * 2 ^ Fl.mE y := by
      rw [← Nat.pow_add, ← Nat.pow_add]
      exact Nat.pow_le_pow_right (by omega) (by omega)
    have a4 : 2 ^ 52 * 2 ^ Fl.mE y ≤ Fl.mM y * 2 ^ Fl.mE y := Nat.mul_le_mul_right _ (by omega)
    omega
  · rw [g]
    exact Nat.mul_le_mul_right _ (by omega)
  · exfalso
    have := r4 (by omega)
    omega
theorem near_mono {x y : Nat} (k : Int) (h : -64 ≤ k) (h' : k ≤ 64) (hr : Fl.rg x ≤ Fl.rg y) : (nearG (Fl.mM x) ((Fl.mE x : Int) - 1075 + k)).1 ≤ (nearG (Fl.mM y) ((Fl.mE y : Int) - 1075 + k)).1 := by
  rw [nearG_cut x k h h', nearG_cut y k h h']
  exact Fl.cut_mono _ (size_mono hr)
/-- What the size of a float's number is. -/
def sizeG (x : Nat) (k : Int) : Nat := if Fl.rg x = 9218868437227405312 then 4294967296 else (nearG (Fl.mM x) ((Fl.mE x : Int) - 1075 + k)).1
def exactG (x : Nat) (k : Int) : Bool := if Fl.rg x = 9218868437227405312 then true else (nearG (Fl.mM x) ((Fl.mE x : Int) - 1075 + k)).2
theorem quantG_num (x : Nat) (k : Int) (h : -64 ≤ k) (h' : k ≤ 64) (hn : Fl.rg x ≤ 9218868437227405312) : quantG x k = (limV (Fl.sg x) (sizeG x k), limM (Fl.sg x) (sizeG x k) (exactG x k), 0) := by
  unfold quantG sizeG exactG
  rw [if_neg (by omega), if_neg (by omega)]
  by_cases g : Fl.rg x = 9218868437227405312
  · rw [if_pos g, if_pos g, if_pos g]
    cases Fl.sg x <;> rfl
  · rw [if_neg g, if_neg g, if_neg g]
theorem limV_bounds (s : Bool) (N : Nat) : -2147483648 ≤ limV s N ∧ limV s N ≤ 2147483647 ∧ (s = true → limV s N ≤ 0) ∧ (s = false → 0 ≤ limV s N) := by
  unfold limV
  cases s
  · simp only [Bool.false_eq_true, if_false]
    refine ⟨?_, ?_, (fun h => by cases h), (fun _ => ?_)⟩ <;> (split <;> omega)
  · simp only [if_true]
    refine ⟨?_, ?_, (fun _ => ?_), (fun h => by cases h)⟩ <;> (split <;> omega)
theorem limV_mono {M N : Nat} (h : min M 2147483649 ≤ N) : limV false M ≤ limV false N ∧ limV true N ≤ limV true M := by
  unfold limV
  simp only [Bool.false_eq_true, if_false, if_true]
  constructor <;> (split <;> split <;> omega)
theorem size_min {x y : Nat} (k : Int) (h : -64 ≤ k) (h' : k ≤ 64) (hx : Fl.rg x ≤ 9218868437227405312) (hy : Fl.rg y ≤ 9218868437227405312) (hr : Fl.rg x ≤ Fl.rg y) : min (sizeG x k) 2147483649 ≤ sizeG y k := by
  unfold sizeG
  by_cases g : Fl.rg y = 9218868437227405312
  · rw [if_pos g]; omega
  · rw [if_neg g, if_neg (by omega)]
    have := near_mono k h h' hr
    omega
theorem quant_rises {x y : Nat} (k : Int) (h : -64 ≤ k) (h' : k ≤ 64) (hx : Fl.rg x ≤ 9218868437227405312) (hy : Fl.rg y ≤ 9218868437227405312) (ho : (Fl.sg x = false ∧ Fl.sg y = false ∧ Fl.rg x ≤ Fl.rg y) ∨ (Fl.sg x = true ∧ Fl.sg y = true ∧ Fl.rg y ≤ Fl.rg x) ∨ (Fl.sg x = true ∧ Fl.sg y = false)) : (quantG x k).1 ≤ (quantG y k).1 := by
  rw [quantG_num x k h h' hx, quantG_num y k h h' hy]
  show limV _ _ ≤ limV _ _
  rcases ho with ⟨a, b, c⟩ | ⟨a, b, c⟩ | ⟨a, b⟩
  · rw [a, b]; exact (limV_mono (size_min k h h' hx hy c)).1
  · rw [a, b]; exact (limV_mono (size_min k h h' hy hx c)).2
  · have := (limV_bounds (Fl.sg x) (sizeG x k)).2.2.1 a
    have := (limV_bounds (Fl.sg y) (sizeG y k)).2.2.2 b
    omega
/-- The opposite float. -/
theorem quant_flip {x y : Nat} (k : Int) (h : -64 ≤ k) (h' : k ≤ 64) (hx : Fl.rg x ≤ 9218868437227405312) (hr : Fl.rg y = Fl.rg x) (hs : Fl.sg y = !Fl.sg x) (hm : Fl.mM y = Fl.mM x) (hE : Fl.mE y = Fl.mE x) :
    ((quantG x k).2.1 = 2 ∨ (quantG y k).2.1 = 2) ∨ ((quantG y k).1 = -(quantG x k).1 ∧ ∃ r : Int, (r = 0 ∨ r = 1) ∧ ((quantG x k).2.1 = r ∧ (quantG y k).2.1 = r ∨ (quantG x k).2.1 = r + 4 ∧ (quantG y k).2.1 = r ∨ (quantG x k).2.1 = r ∧ (quantG y k).2.1 = r + 4)) := by
  rw [quantG_num x k h h' hx, quantG_num y k h h' (by omega)]
  have e1 : sizeG y k = sizeG x k := by unfold sizeG; rw [hr, hm, hE]
  have e2 : exactG y k = exactG x k := by unfold exactG; rw [hr, hm, hE]
  rw [e1, e2, hs]
  generalize sizeG x k = N
  generalize exactG x k = ex
  dsimp only
  unfold limV limM
  by_cases c1 : 2147483648 < N
  · left; left
    cases Fl.sg x
    · simp only [Bool.false_eq_true, if_false]; rw [if_pos (by omega)]
    · simp only [if_true]; rw [if_pos c1]
  · by_cases c2 : 2147483647 < N
    · left
      cases Fl.sg x
      · left; simp only [Bool.false_eq_true, if_false]; rw [if_pos c2]
      · right; simp only [Bool.not_true, Bool.false_eq_true, if_false]; rw [if_pos c2]
    · right
      refine ⟨?_, if ex then 0 else 1, by cases ex <;> simp, ?_⟩
      · cases Fl.sg x
        · simp only [Bool.not_false, Bool.false_eq_true, if_false, if_true]; rw [if_neg c1, if_neg c2]
        · simp only [Bool.not_true, Bool.false_eq_true, if_false, if_true]; rw [if_neg c1, if_neg c2]; omega
      · cases Fl.sg x
        · simp only [Bool.not_false, Bool.false_eq_true, if_false, if_true]; rw [if_neg c1, if_neg c2]
          by_cases z : N = 0
          · rw [if_pos z]; right; right; exact ⟨rfl, rfl⟩
          · rw [if_neg z]; left; exact ⟨rfl, by omega⟩
        · simp only [Bool.not_true, Bool.false_eq_true, if_false, if_true]; rw [if_neg c1, if_neg c2]
          by_cases z : N = 0
          · rw [if_pos z]; right; left; exact ⟨rfl, rfl⟩
          · rw [if_neg z]; left; exact ⟨by omega, rfl⟩
end Go.Proofs.Ytkohgkbeecadeaa
