/- Floats of 64 bits: what the nearest word is, of exact numbers and of tiny ones; a product by one. -/
import Derived.Test.YtkohgkbeecadeaaQuC
namespace Go.Proofs.Ytkohgkbeecadeaa.Fl
open Ieee

theorem log2_eq {n k : Nat} (h1 : 2 ^ k ≤ n) (h2 : n < 2 ^ (k + 1)) : n.log2 = k := by
  have h0 : n ≠ 0 := by have := Nat.one_le_two_pow (n := k); omega
  exact (Nat.log2_eq_iff h0).2 ⟨h1, h2⟩
theorem nearest_norm (s : Bool) (k d : Nat) (p : Int) (h1 : 4503599627370496 ≤ k) (h2 : k < 9007199254740992) (h3 : 1 ≤ p + d + 1075) (h4 : p + d + 1075 ≤ 2046) :
    Ieee.double.nearest s (k * 2 ^ d) p = mk s (p + d + 1075).toNat (k - 4503599627370496) := by
  have hp : 0 < 2 ^ d := Nat.pow_pos (by omega)
  have hl : (k * 2 ^ d).log2 = 52 + d := by
    refine log2_eq ?_ ?_
    · rw [Nat.pow_add]; exact Nat.mul_le_mul_right _ h1
    · rw [show 52 + d + 1 = 53 + d by omega, Nat.pow_add]; exact Nat.mul_lt_mul_of_pos_right h2 hp
  have hn : k * 2 ^ d ≠ 0 := by have := Nat.mul_pos (show 0 < k by omega) hp; omega
  unfold Ieee.Format.nearest
  rw [if_neg hn, frb, lp, bin, infr, hl]
  have hlast : max (p + ((52 + d : Nat) : Int) - (52 : Nat)) (-1074) = p + d := by omega
  simp only [hlast]
  rw [show (p - (p + (d : Int))).toNat = 0 by omega, show (p + (d : Int) - p).toNat = d by omega, even_cut, Nat.shiftLeft_zero, cut_exact _ _ (Nat.mul_mod_left _ _), Nat.mul_div_cancel _ hp]
  rw [Nat.min_eq_left (by omega)]
  exact word_mk _ _ _ _ (by omega)
theorem nearest_tiny (s : Bool) (n : Nat) (p : Int) (h : p + n.log2 ≤ -900) : ∃ r, Ieee.double.nearest s n p = (if s then 9223372036854775808 else 0) + r ∧ r ≤ 900719925474099200 := by
  unfold Ieee.Format.nearest
  by_cases h0 : n = 0
  · rw [if_pos h0, word_eq]
    exact ⟨0, rfl, by omega⟩
  · rw [if_neg h0, frb, lp, bin, infr]
    simp only [even_cut]
    refine ⟨_, word_eq s _, ?_⟩
    have hl : 2 ^ n.log2 ≤ n := Nat.log2_self_le (by omega)
    have hu : n < 2 ^ (n.log2 + 1) := Nat.lt_log2_self
    generalize hL : max (p + (n.log2 : Int) - (52 : Nat)) (-1074) = last
    have hc := cut_le (n <<< (p - last).toNat) (last - p).toNat
    have hk : (n <<< (p - last).toNat) / 2 ^ (last - p).toNat < 9007199254740992 := by
      refine Nat.div_lt_of_lt_mul ?_
      rw [Nat.shiftLeft_eq, show (9007199254740992 : Nat) = 2 ^ 53 from rfl, ← Nat.pow_add]
      have e1 : n * 2 ^ (p - last).toNat < 2 ^ (n.log2 + 1 + (p - last).toNat) := by
        rw [Nat.pow_add]; exact Nat.mul_lt_mul_of_pos_right hu (Nat.pow_pos (by omega))
      exact Nat.lt_of_lt_of_le e1 (Nat.pow_le_pow_right (by omega) (by omega))
    omega
/-- The rungs of whole numbers rise. -/
def rgN (n : Nat) : Nat := if n = 0 then 0 else (n.log2 + 1022) * 4503599627370496 + n * 2 ^ (52 - n.log2)
theorem norm_bounds {n : Nat} (h0 : n ≠ 0) (h1 : n.log2 ≤ 52) : 4503599627370496 ≤ n * 2 ^ (52 - n.log2) ∧ n * 2 ^ (52 - n.log2) < 9007199254740992 := (nearest_whole true n (by omega) h1).2
theorem rgN_lt {a b : Nat} (ha : a.log2 ≤ 52) (hb : b.log2 ≤ 52) (h : a < b) : rgN a < rgN b := by
  unfold rgN
  rw [if_neg (show b ≠ 0 by omega)]
  have kb := norm_bounds (show b ≠ 0 by omega) hb
  by_cases h0 : a = 0
  · rw [if_pos h0]; omega
  · rw [if_neg h0]
    have ka := norm_bounds h0 ha
    have hm : a.log2 ≤ b.log2 := by
      rcases Nat.lt_or_ge b.log2 a.log2 with hlt | hge
      · have l1 : 2 ^ a.log2 ≤ a := Nat.log2_self_le h0
        have l2 : b < 2 ^ (b.log2 + 1) := Nat.lt_log2_self
        have l3 : 2 ^ (b.log2 + 1) ≤ 2 ^ a.log2 := Nat.pow_le_pow_right (by omega) (by omega)
        omega
      · exact hge
    by_cases he : a.log2 = b.log2
    · rw [he]
      have : a * 2 ^ (52 - b.log2) < b * 2 ^ (52 - b.log2) := Nat.mul_lt_mul_of_pos_right h (Nat.pow_pos (by omega))
      omega
    · omega
theorem rgN_lt_iff {a b : Nat} (ha : a.log2 ≤ 52) (hb : b.log2 ≤ 52) : rgN a < rgN b ↔ a < b := by
  refine ⟨fun h => ?_, rgN_lt ha hb⟩
  rcases Nat.lt_trichotomy a b with x | x | x
  · exact x
  · subst x; omega
  · have := rgN_lt hb ha x; omega
theorem nearest_nat (s : Bool) (n : Nat) (h1 : n.log2 ≤ 52) : Ieee.double.nearest s n 0 = (if s then 9223372036854775808 else 0) + rgN n := by
  unfold rgN
  by_cases h0 : n = 0
  · rw [if_pos h0]
    unfold Ieee.Format.nearest
    rw [if_pos h0, word_eq]
  · rw [if_neg h0, (nearest_whole s n (by omega) h1).1]
    have := norm_bounds h0 h1
    unfold mk
    omega
theorem rgN_le {n : Nat} (h1 : n.log2 ≤ 52) : rgN n < 9223372036854775808 ∧ rgN n < 4850376798678024192 := by
  unfold rgN
  by_cases h0 : n = 0
  · rw [if_pos h0]; omega
  · rw [if_neg h0]
    have := norm_bounds h0 h1
    omega
theorem rk_word (s : Bool) (r : Nat) (h : r < 9223372036854775808) : rk ((if s then 9223372036854775808 else 0) + r) = if s then -(r : Int) else (r : Int) := by
  unfold rk sg rg
  cases s
  · simp only [Bool.false_eq_true, if_false, Nat.zero_add]
    rw [decide_eq_false (by omega)]
    simp only [Bool.false_eq_true, if_false]
    omega
  · simp only [if_true]
    rw [decide_eq_true (by omega)]
    simp only [if_true]
    omega
theorem rgN_max : rgN 2147483647 = 4746794007244308480 := by decide +kernel
theorem rgN_min : rgN 2147483648 = 4746794007248502784 := by decide +kernel

theorem read_mk (s : Bool) (e m : Nat) (h1 : 1 ≤ e) (h2 : e ≤ 2046) (h3 : m < 4503599627370496) : Ieee.double.read (mk s e m) = .number s (4503599627370496 + m) ((e : Int) - 1075) := by
  obtain ⟨a, b, c, d⟩ := mk_fields s e m (by omega) h3
  rw [read_eq _ d, a, b, c, if_neg (by omega), if_neg (by omega)]
theorem mul_one (s : Bool) (e m : Nat) (h1 : 1 ≤ e) (h2 : e ≤ 2046) (h3 : m < 4503599627370496) : Ieee.double.mul 4607182418800017408 (mk s e m) = some (mk s e m) := by
  have e1 : (4607182418800017408 : Nat) = mk false 1023 0 := by decide
  unfold Ieee.Format.mul
  rw [e1, read_mk false 1023 0 (by omega) (by omega) (by omega), read_mk s e m h1 h2 h3]
  unfold Ieee.Datum.product
  dsimp only
  rw [Option.map_some]
  unfold Ieee.Format.write
  dsimp only
  rw [Bool.false_xor, Nat.mul_comm, show (4503599627370496 + 0 : Nat) = 2 ^ 52 from rfl, nearest_norm s _ 52 _ (by omega) (by omega) (by omega) (by omega)]
  rw [show (((1023 : Nat) : Int) - 1075 + ((e : Int) - 1075) + ((52 : Nat) : Int) + 1075).toNat = e by omega, Nat.add_sub_cancel_left]
theorem c_eq (a b : Int) : (some (compare a b) == some Ordering.eq) = decide (a = b) := by
  simp only [compare, compareOfLessAndEq]
  by_cases h : a < b
  · rw [if_pos h, decide_eq_false (by omega)]; rfl
  · rw [if_neg h]
    by_cases g : a = b
    · rw [if_pos g, decide_eq_true g]; rfl
    · rw [if_neg g, decide_eq_false g]; rfl
theorem c_lt (a b : Int) : (some (compare a b) == some Ordering.lt) = decide (a < b) := by
  simp only [compare, compareOfLessAndEq]
  by_cases h : a < b
  · rw [if_pos h, decide_eq_true h]; rfl
  · rw [if_neg h, decide_eq_false h]
    by_cases g : a = b
    · rw [if_pos g]; rfl
    · rw [if_neg g]; rfl
theorem c_gt (a b : Int) : (some (compare a b) == some Ordering.gt) = decide (b < a) := by
  simp only [compare, compareOfLessAndEq]
  by_cases h : a < b
  · rw [if_pos h, decide_eq_false (by omega)]; rfl
  · rw [if_neg h]
    by_cases g : a = b
    · rw [if_pos g, decide_eq_false (by omega)]; rfl
    · rw [if_neg g, decide_eq_true (by omega)]; rfl
def Num (x : Nat) : Prop := x < 18446744073709551616 ∧ rg x ≤ 9218868437227405312
theorem ord_eq {x y : Nat} (hx : Num x) (hy : Num y) : (Ieee.double.order x y == some .eq) = decide (rk x = rk y) := by rw [order_any x y hx.1 hy.1 hx.2 hy.2, c_eq]
theorem ord_lt {x y : Nat} (hx : Num x) (hy : Num y) : (Ieee.double.order x y == some .lt) = decide (rk x < rk y) := by rw [order_any x y hx.1 hy.1 hx.2 hy.2, c_lt]
theorem ord_gt {x y : Nat} (hx : Num x) (hy : Num y) : (Ieee.double.order x y == some .gt) = decide (rk y < rk x) := by rw [order_any x y hx.1 hy.1 hx.2 hy.2, c_gt]
theorem num_lit {x : Nat} (h : x < 18446744073709551616) (h' : x % 9223372036854775808 ≤ 9218868437227405312) : Num x := ⟨h, h'⟩
theorem rk_pos {x : Nat} (h : x < 9223372036854775808) : rk x = x := by
  unfold rk sg rg
  rw [decide_eq_false (by omega)]
  simp only [Bool.false_eq_true, if_false]
  omega
theorem mk_rg (s : Bool) (e m : Nat) (h1 : e ≤ 2047) (h3 : m < 4503599627370496) : rg (mk s e m) = e * 4503599627370496 + m := by
  unfold rg mk
  cases s
  · simp only [Bool.false_eq_true, if_false]; omega
  · simp only [if_true]; omega
end Go.Proofs.Ytkohgkbeecadeaa.Fl
