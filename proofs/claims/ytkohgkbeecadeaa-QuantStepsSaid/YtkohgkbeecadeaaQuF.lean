/- Plain: the whole number that a float becomes. -/
import Derived.Test.YtkohgkbeecadeaaQuD
namespace Go.Proofs.Ytkohgkbeecadeaa.Fl
open Ieee

/-- m times 2^p as a whole number, to the nearest, half to even; is it exact? -/
def nearF (m : Nat) (p : Int) : Nat × Bool := if 0 ≤ p then (m * 2 ^ p.toNat, true) else (cut m (-p).toNat, decide (m % 2 ^ (-p).toNat = 0))
/-- What RoundToEven makes of a word. -/
def rteF (y : Nat) : Nat := Ieee.double.write ((Ieee.double.read y).integral .even)

theorem cut_small (m d : Nat) (h : 2 * m < 2 ^ d) : cut m d = 0 := by
  unfold cut
  rw [Nat.div_eq_of_lt (by omega), Nat.mod_eq_of_lt (by omega)]
  have e1 : decide (2 ^ d < 2 * m) = false := by rw [decide_eq_false_iff_not]; omega
  have e2 : (2 ^ d == 2 * m) = false := by rw [beq_eq_false_iff_ne]; omega
  rw [e1, e2]; rfl
theorem log2_le {n k : Nat} (h : n ≤ 2 ^ k) : n.log2 ≤ k := by
  by_cases h0 : n = 0
  · subst h0; simp
  · have h1 : 2 ^ n.log2 ≤ n := Nat.log2_self_le h0
    exact (Nat.pow_le_pow_iff_right (by omega : 1 < 2)).1 (Nat.le_trans h1 h)
theorem cut_log (k d : Nat) (hk : k < 9007199254740992) (hd : 1 ≤ d) : (cut k d).log2 ≤ 52 := by
  refine log2_le ?_
  have h1 := cut_le k d
  have h2 : k / 2 ^ d ≤ k / 2 := by
    obtain ⟨j, rfl⟩ : ∃ j, d = j + 1 := ⟨d - 1, by omega⟩
    rw [Nat.pow_succ, Nat.mul_comm, ← Nat.div_div_eq_div_mul]
    exact Nat.div_le_self _ _
  omega
theorem rte_mk (s : Bool) (e m : Nat) (h1 : 1 ≤ e) (h2 : e ≤ 2046) (h3 : m < 4503599627370496) :
    rteF (mk s e m) = if 1075 ≤ e then mk s e m else (if s then 9223372036854775808 else 0) + rgN (cut (4503599627370496 + m) (1075 - e)) := by
  unfold rteF
  rw [read_mk s e m h1 h2 h3]
  unfold Ieee.Datum.integral
  dsimp only
  rw [even_cut]
  unfold Ieee.Format.write
  dsimp only
  by_cases h : 1075 ≤ e
  · rw [if_pos h, show (-((e : Int) - 1075)).toNat = 0 by omega, cut_zero, Nat.shiftLeft_eq, show ((e : Int) - 1075).toNat = e - 1075 by omega, nearest_norm s _ _ _ (by omega) (by omega) (by omega) (by omega)]
    rw [show ((0 : Int) + ((e - 1075 : Nat) : Int) + 1075).toNat = e by omega, Nat.add_sub_cancel_left]
  · rw [if_neg h, show ((e : Int) - 1075).toNat = 0 by omega, show (-((e : Int) - 1075)).toNat = 1075 - e by omega, Nat.shiftLeft_zero]
    exact nearest_nat s _ (cut_log _ _ (by omega) (by omega))
/-- Rounding keeps just what is whole. -/
theorem rte_same (e m : Nat) (h1 : 1 ≤ e) (h : e < 1075) (h3 : m < 4503599627370496) : rgN (cut (4503599627370496 + m) (1075 - e)) = e * 4503599627370496 + m ↔ (4503599627370496 + m) % 2 ^ (1075 - e) = 0 := by
  have hlog := cut_log (4503599627370496 + m) (1075 - e) (by omega) (by omega)
  have hp : 0 < 2 ^ (1075 - e) := Nat.pow_pos (by omega)
  constructor
  · intro hr
    unfold rgN at hr
    by_cases h0 : cut (4503599627370496 + m) (1075 - e) = 0
    · rw [if_pos h0] at hr; omega
    · rw [if_neg h0] at hr
      have hb := norm_bounds h0 hlog
      have hd : 52 - (cut (4503599627370496 + m) (1075 - e)).log2 = 1075 - e := by omega
      have hN : cut (4503599627370496 + m) (1075 - e) * 2 ^ (1075 - e) = 4503599627370496 + m := by rw [← hd] at hb ⊢; rw [hd] at hb ⊢; rw [hd] at hr; omega
      rw [← hN]; exact Nat.mul_mod_left _ _
  · intro hz
    have hc := cut_exact _ _ hz
    have hN : (4503599627370496 + m) / 2 ^ (1075 - e) * 2 ^ (1075 - e) = 4503599627370496 + m := Nat.div_mul_cancel (Nat.dvd_of_mod_eq_zero hz)
    rw [hc] at hlog ⊢
    generalize hq : (4503599627370496 + m) / 2 ^ (1075 - e) = q at hlog hN ⊢
    have q0 : q ≠ 0 := by intro h; rw [h] at hN; omega
    have hd : 1075 - e ≤ 52 := by
      rcases Nat.lt_or_ge 52 (1075 - e) with hlt | hge
      · have : 2 ^ 53 ≤ 2 ^ (1075 - e) := Nat.pow_le_pow_right (by omega) (by omega)
        have : 1 * 2 ^ (1075 - e) ≤ q * 2 ^ (1075 - e) := Nat.mul_le_mul_right _ (by omega)
        omega
      · exact hge
    have hl : q.log2 = 52 - (1075 - e) := by
      refine log2_eq ?_ ?_
      · have : 2 ^ (52 - (1075 - e)) * 2 ^ (1075 - e) ≤ q * 2 ^ (1075 - e) := by rw [← Nat.pow_add, hN, show 52 - (1075 - e) + (1075 - e) = 52 by omega]; omega
        exact Nat.le_of_mul_le_mul_right this hp
      · have : q * 2 ^ (1075 - e) < 2 ^ (52 - (1075 - e) + 1) * 2 ^ (1075 - e) := by rw [← Nat.pow_add, hN, show 52 - (1075 - e) + 1 + (1075 - e) = 53 by omega]; omega
        exact Nat.lt_of_mul_lt_mul_right this
    unfold rgN
    rw [if_neg q0, hl, show 52 - (52 - (1075 - e)) = 1075 - e by omega, hN]
    omega
end Go.Proofs.Ytkohgkbeecadeaa.Fl
