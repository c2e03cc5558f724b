/- The metric's laws on lists, in plain numbers. -/
import Derived.Test.YteidlneohlllmaaVecD
namespace Go.Proofs.Yteidlneohlllmaa
open Go.RowKit

theorem ab_neg (d : Int) : ab (-d) = ab d := by unfold ab; split <;> split <;> omega
theorem distTo_comm (xs ys : List Int) (k : Nat) : distTo ys xs k = distTo xs ys k := by
  induction k with
  | zero => rfl
  | succ k ih =>
    simp only [distTo, ih]
    rw [show ys[k]?.getD 0 - xs[k]?.getD 0 = -(xs[k]?.getD 0 - ys[k]?.getD 0) by omega, ab_neg]
theorem distTo_tri (xs ys zs : List Int) (k : Nat) : distTo xs zs k ≤ distTo xs ys k + distTo ys zs k := by
  induction k with
  | zero => simp [distTo]
  | succ k ih =>
    simp only [distTo, ab]
    split <;> split <;> split <;> omega
theorem distTo_nonneg (xs ys : List Int) (k : Nat) : 0 ≤ distTo xs ys k := by
  induction k with
  | zero => simp [distTo]
  | succ k ih => simp only [distTo, ab]; split <;> omega
theorem distTo_zero (xs ys : List Int) (k : Nat) (h : distTo xs ys k = 0) : ∀ i, i < k → xs[i]?.getD 0 = ys[i]?.getD 0 := by
  induction k with
  | zero => intro i hi; omega
  | succ k ih =>
    have h0 := distTo_nonneg xs ys k
    simp only [distTo, ab] at h
    intro i hi
    rcases Nat.lt_succ_iff_lt_or_eq.1 hi with hlt | rfl
    · refine ih ?_ i hlt
      split at h <;> omega
    · split at h <;> omega
theorem distTo_self (xs : List Int) (k : Nat) : distTo xs xs k = 0 := by
  induction k with
  | zero => rfl
  | succ k ih => simp [distTo, ih, ab]
theorem dist_same (xs ys : List Int) (n : Nat) (h1 : xs.length = n) (h2 : ys.length = n) : (distTo xs ys n = 0 ∧ sameB xs ys = true) ∨ (distTo xs ys n ≠ 0 ∧ sameB xs ys = false) := by
  by_cases h : distTo xs ys n = 0
  · exact .inl ⟨h, sameB_eq xs ys (by rw [h1, h2]) (fun i hi => distTo_zero xs ys n h i (by omega))⟩
  · refine .inr ⟨h, ?_⟩
    simp only [sameB, decide_eq_false_iff_not]
    rintro rfl
    exact h (distTo_self xs n)
theorem dist_n (v1 v2 : Value) (xs ys : List Int) (n : Nat) (D : Int) (w : World) (h1 : Ints .i32 w v1 xs) (h2 : Ints .i32 w v2 ys) (hx : In32 xs) (hy : In32 ys)
    (l1 : xs.length = n) (l2 : ys.length = n) (n1 : 1 ≤ n) (n2 : n ≤ 4096) (hD : distTo xs ys n = D) :
    Calls Try.prog 10 #[v1, v2] w fun e w' => e = .returned (.tuple #[.int .i64 D, .int .i64 0]) ∧ w = w' := by
  have := dist_any v1 v2 xs ys w h1 h2 hx hy (by omega) (by omega)
  unfold distF distE at this
  rw [if_pos (by omega), if_pos (by omega), l1, hD] at this
  exact this
theorem low_facts (a b c : Int) (ha : 0 ≤ a) (hb : 0 ≤ b) (h : a ≤ b + c) (h2 : b ≤ a + c) : (a < b ∧ lowF a b = 0 ∧ lowF b a = b - a ∧ apartF a b = b - a) ∨ (b ≤ a ∧ lowF a b = a - b ∧ lowF b a = 0 ∧ apartF a b = a - b) := by
  unfold lowF apartF
  by_cases hlt : a < b
  · left
    refine ⟨hlt, ?_, ?_, ?_⟩ <;> rw [if_neg (by omega)] <;> (first | rw [if_pos (by omega)] | rw [if_neg (by omega)])
  · right
    refine ⟨by omega, ?_, ?_, ?_⟩ <;> rw [if_neg (by omega)]
    · rw [if_neg (by omega)]
    · by_cases h3 : b < a
      · rw [if_pos h3]
      · rw [if_neg h3]; omega
    · rw [if_neg (by omega)]
end Go.Proofs.Yteidlneohlllmaa
