/- The plain law of merging: the first of the firsts of each. -/
import Derived.Test.YteidlneohlllmaaVecK
namespace Go.Proofs.Yteidlneohlllmaa
open Go.RowKit Go.ChangeShapes Go.WideShapes Go.ChangeAt Go.Deep

def leH (x y : Int × Int) : Bool := !(ltOf cfH) y x
theorem leH_trans : ∀ a b c : Int × Int, leH a b = true → leH b c = true → leH a c = true := by
  intro a b c h1 h2
  unfold leH at *
  rw [Bool.not_eq_true', ltH, decide_eq_false_iff_not] at *
  omega
theorem leH_total : ∀ a b : Int × Int, (leH a b || leH b a) = true := by
  intro a b
  unfold leH
  rw [ltH, ltH]
  by_cases h : b.2 < a.2 ∨ (b.2 = a.2 ∧ b.1 < a.1)
  · rw [decide_eq_true h, decide_eq_false (by omega)]; rfl
  · rw [decide_eq_false h]; rfl
theorem take_merge (le : Int × Int → Int × Int → Bool) : ∀ (K : Nat) (A B : List (Int × Int)) (p q : Nat), K ≤ p → K ≤ q → (List.merge (A.take p) (B.take q) le).take K = (List.merge A B le).take K
  | 0, A, B, p, q, _, _ => by simp
  | K + 1, [], B, p, q, h1, h2 => by simp [List.take_take, Nat.min_eq_left h2]
  | K + 1, a :: A, [], p, q, h1, h2 => by simp [List.take_take, Nat.min_eq_left h1]
  | K + 1, a :: A, b :: B, p + 1, q + 1, h1, h2 => by
    rw [List.take_succ_cons, List.take_succ_cons, List.cons_merge_cons, List.cons_merge_cons]
    by_cases h : le a b = true
    · rw [if_pos h, if_pos h, List.take_succ_cons, List.take_succ_cons]
      have ih := take_merge le K A (b :: B) p (q + 1) (by omega) (by omega)
      rw [List.take_succ_cons] at ih
      rw [ih]
    · rw [if_neg h, if_neg h, List.take_succ_cons, List.take_succ_cons]
      have ih := take_merge le K (a :: A) B (p + 1) q (by omega) (by omega)
      rw [List.take_succ_cons] at ih
      rw [ih]
theorem sortH_merge {A B : List (Int × Int)} (hA : A.Pairwise fun x y => leH x y = true) (hB : B.Pairwise fun x y => leH x y = true) : sortH (A ++ B) = List.merge A B leH :=
  sortH_unique (List.merge_perm_append _) (List.pairwise_merge leH_trans leH_total _ _ hA hB)
theorem take_min {l : List (Int × Int)} {n K : Nat} (h : l.length = n) : l.take (min n K) = l.take K := by
  by_cases hk : n ≤ K
  · rw [Nat.min_eq_left hk, List.take_of_length_le (by omega), List.take_of_length_le (by omega)]
  · rw [Nat.min_eq_right (by omega)]
theorem merge_law (xs ys : List (Int × Int)) (k : Int) : (sortH (firstF xs k ++ firstF ys k)).take (askN (askN xs.length k + askN ys.length k) k) = (sortH (xs ++ ys)).take (askN (xs.length + ys.length) k) := by
  have e1 : firstF xs k = (sortH xs).take k.toNat := take_min (sortH_length xs)
  have e2 : firstF ys k = (sortH ys).take k.toNat := take_min (sortH_length ys)
  have l1 : (sortH (firstF xs k ++ firstF ys k)).length = askN xs.length k + askN ys.length k := by rw [sortH_length, List.length_append, firstF_len, firstF_len]
  have l2 : (sortH (xs ++ ys)).length = xs.length + ys.length := by rw [sortH_length, List.length_append]
  have t1 := take_min (K := k.toNat) l1
  have t2 := take_min (K := k.toNat) l2
  unfold askN at t1 ⊢
  rw [t1, t2, e1, e2]
  have s1 : (sortH xs).Pairwise fun x y => leH x y = true := sortH_sorted xs
  have s2 : (sortH ys).Pairwise fun x y => leH x y = true := sortH_sorted ys
  rw [sortH_merge (s1.sublist (List.take_sublist _ _)) (s2.sublist (List.take_sublist _ _)), take_merge leH _ _ _ _ _ (Nat.le_refl _) (Nat.le_refl _), ← sortH_merge s1 s2]
  rw [sortH_congr ((sortH_perm xs).append (sortH_perm ys))]
end Go.Proofs.Yteidlneohlllmaa
