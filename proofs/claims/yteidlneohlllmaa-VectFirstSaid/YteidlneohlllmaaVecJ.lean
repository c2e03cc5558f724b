/- The reference's First. -/
import Derived.Test.YteidlneohlllmaaVecI
import Derived.Laws.OwnMore
namespace Go.Proofs.Yteidlneohlllmaa
open Go.RowKit Go.ChangeShapes Go.WideShapes Go.ChangeAt Go.Deep

theorem set_last_perm {R : List (Int × Int)} {m k : Nat} (hl : R.length = m + 1) (hk : k < m + 1) : ((R[k]?.getD (0, 0)) :: (R.set k (R[m]?.getD (0, 0))).take m).Perm R := by
  rw [List.set_eq_take_append_cons_drop, if_pos (by omega)]
  have e1 : R[k]?.getD (0, 0) = R[k] := by rw [List.getElem?_eq_getElem (by omega)]; rfl
  have e2 : R[m]?.getD (0, 0) = R[m] := by rw [List.getElem?_eq_getElem (by omega)]; rfl
  rw [e1, e2]
  by_cases h : k = m
  · subst h
    rw [List.take_left' (by rw [List.length_take]; omega)]
    have : R = R.take k ++ [R[k]] := by
      conv => lhs; rw [← List.take_append_drop k R, List.drop_eq_getElem_cons (by omega)]
      rw [List.drop_of_length_le (by omega)]
    rw [List.perm_iff_count]; intro c
    have h0 := congrArg (List.count c) this
    simp only [List.count_append, List.count_cons, List.count_nil] at h0 ⊢
    omega
  · have h1 : R = R.take k ++ R[k] :: ((R.drop (k + 1)).take (m - k - 1) ++ [R[m]]) := by
      conv => lhs; rw [← List.take_append_drop k R, List.drop_eq_getElem_cons (by omega)]
      congr 2
      have h3 : (R.drop (k + 1)).drop (m - k - 1) = [R[m]] := by
        rw [List.drop_drop, show k + 1 + (m - k - 1) = m by omega, List.drop_eq_getElem_cons (by omega), List.drop_of_length_le (by omega)]
      rw [← h3, List.take_append_drop]
    have h2 : (R.take k ++ R[m] :: R.drop (k + 1)).take m = R.take k ++ R[m] :: (R.drop (k + 1)).take (m - k - 1) := by
      rw [List.take_append, List.take_take, List.length_take, Nat.min_eq_right (by omega), Nat.min_eq_left (by omega)]
      congr 1
      rw [show m - k = (m - k - 1) + 1 by omega, List.take_succ_cons]
      rfl
    rw [h2]
    rw [List.perm_iff_count]; intro c
    have h0 := congrArg (List.count c) h1
    simp only [List.count_append, List.count_cons, List.count_nil] at h0 ⊢
    omega
theorem hc_set : ∀ (R : List (Int × Int)) (k : Nat) (y : Int × Int), hc (R.set k y) = ((hc R).set (k * 2) (.int .u64 y.1)).set (k * 2 + 1) (.int .i64 y.2)
  | [], k, y => by simp [hc]
  | x :: r, 0, y => by simp [hc]
  | x :: r, k + 1, y => by
    have ih := hc_set r k y
    simp only [hc, List.flatMap_cons, List.set_cons_succ] at ih ⊢
    rw [ih, show (k + 1) * 2 = k * 2 + 1 + 1 by omega]
    rfl
theorem own_keep {w w' : World} {base : Nat} {e : TypeId} {size : Nat} {v : Value} {n : Nat} {xs : List Value} (h : w.ownsRow base e size v n xs) (hk : ∀ g, v.ownBlock = some g → w'.heap[g]? = w.heap[g]?) : w'.ownsRow base e size v n xs := by
  obtain ⟨h1, h2⟩ := h
  refine ⟨h1, ?_⟩
  rcases h2 with h2 | ⟨g, cap, cur, rfl, hg, hh, r⟩
  · exact .inl h2
  · exact .inr ⟨g, cap, cur, rfl, hg, by rw [hk g rfl]; exact hh, r⟩
theorem least_step {R : List (Int × Int)} {m k : Nat} (hl : R.length = m + 1) (hk : k < m + 1) (ha : ∀ q, q < m + 1 → aheadB (R[q]?.getD (0, 0)) (R[k]?.getD (0, 0)) = false) :
    sortH R = R[k]?.getD (0, 0) :: sortH ((R.set k (R[m]?.getD (0, 0))).take m) := by
  refine sortH_cons (set_last_perm hl hk) fun y hy => ?_
  have hy' : y ∈ R := (set_last_perm hl hk).subset (List.mem_cons_of_mem _ hy)
  obtain ⟨q, hq, rfl⟩ := List.getElem_of_mem hy'
  have := ha q (by omega)
  rw [List.getElem?_eq_getElem hq] at this
  rw [ltH, decide_eq_false_iff_not]
  simp only [aheadB, Option.getD_some, Bool.or_eq_false_iff, Bool.and_eq_false_iff, decide_eq_false_iff_not] at this
  omega
theorem aheadB_lt (x y : Int × Int) : aheadB x y = decide (x.2 < y.2 ∨ (x.2 = y.2 ∧ x.1 < y.1)) := by
  simp [aheadB]
/-- The next least place. -/
theorem least_next {R : List (Int × Int)} {i k : Nat} (hk : k < i) (ha : ∀ q, q < i → aheadB (R[q]?.getD (0, 0)) (R[k]?.getD (0, 0)) = false) :
    (aheadB (R[i]?.getD (0, 0)) (R[k]?.getD (0, 0)) = true → ∀ q, q < i + 1 → aheadB (R[q]?.getD (0, 0)) (R[i]?.getD (0, 0)) = false) ∧
    (aheadB (R[i]?.getD (0, 0)) (R[k]?.getD (0, 0)) = false → ∀ q, q < i + 1 → aheadB (R[q]?.getD (0, 0)) (R[k]?.getD (0, 0)) = false) := by
  refine ⟨fun h q hq => ?_, fun h q hq => ?_⟩
  · rcases Nat.lt_succ_iff_lt_or_eq.1 hq with hq | rfl
    · have := ha q hq
      simp only [aheadB_lt, decide_eq_false_iff_not, decide_eq_true_eq] at *
      omega
    · simp [aheadB]
  · rcases Nat.lt_succ_iff_lt_or_eq.1 hq with hq | rfl
    · exact ha q hq
    · exact h
end Go.Proofs.Yteidlneohlllmaa
