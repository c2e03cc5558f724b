/- Forms of numbers, counts, texts, records, requests, replies: bytes as lists of numbers; no program in sight. -/
import Derived.Test.YtcgmgdjeamidlaaGreatSsL
namespace Go.Proofs.YtcgmgdjeamidlaaGreat
set_option linter.unusedVariables false
set_option linter.unusedSimpArgs false

def leV : List Int → Int
  | [] => 0
  | c :: r => c + 256 * leV r
theorem leAt_succ (n : Int) (i : Nat) : leAt n (i + 1) = leAt (n / 256) i := by
  unfold leAt
  rw [show (2 : Int) ^ (8 * (i + 1)) = 256 * 2 ^ (8 * i) by rw [Nat.mul_succ, Int.pow_add]; rw [Int.mul_comm]; rfl, Int.ediv_ediv_of_nonneg (by omega)]
theorem leB_cons (n : Int) (k : Nat) : leB n (k + 1) = n % 256 :: leB (n / 256) k := by
  unfold leB
  rw [List.range_succ_eq_map, List.map_cons, List.map_map]
  congr 1
  · simp [leAt]
  · exact List.map_congr_left fun i _ => leAt_succ n i
theorem leV_leB (k : Nat) : ∀ (n : Int), 0 ≤ n → n < 256 ^ k → leV (leB n k) = n := by
  induction k with
  | zero => intro n h0 h1; simp at h1; simp [leB, leV]; omega
  | succ k ih =>
    intro n h0 h1
    rw [leB_cons, leV, ih (n / 256) (by omega) (by rw [Int.pow_succ] at h1; omega)]
    omega
theorem leV_lt : ∀ (xs : List Int), IsBy xs → 0 ≤ leV xs ∧ leV xs < 256 ^ xs.length
  | [], _ => by simp [leV]
  | c :: r, h => by
    have h1 := h c (by simp)
    have h2 := leV_lt r fun x hx => h x (List.mem_cons_of_mem _ hx)
    rw [leV, List.length_cons, Int.pow_succ]
    omega
theorem leV_snoc (xs : List Int) (c : Int) : leV (xs ++ [c]) = leV xs + c * 256 ^ xs.length := by
  induction xs with
  | nil => simp [leV]
  | cons x r ih =>
    rw [List.cons_append, leV, ih, leV, List.length_cons, Int.pow_succ, Int.mul_add, ← Int.add_assoc]
    congr 1
    rw [Int.mul_left_comm, Int.mul_comm (256 ^ _) 256]
theorem IsBy.append {xs ys : List Int} (h : IsBy xs) (k : IsBy ys) : IsBy (xs ++ ys) := fun x hx => by
  rcases List.mem_append.1 hx with hx | hx
  · exact h x hx
  · exact k x hx
theorem IsBy.drop {xs : List Int} (h : IsBy xs) (n : Nat) : IsBy (xs.drop n) := fun x hx => h x (List.mem_of_mem_drop hx)
theorem IsBy.take {xs : List Int} (h : IsBy xs) (n : Nat) : IsBy (xs.take n) := fun x hx => h x (List.mem_of_mem_take hx)
theorem IsBy.nil : IsBy [] := fun x hx => by simp at hx
theorem IsBy.one {x : Int} (h0 : 0 ≤ x) (h1 : x < 256) : IsBy [x] := fun y hy => by simp at hy; omega
/-! ### counts -/
def uvB (n : Nat) : List Int := if h : n < 128 then [(n : Int)] else ((n % 128 + 128 : Nat) : Int) :: uvB (n / 128)
termination_by n
decreasing_by omega
theorem uvB_small {n : Nat} (h : n < 128) : uvB n = [(n : Int)] := by rw [uvB, dif_pos h]
theorem uvB_big {n : Nat} (h : ¬ n < 128) : uvB n = ((n % 128 + 128 : Nat) : Int) :: uvB (n / 128) := by rw [uvB, dif_neg h]
theorem uvB_by (n : Nat) : IsBy (uvB n) := by
  induction n using Nat.strongRecOn with
  | ind n ih =>
    by_cases h : n < 128
    · rw [uvB_small h]; exact IsBy.one (by omega) (by omega)
    · rw [uvB_big h]
      intro x hx
      rcases List.mem_cons.1 hx with rfl | hx
      · omega
      · exact ih (n / 128) (by omega) x hx
theorem uvB_pos (n : Nat) : 0 < (uvB n).length := by
  by_cases h : n < 128
  · rw [uvB_small h]; simp
  · rw [uvB_big h]; simp
theorem uvB_len (k : Nat) : ∀ n : Nat, n < 128 ^ k → 0 < k → (uvB n).length ≤ k := by
  induction k with
  | zero => intro n _ h; omega
  | succ k ih =>
    intro n h _
    by_cases h1 : n < 128
    · rw [uvB_small h1]; simp
    · rw [uvB_big h1, List.length_cons]
      rw [Nat.pow_succ] at h
      have h2 : n / 128 < 128 ^ k := by omega
      have hk : 0 < k := by
        rcases Nat.eq_zero_or_pos k with rfl | hk
        · simp at h2; omega
        · exact hk
      have := ih (n / 128) h2 hk
      omega
/-- A count that comes next: its value, how many bytes it has, whether it is the shortest. -/
def cnt : List Int → Nat → Int → Int × Int × Bool
  | [], _, _ => (0, 0, false)
  | c :: r, i, acc => if (i = 9 ∧ 1 < c) ∨ 9 < i then (0, 0, false) else if c < 128 then (acc + c % 128 * 128 ^ i, (i : Int) + 1, decide (i = 0 ∨ c ≠ 0)) else cnt r (i + 1) (acc + c % 128 * 128 ^ i)
theorem cnt_uvB (rest : List Int) (n : Nat) : ∀ (i : Nat) (acc : Int), n * 128 ^ i < 18446744073709551616 → (i = 0 ∨ 0 < n) → cnt (uvB n ++ rest) i acc = (acc + (n : Int) * 128 ^ i, (i : Int) + ((uvB n).length : Int), true) := by
  induction n using Nat.strongRecOn with
  | ind n ih =>
    intro i acc hlt hz
    have h9 : ¬ 9 < i := by
      intro h9
      rcases hz with rfl | hz
      · omega
      · have : (128 : Nat) ^ 10 ≤ 128 ^ i := Nat.pow_le_pow_right (by omega) h9
        have h3 := Nat.le_mul_of_pos_left (128 ^ i) hz
        have h4 : (128 : Nat) ^ 10 = 1180591620717411303424 := by decide
        omega
    by_cases h : n < 128
    · rw [uvB_small h]
      simp only [List.cons_append, List.nil_append, cnt]
      rw [if_neg, if_pos (by omega)]
      · rw [Int.emod_eq_of_lt (by omega) (by omega)]
        have : decide (i = 0 ∨ (n : Int) ≠ 0) = true := decide_eq_true (by omega)
        rw [this]
        simp
      · rintro (⟨rfl, h1⟩ | h1)
        · have h4 : (128 : Nat) ^ 9 = 9223372036854775808 := by decide
          rw [h4] at hlt
          omega
        · exact h9 h1
    · rw [uvB_big h]
      simp only [List.cons_append, cnt]
      rw [if_neg, if_neg (by omega)]
      · have hd : n / 128 * 128 ^ (i + 1) < 18446744073709551616 := by
          rw [Nat.pow_succ, Nat.mul_comm (128 ^ i) 128, ← Nat.mul_assoc]
          exact Nat.lt_of_le_of_lt (Nat.mul_le_mul_right _ (Nat.div_mul_le_self n 128)) hlt
        rw [ih (n / 128) (by omega) (i + 1) _ hd (.inr (by omega))]
        have e1 : (((n % 128 + 128 : Nat) : Int)) % 128 = ((n % 128 : Nat) : Int) := by omega
        rw [e1, List.length_cons]
        have e2 : (n : Int) = ((n % 128 : Nat) : Int) + 128 * ((n / 128 : Nat) : Int) := by omega
        refine Prod.ext ?_ (Prod.ext ?_ rfl)
        · show acc + ((n % 128 : Nat) : Int) * 128 ^ i + ((n / 128 : Nat) : Int) * 128 ^ (i + 1) = acc + (n : Int) * 128 ^ i
          rw [Int.pow_succ]
          generalize (128 : Int) ^ i = P at *
          rw [Int.add_assoc, ← Int.mul_assoc, Int.mul_right_comm, ← Int.add_mul]
          congr 2
          omega
        · show ((i + 1 : Nat) : Int) + ((uvB (n / 128)).length : Int) = (i : Int) + (((uvB (n / 128)).length + 1 : Nat) : Int)
          omega
      · rintro (⟨rfl, h1⟩ | h1)
        · have h4 : (128 : Nat) ^ 9 = 9223372036854775808 := by decide
          rw [h4] at hlt
          omega
        · exact h9 h1
/-! ### texts, records -/
def textB (s : List Int) : List Int := uvB s.length ++ s
def u32 (v : Int) : Int := v % 4294967296
def vecB (l : List Int) : List Int := l.flatMap fun v => leB (u32 v) 4
def flsB (l : List Int) : List Int := l.flatMap fun v => leB v 8
theorem fm_len (f : Int → List Int) (k : Nat) (hf : ∀ x, (f x).length = k) (l : List Int) : (l.flatMap f).length = k * l.length := by
  induction l with
  | nil => simp
  | cons x l ih => rw [List.flatMap_cons, List.length_append, ih, hf, List.length_cons, Nat.mul_succ]; omega
theorem vecB_len (l : List Int) : (vecB l).length = 4 * l.length := fm_len _ 4 (fun x => leB_len _ _) l
theorem flsB_len (l : List Int) : (flsB l).length = 8 * l.length := fm_len _ 8 (fun x => leB_len _ _) l
theorem fm_by (f : Int → List Int) (hf : ∀ x, IsBy (f x)) (l : List Int) : IsBy (l.flatMap f) := fun x hx => by
  obtain ⟨y, _, hy⟩ := List.mem_flatMap.1 hx
  exact hf y x hy
theorem vecB_by (l : List Int) : IsBy (vecB l) := fm_by _ (fun _ => leB_by _ _) l
theorem flsB_by (l : List Int) : IsBy (flsB l) := fm_by _ (fun _ => leB_by _ _) l
theorem textB_by {s : List Int} (h : IsBy s) : IsBy (textB s) := (uvB_by _).append h
/-- A record's form. -/
def itemB (x : Int × List Int × List Int) : List Int := leB x.1 8 ++ uvB x.2.1.length ++ vecB x.2.1 ++ textB x.2.2
theorem itemB_by {x : Int × List Int × List Int} (h : IsBy x.2.2) : IsBy (itemB x) := (((leB_by _ _).append (uvB_by _)).append (vecB_by _)).append (textB_by h)
/-- The k numbers of n bytes each with which bytes begin. -/
def nums (n k : Nat) (xs : List Int) : List Int := (List.range k).map fun i => leV ((xs.drop (n * i)).take n)
theorem nums_succ (n k : Nat) (xs : List Int) : nums n (k + 1) xs = nums n k xs ++ [leV ((xs.drop (n * k)).take n)] := by simp [nums, List.range_succ]
theorem nums_len (n k : Nat) (xs : List Int) : (nums n k xs).length = k := by simp [nums]
theorem nums_cons (n k : Nat) (a xs : List Int) (ha : a.length = n) : nums n (k + 1) (a ++ xs) = leV a :: nums n k xs := by
  unfold nums
  rw [List.range_succ_eq_map, List.map_cons, List.map_map]
  congr 1
  · rw [Nat.mul_zero, List.drop_zero, List.take_append_of_le_length (by omega), List.take_of_length_le (by omega)]
  · refine List.map_congr_left fun i _ => ?_
    show leV (((a ++ xs).drop (n * (i + 1))).take n) = _
    rw [Nat.mul_succ, show n * i + n = a.length + n * i by omega, List.drop_append, List.drop_of_length_le (by omega), List.nil_append, Nat.add_sub_cancel_left]
theorem nums_fm (f : Int → List Int) (g : Int → Int) (n : Nat) (hf : ∀ x, (f x).length = n) (l : List Int) (rest : List Int) (hg : ∀ x ∈ l, leV (f x) = g x) : nums n l.length (l.flatMap f ++ rest) = l.map g := by
  induction l with
  | nil => simp [nums]
  | cons x l ih =>
    rw [List.flatMap_cons, List.append_assoc, List.length_cons, nums_cons n _ _ _ (hf x), ih (fun y hy => hg y (List.mem_cons_of_mem _ hy)), hg x (by simp), List.map_cons]
/-- A number of 32 bits, with its sign. -/
def i32 (u : Int) : Int := if u < 2147483648 then u else u - 4294967296
theorem i32_u32 {v : Int} (h0 : -2147483648 ≤ v) (h1 : v < 2147483648) : i32 (u32 v) = v := by
  unfold i32 u32
  split <;> omega
theorem nums_vec (l rest : List Int) (h : ∀ x ∈ l, -2147483648 ≤ x ∧ x < 2147483648) : (nums 4 l.length (vecB l ++ rest)).map i32 = l := by
  unfold vecB
  rw [nums_fm _ u32 4 (fun x => leB_len _ _) l rest fun x hx => leV_leB 4 _ (by unfold u32; omega) (by unfold u32; omega), List.map_map]
  conv => rhs; rw [← List.map_id l]
  exact List.map_congr_left fun x hx => i32_u32 (h x hx).1 (h x hx).2
theorem nums_fls (l rest : List Int) (h : ∀ x ∈ l, 0 ≤ x ∧ x < 18446744073709551616) : nums 8 l.length (flsB l ++ rest) = l := by
  unfold flsB
  rw [nums_fm (fun v => leB v 8) (fun x => x) 8 (fun x => leB_len _ _) l rest fun x hx => leV_leB 8 x (h x hx).1 (by have := (h x hx).2; omega)]
  simp
end Go.Proofs.YtcgmgdjeamidlaaGreat
