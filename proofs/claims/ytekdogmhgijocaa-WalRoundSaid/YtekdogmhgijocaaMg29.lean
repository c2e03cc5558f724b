/- Forms of numbers, counts, texts: bytes as lists of numbers (printed by gen_st.py). -/
import Derived.Test.YtekdogmhgijocaaWsA
namespace Go.Proofs.Ytekdogmhgijocaa
open Go.RowKit Go.ChangeShapes Go.WideShapes Go.ChangeAt
theorem IsBy.at_ {xs : List Int} (h : IsBy xs) {i : Nat} (hi : i < xs.length) : ∃ c : Nat, xs[i]? = some (c : Int) ∧ c < 256 := by
  have h1 := h _ (List.getElem_mem hi)
  exact ⟨(xs[i]).toNat, by rw [List.getElem?_eq_getElem hi]; congr 1; omega, by omega⟩





theorem SlRd.at_ {q : IntKind} {w : World} {s : Sl} (h : SlRd q w s) {j : Nat} {z : Int} (hz : s.xs[j]? = some z) : ∃ b o, s.a = some ⟨b, o, none⟩ ∧ ∀ i z, s.xs[i]? = some z → w.cell? ⟨b, o + i, none⟩ = some (.int q z) := by
  have hj := (List.getElem?_eq_some_iff.1 hz).1
  rcases h.ints with ⟨h1, _⟩ | ⟨b, off, cap, e, hc⟩
  · rw [h1] at hj; simp at hj
  · unfold Sl.v at e
    simp only [Value.slice.injEq] at e
    exact ⟨b, off, e.1, fun i z hz => by rw [hc i (List.getElem?_eq_some_iff.1 hz).1, hz]; rfl⟩
theorem SlRd.no (q : IntKind) (w : World) : SlRd q w Sl.no := (SlAt.no q w).rd
theorem SlAt.of_own {q : IntKind} {w : World} {B n : Nat} {e : TypeId} {v : Value} {xs : List Int} (h : w.ownsRow B e 1 v n (xs.map (Value.int q))) (hn : xs.length ≤ 1000000) : ∃ s : Sl, v = s.v ∧ s.xs = xs ∧ SlAt q w s ∧ ∀ b ∈ s.bs, B ≤ b := by
  have hl := h.1
  simp only [List.length_map, Nat.mul_one] at hl
  have hi := ints_own h
  have hlt := h.lt
  rcases h.2 with ⟨rfl, h0⟩ | ⟨g, cap, cur, rfl, _, hgh, hc, _⟩
  · have hx : xs = [] := List.length_eq_zero_iff.1 (by omega)
    subst hx
    exact ⟨Sl.no, rfl, rfl, SlAt.no q w, by simp [Sl.bs, Sl.no]⟩
  · refine ⟨⟨some ⟨g, 0, none⟩, cap, xs⟩, by simp [Sl.v, hl], rfl, ⟨by simpa [Sl.v, hl] using hi, fun b hb => ?_, by simp, hn, fun b hb => ?_⟩, fun b hb => ?_⟩
    · simp [Sl.bs] at hb
      subst hb
      exact (hlt _ rfl).2
    · simp [Sl.bs] at hb
      subst hb
      exact ⟨_, _, hgh⟩
    · simp [Sl.bs] at hb
      subst hb
      exact (hlt _ rfl).1
def CopyTo (q : IntKind) (xs : List Int) (w : World) (e : Ending) (w' : World) : Prop := ∃ s : Sl, e = .returned s.v ∧ s.xs = xs ∧ SlAt q w' s ∧ (∀ b ∈ s.bs, w.heap.size ≤ b) ∧ Below w.heap.size w w'
theorem infoU8 : (Try.prog.info? 5).map (fun i => (i.zero, i.size, i.bytes)) = some (some (.int .u8 0), 1, 1) := by kernel_rfl
set_option maxHeartbeats 1000000 in
theorem clone_u8 {s : Sl} {w : World} (h : SlRd .u8 w s) : Calls Try.prog 67 #[s.v] w (CopyTo .u8 s.xs w) := by
  cases ha : s.a with
  | none =>
    obtain ⟨e1, e2⟩ := h.nn ha
    have es : s.v = .slice none 0 0 := by simp [Sl.v, ha, e1, e2]
    have ex := Lib.hid e1
    rw [es]
    clear h e1 e2 es ha
    have qT : ∀ w : World, (binOp .eql 32 (.slice none 0 0) (.slice none 0 0)).run Try.prog w = .ok (.bool true) w := fun w => by kernel_rfl
    go_enter Try.func67, Try.ntmps67
    go_wp2_with fail
    go_ret
    exact ⟨Sl.no, rfl, ex.out.symm, SlAt.no _ _, by simp [Sl.bs, Sl.no], Below.refl _ _⟩
  | some ad =>
    have hs := Lib.hid h.src
    have hle := Lib.hid h.le
    have es : s.v = .slice (some ad) s.xs.length s.c := by simp [Sl.v, ha]
    rw [es] at hs ⊢
    clear h es ha
    obtain ⟨i0, hi, hz0, hz1, hz2⟩ := info_parts infoU8
    generalize s.xs = xs at *
    generalize s.c = c at *
    obtain ⟨m, hm⟩ : ∃ m, xs.length = m := ⟨_, rfl⟩
    have HM := Lib.hid hm
    rw [hm] at hs hle ⊢
    clear hm
    have qT : ∀ w : World, (binOp .eql 32 (.slice (some ad) m c) (.slice none 0 0)).run Try.prog w = .ok (.bool false) w := fun w => by kernel_rfl
    have EM : Hid (World.ownsRow (w.alloc (.cells #[] 5)) w.heap.size 5 1 (.slice (some ⟨w.heap.size, 0, none⟩) 0 0) 0 []) := Lib.hid (World.ownsRow_lit w #[] 0 (Nat.le_refl _) (by simp) rfl)
    go_enter Try.func67, Try.ntmps67
    go_wp2_with (at_builtin; refine wpList_append_src rfl (.tmp 5) (.tmp 6) 32 rfl w.heap.size 5 i0 (.int .u8 0) 1 1 Try.underlying32 hi hz0 hz1 hz2 rfl (by decide) _ 0 [] rfl EM.out _ m (xs.map (Value.int .u8)) rfl (hs.out.below ((Below.refl _ _).alloc (Nat.le_refl _) _)) (by simp [Value.oneCell']) (by have := hle.out; unfold maxLen; omega) (by have := hle.out; omega) (by simp) ?_; intro v' w' hown' hgrow)
    go_ret
    rw [Nat.zero_add, List.nil_append] at hown'
    obtain ⟨s2, e1, e2, e3, e4⟩ := SlAt.of_own hown' (by rw [HM.out]; exact hle.out)
    exact ⟨s2, by rw [← e1]; rfl, e2, e3, e4, ((Below.refl _ _).alloc (Nat.le_refl _) _).grown hgrow (by simp) (fun k hk => by simp [Act.eval, Value.ownBlock] at hk; omega)⟩

theorem IsBy.append {xs ys : List Int} (h : IsBy xs) (k : IsBy ys) : IsBy (xs ++ ys) := fun x hx => by
  rcases List.mem_append.1 hx with hx | hx
  · exact h x hx
  · exact k x hx
theorem IsBy.drop {xs : List Int} (h : IsBy xs) (n : Nat) : IsBy (xs.drop n) := fun x hx => h x (List.mem_of_mem_drop hx)
theorem IsBy.take {xs : List Int} (h : IsBy xs) (n : Nat) : IsBy (xs.take n) := fun x hx => h x (List.mem_of_mem_take hx)
theorem IsBy.nil : IsBy [] := fun x hx => by simp at hx
theorem IsBy.one {x : Int} (h0 : 0 ≤ x) (h1 : x < 256) : IsBy [x] := fun y hy => by simp at hy; omega
end Go.Proofs.Ytekdogmhgijocaa
namespace Go.Proofs.Ytekdogmhgijocaa.st
open Go.Proofs.Ytekdogmhgijocaa
set_option linter.unusedVariables false
set_option linter.unusedSimpArgs false

def leV : List Int → Int
  | [] => 0
  | c :: r => c + 256 * leV r
theorem leAt_succ (n : Int) (i : Nat) : leAt n (i + 1) = leAt (n / 256) i := by
  unfold leAt
  rw [show (2 : Int) ^ (8 * (i + 1)) = 256 * 2 ^ (8 * i) by rw [Nat.mul_succ, Int.pow_add]; rw [Int.mul_comm]; rfl, Int.ediv_ediv_of_nonneg (by omega)]
theorem leB_cons (n : Int) (k : Nat) : leB n (k + 1) = n % 256 :: leB (n / 256) k := by
  unfold leB
  rw [List.range_succ_eq_map, List.map_cons, List.map_map]
  congr 1
  · simp [leAt]
  · exact List.map_congr_left fun i _ => leAt_succ n i
theorem leV_leB (k : Nat) : ∀ (n : Int), 0 ≤ n → n < 256 ^ k → leV (leB n k) = n := by
  induction k with
  | zero => intro n h0 h1; simp at h1; simp [leB, leV]; omega
  | succ k ih =>
    intro n h0 h1
    rw [leB_cons, leV, ih (n / 256) (by omega) (by rw [Int.pow_succ] at h1; omega)]
    omega
theorem leV_lt : ∀ (xs : List Int), IsBy xs → 0 ≤ leV xs ∧ leV xs < 256 ^ xs.length
  | [], _ => by simp [leV]
  | c :: r, h => by
    have h1 := h c (by simp)
    have h2 := leV_lt r fun x hx => h x (List.mem_cons_of_mem _ hx)
    rw [leV, List.length_cons, Int.pow_succ]
    omega
theorem leV_snoc (xs : List Int) (c : Int) : leV (xs ++ [c]) = leV xs + c * 256 ^ xs.length := by
  induction xs with
  | nil => simp [leV]
  | cons x r ih =>
    rw [List.cons_append, leV, ih, leV, List.length_cons, Int.pow_succ, Int.mul_add, ← Int.add_assoc]
    congr 1
    rw [Int.mul_left_comm, Int.mul_comm (256 ^ _) 256]
/-! ### counts -/
def uvB (n : Nat) : List Int := if h : n < 128 then [(n : Int)] else ((n % 128 + 128 : Nat) : Int) :: uvB (n / 128)
termination_by n
decreasing_by omega
theorem uvB_small {n : Nat} (h : n < 128) : uvB n = [(n : Int)] := by rw [uvB, dif_pos h]
theorem uvB_big {n : Nat} (h : ¬ n < 128) : uvB n = ((n % 128 + 128 : Nat) : Int) :: uvB (n / 128) := by rw [uvB, dif_neg h]
theorem uvB_by (n : Nat) : IsBy (uvB n) := by
  induction n using Nat.strongRecOn with
  | ind n ih =>
    by_cases h : n < 128
    · rw [uvB_small h]; exact IsBy.one (by omega) (by omega)
    · rw [uvB_big h]
      intro x hx
      rcases List.mem_cons.1 hx with rfl | hx
      · omega
      · exact ih (n / 128) (by omega) x hx
theorem uvB_pos (n : Nat) : 0 < (uvB n).length := by
  by_cases h : n < 128
  · rw [uvB_small h]; simp
  · rw [uvB_big h]; simp
theorem uvB_len (k : Nat) : ∀ n : Nat, n < 128 ^ k → 0 < k → (uvB n).length ≤ k := by
  induction k with
  | zero => intro n _ h; omega
  | succ k ih =>
    intro n h _
    by_cases h1 : n < 128
    · rw [uvB_small h1]; simp
    · rw [uvB_big h1, List.length_cons]
      rw [Nat.pow_succ] at h
      have h2 : n / 128 < 128 ^ k := by omega
      have hk : 0 < k := by
        rcases Nat.eq_zero_or_pos k with rfl | hk
        · simp at h2; omega
        · exact hk
      have := ih (n / 128) h2 hk
      omega
/-- A count that comes next: its value, how many bytes it has, whether it is the shortest. -/
def cnt : List Int → Nat → Int → Int × Int × Bool
  | [], _, _ => (0, 0, false)
  | c :: r, i, acc => if (i = 9 ∧ 1 < c) ∨ 9 < i then (0, 0, false) else if c < 128 then (acc + c % 128 * 128 ^ i, (i : Int) + 1, decide (i = 0 ∨ c ≠ 0)) else cnt r (i + 1) (acc + c % 128 * 128 ^ i)
theorem cnt_uvB (rest : List Int) (n : Nat) : ∀ (i : Nat) (acc : Int), n * 128 ^ i < 18446744073709551616 → (i = 0 ∨ 0 < n) → cnt (uvB n ++ rest) i acc = (acc + (n : Int) * 128 ^ i, (i : Int) + ((uvB n).length : Int), true) := by
  induction n using Nat.strongRecOn with
  | ind n ih =>
    intro i acc hlt hz
    have h9 : ¬ 9 < i := by
      intro h9
      rcases hz with rfl | hz
      · omega
      · have : (128 : Nat) ^ 10 ≤ 128 ^ i := Nat.pow_le_pow_right (by omega) h9
        have h3 := Nat.le_mul_of_pos_left (128 ^ i) hz
        have h4 : (128 : Nat) ^ 10 = 1180591620717411303424 := by decide
        omega
    by_cases h : n < 128
    · rw [uvB_small h]
      simp only [List.cons_append, List.nil_append, cnt]
      rw [if_neg, if_pos (by omega)]
      · rw [Int.emod_eq_of_lt (by omega) (by omega)]
        have : decide (i = 0 ∨ (n : Int) ≠ 0) = true := decide_eq_true (by omega)
        rw [this]
        simp
      · rintro (⟨rfl, h1⟩ | h1)
        · have h4 : (128 : Nat) ^ 9 = 9223372036854775808 := by decide
          rw [h4] at hlt
          omega
        · exact h9 h1
    · rw [uvB_big h]
      simp only [List.cons_append, cnt]
      rw [if_neg, if_neg (by omega)]
      · have hd : n / 128 * 128 ^ (i + 1) < 18446744073709551616 := by
          rw [Nat.pow_succ, Nat.mul_comm (128 ^ i) 128, ← Nat.mul_assoc]
          exact Nat.lt_of_le_of_lt (Nat.mul_le_mul_right _ (Nat.div_mul_le_self n 128)) hlt
        rw [ih (n / 128) (by omega) (i + 1) _ hd (.inr (by omega))]
        have e1 : (((n % 128 + 128 : Nat) : Int)) % 128 = ((n % 128 : Nat) : Int) := by omega
        rw [e1, List.length_cons]
        have e2 : (n : Int) = ((n % 128 : Nat) : Int) + 128 * ((n / 128 : Nat) : Int) := by omega
        refine Prod.ext ?_ (Prod.ext ?_ rfl)
        · show acc + ((n % 128 : Nat) : Int) * 128 ^ i + ((n / 128 : Nat) : Int) * 128 ^ (i + 1) = acc + (n : Int) * 128 ^ i
          rw [Int.pow_succ]
          generalize (128 : Int) ^ i = P at *
          rw [Int.add_assoc, ← Int.mul_assoc, Int.mul_right_comm, ← Int.add_mul]
          congr 2
          omega
        · show ((i + 1 : Nat) : Int) + ((uvB (n / 128)).length : Int) = (i : Int) + (((uvB (n / 128)).length + 1 : Nat) : Int)
          omega
      · rintro (⟨rfl, h1⟩ | h1)
        · have h4 : (128 : Nat) ^ 9 = 9223372036854775808 := by decide
          rw [h4] at hlt
          omega
        · exact h9 h1
/-! ### texts, records -/
def textB (s : List Int) : List Int := uvB s.length ++ s
def u32 (v : Int) : Int := v % 4294967296
def vecB (l : List Int) : List Int := l.flatMap fun v => leB (u32 v) 4
def flsB (l : List Int) : List Int := l.flatMap fun v => leB v 8
theorem fm_len (f : Int → List Int) (k : Nat) (hf : ∀ x, (f x).length = k) (l : List Int) : (l.flatMap f).length = k * l.length := by
  induction l with
  | nil => simp
  | cons x l ih => rw [List.flatMap_cons, List.length_append, ih, hf, List.length_cons, Nat.mul_succ]; omega
theorem vecB_len (l : List Int) : (vecB l).length = 4 * l.length := fm_len _ 4 (fun x => leB_len _ _) l
theorem flsB_len (l : List Int) : (flsB l).length = 8 * l.length := fm_len _ 8 (fun x => leB_len _ _) l
theorem fm_by (f : Int → List Int) (hf : ∀ x, IsBy (f x)) (l : List Int) : IsBy (l.flatMap f) := fun x hx => by
  obtain ⟨y, _, hy⟩ := List.mem_flatMap.1 hx
  exact hf y x hy
theorem vecB_by (l : List Int) : IsBy (vecB l) := fm_by _ (fun _ => leB_by _ _) l
theorem flsB_by (l : List Int) : IsBy (flsB l) := fm_by _ (fun _ => leB_by _ _) l
theorem textB_by {s : List Int} (h : IsBy s) : IsBy (textB s) := (uvB_by _).append h
/-- A record's form. -/
def itemB (x : Int × List Int × List Int) : List Int := leB x.1 8 ++ uvB x.2.1.length ++ vecB x.2.1 ++ textB x.2.2
theorem itemB_by {x : Int × List Int × List Int} (h : IsBy x.2.2) : IsBy (itemB x) := (((leB_by _ _).append (uvB_by _)).append (vecB_by _)).append (textB_by h)
/-- The k numbers of n bytes each with which bytes begin. -/
def nums (n k : Nat) (xs : List Int) : List Int := (List.range k).map fun i => leV ((xs.drop (n * i)).take n)
theorem nums_succ (n k : Nat) (xs : List Int) : nums n (k + 1) xs = nums n k xs ++ [leV ((xs.drop (n * k)).take n)] := by simp [nums, List.range_succ]
theorem nums_len (n k : Nat) (xs : List Int) : (nums n k xs).length = k := by simp [nums]
theorem nums_cons (n k : Nat) (a xs : List Int) (ha : a.length = n) : nums n (k + 1) (a ++ xs) = leV a :: nums n k xs := by
  unfold nums
  rw [List.range_succ_eq_map, List.map_cons, List.map_map]
  congr 1
  · rw [Nat.mul_zero, List.drop_zero, List.take_append_of_le_length (by omega), List.take_of_length_le (by omega)]
  · refine List.map_congr_left fun i _ => ?_
    show leV (((a ++ xs).drop (n * (i + 1))).take n) = _
    rw [Nat.mul_succ, show n * i + n = a.length + n * i by omega, List.drop_append, List.drop_of_length_le (by omega), List.nil_append, Nat.add_sub_cancel_left]
theorem nums_fm (f : Int → List Int) (g : Int → Int) (n : Nat) (hf : ∀ x, (f x).length = n) (l : List Int) (rest : List Int) (hg : ∀ x ∈ l, leV (f x) = g x) : nums n l.length (l.flatMap f ++ rest) = l.map g := by
  induction l with
  | nil => simp [nums]
  | cons x l ih =>
    rw [List.flatMap_cons, List.append_assoc, List.length_cons, nums_cons n _ _ _ (hf x), ih (fun y hy => hg y (List.mem_cons_of_mem _ hy)), hg x (by simp), List.map_cons]
/-- A number of 32 bits, with its sign. -/
def i32 (u : Int) : Int := if u < 2147483648 then u else u - 4294967296
theorem i32_u32 {v : Int} (h0 : -2147483648 ≤ v) (h1 : v < 2147483648) : i32 (u32 v) = v := by
  unfold i32 u32
  split <;> omega
theorem nums_vec (l rest : List Int) (h : ∀ x ∈ l, -2147483648 ≤ x ∧ x < 2147483648) : (nums 4 l.length (vecB l ++ rest)).map i32 = l := by
  unfold vecB
  rw [nums_fm _ u32 4 (fun x => leB_len _ _) l rest fun x hx => leV_leB 4 _ (by unfold u32; omega) (by unfold u32; omega), List.map_map]
  conv => rhs; rw [← List.map_id l]
  exact List.map_congr_left fun x hx => i32_u32 (h x hx).1 (h x hx).2
theorem nums_fls (l rest : List Int) (h : ∀ x ∈ l, 0 ≤ x ∧ x < 18446744073709551616) : nums 8 l.length (flsB l ++ rest) = l := by
  unfold flsB
  rw [nums_fm (fun v => leB v 8) (fun x => x) 8 (fun x => leB_len _ _) l rest fun x hx => leV_leB 8 x (h x hx).1 (by have := (h x hx).2; omega)]
  simp
end Go.Proofs.Ytekdogmhgijocaa.st

/- Readers of bytes: numbers (printed by gen_st.py). -/
namespace Go.Proofs.Ytekdogmhgijocaa.st
open Go.Proofs.Ytekdogmhgijocaa
open Go.RowKit Go.ChangeShapes Go.WideShapes Go.ChangeAt
set_option linter.unusedVariables false
set_option linter.unusedSimpArgs false

/-- A reader in memory: what is left, and its error. -/
structure RdrAt (w : World) (r : Nat) (xs : List Int) (e : Int) : Prop where
  at_ : ∃ s : Sl, s.xs = xs ∧ Row w r #[s.v, .int .i64 e] tRd ∧ SlRd .u8 w s ∧ (xs ≠ [] → ∀ b ∈ s.bs, b < r) ∧ xs.length ≤ s.c
theorem RdrAt.only {w w' : World} {r : Nat} {xs : List Int} {e : Int} {G : List Nat} (h : RdrAt w r xs e) (k : Only G w w') (hG : ∀ b ∈ G, b < w.heap.size → False) : RdrAt w' r xs e := by
  obtain ⟨s, e1, h1, h2, h3, h4⟩ := h.at_
  refine ⟨s, e1, h1.only k fun hm => hG _ hm h1.lt, h2.only k fun he b hb hm => hG b hm (h2.lt he b hb), h3, h4⟩
/-- .. where only what lies behind the reader itself is written. -/
theorem RdrAt.behind {w w' : World} {r : Nat} {xs : List Int} {e : Int} {G : List Nat} (h : RdrAt w r xs e) (k : Only G w w') (hG : ∀ b ∈ G, r < b) : RdrAt w' r xs e := by
  obtain ⟨s, e1, h1, h2, h3, h4⟩ := h.at_
  exact ⟨s, e1, h1.only k fun hm => by have := hG _ hm; omega, h2.only k fun he b hb hm => by have h6 := hG b hm; have h7 := h3 (by rw [← e1]; exact he) b hb; omega, h3, h4⟩
theorem RdrAt.below {w w' : World} {r : Nat} {xs : List Int} {e : Int} (h : RdrAt w r xs e) (k : Below w.heap.size w w') : RdrAt w' r xs e := h.only ((Only.refl [] w).below k) (by simp)
theorem err_on (r : Nat) (v : Value) (e : Int) (w : World) (h : Row w r #[v, .int .i64 e] tRd) : Calls Try.prog 55 #[.pointer (some ⟨r, 0, none⟩)] w fun z w' => z = .returned (.int .i64 e) ∧ w' = w := by
  have c1 : w.cell? ⟨r, 1, none⟩ = some (.int .i64 e) := h.cell 1
  clear h
  go_enter Try.func55, Try.ntmps55
  go_wp2_with fail
  go_ret
  exact ⟨rfl, rfl⟩
/-- The first byte, of a reader that has one. -/
def U8To (r : Nat) (x : Int) (xs : List Int) (w : World) (e : Ending) (w' : World) : Prop := e = .returned (.int .u8 x) ∧ RdrAt w' r xs 0 ∧ Only [r] w w'
set_option maxRecDepth 100000 in
set_option maxHeartbeats 4000000 in
theorem fixed_one {r : Nat} {x : Int} {xs : List Int} {w : World} (h : RdrAt w r (x :: xs) 0) (hx : 0 ≤ x ∧ x < 256) : Calls Try.prog 68 #[.pointer (some ⟨r, 0, none⟩), .int .i64 1] w fun e w' => e = .returned (.int .u64 x) ∧ RdrAt w' r xs 0 ∧ Only [r] w w' := by
  obtain ⟨s, e1, hr, hs, hne, hc⟩ := h.at_
  obtain ⟨b, o, ea, hcell⟩ := hs.at_ (j := 0) (z := x) (by rw [e1]; rfl)
  have c0' := hcell 0 x (by rw [e1]; rfl)
  rw [Nat.add_zero] at c0'
  obtain ⟨n, hn⟩ : ∃ n, xs.length = n := ⟨_, rfl⟩
  have hl : s.xs.length = n + 1 := by rw [e1, ← hn]; rfl
  obtain ⟨c, hcc⟩ : ∃ c, s.c = c := ⟨_, rfl⟩
  have NL : Hid (n ≤ 1000000 ∧ n + 1 ≤ c) := Lib.hid ⟨by have := hs.le; omega, by simp at hc; omega⟩
  have ev : s.v = .slice (some ⟨b, o, none⟩) (n + 1) c := by unfold Sl.v; rw [ea, hl, hcc]
  rw [ev] at hr
  have r0 : w.cell? ⟨r, 0, none⟩ = some (.slice (some ⟨b, o, none⟩) (n + 1) c) := hr.cell 0
  have f0 := hr.free 0
  have ER := Lib.hid (err_on r _ 0 w hr)
  have HR := Lib.hid hr
  have bs : s.bs = [b] := by simp [Sl.bs, ea]
  have HBR : Hid (b < r) := Lib.hid (hne (by simp) b (by rw [bs]; simp))
  have HB : Hid (r ≠ b ∧ b < w.heap.size) := Lib.hid ⟨fun e => by have := hne (by simp) b (by rw [bs]; simp); omega, hs.lt (by rw [e1]; simp) b (by rw [bs]; simp)⟩
  have HS : Hid (∀ i z, (x :: xs)[i]? = some z → w.cell? ⟨b, o + i, none⟩ = some (.int .u8 z)) := Lib.hid fun i z hz => hcell i z (by rw [e1]; exact hz)
  have kn : ¬ ((n : Int) + 1 < 1) := by omega
  have k1 : (1 : Int) ≤ (c : Int) := by have := NL.out; omega
  have k2 : 1 ≤ c := by have := NL.out; omega
  have k3 : (1 : Int) ≤ (n : Int) + 1 := by omega
  have dk : decide ((n : Int) + 1 < 1) = false := decide_eq_false kn
  have wx : IntKind.u64.wrap x = x := by rw [show IntKind.u64.wrap x = x % 18446744073709551616 from rfl]; omega
  have ox : bits .or .u64 0 x = x := by
    obtain ⟨y, rfl⟩ := Int.eq_ofNat_of_zero_le hx.1
    have := u64_or_nat 0 y (by omega) (by omega)
    simpa using this
  have HN := Lib.hid hn
  clear h hs hne hc hcell e1 hn hl hcc ev hr bs ea hx
  by_cases hc1 : c = 1
  · subst hc1
    obtain rfl : n = 0 := by have := NL.out; omega
    have F9 : Hid (RdrAt (w.setCell ⟨r, 0, none⟩ (.slice (some ⟨b, o, none⟩) 0 0)) r xs 0) := Lib.hid (by
      have hx : xs = [] := List.length_eq_zero_iff.1 HN.out
      subst hx
      exact ⟨⟨some ⟨b, o, none⟩, 0, []⟩, rfl, HR.out.set 0 (.slice (some ⟨b, o, none⟩) 0 0), ⟨.inl ⟨rfl, _, _, rfl⟩, fun h => absurd rfl h, (fun h => by cases h), by simp⟩, fun h => absurd rfl h, by simp⟩)
    go_enter Try.func68, Try.ntmps68
    go_wp2_with fail
    refine ER.out.mono ?_
    rintro _ w' ⟨rfl, hw'⟩
    subst w'
    go_wp2_with fail
    refine wp_loop_rounds 2 ?_
    rw [rounds_succ]
    go_wp2_with fail
    rw [rounds_succ]
    go_wp2_with fail
    go_ret
    exact ⟨rfl, F9.out, (Only.refl [r] w).setCell (.inl (by simp)) _⟩
  · have F9 : Hid (RdrAt (w.setCell ⟨r, 0, none⟩ (.slice (some ⟨b, o + 1, none⟩) n (c - 1))) r xs 0) := Lib.hid (by
      have hr := HR.out.set 0 (.slice (some ⟨b, o + 1, none⟩) n (c - 1))
      have K : Only [r] w (w.setCell ⟨r, 0, none⟩ (.slice (some ⟨b, o + 1, none⟩) n (c - 1))) := (Only.refl [r] w).setCell (.inl (by simp)) _
      refine ⟨⟨some ⟨b, o + 1, none⟩, c - 1, xs⟩, rfl, by simpa [Sl.v, HN.out] using hr, ⟨.inr ⟨b, o + 1, c - 1, rfl, fun i hi => ?_⟩, fun _ b' hb' => ?_, (fun h => by cases h), by have := NL.out; have := HN.out; show xs.length ≤ 1000000; omega⟩, fun _ b' hm => ?_, by have := NL.out; have := HN.out; show xs.length ≤ c - 1; omega⟩
      · rw [K.cell HB.out.2 (by simp; exact fun e => HB.out.1 e.symm), show o + 1 + i = o + (i + 1) by omega, HS.out (i + 1) (xs[i]) (by rw [List.getElem?_cons_succ, List.getElem?_eq_getElem hi])]
        simp [hi]
      · simp [Sl.bs] at hb'
        subst hb'
        simpa using HB.out.2
      · simp [Sl.bs] at hm
        subst hm
        exact HBR.out)
    have t1 : (c - 1 : Nat) ≠ 0 := by omega
    have t2 : n + 1 - 1 = n := rfl
    go_enter Try.func68, Try.ntmps68
    go_wp2_with fail
    refine ER.out.mono ?_
    rintro _ w' ⟨rfl, hw'⟩
    subst w'
    go_wp2_with fail
    refine wp_loop_rounds 2 ?_
    rw [rounds_succ]
    go_wp2_with fail
    rw [rounds_succ]
    go_wp2_with fail
    go_ret
    exact ⟨rfl, F9.out, (Only.refl [r] w).setCell (.inl (by simp)) _⟩
theorem u8_first {r : Nat} {x : Int} {xs : List Int} {w : World} (h : RdrAt w r (x :: xs) 0) (hx : 0 ≤ x ∧ x < 256) : Calls Try.prog 52 #[.pointer (some ⟨r, 0, none⟩)] w (U8To r x xs w) := by
  have F := Lib.hid (fixed_one h hx)
  have wx : IntKind.u8.wrap x = x := by rw [show IntKind.u8.wrap x = x % 256 from rfl]; omega
  clear h hx
  go_enter Try.func52, Try.ntmps52
  go_wp2_with fail
  refine F.out.mono ?_
  rintro _ w2 ⟨rfl, h1, h2⟩
  have N := Lib.hid (And.intro h1 h2)
  clear h1 h2 F
  go_wp2_with fail
  go_ret
  exact ⟨rfl, N.out.1, N.out.2⟩
open Go.RowKit Go.ChangeShapes Go.WideShapes Go.ChangeAt
set_option linter.unusedVariables false
set_option linter.unusedSimpArgs false

theorem run_head {P : Program} {t e : TypeId} (ht : P.underlying t = some (.slice e)) (hz : (P.info? e).map (fun i => (i.zero, i.size, i.bytes)) = some (some (.int .u8 0), 1, 1)) (k1 : IntKind) (s : Sl) {h : Nat} (hh : h ≤ s.xs.length) (hc : s.xs.length ≤ s.c) (w : World) :
    (Instr.slice t (.slice s.a s.xs.length s.c) none (some (.int k1 (h : Int))) none).run P w = .ok (s.cut 0 h).v w := by
  obtain ⟨h1, h2⟩ := sized1 ht hz w
  rw [run_slice_h w t s.a s.xs.length s.c h1 k1 h (by omega) (by omega), h2]
  simp only [Result.andThen, sliced, Int.toNat_natCast, Nat.mul_one]
  unfold Sl.v
  rw [Sl.cut_len s (Nat.zero_le _) hh]
  rfl
theorem or_step {xs : List Int} (hb : IsBy xs) {i : Nat} (h8 : i < 8) {cv : Nat} (hc : xs[i]? = some (cv : Int)) : bits .or .u64 (leV (xs.take i)) ((cv : Int) * 2 ^ (8 * i) % 18446744073709551616) = leV (xs.take (i + 1)) := by
  obtain ⟨hi, hx⟩ := List.getElem?_eq_some_iff.1 hc
  have hcv : cv < 256 := by have := hb _ (List.getElem_mem hi); rw [hx] at this; omega
  have hl : (xs.take i).length = i := by simp; omega
  obtain ⟨r0, r1⟩ := leV_lt (xs.take i) (hb.take i)
  rw [hl] at r1
  have e : leV (xs.take (i + 1)) = leV (xs.take i) + (cv : Int) * 256 ^ i := by
    rw [List.take_succ_eq_append_getElem hi, leV_snoc, hl, hx]
  rw [e]
  generalize leV (xs.take i) = z at r0 r1
  obtain ⟨A, rfl⟩ := Int.eq_ofNat_of_zero_le r0
  have hp : (256 : Nat) ^ i = 2 ^ (8 * i) := by rw [show (256 : Nat) = 2 ^ 8 from rfl, ← Nat.pow_mul]
  have hA : A < 2 ^ (8 * i) := by
    have : ((A : Nat) : Int) < ((256 ^ i : Nat) : Int) := by rw [Int.natCast_pow]; exact r1
    rw [← hp]; omega
  have hle : (2 : Nat) ^ (8 * i) ≤ 2 ^ 56 := Nat.pow_le_pow_right (by omega) (by omega)
  have hm : cv * 2 ^ (8 * i) < 18446744073709551616 := by
    have : cv * 2 ^ (8 * i) ≤ 255 * 2 ^ 56 := Nat.mul_le_mul (by omega) hle
    omega
  have e1 : (cv : Int) * 2 ^ (8 * i) % 18446744073709551616 = ((cv * 2 ^ (8 * i) : Nat) : Int) := by
    rw [show (cv : Int) * 2 ^ (8 * i) = ((cv * 2 ^ (8 * i) : Nat) : Int) by rw [Int.natCast_mul, Int.natCast_pow]; rfl]
    omega
  have e2 : (cv : Int) * 256 ^ i = ((cv * 2 ^ (8 * i) : Nat) : Int) := by
    rw [← hp, Int.natCast_mul, Int.natCast_pow]; rfl
  rw [e1, e2, u64_or_nat A _ (by omega) hm, ← Int.natCast_add]
  congr 1
  rw [Nat.or_comm, Nat.mul_comm cv, ← Nat.two_pow_add_eq_or_of_lt hA]
  omega
/-- What fixed gives, what is left, the error. -/
def fixF (k : Nat) (xs : List Int) (e : Int) : Int × List Int × Int := if e ≠ 0 then (0, xs, e) else if xs.length < k then (0, xs, 4) else (leV (xs.take k), xs.drop k, 0)
def FixTo (r k : Nat) (xs : List Int) (e : Int) (w : World) (z : Ending) (w' : World) : Prop := z = .returned (.int .u64 (fixF k xs e).1) ∧ RdrAt w' r (fixF k xs e).2.1 (fixF k xs e).2.2 ∧ Only [r] w w'
theorem RdrAt.cutAt {w : World} {r k : Nat} {s : Sl} {e : Int} (hr : Row w r #[s.v, .int .i64 e] tRd) (hs : SlRd .u8 w s) (hne : s.xs ≠ [] → ∀ b ∈ s.bs, b < r) (hc : s.xs.length ≤ s.c) (hk : k ≤ s.xs.length) :
    RdrAt (w.setCell ⟨r, 0, none⟩ (s.cut k s.xs.length).v) r (s.xs.drop k) e := by
  have K : Only [r] w (w.setCell ⟨r, 0, none⟩ (s.cut k s.xs.length).v) := (Only.refl [r] w).setCell (.inl (by simp)) _
  have ex : (s.cut k s.xs.length).xs = s.xs.drop k := by unfold Sl.cut; simp only; exact List.take_of_length_le (by simp)
  refine ⟨s.cut k s.xs.length, ex, by simpa using hr.set 0 (s.cut k s.xs.length).v, (hs.cut hk (Nat.le_refl _) hc).only K (fun hx b hb => ?_), fun hx => ?_, ?_⟩
  · rw [Sl.cut_bs] at hb
    rw [ex] at hx
    simp only [List.mem_singleton]
    rintro rfl
    have := hne (fun e => hx (by simp [e])) _ hb
    omega
  · rw [Sl.cut_bs]
    exact hne fun e => hx (by simp [e])
  · rw [List.length_drop]; unfold Sl.cut; simp only; omega
theorem RdrAt.errAt {w : World} {r : Nat} {s : Sl} {e e' : Int} (hr : Row w r #[s.v, .int .i64 e] tRd) (hs : SlRd .u8 w s) (hne : s.xs ≠ [] → ∀ b ∈ s.bs, b < r) (hc : s.xs.length ≤ s.c) : RdrAt (w.setCell ⟨r, 1, none⟩ (.int .i64 e')) r s.xs e' := by
  have K : Only [r] w (w.setCell ⟨r, 1, none⟩ (.int .i64 e')) := (Only.refl [r] w).setCell (.inl (by simp)) _
  exact ⟨s, rfl, by simpa using hr.set 1 (.int .i64 e'), hs.only K (fun hx b hb hm => by simp at hm; subst hm; have := hne hx _ hb; omega), hne, hc⟩
set_option maxRecDepth 100000 in
set_option maxHeartbeats 4000000 in
theorem fixed_gen {r : Nat} {xs : List Int} {e : Int} {w : World} (h : RdrAt w r xs e) (hb : IsBy xs) (k : Nat) (h8 : k ≤ 8) :
    Calls Try.prog 68 #[.pointer (some ⟨r, 0, none⟩), .int .i64 (k : Int)] w (FixTo r k xs e w) := by
  obtain ⟨s, rfl, hr, hs, hne, hc⟩ := h.at_
  have HH := Lib.hid h
  have ER := Lib.hid (err_on r _ e w hr)
  have c0 : w.cell? ⟨r, 0, none⟩ = some (.slice s.a s.xs.length s.c) := hr.cell 0
  have c1 : w.cell? ⟨r, 1, none⟩ = some (.int .i64 e) := hr.cell 1
  have f0 := hr.free 0
  have f1 := hr.free 1
  have k0 : (0 : Int) ≤ (k : Int) := Int.natCast_nonneg _
  by_cases he : e = 0
  · subst he
    by_cases hl : s.xs.length < k
    · have dk : decide ((s.xs.length : Int) < (k : Int)) = true := decide_eq_true (by omega)
      have dk' : decide (s.xs.length < k) = true := decide_eq_true hl
      have N : Hid (FixTo r k s.xs 0 w (.returned (.int .u64 0)) (w.setCell ⟨r, 1, none⟩ (.int .i64 4))) := Lib.hid (by
        unfold FixTo fixF
        rw [if_neg (by simp), if_pos hl]
        exact ⟨rfl, RdrAt.errAt hr hs hne hc, (Only.refl [r] w).setCell (.inl (by simp)) _⟩)
      clear h hr hs hne hc hb h8 hl
      go_enter Try.func68, Try.ntmps68
      go_wp2_with fail
      refine ER.out.mono ?_
      rintro _ w' ⟨rfl, hw'⟩
      subst w'
      go_wp2_with fail
      go_ret
      exact N.out
    · have dk : decide ((s.xs.length : Int) < (k : Int)) = false := decide_eq_false (by omega)
      have dk' : decide (s.xs.length < k) = false := decide_eq_false hl
      have HL : Hid (k ≤ s.xs.length ∧ k ≤ 8) := Lib.hid ⟨by omega, h8⟩
      have HB := Lib.hid hb
      have e1 : ∀ y : World, (Instr.slice 32 (.slice s.a s.xs.length s.c) none (some (.int .i64 (k : Int))) none).run Try.prog y = .ok (s.cut 0 k).v y := fun y => run_head Try.underlying32 infoBy .i64 s (by omega) hc y
      have e2 : ∀ y : World, (Instr.slice 32 (.slice s.a s.xs.length s.c) (some (.int .i64 (k : Int))) none none).run Try.prog y = .ok (s.cut k s.xs.length).v y := fun y => run_tail Try.underlying32 infoBy .i64 s (by omega) y
      have ev1 : (s.cut 0 k).v = .slice (s.cut 0 k).a k (s.cut 0 k).c := by unfold Sl.v; rw [Sl.cut_len s (Nat.zero_le _) (by omega)]; rfl
      have ex1 : (s.cut 0 k).xs = s.xs.take k := by unfold Sl.cut; simp
      have h1 := hs.cut (l := 0) (k := k) (Nat.zero_le _) (by omega) hc
      have HC : Hid (∀ i z, i < k → (s.xs)[i]? = some z → ∃ b o, (s.cut 0 k).a = some ⟨b, o, none⟩ ∧ w.cell? ⟨b, o + i, none⟩ = some (.int .u8 z)) := Lib.hid fun i z hi hz => by
        obtain ⟨b, o, h2, h3⟩ := h1.at_ (j := i) (z := z) (by rw [ex1, List.getElem?_take_of_lt hi]; exact hz)
        exact ⟨b, o, h2, h3 i z (by rw [ex1, List.getElem?_take_of_lt hi]; exact hz)⟩
      have N : Hid (FixTo r k s.xs 0 w (.returned (.int .u64 (leV (s.xs.take k)))) (w.setCell ⟨r, 0, none⟩ (s.cut k s.xs.length).v)) := Lib.hid (by
        unfold FixTo fixF
        rw [if_neg (by simp), if_neg hl]
        exact ⟨rfl, RdrAt.cutAt hr hs hne hc (by omega), (Only.refl [r] w).setCell (.inl (by simp)) _⟩)
      have ev2 : (s.cut k s.xs.length).v = .slice (s.cut k s.xs.length).a (s.xs.length - k) (s.cut k s.xs.length).c := by unfold Sl.v; rw [Sl.cut_len s (by omega) (Nat.le_refl _)]
      rw [ev1] at e1
      rw [ev2] at e2 N
      generalize (s.cut 0 k).a = a1 at *
      generalize (s.cut 0 k).c = k1 at *
      generalize (s.cut k s.xs.length).a = a2 at *
      generalize (s.cut k s.xs.length).c = k2 at *
      clear h hr hs hne hc hb h8 hl ev1 ev2 ex1 h1
      go_enter Try.func68, Try.ntmps68
      go_wp2_with fail
      refine ER.out.mono ?_
      rintro _ w' ⟨rfl, hw'⟩
      subst w'
      go_wp2_with fail
      go_loopw [5, 6, 7, 28] (fun x _ _ u wr => ∃ i : Nat, i ≤ k ∧ u = .int .i64 i ∧ x = .int .u64 (leV (s.xs.take i)) ∧ Hid (wr = w)) (fun _ _ _ u _ => k - (intOf u).toNat)
      case atStart => exact ⟨0, by omega, rfl, rfl, Lib.hid rfl⟩
      case round =>
        obtain ⟨i, hi, rfl, rfl, HW⟩ := hrel
        obtain rfl := HW.out
        have i0 : (0 : Int) ≤ (i : Int) := Int.natCast_nonneg _
        by_cases hlt : i < k
        · have e1 : decide ((i : Int) < (k : Int)) = true := decide_eq_true (by omega)
          have e1' : (i : Int) < (k : Int) := by omega
          obtain ⟨cv, hv1, hv2⟩ := HB.out.at_ (show i < s.xs.length by have := HL.out; omega)
          obtain ⟨g, o, rfl, l1⟩ := HC.out i _ hlt hv1
          have hs : bits .or .u64 (leV (s.xs.take i)) (IntKind.u64.wrap ((cv : Int) * 2 ^ (8 * i))) = leV (s.xs.take (i + 1)) := or_step HB.out (show i < 8 by have := HL.out; omega) hv1
          have wv : IntKind.u64.wrap (cv : Int) = (cv : Int) := by rw [show IntKind.u64.wrap (cv : Int) = (cv : Int) % 18446744073709551616 from rfl]; omega
          have i8 : i < 8 := by have := HL.out; omega
          generalize hz : leV (s.xs.take (i + 1)) = z at hs
          have HZ := Lib.hid hz
          generalize leV (s.xs.take i) = y at *
          clear hv1 hz
          go_wp2_with fail
          go_roundw
          case rel => exact ⟨i + 1, by omega, by go_num, by rw [HZ.out], by first | exact Lib.hid trivial | exact Lib.hid rfl⟩
          case measure => simp [intOf]; omega
        · have e1 : decide ((i : Int) < (k : Int)) = false := decide_eq_false (by omega)
          have E : Hid (i = k) := Lib.hid (by omega)
          go_wp2_with fail
          go_ret
          rw [E.out]
          exact N.out
  · have d1 : decide (e = 0) = false := decide_eq_false he
    have d2 : (e == 0) = false := by simp [he]
    have N : Hid (FixTo r k s.xs e w (.returned (.int .u64 0)) w) := Lib.hid (by
      unfold FixTo fixF
      rw [if_pos he]
      exact ⟨rfl, h, Only.refl _ _⟩)
    clear h hr hs hne hc hb h8
    go_enter Try.func68, Try.ntmps68
    go_wp2_with fail
    refine ER.out.mono ?_
    rintro _ w' ⟨rfl, hw'⟩
    subst w'
    go_wp2_with fail
    go_ret
    exact N.out
theorem fixF_lt {k : Nat} {xs : List Int} {e : Int} (hb : IsBy xs) : 0 ≤ (fixF k xs e).1 ∧ (fixF k xs e).1 < 256 ^ k := by
  have hp : (0 : Int) < 256 ^ k := Int.pow_pos (by omega)
  unfold fixF
  split
  · exact ⟨by simp, hp⟩
  · split
    · exact ⟨by simp, hp⟩
    · rename_i h
      have h1 := leV_lt (xs.take k) (hb.take k)
      rw [List.length_take, Nat.min_eq_left (by omega)] at h1
      exact h1
theorem rdU8 {r : Nat} {xs : List Int} {e : Int} {w : World} (h : RdrAt w r xs e) (hb : IsBy xs) :
    Calls Try.prog 52 #[.pointer (some ⟨r, 0, none⟩)] w fun z w' => z = .returned (.int .u8 (fixF 1 xs e).1) ∧ RdrAt w' r (fixF 1 xs e).2.1 (fixF 1 xs e).2.2 ∧ Only [r] w w' := by
  have F := Lib.hid (fixed_gen h hb 1 (by omega))
  have L := fixF_lt (k := 1) (e := e) hb
  have wx : IntKind.u8.wrap (fixF 1 xs e).1 = (fixF 1 xs e).1 := by
    rw [show ∀ z, IntKind.u8.wrap z = z % 256 from fun _ => rfl]
    have := L.2
    exact Int.emod_eq_of_lt L.1 (by omega)
  unfold FixTo at F
  clear h hb L
  generalize fixF 1 xs e = q at *
  go_enter Try.func52, Try.ntmps52
  go_wp2_with fail
  refine F.out.mono ?_
  rintro _ w' ⟨rfl, h1, h2⟩
  have N := Lib.hid (And.intro h1 h2)
  clear h1 h2
  go_wp2_with fail
  go_ret
  exact ⟨rfl, N.out.1, N.out.2⟩
theorem rdU16 {r : Nat} {xs : List Int} {e : Int} {w : World} (h : RdrAt w r xs e) (hb : IsBy xs) :
    Calls Try.prog 50 #[.pointer (some ⟨r, 0, none⟩)] w fun z w' => z = .returned (.int .u16 (fixF 2 xs e).1) ∧ RdrAt w' r (fixF 2 xs e).2.1 (fixF 2 xs e).2.2 ∧ Only [r] w w' := by
  have F := Lib.hid (fixed_gen h hb 2 (by omega))
  have L := fixF_lt (k := 2) (e := e) hb
  have wx : IntKind.u16.wrap (fixF 2 xs e).1 = (fixF 2 xs e).1 := by
    rw [show ∀ z, IntKind.u16.wrap z = z % 65536 from fun _ => rfl]
    have := L.2
    exact Int.emod_eq_of_lt L.1 (by omega)
  unfold FixTo at F
  clear h hb L
  generalize fixF 2 xs e = q at *
  go_enter Try.func50, Try.ntmps50
  go_wp2_with fail
  refine F.out.mono ?_
  rintro _ w' ⟨rfl, h1, h2⟩
  have N := Lib.hid (And.intro h1 h2)
  clear h1 h2
  go_wp2_with fail
  go_ret
  exact ⟨rfl, N.out.1, N.out.2⟩
theorem rdU32 {r : Nat} {xs : List Int} {e : Int} {w : World} (h : RdrAt w r xs e) (hb : IsBy xs) :
    Calls Try.prog 48 #[.pointer (some ⟨r, 0, none⟩)] w fun z w' => z = .returned (.int .u32 (fixF 4 xs e).1) ∧ RdrAt w' r (fixF 4 xs e).2.1 (fixF 4 xs e).2.2 ∧ Only [r] w w' := by
  have F := Lib.hid (fixed_gen h hb 4 (by omega))
  have L := fixF_lt (k := 4) (e := e) hb
  have wx : IntKind.u32.wrap (fixF 4 xs e).1 = (fixF 4 xs e).1 := by
    rw [show ∀ z, IntKind.u32.wrap z = z % 4294967296 from fun _ => rfl]
    have := L.2
    exact Int.emod_eq_of_lt L.1 (by omega)
  unfold FixTo at F
  clear h hb L
  generalize fixF 4 xs e = q at *
  go_enter Try.func48, Try.ntmps48
  go_wp2_with fail
  refine F.out.mono ?_
  rintro _ w' ⟨rfl, h1, h2⟩
  have N := Lib.hid (And.intro h1 h2)
  clear h1 h2
  go_wp2_with fail
  go_ret
  exact ⟨rfl, N.out.1, N.out.2⟩
theorem rdU64 {r : Nat} {xs : List Int} {e : Int} {w : World} (h : RdrAt w r xs e) (hb : IsBy xs) :
    Calls Try.prog 49 #[.pointer (some ⟨r, 0, none⟩)] w fun z w' => z = .returned (.int .u64 (fixF 8 xs e).1) ∧ RdrAt w' r (fixF 8 xs e).2.1 (fixF 8 xs e).2.2 ∧ Only [r] w w' := by
  have F := Lib.hid (fixed_gen h hb 8 (by omega))
  have L := fixF_lt (k := 8) (e := e) hb
  have wx : IntKind.u64.wrap (fixF 8 xs e).1 = (fixF 8 xs e).1 := by
    rw [show ∀ z, IntKind.u64.wrap z = z % 18446744073709551616 from fun _ => rfl]
    have := L.2
    exact Int.emod_eq_of_lt L.1 (by omega)
  unfold FixTo at F
  clear h hb L
  generalize fixF 8 xs e = q at *
  go_enter Try.func49, Try.ntmps49
  go_wp2_with fail
  refine F.out.mono ?_
  rintro _ w' ⟨rfl, h1, h2⟩
  have N := Lib.hid (And.intro h1 h2)
  clear h1 h2
  go_wp2_with fail
  go_ret
  exact ⟨rfl, N.out.1, N.out.2⟩
end Go.Proofs.Ytekdogmhgijocaa.st
