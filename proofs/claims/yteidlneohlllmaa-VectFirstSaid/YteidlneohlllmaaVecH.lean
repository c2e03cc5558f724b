/- The references at hits: Ahead, Same, First. -/
import Derived.Test.YteidlneohlllmaaVecG
namespace Go.Proofs.Yteidlneohlllmaa
open Go.RowKit Go.ChangeShapes Go.WideShapes Go.ChangeAt

/-- The slice value v reads as the hits xs. -/
def HitsAt (w : World) (v : Value) (xs : List (Int × Int)) : Prop :=
  (xs = [] ∧ ∃ a c, v = .slice a 0 c) ∨
  ∃ b off cap, v = .slice (some ⟨b, off, none⟩) xs.length cap ∧ ∀ i, i < xs.length → w.cell? ⟨b, off + i * 2, none⟩ = some (.int .u64 (xs[i]?.getD (0, 0)).1) ∧ w.cell? ⟨b, off + i * 2 + 1, none⟩ = some (.int .i64 (xs[i]?.getD (0, 0)).2)

def aheadB (x y : Int × Int) : Bool := decide (x.2 < y.2) || (decide (x.2 = y.2) && decide (x.1 < y.1))
set_option maxHeartbeats 400000 in
theorem ahead_any (k1 d1 k2 d2 : Int) (w : World) :
    Calls Try.prog 20 #[.agg #[.int .u64 k1, .int .i64 d1], .agg #[.int .u64 k2, .int .i64 d2]] w fun e w' => e = .returned (.bool (aheadB (k1, d1) (k2, d2))) ∧ Below w.heap.size w w' := by
  by_cases h1 : d1 < d2
  · go_enter Try.func20, Try.ntmps20
    go_wp2
    go_ret
    exact ⟨ret_bool (by simp [aheadB, h1]), ((Below.refl _ _).alloc (Nat.le_refl _) _).alloc (by simp) _⟩
  · by_cases h2 : d1 = d2
    · subst h2
      go_enter Try.func20, Try.ntmps20
      go_wp2
      go_ret
      exact ⟨ret_bool (by simp [aheadB]), ((Below.refl _ _).alloc (Nat.le_refl _) _).alloc (by simp) _⟩
    · have q1 : decide (d1 < d2) = false := by simpa using h1
      have q2 : (d1 == d2) = false := by simpa using h2
      go_enter Try.func20, Try.ntmps20
      go_wp2
      go_ret
      exact ⟨ret_bool (by simp [aheadB, h1, h2]), ((Below.refl _ _).alloc (Nat.le_refl _) _).alloc (by simp) _⟩

def sameH (xs ys : List (Int × Int)) : Bool := decide (xs = ys)
theorem sameH_refl (xs : List (Int × Int)) : sameH xs xs = true := by simp [sameH]
theorem sameH_ne (xs ys : List (Int × Int)) (i : Nat) (h : ¬ xs[i]?.getD (0, 0) = ys[i]?.getD (0, 0)) : sameH xs ys = false := by
  simp only [sameH, decide_eq_false_iff_not]; intro e; exact h (by rw [e])
theorem sameH_len (xs ys : List (Int × Int)) (h : ¬ xs.length = ys.length) : sameH xs ys = false := by
  simp only [sameH, decide_eq_false_iff_not]; intro e; exact h (by rw [e])
theorem sameH_eq (xs ys : List (Int × Int)) (h : xs.length = ys.length) (ha : ∀ i, i < xs.length → xs[i]?.getD (0, 0) = ys[i]?.getD (0, 0)) : sameH xs ys = true := by
  simp only [sameH, decide_eq_true_eq]
  refine List.ext_getElem h fun i h1 h2 => ?_
  have := ha i h1
  simpa [h1, h2] using this

set_option maxHeartbeats 1000000 in
theorem rsame_good (b1 o1 c1 b2 o2 c2 n : Nat) (xs ys : List (Int × Int)) (w : World) (hn : xs.length = n) (hn2 : ys.length = n) (m1 : n ≤ 9223372036854775807)
    (cx : ∀ i, i < xs.length → w.cell? ⟨b1, o1 + i * 2, none⟩ = some (.int .u64 (xs[i]?.getD (0, 0)).1) ∧ w.cell? ⟨b1, o1 + i * 2 + 1, none⟩ = some (.int .i64 (xs[i]?.getD (0, 0)).2))
    (cy : ∀ i, i < ys.length → w.cell? ⟨b2, o2 + i * 2, none⟩ = some (.int .u64 (ys[i]?.getD (0, 0)).1) ∧ w.cell? ⟨b2, o2 + i * 2 + 1, none⟩ = some (.int .i64 (ys[i]?.getD (0, 0)).2)) :
    Calls Try.prog 22 #[.slice (some ⟨b1, o1, none⟩) n c1, .slice (some ⟨b2, o2, none⟩) n c2] w fun e w' => e = .returned (.bool (sameH xs ys)) ∧ ∃ q, w' = w.drewN q := by
  have H1 := Lib.hid cx
  have H2 := Lib.hid cy
  have H3 := Lib.hid hn
  have H4 := Lib.hid hn2
  clear cx cy hn hn2
  go_enter Try.func22, Try.ntmps22
  go_wp2
  go_loopw [5] (fun i wr => ∃ k : Nat, k ≤ n ∧ i = .int .i64 k ∧ Hid (∀ i, i < k → xs[i]?.getD (0, 0) = ys[i]?.getD (0, 0)) ∧ ∃ q, wr = w.drewN q) (fun i _ => n - (intOf i).toNat)
  case atStart => exact ⟨0, Nat.zero_le _, rfl, fun i h => by omega, 0, rfl⟩
  case round =>
    obtain ⟨k, hk, rfl, hs, q, rfl⟩ := hrel
    by_cases hlt : k < n
    · have cx := H1.out k (by have := H3.out; omega)
      have cy := H2.out k (by have := H4.out; omega)
      obtain ⟨x1, x2⟩ := cx
      obtain ⟨y1, y2⟩ := cy
      by_cases he : xs[k]?.getD (0, 0) = ys[k]?.getD (0, 0)
      · have HE := Lib.hid he
        rw [← he] at y1 y2
        clear he
        generalize (xs[k]?.getD (0, 0)).1 = a at x1 y1
        generalize (xs[k]?.getD (0, 0)).2 = b at x2 y2
        go_wp2
        go_quiet (fail)
        go_wp2
        go_roundw
        case rel => exact ⟨k + 1, by omega, by go_num, fun i hi => by rcases Nat.lt_succ_iff_lt_or_eq.1 hi with h | rfl; exact hs.out i h; exact HE.out, _, rfl⟩
        case measure => simp [intOf]; omega
      · have HF := Lib.hid (sameH_ne xs ys k he)
        have hd : ¬ ((xs[k]?.getD (0, 0)).1 = (ys[k]?.getD (0, 0)).1 ∧ (xs[k]?.getD (0, 0)).2 = (ys[k]?.getD (0, 0)).2) := fun h => he (Prod.ext h.1 h.2)
        clear he
        generalize (xs[k]?.getD (0, 0)).1 = a1 at *
        generalize (xs[k]?.getD (0, 0)).2 = a2 at *
        generalize (ys[k]?.getD (0, 0)).1 = b1' at *
        generalize (ys[k]?.getD (0, 0)).2 = b2' at *
        by_cases h1 : a1 = b1'
        · subst h1
          have h2 : (a2 == b2') = false := by simp; omega
          clear hd
          go_wp2
          go_quiet (fail)
          go_wp2
          go_ret
          exact ⟨ret_bool HF.out.symm, _, by rw [World.drewN_drewN]⟩
        · have h2 : (a1 == b1') = false := by simpa using h1
          clear hd h1
          go_wp2
          go_quiet (fail)
          go_wp2
          go_ret
          exact ⟨ret_bool HF.out.symm, _, by rw [World.drewN_drewN]⟩
    · obtain rfl : k = n := by omega
      go_wp2
      go_ret
      exact ⟨ret_bool (sameH_eq xs ys (by rw [H3.out, H4.out]) (fun i hi => hs.out i (by have := H3.out; omega))).symm, _, rfl⟩

set_option maxHeartbeats 400000 in
theorem rsame_len (a1 a2 : Option Addr) (n1 c1 n2 c2 : Nat) (w : World) (m1 : n1 ≤ 9223372036854775807) (m2 : n2 ≤ 9223372036854775807) (h : n1 ≠ n2) :
    Calls Try.prog 22 #[.slice a1 n1 c1, .slice a2 n2 c2] w fun e w' => e = .returned (.bool false) ∧ w = w' := by
  have q1 : ((n1 : Int) != (n2 : Int)) = true := by simp; omega
  clear h
  go_enter Try.func22, Try.ntmps22
  go_wp2
  go_ret
  exact ⟨rfl, rfl⟩
set_option maxHeartbeats 400000 in
theorem rsame_none (a1 a2 : Option Addr) (c1 c2 : Nat) (w : World) :
    Calls Try.prog 22 #[.slice a1 0 c1, .slice a2 0 c2] w fun e w' => e = .returned (.bool true) ∧ w = w' := by
  go_enter Try.func22, Try.ntmps22
  go_wp2
  refine wp_loop_once ?_
  go_wp2
  go_ret
  exact ⟨rfl, rfl⟩
theorem HitsAt.shape {w : World} {v : Value} {xs : List (Int × Int)} (h : HitsAt w v xs) (hp : 0 < xs.length) :
    ∃ b off cap, v = .slice (some ⟨b, off, none⟩) xs.length cap ∧ ∀ i, i < xs.length → w.cell? ⟨b, off + i * 2, none⟩ = some (.int .u64 (xs[i]?.getD (0, 0)).1) ∧ w.cell? ⟨b, off + i * 2 + 1, none⟩ = some (.int .i64 (xs[i]?.getD (0, 0)).2) := by
  rcases h with ⟨rfl, _⟩ | h
  · simp at hp
  · exact h
theorem HitsAt.len {w : World} {v : Value} {xs : List (Int × Int)} (h : HitsAt w v xs) : ∃ a c, v = .slice a xs.length c := by
  rcases h with ⟨rfl, a, c, rfl⟩ | ⟨b, off, cap, rfl, _⟩
  · exact ⟨a, c, rfl⟩
  · exact ⟨_, cap, rfl⟩
theorem HitsAt.keeps {w w' : World} {v : Value} {xs : List (Int × Int)} (h : HitsAt w v xs) (hb : ∀ b o, b < w.heap.size → w'.cell? ⟨b, o, none⟩ = w.cell? ⟨b, o, none⟩) : HitsAt w' v xs := by
  rcases h with h | ⟨b, off, cap, rfl, hc⟩
  · exact .inl h
  · refine .inr ⟨b, off, cap, rfl, fun i hi => ?_⟩
    have hlt := World.block_lt_of_cell? w _ (hc i hi).1
    exact ⟨(hb b _ hlt).trans (hc i hi).1, (hb b _ hlt).trans (hc i hi).2⟩
theorem HitsAt.below {w w' : World} {v : Value} {xs : List (Int × Int)} (h : HitsAt w v xs) (hb : Below w.heap.size w w') : HitsAt w' v xs :=
  h.keeps fun b o hlt => hb.cell (p := ⟨b, o, none⟩) hlt
theorem HitsAt.drewN {w : World} {v : Value} {xs : List (Int × Int)} (h : HitsAt w v xs) (n : Nat) : HitsAt (w.drewN n) v xs := h.keeps fun _ _ _ => rfl
theorem rsame_any (v1 v2 : Value) (xs ys : List (Int × Int)) (w : World) (h1 : HitsAt w v1 xs) (h2 : HitsAt w v2 ys)
    (m1 : xs.length ≤ 9223372036854775807) (m2 : ys.length ≤ 9223372036854775807) :
    Calls Try.prog 22 #[v1, v2] w fun e w' => e = .returned (.bool (sameH xs ys)) ∧ ∃ q, w' = w.drewN q := by
  by_cases h : xs.length = ys.length
  · by_cases h0 : xs.length = 0
    · obtain rfl : xs = [] := List.length_eq_zero_iff.1 h0
      obtain rfl : ys = [] := List.length_eq_zero_iff.1 (h ▸ h0)
      obtain ⟨a1, c1, rfl⟩ := h1.len
      obtain ⟨a2, c2, rfl⟩ := h2.len
      exact (rsame_none a1 a2 c1 c2 w).mono fun e w' ⟨h1, h2⟩ => ⟨h1, 0, h2.symm⟩
    · obtain ⟨b1, o1, c1, rfl, cx⟩ := h1.shape (by omega)
      obtain ⟨b2, o2, c2, rfl, cy⟩ := h2.shape (by omega)
      rw [← h]
      exact rsame_good b1 o1 c1 b2 o2 c2 xs.length xs ys w rfl h.symm m1 cx cy
  · obtain ⟨a1, c1, rfl⟩ := h1.len
    obtain ⟨a2, c2, rfl⟩ := h2.len
    rw [sameH_len xs ys h]
    exact (rsame_len a1 a2 _ c1 _ c2 w m1 m2 h).mono fun e w' ⟨h1, h2⟩ => ⟨h1, 0, h2.symm⟩

/-- What the calls own reads as hits; so does what came in. -/
theorem hits_of_own {w : World} {base : Nat} {e : TypeId} {v : Value} {n : Nat} {xs : List (Int × Int)} (h : w.ownsRow base e 2 v n (hc xs)) : HitsAt w v xs := by
  have hl := h.1
  rw [hc_len] at hl
  have hn : xs.length = n := by omega
  rcases h.2 with ⟨rfl, h0⟩ | ⟨g, cap, cur, rfl, _⟩
  · exact .inl ⟨List.length_eq_zero_iff.1 (by omega), _, _, rfl⟩
  · refine .inr ⟨g, 0, cap, by rw [hn], fun i hi => ?_⟩
    have hg := hc_get (List.getElem?_eq_getElem hi)
    rw [List.getElem?_eq_getElem hi]
    refine ⟨?_, ?_⟩
    · rw [Nat.zero_add, h.cellAt (i * 2) (by omega), Nat.mul_comm]; exact hg.1
    · rw [Nat.zero_add, h.cellAt (i * 2 + 1) (by omega), Nat.mul_comm]; exact hg.2
theorem HitsAt.cut {w : World} {a : Option Addr} {n m cap : Nat} {xs : List (Int × Int)} (h : HitsAt w (.slice a n cap) xs) (hm : m ≤ xs.length) : HitsAt w (.slice a m cap) (xs.take m) := by
  rcases h with ⟨rfl, a', c', h'⟩ | ⟨b, off, cap', h', hc⟩
  · have : m = 0 := by simpa using hm
    subst this
    exact .inl ⟨rfl, _, _, rfl⟩
  · simp only [Value.slice.injEq] at h'
    obtain ⟨rfl, rfl, rfl⟩ := h'
    refine .inr ⟨b, off, cap, by simp [hm], fun i hi => ?_⟩
    have hi' : i < m := by simp at hi; omega
    rw [List.getElem?_take, if_pos hi']
    exact hc i (by omega)

/-! ### the order's plain facts -/
theorem sortH_sorted (l : List (Int × Int)) : (sortH l).Pairwise fun x y => (!(ltOf cfH) y x) = true := by
  refine List.pairwise_mergeSort (le := fun x y => !(ltOf cfH) y x) ?_ ?_ l
  · intro a b c h1 h2
    rw [Bool.not_eq_true', ltH, decide_eq_false_iff_not] at *
    omega
  · intro a b
    rw [ltH, ltH]
    by_cases h : b.2 < a.2 ∨ (b.2 = a.2 ∧ b.1 < a.1)
    · rw [decide_eq_true h, decide_eq_false (by omega)]; rfl
    · rw [decide_eq_false h]; rfl
theorem sortH_unique {l m : List (Int × Int)} (hp : m.Perm l) (hs : m.Pairwise fun x y => (!(ltOf cfH) y x) = true) : sortH l = m :=
  List.Perm.eq_of_pairwise (le := fun x y => (!(ltOf cfH) y x) = true) (fun a b _ _ h1 h2 => totH a b (by simpa using h2) (by simpa using h1)) (sortH_sorted l) hs ((sortH_perm l).trans hp.symm)
theorem sortH_congr {l m : List (Int × Int)} (hp : m.Perm l) : sortH m = sortH l := (sortH_unique ((sortH_perm m).trans hp) (sortH_sorted m)).symm
theorem sortH_cons {l r : List (Int × Int)} {x : Int × Int} (hp : (x :: r).Perm l) (hm : ∀ y ∈ r, ltOf cfH y x = false) : sortH l = x :: sortH r := by
  refine sortH_unique (((sortH_perm r).cons x).trans hp) (List.pairwise_cons.2 ⟨fun y hy => ?_, sortH_sorted r⟩)
  rw [hm y ((sortH_perm r).mem_iff.1 hy)]; rfl
end Go.Proofs.Yteidlneohlllmaa
