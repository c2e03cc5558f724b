/- vect.Merge and vect.First: the first hits, in the order of hits. -/
import Derived.Test.YtmbmkfhdiljalaaGreatVcF
import Derived.Test.YtmbmkfhdiljalaaGreatVcSort
set_option linter.unusedVariables false
set_option linter.unusedSimpArgs false
set_option maxRecDepth 10000
namespace Go.Proofs.YtmbmkfhdiljalaaGreat.vc
open Go.RowKit Go.ChangeShapes Go.WideShapes Go.ChangeAt
open Go.Sort (grow)
open Go.Sort Go.Lib Go.Shelf

def encH (x : Int × Int) : List Value := [.int .u64 x.1, .int .i64 x.2]
def cfH (x y : Int × Int) : Int := ordF x.1 x.2 y.1 y.2
theorem ltH (x y : Int × Int) : ltOf cfH x y = decide (x.2 < y.2 ∨ (x.2 = y.2 ∧ x.1 < y.1)) := by
  unfold ltOf cfH
  have := ordF_spec x.1 x.2 y.1 y.2
  rw [decide_eq_decide]
  omega
theorem swoH : Sort.SWO (ltOf cfH) where
  irrefl x := by rw [ltH, decide_eq_false_iff_not]; omega
  trans x y z h1 h2 := by rw [ltH, decide_eq_true_eq] at *; omega
  ntrans x y z h1 h2 := by rw [ltH, decide_eq_false_iff_not] at *; omega
theorem totH (x y : Int × Int) (h1 : ltOf cfH x y = false) (h2 : ltOf cfH y x = false) : x = y := by
  rw [ltH, decide_eq_false_iff_not] at *
  exact Prod.ext (by omega) (by omega)
/-- A list of hits in their order. -/
def sortH (l : List (Int × Int)) : List (Int × Int) := l.mergeSort fun x y => !(ltOf cfH) y x
theorem sortH_perm (l : List (Int × Int)) : (sortH l).Perm l := List.mergeSort_perm l _
theorem sortH_length (l : List (Int × Int)) : (sortH l).length = l.length := (sortH_perm l).length_eq

theorem alloc3_grow (W : World) (a b c : Obj) : (((W.alloc a).alloc b).alloc c).drew = grow (W.drewN 1) #[a, b, c] := by
  rw [Sort.alloc_eq_grow, Sort.alloc_eq_grow, Sort.alloc_eq_grow, Sort.grow_grow, Sort.grow_grow]; rfl
theorem cmpLaysH (blk off size : Nat) (w : World) : CmpLays Tryz.prog 92 #[] encH 2 cfH blk off size w :=
  fun m os dk _ x y => (order_full x.1 x.2 y.1 y.2 _).mono fun e w' ⟨h1, h2⟩ => ⟨h1, 1, _, h2.trans (alloc3_grow _ _ _ _)⟩

theorem sort_any (g c : Nat) (xs : List (Int × Int)) (w : World) (hH : HoldsK encH 2 w g 0 xs.toArray) (hg : g < w.heap.size) (hsz : xs.length < 4611686018427387904) :
    Calls Tryz.prog 91 #[.slice (some ⟨g, 0, none⟩) xs.length c, .func (.func 92) #[] #[]] w fun e w' => e = .returned (.tuple #[]) ∧ HoldsK encH 2 w' g 0 (sortH xs).toArray ∧ w.heap.size ≤ w'.heap.size ∧ w'.os = w.os ∧ w'.tape = w.tape ∧ w'.output = w.output ∧ ∀ k, k < w.heap.size → k ≠ g → w'.heap[k]? = w.heap[k]? := by
  have eg : ∀ args w, (callFunc 92 args).run Tryz.prog w = .ok (.enter 92 args) w := enters_of Tryz.func92 (by kernel_rfl) rfl
  have hcon := AnyQ.slices_SortFunc_total Tryz.sortHit 2 Tryz.isAgg109 Tryz.sizeOf109 encH (fun _ => rfl) (fun x v hv => by simp [encH] at hv; rcases hv with rfl | rfl <;> rfl) cfH swoH 92 #[] g 0 c xs.toArray w eg (cmpLaysH g 0 _ w) hH hg (by simpa using hsz) totH
  rw [List.size_toArray] at hcon
  refine Calls.mono (show Calls Tryz.prog 91 _ _ _ from hcon) ?_
  rintro e w' ⟨h1, n, os, hw⟩
  change w' = sortWorldK encH 2 w g 0 n (sortH xs).toArray os at hw
  subst hw
  have hs : (sortH xs).toArray.size = xs.toArray.size := by simpa using sortH_length xs
  have hh : HoldsK encH 2 (putRowK encH 2 (Sort.ahead w n) g 0 (sortH xs).toArray) g 0 (sortH xs).toArray := holdsK_putRowK encH 2 (Sort.ahead w n) g 0 xs.toArray _ (holdsK_ahead encH 2 w n g 0 _ hH) hs
  have hz : (putRowK encH 2 (Sort.ahead w n) g 0 (sortH xs).toArray).heap.size = w.heap.size := by simp [putRowK, putRow, mapBlock]
  refine ⟨h1, holdsK_grow encH 2 _ os g 0 _ (by rw [hz]; exact hg) hh, ?_, rfl, rfl, rfl, fun k hk hne => ?_⟩
  · show w.heap.size ≤ (grow _ os).heap.size
    rw [size_grow, hz]; omega
  · show (grow _ os).heap[k]? = _
    rw [heap_grow_old _ os (by rw [hz]; exact hk)]
    simp only [putRowK, putRow, mapBlock, Sort.ahead, Array.getElem?_modify]
    rw [if_neg (fun e => hne e.symm)]

theorem hc_get : ∀ {xs : List (Int × Int)} {i : Nat} {x : Int × Int}, xs[i]? = some x → (hc xs)[2 * i]? = some (.int .u64 x.1) ∧ (hc xs)[2 * i + 1]? = some (.int .i64 x.2)
  | [], _, _, h => by simp at h
  | y :: r, 0, x, h => by simp at h; subst h; simp [hc]
  | y :: r, i + 1, x, h => by
    rw [List.getElem?_cons_succ] at h
    have ih := hc_get h
    have e : hc (y :: r) = .int .u64 y.1 :: .int .i64 y.2 :: hc r := rfl
    rw [e, show 2 * (i + 1) = 2 * i + 1 + 1 by omega]
    exact ih
theorem flat_hc (xs : List (Int × Int)) (t : Nat) (ht : t < xs.length * 2) : (hc xs)[t]? = some ((flatK encH 2 xs.toArray)[t]!) := by
  have hi : t / 2 < xs.length := by omega
  have hg := hc_get (List.getElem?_eq_getElem hi)
  rw [get_flatK encH 2 xs.toArray t (by simpa using ht)]
  have e : xs.toArray[t / 2]! = xs[t / 2] := by simp [hi]
  rw [e]
  rcases Nat.mod_two_eq_zero_or_one t with h | h
  · rw [h]
    have e2 : t = 2 * (t / 2) := by omega
    have := hg.1
    rw [← e2] at this
    simpa [encH] using this
  · have e1 : t % 2 = 1 := h
    rw [e1]
    have e2 : t = 2 * (t / 2) + 1 := by omega
    have := hg.2
    rw [← e2] at this
    simpa [encH] using this
theorem holds_of_own {w : World} {base g cap n : Nat} {e : TypeId} {xs : List (Int × Int)} (h : w.ownsRow base e 2 (.slice (some ⟨g, 0, none⟩) n cap) n (hc xs)) : HoldsK encH 2 w g 0 xs.toArray := by
  have hl := h.1
  rw [hc_len] at hl
  intro j hj
  have hj' : j < xs.length * 2 := by simpa [flatK] using hj
  refine ⟨?_, ?_⟩
  · rw [Nat.zero_add, h.cellAt j (by omega)]
    exact flat_hc xs j hj'
  · rw [Nat.zero_add]; exact h.frozenAt j
theorem src_of_holds {w : World} {g n c m : Nat} {xs : List (Int × Int)} (h : HoldsK encH 2 w g 0 xs.toArray) (hm : m ≤ xs.length) (hn : n = m) : SrcOf w (.slice (some ⟨g, 0, none⟩) n c) m 2 (hc (xs.take m)) := by
  subst hn
  refine .inr ⟨_, c, rfl, by rw [hc_len, List.length_take, Nat.min_eq_left hm], fun j u hj => ?_⟩
  have hlt : j < n * 2 := by
    have := (List.getElem?_eq_some_iff.1 hj).1
    rw [hc_len, List.length_take, Nat.min_eq_left hm] at this
    exact this
  have e : hc (xs.take n) = (hc xs).take (n * 2) := by
    have : hc xs = hc (xs.take n) ++ hc (xs.drop n) := by rw [← hc_append, List.take_append_drop]
    rw [this]
    exact (List.take_left' (by rw [hc_len, List.length_take, Nat.min_eq_left hm])).symm
  rw [e, List.getElem?_take, if_pos hlt, flat_hc xs j (by omega)] at hj
  have hh := (h j (by rw [size_flatK]; simp; omega)).1
  rw [Nat.zero_add] at hh
  simp only [Option.some.injEq] at hj
  rw [Go.WideShapes.add_plain, Nat.zero_add, hh, ← hj]; rfl

theorem sort_n (g c n : Nat) (xs : List (Int × Int)) (w : World) (hn : xs.length = n) (hH : HoldsK encH 2 w g 0 xs.toArray) (hg : g < w.heap.size) (hsz : n < 4611686018427387904) :
    Calls Tryz.prog 91 #[.slice (some ⟨g, 0, none⟩) n c, .func (.func 92) #[] #[]] w fun e w' => e = .returned (.tuple #[]) ∧ HoldsK encH 2 w' g 0 (sortH xs).toArray ∧ w.heap.size ≤ w'.heap.size ∧ w'.os = w.os ∧ w'.tape = w.tape ∧ w'.output = w.output ∧ ∀ k, k < w.heap.size → k ≠ g → w'.heap[k]? = w.heap[k]? := by
  subst hn
  exact sort_any g c xs w hH hg hsz
theorem below_but {B g : Nat} {a w w' : World} (h : Below B a w) (hg : B < g) (hs : w.heap.size ≤ w'.heap.size) (ho : w'.os = w.os) (ht : w'.tape = w.tape) (hou : w'.output = w.output) (hk : ∀ k, k < w.heap.size → k ≠ g → w'.heap[k]? = w.heap[k]?) (hB : B ≤ w.heap.size := by omega) : Below B a w' :=
  h.trans ⟨ho, ht, hou, hs, fun k hlt => hk k (by omega) (by omega)⟩
theorem own_mono {w : World} {b b' : Nat} {e : TypeId} {size : Nat} {v : Value} {n : Nat} {xs : List Value} (h : w.ownsRow b e size v n xs) (hb : b' ≤ b) : w.ownsRow b' e size v n xs := by
  obtain ⟨h1, h2⟩ := h
  refine ⟨h1, ?_⟩
  rcases h2 with h2 | ⟨g, cap, cur, hv, hg, r⟩
  · exact .inl h2
  · exact .inr ⟨g, cap, cur, hv, by omega, r⟩

/-- How many of n are asked for. -/
def askN (n : Nat) (k : Int) : Nat := min n k.toNat

set_option maxHeartbeats 1000000 in
theorem merge_z (n1 n2 : Nat) (xs ys : List (Int × Int)) (w : World) (a1 a2 : Option Addr) (c1 c2 : Nat) (k : Int) (k1 : -9223372036854775808 ≤ k) (k2 : k ≤ 9223372036854775807)
    (l1 : xs.length = n1) (l2 : ys.length = n2) (i1 : SrcOf w (.slice a1 n1 c1) n1 2 (hc xs)) (i2 : SrcOf w (.slice a2 n2 c2) n2 2 (hc ys)) (hb : (n1 + n2) * 16 ≤ 140737488355328) (hz : n1 + n2 = 0) :
    Calls Tryz.prog 83 #[.slice a1 n1 c1, .slice a2 n2 c2, .int .i64 k] w fun e w' => ∃ v, e = .returned v ∧ w'.ownsRow w.heap.size 109 2 v (askN (n1 + n2) k) (hc ((sortH (xs ++ ys)).take (askN (n1 + n2) k))) ∧ Below w.heap.size w w' := by
  have L1 := Lib.hid l1
  have L2 := Lib.hid l2
  have I1 := Lib.hid i1
  have I2 := Lib.hid i2
  clear l1 l2 i1 i2
  go_enter Tryz.func83, Tryz.ntmps83
  go_wp2_with fail
  have b0 : Below w.heap.size w (w.alloc (.cells #[.slice a1 n1 c1, .slice a2 n2 c2] 72)) := (Below.refl _ _).alloc (Nat.le_refl _) _
  refine (concat_any (.slice a1 n1 c1) (.slice a2 n2 c2) _ _ n1 n2 xs ys _ a1 a2 c1 c2 rfl rfl (by simp [go_sem]) (by simp [go_sem]) L1.out L2.out (I1.out.below b0) (I2.out.below b0) hb).mono ?_
  rintro e w1 ⟨v1, rfl, hown1, hb1⟩
  have l3 : (xs ++ ys).length = n1 + n2 := by rw [List.length_append, L1.out, L2.out]
  have B1 := Lib.hid (b0.trans (hb1.mono (by simp)))
  have z1 := hb1.size
  simp only [World.size_alloc] at z1
  have hv : ∃ p cap, v1 = .slice p 0 cap ∧ (p = none → cap = 0) := by
    rcases hown1.2 with ⟨rfl, _⟩ | ⟨g, cap, cur, rfl, _⟩
    · exact ⟨none, 0, rfl, fun _ => rfl⟩
    · exact ⟨_, cap, by rw [hz], fun h => by cases h⟩
  obtain ⟨p, cap, hv, hp⟩ := hv
  rw [hv]
  have hr : (sortH (xs ++ ys)).take (askN (n1 + n2) k) = [] := by
    rw [hz]; simp [askN]
  have ha : askN (n1 + n2) k = 0 := by rw [hz]; simp [askN]
  have HR := Lib.hid hr
  have HA := Lib.hid ha
  have HS := Lib.hid (fun p cap W => (show Calls Tryz.prog 91 _ W _ from AnyF.slices_SortFunc_none Tryz.sortHit p cap (.func (.func 92) #[] #[]) W))
  clear hown1 hb1 b0 hr ha hz hv l3 hb
  go_wp2_with fail
  refine (HS.out _ _ _).mono ?_
  rintro e w' ⟨rfl, rfl⟩
  go_wp2_with fail
  rw [show (min 0 (max k 0)).toNat = 0 by omega]
  cases p with
  | none =>
    obtain rfl := hp rfl
    refine (clone_nil _).mono ?_
    rintro e w' ⟨rfl, rfl⟩
    go_wp2_with fail
    go_ret
    exact ⟨_, rfl, by rw [HR.out, HA.out]; exact World.ownsRow_nil _ _ _ _, B1.out⟩
  | some ad =>
    clear hp
    refine (clone_some ad 0 cap [] _ (.inr ⟨ad, cap, rfl, rfl, fun j u hj => by simp at hj⟩) (by simp) (by omega)).mono ?_
    rintro e w2 ⟨v2, rfl, hown2, hb2⟩
    have O2 := Lib.hid hown2
    have B2 := Lib.hid hb2
    clear hown2 hb2
    go_wp2_with fail
    go_ret
    exact ⟨v2, rfl, by rw [HR.out, HA.out]; exact own_mono O2.out (by omega), B1.out.trans (B2.out.mono (by omega))⟩

set_option maxHeartbeats 1000000 in
theorem merge_p (n1 n2 : Nat) (xs ys : List (Int × Int)) (w : World) (a1 a2 : Option Addr) (c1 c2 : Nat) (k : Int) (k1 : -9223372036854775808 ≤ k) (k2 : k ≤ 9223372036854775807)
    (l1 : xs.length = n1) (l2 : ys.length = n2) (i1 : SrcOf w (.slice a1 n1 c1) n1 2 (hc xs)) (i2 : SrcOf w (.slice a2 n2 c2) n2 2 (hc ys)) (hb : (n1 + n2) * 16 ≤ 140737488355328) (hz : 0 < n1 + n2) :
    Calls Tryz.prog 83 #[.slice a1 n1 c1, .slice a2 n2 c2, .int .i64 k] w fun e w' => ∃ v, e = .returned v ∧ w'.ownsRow w.heap.size 109 2 v (askN (n1 + n2) k) (hc ((sortH (xs ++ ys)).take (askN (n1 + n2) k))) ∧ Below w.heap.size w w' := by
  have L1 := Lib.hid l1
  have L2 := Lib.hid l2
  have I1 := Lib.hid i1
  have I2 := Lib.hid i2
  clear l1 l2 i1 i2
  go_enter Tryz.func83, Tryz.ntmps83
  go_wp2_with fail
  have b0 : Below w.heap.size w (w.alloc (.cells #[.slice a1 n1 c1, .slice a2 n2 c2] 72)) := (Below.refl _ _).alloc (Nat.le_refl _) _
  refine (concat_any (.slice a1 n1 c1) (.slice a2 n2 c2) _ _ n1 n2 xs ys _ a1 a2 c1 c2 rfl rfl (by simp [go_sem]) (by simp [go_sem]) L1.out L2.out (I1.out.below b0) (I2.out.below b0) hb).mono ?_
  rintro e w1 ⟨v1, rfl, hown1, hb1⟩
  have l3 : (xs ++ ys).length = n1 + n2 := by rw [List.length_append, L1.out, L2.out]
  have B1 := Lib.hid (b0.trans (hb1.mono (by simp)))
  have z1 := hb1.size
  simp only [World.size_alloc] at z1
  have hv : ∃ g cap, v1 = .slice (some ⟨g, 0, none⟩) (n1 + n2) cap ∧ w.heap.size < g ∧ g < w1.heap.size ∧ n1 + n2 ≤ cap ∧ cap ≤ maxLen := by
    have hlt := hown1.lt
    rcases hown1.2 with ⟨rfl, h⟩ | ⟨g, cap, cur, rfl, hg, _, hc, hm, _⟩
    · omega
    · simp only [World.size_alloc] at hg
      exact ⟨g, cap, rfl, by omega, (hlt g rfl).2, hc, hm⟩
  obtain ⟨g, cap, hv, hg0, hg1, hcap, hmax⟩ := hv
  rw [hv] at hown1 ⊢
  clear hv
  unfold maxLen at hmax
  have HS := Lib.hid (sort_n g cap (n1 + n2) (xs ++ ys) w1 l3 (holds_of_own hown1) hg1 (by omega))
  have L3 := Lib.hid l3
  have hcap1 : (n1 : Int) + (n2 : Int) ≤ (cap : Int) := by omega
  clear hown1 hb1 b0 l3
  go_wp2_with fail
  refine HS.out.mono ?_
  rintro e w2 ⟨rfl, hh, hsz, ho, htp, hou, hkp⟩
  have B2 := Lib.hid (below_but B1.out hg0 hsz ho htp hou hkp)
  have HH := Lib.hid hh
  clear hh hsz ho htp hou hkp HS
  go_wp2_with fail
  rw [show (min ((n1 : Int) + (n2 : Int)) (max k 0)).toNat = askN (n1 + n2) k by unfold askN; omega]
  have hask : askN (n1 + n2) k ≤ n1 + n2 := by unfold askN; omega
  refine (clone_some _ (askN (n1 + n2) k) cap _ _ (src_of_holds HH.out (by rw [sortH_length, L3.out]; omega) rfl) (hc_one _) (by omega)).mono ?_
  rintro e w3 ⟨v2, rfl, hown2, hb2⟩
  have O2 := Lib.hid hown2
  have B3 := Lib.hid hb2
  clear hown2 hb2
  go_wp2_with fail
  go_ret
  exact ⟨v2, rfl, own_mono O2.out B2.out.size, B2.out.trans (B3.out.mono B2.out.size)⟩

theorem merge_any (n1 n2 : Nat) (xs ys : List (Int × Int)) (w : World) (a1 a2 : Option Addr) (c1 c2 : Nat) (k : Int) (k1 : -9223372036854775808 ≤ k) (k2 : k ≤ 9223372036854775807)
    (l1 : xs.length = n1) (l2 : ys.length = n2) (i1 : SrcOf w (.slice a1 n1 c1) n1 2 (hc xs)) (i2 : SrcOf w (.slice a2 n2 c2) n2 2 (hc ys)) (hb : (n1 + n2) * 16 ≤ 140737488355328)  :
    Calls Tryz.prog 83 #[.slice a1 n1 c1, .slice a2 n2 c2, .int .i64 k] w fun e w' => ∃ v, e = .returned v ∧ w'.ownsRow w.heap.size 109 2 v (askN (n1 + n2) k) (hc ((sortH (xs ++ ys)).take (askN (n1 + n2) k))) ∧ Below w.heap.size w w' := by
  by_cases hz : n1 + n2 = 0
  · exact merge_z n1 n2 xs ys w a1 a2 c1 c2 k k1 k2 l1 l2 i1 i2 hb hz
  · exact merge_p n1 n2 xs ys w a1 a2 c1 c2 k k1 k2 l1 l2 i1 i2 hb (by omega)
end Go.Proofs.YtmbmkfhdiljalaaGreat.vc

/- The references at hits: Ahead, Same, First. -/
set_option maxRecDepth 10000
namespace Go.Proofs.YtmbmkfhdiljalaaGreat.vc
open Go.RowKit Go.ChangeShapes Go.WideShapes Go.ChangeAt

/-- The slice value v reads as the hits xs. -/
def HitsAt (w : World) (v : Value) (xs : List (Int × Int)) : Prop :=
  (xs = [] ∧ ∃ a c, v = .slice a 0 c) ∨
  ∃ b off cap, v = .slice (some ⟨b, off, none⟩) xs.length cap ∧ ∀ i, i < xs.length → w.cell? ⟨b, off + i * 2, none⟩ = some (.int .u64 (xs[i]?.getD (0, 0)).1) ∧ w.cell? ⟨b, off + i * 2 + 1, none⟩ = some (.int .i64 (xs[i]?.getD (0, 0)).2)

def aheadB (x y : Int × Int) : Bool := decide (x.2 < y.2) || (decide (x.2 = y.2) && decide (x.1 < y.1))
set_option maxHeartbeats 400000 in
theorem ahead_any (k1 d1 k2 d2 : Int) (w : World) :
    Calls Tryz.prog 84 #[.agg #[.int .u64 k1, .int .i64 d1], .agg #[.int .u64 k2, .int .i64 d2]] w fun e w' => e = .returned (.bool (aheadB (k1, d1) (k2, d2))) ∧ Below w.heap.size w w' := by
  by_cases h1 : d1 < d2
  · go_enter Tryz.func84, Tryz.ntmps84
    go_wp2
    go_ret
    exact ⟨ret_bool (by simp [aheadB, h1]), ((Below.refl _ _).alloc (Nat.le_refl _) _).alloc (by simp) _⟩
  · by_cases h2 : d1 = d2
    · subst h2
      go_enter Tryz.func84, Tryz.ntmps84
      go_wp2
      go_ret
      exact ⟨ret_bool (by simp [aheadB]), ((Below.refl _ _).alloc (Nat.le_refl _) _).alloc (by simp) _⟩
    · have q1 : decide (d1 < d2) = false := by simpa using h1
      have q2 : (d1 == d2) = false := by simpa using h2
      go_enter Tryz.func84, Tryz.ntmps84
      go_wp2
      go_ret
      exact ⟨ret_bool (by simp [aheadB, h1, h2]), ((Below.refl _ _).alloc (Nat.le_refl _) _).alloc (by simp) _⟩

def sameH (xs ys : List (Int × Int)) : Bool := decide (xs = ys)
theorem sameH_refl (xs : List (Int × Int)) : sameH xs xs = true := by simp [sameH]
theorem sameH_ne (xs ys : List (Int × Int)) (i : Nat) (h : ¬ xs[i]?.getD (0, 0) = ys[i]?.getD (0, 0)) : sameH xs ys = false := by
  simp only [sameH, decide_eq_false_iff_not]; intro e; exact h (by rw [e])
theorem sameH_len (xs ys : List (Int × Int)) (h : ¬ xs.length = ys.length) : sameH xs ys = false := by
  simp only [sameH, decide_eq_false_iff_not]; intro e; exact h (by rw [e])
theorem sameH_eq (xs ys : List (Int × Int)) (h : xs.length = ys.length) (ha : ∀ i, i < xs.length → xs[i]?.getD (0, 0) = ys[i]?.getD (0, 0)) : sameH xs ys = true := by
  simp only [sameH, decide_eq_true_eq]
  refine List.ext_getElem h fun i h1 h2 => ?_
  have := ha i h1
  simpa [h1, h2] using this

set_option maxHeartbeats 1000000 in
theorem rsame_good (b1 o1 c1 b2 o2 c2 n : Nat) (xs ys : List (Int × Int)) (w : World) (hn : xs.length = n) (hn2 : ys.length = n) (m1 : n ≤ 9223372036854775807)
    (cx : ∀ i, i < xs.length → w.cell? ⟨b1, o1 + i * 2, none⟩ = some (.int .u64 (xs[i]?.getD (0, 0)).1) ∧ w.cell? ⟨b1, o1 + i * 2 + 1, none⟩ = some (.int .i64 (xs[i]?.getD (0, 0)).2))
    (cy : ∀ i, i < ys.length → w.cell? ⟨b2, o2 + i * 2, none⟩ = some (.int .u64 (ys[i]?.getD (0, 0)).1) ∧ w.cell? ⟨b2, o2 + i * 2 + 1, none⟩ = some (.int .i64 (ys[i]?.getD (0, 0)).2)) :
    Calls Tryz.prog 35 #[.slice (some ⟨b1, o1, none⟩) n c1, .slice (some ⟨b2, o2, none⟩) n c2] w fun e w' => e = .returned (.bool (sameH xs ys)) ∧ ∃ q, w' = w.drewN q := by
  have H1 := Lib.hid cx
  have H2 := Lib.hid cy
  have H3 := Lib.hid hn
  have H4 := Lib.hid hn2
  clear cx cy hn hn2
  go_enter Tryz.func35, Tryz.ntmps35
  go_wp2
  go_loopw [5] (fun i wr => ∃ k : Nat, k ≤ n ∧ i = .int .i64 k ∧ Hid (∀ i, i < k → xs[i]?.getD (0, 0) = ys[i]?.getD (0, 0)) ∧ ∃ q, wr = w.drewN q) (fun i _ => n - (intOf i).toNat)
  case atStart => exact ⟨0, Nat.zero_le _, rfl, fun i h => by omega, 0, rfl⟩
  case round =>
    obtain ⟨k, hk, rfl, hs, q, rfl⟩ := hrel
    by_cases hlt : k < n
    · have cx := H1.out k (by have := H3.out; omega)
      have cy := H2.out k (by have := H4.out; omega)
      obtain ⟨x1, x2⟩ := cx
      obtain ⟨y1, y2⟩ := cy
      by_cases he : xs[k]?.getD (0, 0) = ys[k]?.getD (0, 0)
      · have HE := Lib.hid he
        rw [← he] at y1 y2
        clear he
        generalize (xs[k]?.getD (0, 0)).1 = a at x1 y1
        generalize (xs[k]?.getD (0, 0)).2 = b at x2 y2
        go_wp2
        go_quiet (fail)
        go_wp2
        go_roundw
        case rel => exact ⟨k + 1, by omega, by go_num, fun i hi => by rcases Nat.lt_succ_iff_lt_or_eq.1 hi with h | rfl; exact hs.out i h; exact HE.out, _, rfl⟩
        case measure => simp [intOf]; omega
      · have HF := Lib.hid (sameH_ne xs ys k he)
        have hd : ¬ ((xs[k]?.getD (0, 0)).1 = (ys[k]?.getD (0, 0)).1 ∧ (xs[k]?.getD (0, 0)).2 = (ys[k]?.getD (0, 0)).2) := fun h => he (Prod.ext h.1 h.2)
        clear he
        generalize (xs[k]?.getD (0, 0)).1 = a1 at *
        generalize (xs[k]?.getD (0, 0)).2 = a2 at *
        generalize (ys[k]?.getD (0, 0)).1 = b1' at *
        generalize (ys[k]?.getD (0, 0)).2 = b2' at *
        by_cases h1 : a1 = b1'
        · subst h1
          have h2 : (a2 == b2') = false := by simp; omega
          clear hd
          go_wp2
          go_quiet (fail)
          go_wp2
          go_ret
          exact ⟨ret_bool HF.out.symm, _, by rw [World.drewN_drewN]⟩
        · have h2 : (a1 == b1') = false := by simpa using h1
          clear hd h1
          go_wp2
          go_quiet (fail)
          go_wp2
          go_ret
          exact ⟨ret_bool HF.out.symm, _, by rw [World.drewN_drewN]⟩
    · obtain rfl : k = n := by omega
      go_wp2
      go_ret
      exact ⟨ret_bool (sameH_eq xs ys (by rw [H3.out, H4.out]) (fun i hi => hs.out i (by have := H3.out; omega))).symm, _, rfl⟩

set_option maxHeartbeats 400000 in
theorem rsame_len (a1 a2 : Option Addr) (n1 c1 n2 c2 : Nat) (w : World) (m1 : n1 ≤ 9223372036854775807) (m2 : n2 ≤ 9223372036854775807) (h : n1 ≠ n2) :
    Calls Tryz.prog 35 #[.slice a1 n1 c1, .slice a2 n2 c2] w fun e w' => e = .returned (.bool false) ∧ w = w' := by
  have q1 : ((n1 : Int) != (n2 : Int)) = true := by simp; omega
  clear h
  go_enter Tryz.func35, Tryz.ntmps35
  go_wp2
  go_ret
  exact ⟨rfl, rfl⟩
set_option maxHeartbeats 400000 in
theorem rsame_none (a1 a2 : Option Addr) (c1 c2 : Nat) (w : World) :
    Calls Tryz.prog 35 #[.slice a1 0 c1, .slice a2 0 c2] w fun e w' => e = .returned (.bool true) ∧ w = w' := by
  go_enter Tryz.func35, Tryz.ntmps35
  go_wp2
  refine wp_loop_once ?_
  go_wp2
  go_ret
  exact ⟨rfl, rfl⟩
theorem HitsAt.shape {w : World} {v : Value} {xs : List (Int × Int)} (h : HitsAt w v xs) (hp : 0 < xs.length) :
    ∃ b off cap, v = .slice (some ⟨b, off, none⟩) xs.length cap ∧ ∀ i, i < xs.length → w.cell? ⟨b, off + i * 2, none⟩ = some (.int .u64 (xs[i]?.getD (0, 0)).1) ∧ w.cell? ⟨b, off + i * 2 + 1, none⟩ = some (.int .i64 (xs[i]?.getD (0, 0)).2) := by
  rcases h with ⟨rfl, _⟩ | h
  · simp at hp
  · exact h
theorem HitsAt.len {w : World} {v : Value} {xs : List (Int × Int)} (h : HitsAt w v xs) : ∃ a c, v = .slice a xs.length c := by
  rcases h with ⟨rfl, a, c, rfl⟩ | ⟨b, off, cap, rfl, _⟩
  · exact ⟨a, c, rfl⟩
  · exact ⟨_, cap, rfl⟩
theorem HitsAt.keeps {w w' : World} {v : Value} {xs : List (Int × Int)} (h : HitsAt w v xs) (hb : ∀ b o, b < w.heap.size → w'.cell? ⟨b, o, none⟩ = w.cell? ⟨b, o, none⟩) : HitsAt w' v xs := by
  rcases h with h | ⟨b, off, cap, rfl, hc⟩
  · exact .inl h
  · refine .inr ⟨b, off, cap, rfl, fun i hi => ?_⟩
    have hlt := World.block_lt_of_cell? w _ (hc i hi).1
    exact ⟨(hb b _ hlt).trans (hc i hi).1, (hb b _ hlt).trans (hc i hi).2⟩
theorem HitsAt.below {w w' : World} {v : Value} {xs : List (Int × Int)} (h : HitsAt w v xs) (hb : Below w.heap.size w w') : HitsAt w' v xs :=
  h.keeps fun b o hlt => hb.cell (p := ⟨b, o, none⟩) hlt
theorem HitsAt.drewN {w : World} {v : Value} {xs : List (Int × Int)} (h : HitsAt w v xs) (n : Nat) : HitsAt (w.drewN n) v xs := h.keeps fun _ _ _ => rfl
theorem rsame_any (v1 v2 : Value) (xs ys : List (Int × Int)) (w : World) (h1 : HitsAt w v1 xs) (h2 : HitsAt w v2 ys)
    (m1 : xs.length ≤ 9223372036854775807) (m2 : ys.length ≤ 9223372036854775807) :
    Calls Tryz.prog 35 #[v1, v2] w fun e w' => e = .returned (.bool (sameH xs ys)) ∧ ∃ q, w' = w.drewN q := by
  by_cases h : xs.length = ys.length
  · by_cases h0 : xs.length = 0
    · obtain rfl : xs = [] := List.length_eq_zero_iff.1 h0
      obtain rfl : ys = [] := List.length_eq_zero_iff.1 (h ▸ h0)
      obtain ⟨a1, c1, rfl⟩ := h1.len
      obtain ⟨a2, c2, rfl⟩ := h2.len
      exact (rsame_none a1 a2 c1 c2 w).mono fun e w' ⟨h1, h2⟩ => ⟨h1, 0, h2.symm⟩
    · obtain ⟨b1, o1, c1, rfl, cx⟩ := h1.shape (by omega)
      obtain ⟨b2, o2, c2, rfl, cy⟩ := h2.shape (by omega)
      rw [← h]
      exact rsame_good b1 o1 c1 b2 o2 c2 xs.length xs ys w rfl h.symm m1 cx cy
  · obtain ⟨a1, c1, rfl⟩ := h1.len
    obtain ⟨a2, c2, rfl⟩ := h2.len
    rw [sameH_len xs ys h]
    exact (rsame_len a1 a2 _ c1 _ c2 w m1 m2 h).mono fun e w' ⟨h1, h2⟩ => ⟨h1, 0, h2.symm⟩

/-- What the calls own reads as hits; so does what came in. -/
theorem hits_of_own {w : World} {base : Nat} {e : TypeId} {v : Value} {n : Nat} {xs : List (Int × Int)} (h : w.ownsRow base e 2 v n (hc xs)) : HitsAt w v xs := by
  have hl := h.1
  rw [hc_len] at hl
  have hn : xs.length = n := by omega
  rcases h.2 with ⟨rfl, h0⟩ | ⟨g, cap, cur, rfl, _⟩
  · exact .inl ⟨List.length_eq_zero_iff.1 (by omega), _, _, rfl⟩
  · refine .inr ⟨g, 0, cap, by rw [hn], fun i hi => ?_⟩
    have hg := hc_get (List.getElem?_eq_getElem hi)
    rw [List.getElem?_eq_getElem hi]
    refine ⟨?_, ?_⟩
    · rw [Nat.zero_add, h.cellAt (i * 2) (by omega), Nat.mul_comm]; exact hg.1
    · rw [Nat.zero_add, h.cellAt (i * 2 + 1) (by omega), Nat.mul_comm]; exact hg.2
theorem HitsAt.cut {w : World} {a : Option Addr} {n m cap : Nat} {xs : List (Int × Int)} (h : HitsAt w (.slice a n cap) xs) (hm : m ≤ xs.length) : HitsAt w (.slice a m cap) (xs.take m) := by
  rcases h with ⟨rfl, a', c', h'⟩ | ⟨b, off, cap', h', hc⟩
  · have : m = 0 := by simpa using hm
    subst this
    exact .inl ⟨rfl, _, _, rfl⟩
  · simp only [Value.slice.injEq] at h'
    obtain ⟨rfl, rfl, rfl⟩ := h'
    refine .inr ⟨b, off, cap, by simp [hm], fun i hi => ?_⟩
    have hi' : i < m := by simp at hi; omega
    rw [List.getElem?_take, if_pos hi']
    exact hc i (by omega)

/-! ### the order's plain facts -/
theorem sortH_sorted (l : List (Int × Int)) : (sortH l).Pairwise fun x y => (!(ltOf cfH) y x) = true := by
  refine List.pairwise_mergeSort (le := fun x y => !(ltOf cfH) y x) ?_ ?_ l
  · intro a b c h1 h2
    rw [Bool.not_eq_true', ltH, decide_eq_false_iff_not] at *
    omega
  · intro a b
    rw [ltH, ltH]
    by_cases h : b.2 < a.2 ∨ (b.2 = a.2 ∧ b.1 < a.1)
    · rw [decide_eq_true h, decide_eq_false (by omega)]; rfl
    · rw [decide_eq_false h]; rfl
theorem sortH_unique {l m : List (Int × Int)} (hp : m.Perm l) (hs : m.Pairwise fun x y => (!(ltOf cfH) y x) = true) : sortH l = m :=
  List.Perm.eq_of_pairwise (le := fun x y => (!(ltOf cfH) y x) = true) (fun a b _ _ h1 h2 => totH a b (by simpa using h2) (by simpa using h1)) (sortH_sorted l) hs ((sortH_perm l).trans hp.symm)
theorem sortH_congr {l m : List (Int × Int)} (hp : m.Perm l) : sortH m = sortH l := (sortH_unique ((sortH_perm m).trans hp) (sortH_sorted m)).symm
theorem sortH_cons {l r : List (Int × Int)} {x : Int × Int} (hp : (x :: r).Perm l) (hm : ∀ y ∈ r, ltOf cfH y x = false) : sortH l = x :: sortH r := by
  refine sortH_unique (((sortH_perm r).cons x).trans hp) (List.pairwise_cons.2 ⟨fun y hy => ?_, sortH_sorted r⟩)
  rw [hm y ((sortH_perm r).mem_iff.1 hy)]; rfl
end Go.Proofs.YtmbmkfhdiljalaaGreat.vc
