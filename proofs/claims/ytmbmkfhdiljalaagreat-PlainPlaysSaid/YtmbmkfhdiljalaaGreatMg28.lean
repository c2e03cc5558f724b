/- vect.First; a list of hits that came in. -/
import Derived.Test.YtmbmkfhdiljalaaGreatMg27
import Derived.Deep.SlicePairs
import Derived.Laws.OwnMore
import Derived.WalkSmall
set_option linter.unusedVariables false
set_option linter.unusedSimpArgs false
set_option maxRecDepth 10000
namespace Go.Proofs.YtmbmkfhdiljalaaGreat.vc
open Go.RowKit Go.ChangeShapes Go.WideShapes Go.ChangeAt Go.Deep

/-- The first k hits. -/
def firstF (xs : List (Int × Int)) (k : Int) : List (Int × Int) := (sortH xs).take (askN xs.length k)
theorem firstF_len (xs : List (Int × Int)) (k : Int) : (firstF xs k).length = askN xs.length k := by
  rw [firstF, List.length_take, sortH_length]; unfold askN; omega

theorem first_any (n : Nat) (xs : List (Int × Int)) (w : World) (a : Option Addr) (c : Nat) (k : Int) (k1 : -9223372036854775808 ≤ k) (k2 : k ≤ 9223372036854775807)
    (l : xs.length = n) (i : SrcOf w (.slice a n c) n 2 (hc xs)) (hb : n * 16 ≤ 140737488355328) :
    Calls Tryz.prog 64 #[.slice a n c, .int .i64 k] w fun e w' => ∃ v, e = .returned v ∧ w'.ownsRow w.heap.size 109 2 v (askN n k) (hc (firstF xs k)) ∧ Below w.heap.size w w' := by
  have H := Lib.hid (merge_any n 0 xs [] w a none c 0 k k1 k2 l rfl i (.inl ⟨rfl, rfl, rfl⟩) (by omega))
  have L := Lib.hid l
  clear i l
  go_enter Tryz.func64, Tryz.ntmps64
  go_wp2_with fail
  refine H.out.mono ?_
  rintro e w1 ⟨v, rfl, hown, hb1⟩
  have O := Lib.hid hown
  have B := Lib.hid hb1
  clear hown hb1
  go_wp2_with fail
  go_ret
  exact ⟨v, rfl, by have o := O.out; rw [List.append_nil, Nat.add_zero] at o; rw [firstF, L.out]; exact o, B.out⟩

theorem src_of_own {w : World} {base : Nat} {e : TypeId} {v : Value} {n : Nat} {news : List Value} (h : w.ownsRow base e 2 v n news) : SrcOf w v n 2 news := by
  rcases h.2 with ⟨rfl, h0⟩ | ⟨g, cap, cur, rfl, _⟩
  · have hl := h.1
    rw [h0] at hl
    exact .inl ⟨rfl, h0, List.length_eq_zero_iff.1 (by omega)⟩
  · refine .inr ⟨_, cap, rfl, h.1, fun j u hj => ?_⟩
    have hlt : j < n * 2 := by rw [← h.1]; exact (List.getElem?_eq_some_iff.1 hj).1
    have := h.cellAt j hlt
    rw [add_plain, Nat.zero_add, this, hj]

theorem own_shape {w : World} {base : Nat} {e : TypeId} {v : Value} {n : Nat} {news : List Value} (h : w.ownsRow base e 2 v n news) : ∃ p c, v = .slice p n c ∧ n ≤ c ∧ c ≤ 9223372036854775807 := by
  rcases h.2 with ⟨rfl, rfl⟩ | ⟨g, cap, cur, rfl, _, _, hc, hm, _⟩
  · exact ⟨none, 0, rfl, Nat.le_refl _, by omega⟩
  · exact ⟨_, cap, rfl, hc, by unfold maxLen at hm; omega⟩

/-- A list of hits that came in. -/
def HitsIn (w : World) (a : Option Addr) (n c : Nat) (xs : List (Int × Int)) : Prop :=
  xs.length = n ∧ n ≤ c ∧ c ≤ 9223372036854775807 ∧ SrcOf w (.slice a n c) n 2 (hc xs) ∧ HitsAt w (.slice a n c) xs
theorem hc_at (xs : List (Int × Int)) (i : Nat) (hi : i < xs.length) : (hc xs)[2 * i]? = some (.int .u64 (xs[i]?.getD (0, 0)).1) ∧ (hc xs)[2 * i + 1]? = some (.int .i64 (xs[i]?.getD (0, 0)).2) := by
  have hg := hc_get (List.getElem?_eq_getElem hi)
  rw [List.getElem?_eq_getElem hi]
  exact hg
theorem hits_in_src {w : World} {b off n c : Nat} {xs : List (Int × Int)} (hl : xs.length = n)
    (h : ∀ i, i < xs.length → w.cell? ⟨b, off + i * 2, none⟩ = some (.int .u64 (xs[i]?.getD (0, 0)).1) ∧ w.cell? ⟨b, off + i * 2 + 1, none⟩ = some (.int .i64 (xs[i]?.getD (0, 0)).2)) :
    SrcOf w (.slice (some ⟨b, off, none⟩) n c) n 2 (hc xs) := by
  refine .inr ⟨_, c, rfl, by rw [hc_len, hl], fun j u hj => ?_⟩
  have hlt : j < xs.length * 2 := by rw [← hc_len]; exact (List.getElem?_eq_some_iff.1 hj).1
  rw [add_plain]
  rcases Nat.mod_two_eq_zero_or_one j with hm | hm
  · have e : j = 2 * (j / 2) := by omega
    have := hc_at xs (j / 2) (by omega)
    rw [← e] at this
    rw [this.1] at hj
    have hc := (h (j / 2) (by omega)).1
    rw [show off + j / 2 * 2 = off + j by omega] at hc
    rw [hc, ← hj]
  · have e : j = 2 * (j / 2) + 1 := by omega
    have := hc_at xs (j / 2) (by omega)
    rw [← e] at this
    rw [this.2] at hj
    have hc := (h (j / 2) (by omega)).2
    rw [show off + j / 2 * 2 + 1 = off + j by omega] at hc
    rw [hc, ← hj]
theorem hits_in {H : Type} {enc : TypeId × Value → H} {w : World} {a : Option Addr} {n c fuel : Nat} {x : DataW H × List MemPlace}
    (h : DataW.trod enc Tryz.prog w 0 (fun _ => true) true fuel 72 [.slice a n c] = some x) : ∃ xs, HitsIn w a n c xs := by
  rcases open_slice_pairs Tryz.underlying72 Tryz.underlying109 (by kernel_rfl) rfl rfl (by kernel_rfl) (by kernel_rfl) h with ⟨hcs, _⟩ | ⟨ad, len, cap, m, k, V0, V1, D0, D1, P0, P1, hcs, _, hl, hm, hmm, _, hx⟩
  · simp at hcs
    obtain ⟨rfl, rfl, rfl⟩ := hcs
    exact ⟨[], rfl, by omega, by omega, .inl ⟨rfl, rfl, rfl⟩, .inl ⟨rfl, _, _, rfl⟩⟩
  · simp at hcs
    obtain ⟨rfl, rfl, rfl⟩ := hcs
    simp only [if_true] at hmm
    subst hmm
    unfold maxLen at hm
    have hv : ∀ i, i < m → ∃ q : Int × Int, w.cell? (ad.add (i * 2)) = some (.int .u64 q.1) ∧ w.cell? (ad.add (i * 2 + 1)) = some (.int .i64 q.2) := by
      intro i hi
      obtain ⟨h1, h2, h3, h4⟩ := hx i hi
      obtain ⟨p, e0, _, _⟩ := DataW.trod_int Tryz.underlying30 h3
      obtain ⟨q, e1, _, _⟩ := DataW.trod_int Tryz.underlying2 h4
      simp at e0 e1
      exact ⟨(p, q), by rw [h1, e0], by rw [h2, e1]⟩
    obtain ⟨f, hf⟩ := choose_lt hv
    obtain ⟨b, off, path⟩ := ad
    by_cases h0 : n = 0
    · subst h0
      refine ⟨[], rfl, by omega, by omega, .inr ⟨_, m, rfl, rfl, fun j u hj => by simp [hc] at hj⟩, .inl ⟨rfl, _, _, rfl⟩⟩
    · have hp : path = none := by
        have := (hf 0 (by omega)).1
        cases path with
        | none => rfl
        | some y =>
          simp [World.cell?, Addr.add] at this
          split at this <;> simp at this
      subst hp
      have hall : ∀ i, i < ((List.range n).map f).length → w.cell? ⟨b, off + i * 2, none⟩ = some (.int .u64 (((List.range n).map f)[i]?.getD (0, 0)).1) ∧ w.cell? ⟨b, off + i * 2 + 1, none⟩ = some (.int .i64 (((List.range n).map f)[i]?.getD (0, 0)).2) := by
        intro i hi
        have hi' : i < n := by simpa using hi
        have h := hf i (by omega)
        rw [add_plain, add_plain] at h
        simp [hi']
        exact h
      exact ⟨(List.range n).map f, by simp, hl, by omega, hits_in_src (by simp) hall, .inr ⟨b, off, m, by simp, hall⟩⟩
end Go.Proofs.YtmbmkfhdiljalaaGreat.vc

/- The reference's First. -/
set_option maxRecDepth 10000
namespace Go.Proofs.YtmbmkfhdiljalaaGreat.vc
open Go.RowKit Go.ChangeShapes Go.WideShapes Go.ChangeAt Go.Deep

theorem set_last_perm {R : List (Int × Int)} {m k : Nat} (hl : R.length = m + 1) (hk : k < m + 1) : ((R[k]?.getD (0, 0)) :: (R.set k (R[m]?.getD (0, 0))).take m).Perm R := by
  rw [List.set_eq_take_append_cons_drop, if_pos (by omega)]
  have e1 : R[k]?.getD (0, 0) = R[k] := by rw [List.getElem?_eq_getElem (by omega)]; rfl
  have e2 : R[m]?.getD (0, 0) = R[m] := by rw [List.getElem?_eq_getElem (by omega)]; rfl
  rw [e1, e2]
  by_cases h : k = m
  · subst h
    rw [List.take_left' (by rw [List.length_take]; omega)]
    have : R = R.take k ++ [R[k]] := by
      conv => lhs; rw [← List.take_append_drop k R, List.drop_eq_getElem_cons (by omega)]
      rw [List.drop_of_length_le (by omega)]
    rw [List.perm_iff_count]; intro c
    have h0 := congrArg (List.count c) this
    simp only [List.count_append, List.count_cons, List.count_nil] at h0 ⊢
    omega
  · have h1 : R = R.take k ++ R[k] :: ((R.drop (k + 1)).take (m - k - 1) ++ [R[m]]) := by
      conv => lhs; rw [← List.take_append_drop k R, List.drop_eq_getElem_cons (by omega)]
      congr 2
      have h3 : (R.drop (k + 1)).drop (m - k - 1) = [R[m]] := by
        rw [List.drop_drop, show k + 1 + (m - k - 1) = m by omega, List.drop_eq_getElem_cons (by omega), List.drop_of_length_le (by omega)]
      rw [← h3, List.take_append_drop]
    have h2 : (R.take k ++ R[m] :: R.drop (k + 1)).take m = R.take k ++ R[m] :: (R.drop (k + 1)).take (m - k - 1) := by
      rw [List.take_append, List.take_take, List.length_take, Nat.min_eq_right (by omega), Nat.min_eq_left (by omega)]
      congr 1
      rw [show m - k = (m - k - 1) + 1 by omega, List.take_succ_cons]
      rfl
    rw [h2]
    rw [List.perm_iff_count]; intro c
    have h0 := congrArg (List.count c) h1
    simp only [List.count_append, List.count_cons, List.count_nil] at h0 ⊢
    omega
theorem hc_set : ∀ (R : List (Int × Int)) (k : Nat) (y : Int × Int), hc (R.set k y) = ((hc R).set (k * 2) (.int .u64 y.1)).set (k * 2 + 1) (.int .i64 y.2)
  | [], k, y => by simp [hc]
  | x :: r, 0, y => by simp [hc]
  | x :: r, k + 1, y => by
    have ih := hc_set r k y
    simp only [hc, List.flatMap_cons, List.set_cons_succ] at ih ⊢
    rw [ih, show (k + 1) * 2 = k * 2 + 1 + 1 by omega]
    rfl
theorem own_keep {w w' : World} {base : Nat} {e : TypeId} {size : Nat} {v : Value} {n : Nat} {xs : List Value} (h : w.ownsRow base e size v n xs) (hk : ∀ g, v.ownBlock = some g → w'.heap[g]? = w.heap[g]?) : w'.ownsRow base e size v n xs := by
  obtain ⟨h1, h2⟩ := h
  refine ⟨h1, ?_⟩
  rcases h2 with h2 | ⟨g, cap, cur, rfl, hg, hh, r⟩
  · exact .inl h2
  · exact .inr ⟨g, cap, cur, rfl, hg, by rw [hk g rfl]; exact hh, r⟩
theorem least_step {R : List (Int × Int)} {m k : Nat} (hl : R.length = m + 1) (hk : k < m + 1) (ha : ∀ q, q < m + 1 → aheadB (R[q]?.getD (0, 0)) (R[k]?.getD (0, 0)) = false) :
    sortH R = R[k]?.getD (0, 0) :: sortH ((R.set k (R[m]?.getD (0, 0))).take m) := by
  refine sortH_cons (set_last_perm hl hk) fun y hy => ?_
  have hy' : y ∈ R := (set_last_perm hl hk).subset (List.mem_cons_of_mem _ hy)
  obtain ⟨q, hq, rfl⟩ := List.getElem_of_mem hy'
  have := ha q (by omega)
  rw [List.getElem?_eq_getElem hq] at this
  rw [ltH, decide_eq_false_iff_not]
  simp only [aheadB, Option.getD_some, Bool.or_eq_false_iff, Bool.and_eq_false_iff, decide_eq_false_iff_not] at this
  omega
theorem aheadB_lt (x y : Int × Int) : aheadB x y = decide (x.2 < y.2 ∨ (x.2 = y.2 ∧ x.1 < y.1)) := by
  simp [aheadB]
/-- The next least place. -/
theorem least_next {R : List (Int × Int)} {i k : Nat} (hk : k < i) (ha : ∀ q, q < i → aheadB (R[q]?.getD (0, 0)) (R[k]?.getD (0, 0)) = false) :
    (aheadB (R[i]?.getD (0, 0)) (R[k]?.getD (0, 0)) = true → ∀ q, q < i + 1 → aheadB (R[q]?.getD (0, 0)) (R[i]?.getD (0, 0)) = false) ∧
    (aheadB (R[i]?.getD (0, 0)) (R[k]?.getD (0, 0)) = false → ∀ q, q < i + 1 → aheadB (R[q]?.getD (0, 0)) (R[k]?.getD (0, 0)) = false) := by
  refine ⟨fun h q hq => ?_, fun h q hq => ?_⟩
  · rcases Nat.lt_succ_iff_lt_or_eq.1 hq with hq | rfl
    · have := ha q hq
      simp only [aheadB_lt, decide_eq_false_iff_not, decide_eq_true_eq] at *
      omega
    · simp [aheadB]
  · rcases Nat.lt_succ_iff_lt_or_eq.1 hq with hq | rfl
    · exact ha q hq
    · exact h
end Go.Proofs.YtmbmkfhdiljalaaGreat.vc

/- The walk through the reference's First. -/
set_option maxRecDepth 10000
namespace Go.Proofs.YtmbmkfhdiljalaaGreat.vc
open Go.RowKit Go.ChangeShapes Go.WideShapes Go.ChangeAt Go.Deep
set_option linter.unusedVariables false

def lenV : Value → Nat
  | .slice _ n _ => n
  | _ => 0
theorem cells_of_own {w : World} {base : Nat} {e : TypeId} {g n cap : Nat} {R : List (Int × Int)} (h : w.ownsRow base e 2 (.slice (some ⟨g, 0, none⟩) n cap) n (hc R)) (hl : R.length = n) (i : Nat) (hi : i < n) :
    w.cell? ⟨g, i * 2, none⟩ = some (.int .u64 (R[i]?.getD (0, 0)).1) ∧ w.cell? ⟨g, i * 2 + 1, none⟩ = some (.int .i64 (R[i]?.getD (0, 0)).2) := by
  have hg := hc_at R i (by omega)
  refine ⟨?_, ?_⟩
  · rw [h.cellAt (i * 2) (by omega), Nat.mul_comm]; exact hg.1
  · rw [h.cellAt (i * 2 + 1) (by omega), Nat.mul_comm]; exact hg.2

theorem own_pop {w : World} {base : Nat} {e : TypeId} {g m cap : Nat} {R : List (Int × Int)} (h : w.ownsRow base e 2 (.slice (some ⟨g, 0, none⟩) m cap) m (hc R)) (hm : 0 < m) (hl : R.length = m) :
    w.ownsRow base e 2 (.slice (some ⟨g, 0, none⟩) (m - 1) cap) (m - 1) (hc (R.take (m - 1))) := by
  obtain ⟨q, rfl⟩ : ∃ q, m = q + 1 := ⟨m - 1, by omega⟩
  rw [Nat.add_sub_cancel]
  have e : hc R = hc (R.take q) ++ hc (R.drop q) := by rw [← hc_append, List.take_append_drop]
  rw [e] at h
  exact ownsRow_pop (by rw [hc_len, List.length_take]; omega) h
theorem fin_first {xs R O : List (Int × Int)} {n m j : Nat} {k : Int} (hl : xs.length = n) (h1 : R.length = m) (h2 : O.length = j) (h3 : O ++ sortH R = sortH xs) (h4 : m + j = n) (h5 : (j : Int) ≤ max k 0) (h6 : m = 0 ∨ k ≤ j) : firstF xs k = O := by
  have e : askN xs.length k = O.length := by unfold askN; omega
  rw [firstF, e, ← h3]
  exact List.take_left' rfl

set_option maxRecDepth 100000 in
set_option maxHeartbeats 4000000 in
theorem rfirst_any (n : Nat) (xs : List (Int × Int)) (w : World) (a : Option Addr) (c : Nat) (k : Int) (l : xs.length = n) (i : SrcOf w (.slice a n c) n 2 (hc xs)) (hb : n ≤ 2000) :
    Calls Tryz.prog 66 #[.slice a n c, .int .i64 k] w fun e w' => ∃ v, e = .returned v ∧ w'.ownsRow w.heap.size 109 2 v (askN n k) (hc (firstF xs k)) ∧ Below w.heap.size w w' := by
  have L := Lib.hid l
  have S := Lib.hid i
  clear l i
  obtain ⟨i0, hi, hz0, hz1, hz2⟩ := info_parts infoHit
  go_enter Tryz.func66, Tryz.ntmps66
  go_wp2_with (at_builtin; refine wpList_append_src rfl (.tmp 9) (.tmp 10) 72 rfl w.heap.size 109 i0 (.agg #[.int .u64 0, .int .i64 0]) 2 16 Tryz.underlying72 hi hz0 hz1 hz2 rfl (by decide) _ 0 [] rfl (World.ownsRow_made w #[] 0 (Nat.le_refl _) (by decide) rfl) _ n (hc xs) rfl ?s1 ?s2 ?s3 ?s4 ?s5 ?s6)
  case s1 => exact S.out.below ((Below.refl _ _).alloc (Nat.le_refl _) _)
  case s2 => exact hc_one xs
  case s3 => unfold maxLen; omega
  case s4 => omega
  case s5 => simp
  case s6 =>
    intro v1 w1 hown1 hg1
    have b1 : Below w.heap.size w w1 := ((Below.refl _ _).alloc (Nat.le_refl _) _).grown hg1 (by simp) (by simp [Value.ownBlock])
    have O1 := Lib.hid hown1
    have B1 := Lib.hid b1
    clear hg1 hown1 b1
    go_wp2_with fail
    go_loopw [5, 6] (fun r o wr => ∃ (m j : Nat) (R O : List (Int × Int)), m + j = n ∧ (j : Int) ≤ max k 0 ∧ Hid (R.length = m ∧ O.length = j ∧ O ++ sortH R = sortH xs) ∧ Hid (wr.ownsRow w.heap.size 109 2 r m (hc R) ∧ ∀ g, r.ownBlock = some g → g < w1.heap.size) ∧ Hid (wr.ownsRow w1.heap.size 109 2 o j (hc O)) ∧ Hid (Below w.heap.size w wr ∧ w1.heap.size ≤ wr.heap.size)) (fun r _ _ => lenV r)
    case atStart => exact ⟨n, 0, xs, [], by omega, by omega, Lib.hid ⟨L.out, rfl, rfl⟩, Lib.hid ⟨O1.out, fun g hg => (O1.out.lt g hg).2⟩, Lib.hid (World.ownsRow_nil _ _ _ _), Lib.hid ⟨B1.out, Nat.le_refl _⟩⟩
    case round =>
      obtain ⟨m, j, R, O, hmj, hjk, FF, OR, OO, BB⟩ := hrel
      obtain ⟨p, cp, hp, u1, u2⟩ := own_shape OR.out.1
      obtain ⟨p', cp', hp', u3, u4⟩ := own_shape OO.out
      subst hp hp'
      by_cases hm : 0 < m
      · by_cases hlt : (j : Int) < k
        · obtain ⟨g, rfl⟩ : ∃ g, p = some ⟨g, 0, none⟩ := by
            rcases OR.out.1.2 with ⟨h, _⟩ | ⟨g, _, _, h, _⟩
            · simp at h; omega
            · simp at h; exact ⟨g, h.1⟩
          rename World => w3
          have HC := Lib.hid (cells_of_own OR.out.1 FF.out.1)
          go_wp2_with fail
          go_loopw [7, 8] (fun s t wi => ∃ s' t' : Nat, s' < t' ∧ t' ≤ m ∧ s = .int .i64 s' ∧ t = .int .i64 t' ∧ Hid (∀ q, q < t' → aheadB (R[q]?.getD (0, 0)) (R[s']?.getD (0, 0)) = false) ∧ Hid (Below w3.heap.size w3 wi)) (fun _ t _ => m - (intOf t).toNat)
          case atStart => exact ⟨0, 1, by omega, by omega, rfl, rfl, Lib.hid (fun q hq => by (obtain rfl : q = 0 := by omega); simp [aheadB_lt]), Lib.hid (Below.refl _ _)⟩
          case round =>
            obtain ⟨s, t, hst, htm, rfl, rfl, LE, BI⟩ := hrel
            by_cases ht : t < m
            · have X := HC.out t ht
              have Y := HC.out s (by omega)
              have hgw : g < w3.heap.size := by have := OR.out.2 g rfl; have := BB.out.2; omega
              have NX := least_next (i := t) hst LE.out
              generalize hx : R[t]?.getD (0, 0) = x at X NX
              generalize hy : R[s]?.getD (0, 0) = y at Y NX
              have HX := Lib.hid hx
              have HY := Lib.hid hy
              clear hx hy
              obtain ⟨x1, x2⟩ := x
              obtain ⟨y1, y2⟩ := y
              dsimp only at X Y
              have hgi : g < wr.heap.size := by have := BI.out.size; omega
              have C1 : ∀ q : After wr.heap.size wr, q.1.cell? ⟨g, t * 2, none⟩ = some (.int .u64 x1) ∧ q.1.cell? ⟨g, t * 2 + 1, none⟩ = some (.int .i64 x2) ∧ q.1.cell? ⟨g, s * 2, none⟩ = some (.int .u64 y1) ∧ q.1.cell? ⟨g, s * 2 + 1, none⟩ = some (.int .i64 y2) := by
                intro q
                refine ⟨?_, ?_, ?_, ?_⟩ <;> rw [q.cell hgi, BI.out.cell (p := ⟨g, _, none⟩) hgw]
                · exact X.1
                · exact X.2
                · exact Y.1
                · exact Y.2
              have N1 := Lib.hid NX.1
              have N2 := Lib.hid NX.2
              have A1 := fun W => ahead_any x1 x2 y1 y2 W
              clear X Y NX
              have z : (s : Int) < (m : Int) := by omega
              rcases Bool.eq_false_or_eq_true (aheadB (x1, x2) (y1, y2)) with hA | hA
              · rw [hA] at A1
                have M := Lib.hid (N1.out hA)
                clear N1 N2 hA
                go_wp2_with fail
                refine region_quiet_in wr.heap.size wr (by kernel_rfl) (by kernel_rfl) (Below.refl _ _).drew ?_
                repeat (go_big_quiet_step ((go_at_call 84; exact Calls.in_after' (by simp) (A1 _))))
                refine wpQuiet_nil ?_
                intro w2 hb2
                have HB := Lib.hid hb2
                clear hb2 C1 A1
                go_wp2_with fail
                go_roundw
                case rel => exact ⟨t, t + 1, by omega, by omega, rfl, by go_num, by rw [HX.out]; exact M, Lib.hid (BI.out.trans (HB.out.mono BI.out.size))⟩
                case measure => simp [intOf]; omega
              · rw [hA] at A1
                have M := Lib.hid (N2.out hA)
                clear N1 N2 hA
                go_wp2_with fail
                refine region_quiet_in wr.heap.size wr (by kernel_rfl) (by kernel_rfl) (Below.refl _ _).drew ?_
                repeat (go_big_quiet_step ((go_at_call 84; exact Calls.in_after' (by simp) (A1 _))))
                refine wpQuiet_nil ?_
                intro w2 hb2
                have HB := Lib.hid hb2
                clear hb2 C1 A1
                go_wp2_with fail
                go_roundw
                case rel => exact ⟨s, t + 1, by omega, by omega, rfl, by go_num, by rw [HY.out]; exact M, Lib.hid (BI.out.trans (HB.out.mono BI.out.size))⟩
                case measure => simp [intOf]; omega
            · obtain rfl : m = t := by omega
              have hgw : g < w3.heap.size := by have := OR.out.2 g rfl; have := BB.out.2; omega
              have HX := cells_of_own (own_keep OR.out.1 (w' := wr) (fun g' hg' => by simp [Value.ownBlock] at hg'; subst hg'; exact BI.out.block _ hgw)) FF.out.1
              have X := HX s (by omega)
              have Y := HX (m - 1) (by omega)
              have ST := Lib.hid (least_step (m := m - 1) (k := s) (R := R) (by have := FF.out.1; omega) (by omega) (fun q hq => LE.out q (by omega)))
              generalize hx : R[s]?.getD (0, 0) = x at X ST
              generalize hy : R[m - 1]?.getD (0, 0) = y at Y ST
              have HXX := Lib.hid hx
              obtain ⟨x1, x2⟩ := x
              obtain ⟨y1, y2⟩ := y
              dsimp only at X Y
              clear HX HXX
              have z : (s : Int) < (m : Int) := by omega
              have OO3 := Lib.hid (own_keep OO.out (w' := wr) (fun g' hg' => BI.out.block _ ((OO.out.lt g' hg').2)))
              go_wp2_with (at_builtin; refine wpList_append_src rfl (.tmp 37) (.tmp 42) 72 rfl w1.heap.size 109 i0 (.agg #[.int .u64 0, .int .i64 0]) 2 16 Tryz.underlying72 hi hz0 hz1 hz2 rfl (by decide) _ j (hc O) rfl (OO3.out.alloc _) _ 1 [.int .u64 x1, .int .i64 x2] rfl ?s1 ?s2 ?s3 ?s4 ?s5 ?s6)
              case s1 => exact .inr ⟨_, _, rfl, rfl, fun q u hq => by rcases q with _ | _ | q <;> simp at hq <;> subst hq <;> simp [go_sem]⟩
              case s2 => simp [Value.oneCell']
              case s3 => unfold maxLen; omega
              case s4 => omega
              case s5 => have := BI.out.size; have := BB.out.2; simp; omega
              case s6 =>
                intro v' w4 hown' hgr'
                have OWN' := Lib.hid hown'
                have hgne : ∀ g', (Value.slice p' j cp').ownBlock = some g' → g' ≠ g := by
                  intro g' hg' he
                  have := OR.out.2 g rfl
                  have := ((OO.out.lt g' hg')).1
                  omega
                have own4 : w4.ownsRow w.heap.size 109 2 (.slice (some ⟨g, 0, none⟩) m cp) m (hc R) := by
                  refine own_keep OR.out.1 fun g' hg' => ?_
                  simp [Value.ownBlock] at hg'
                  subst hg'
                  have hgr : g < wr.heap.size := by have := BI.out.size; omega
                  rw [hgr'.block g (by simp; omega) (fun h => (hgne g h.symm) rfl)]
                  rw [Below.heap_alloc _ _ _ hgr]
                  exact BI.out.block _ hgw
                have O4 := Lib.hid own4
                have X4 := cells_of_own own4 FF.out.1 s (by omega)
                have Y4 := cells_of_own own4 FF.out.1 (m - 1) (by omega)
                rw [hx] at X4
                rw [hy] at Y4
                dsimp only at X4 Y4
                have GR' := Lib.hid hgr'
                have fz1 := own4.frozenAt (s * 2)
                have fz2 := own4.frozenAt (s * 2 + 1)
                clear hown' hgr' own4 hx hy hgne
                go_wp2_with fail
                go_roundw
                case rel =>
                  obtain ⟨h1, h1g⟩ := O4.out.stored (s * 2) (.int .u64 y1)
                  obtain ⟨h2, h2g⟩ := h1.stored (s * 2 + 1) (.int .i64 y2)
                  rw [← hc_set R s (y1, y2)] at h2
                  have glt : g < w1.heap.size := OR.out.2 g rfl
                  have g0 := (OR.out.1.lt g rfl).1
                  have b4 : Below w.heap.size w w4 := ((BB.out.1.trans (BI.out.mono BB.out.1.size)).alloc (by have := BI.out.size; have := BB.out.1.size; omega) _).grown GR'.out (by have := BI.out.size; have := BB.out.1.size; simp; omega) (fun k hk => by have := (OO.out.lt k hk).1; have := B1.out.size; omega)
                  have s4 : wr.heap.size ≤ w4.heap.size := by have := GR'.out.size; simp at this; omega
                  refine ⟨m - 1, j + 1, (R.set s (y1, y2)).take (m - 1), O ++ [(x1, x2)], by omega, by omega, Lib.hid ⟨by have := FF.out.1; simp; omega, by have := FF.out.2.1; simp; omega, ?_⟩, Lib.hid ⟨?_, ?_⟩, Lib.hid ?_, Lib.hid ⟨?_, ?_⟩⟩
                  · rw [← FF.out.2.2, ST.out, List.append_assoc]; rfl
                  · exact own_pop h2 hm (by simp; exact FF.out.1)
                  · intro g' hg'
                    simp [Value.ownBlock] at hg'
                    omega
                  · rw [hc_append]
                    refine own_keep OWN'.out fun g' hg' => ?_
                    have := OWN'.out.lt g' hg'
                    rw [h2g.block g' (by simp; omega) (by simp; omega), h1g.block g' (by omega) (by simp; omega)]
                  · exact (b4.grown h1g (by have := b4.size; omega) (fun k hk => by simp at hk; omega)).grown h2g (by have := b4.size; simp; omega) (fun k hk => by simp at hk; omega)
                  · have := BI.out.size; have := BB.out.2; simp; omega
                case measure => simp [lenV]; omega
        · go_wp2_with fail
          go_ret
          exact ⟨_, rfl, by rw [fin_first L.out FF.out.1 FF.out.2.1 FF.out.2.2 hmj hjk (by omega)]; exact own_mono (by rw [show askN n k = j by unfold askN; omega]; exact OO.out) B1.out.size, BB.out.1⟩
      · obtain rfl : m = 0 := by omega
        go_wp2_with fail
        go_ret
        exact ⟨_, rfl, by rw [fin_first L.out FF.out.1 FF.out.2.1 FF.out.2.2 hmj hjk (by omega)]; exact own_mono (by rw [show askN n k = j by unfold askN; omega]; exact OO.out) B1.out.size, BB.out.1⟩

end Go.Proofs.YtmbmkfhdiljalaaGreat.vc
