/- VectMetric: of whatever three lists come in, cut to one dimension, the distances are a metric, and the bounds by it hold. No condition. -/
import Derived.Test.YteidlneohlllmaaVecE
namespace Go.Proofs.Yteidlneohlllmaa.vectMetric
open Go.ChangeShapes Go.WideShapes Go.ChangeAt Go.RowKit
set_option linter.unusedVariables false

set_option maxHeartbeats 1000000 in
theorem cut_at (p0 p1 p2 : Option Addr) (n n0 n1 n2 c0 c1 c2 : Nat) (w : World) (h0 : n0 ≤ c0) (h1 : n1 ≤ c1) (h2 : n2 ≤ c2) (m0 : c0 ≤ 9223372036854775807) (m1 : c1 ≤ 9223372036854775807) (m2 : c2 ≤ 9223372036854775807)
    (hn : n = min n0 (min n1 (min n2 5000))) :
    Calls Try.prog 14 #[.slice p0 n0 c0, .slice p1 n1 c1, .slice p2 n2 c2] w fun e w' => e = .returned (.tuple #[.slice p0 n c0, .slice p1 n c1, .slice p2 n c2]) ∧ ∃ q, w' = w.drewN q := by
  have hmin : ∀ ts t (w : World), (Builtin.min_ ts t #[.int .i64 (n0 : Int), .int .i64 (n1 : Int), .int .i64 (n2 : Int), .int .i64 5000]).run Try.prog w = .ok (.int .i64 (n : Int)) w := by
    intro ts t w
    simp only [Builtin.min_]
    simp [Builtin.min2]
    (repeat' split) <;> omega
  have b0 : (n : Int) ≤ (c0 : Int) := by omega
  have b1 : (n : Int) ≤ (c1 : Int) := by omega
  have b2 : (n : Int) ≤ (c2 : Int) := by omega
  clear hn h0 h1 h2
  go_enter Try.func14, Try.ntmps14
  go_wp2
  go_quiet (fail)
  go_wp2
  go_ret3
  exact ⟨rfl, _, rfl⟩

theorem Ints.cut {k : IntKind} {w : World} {a : Option Addr} {n m cap : Nat} {xs : List Int} (h : Ints k w (.slice a n cap) xs) (hm : m ≤ xs.length) : Ints k w (.slice a m cap) (xs.take m) := by
  rcases h with ⟨rfl, a', c', h'⟩ | ⟨b, off, cap', h', hc⟩
  · have : m = 0 := by simpa using hm
    subst this
    exact .inl ⟨rfl, _, _, rfl⟩
  · simp only [Value.slice.injEq] at h'
    obtain ⟨rfl, rfl, rfl⟩ := h'
    by_cases h0 : m = 0
    · subst h0; exact .inl ⟨by simp, _, _, rfl⟩
    · refine .inr ⟨b, off, cap, by simp [hm], fun i hi => ?_⟩
      have hi' : i < m := by simp at hi; omega
      rw [hc i (by omega), List.getElem?_take, if_pos hi']
theorem In32.cut {xs : List Int} (h : In32 xs) (m : Nat) : In32 (xs.take m) := by
  intro i
  rw [List.getElem?_take]
  split
  · exact h i
  · simp

set_option maxRecDepth 100000 in
set_option maxHeartbeats 2000000 in
theorem walk_bad (p0 p1 p2 : Option Addr) (n n0 n1 n2 c0 c1 c2 : Nat) (w : World) (h0 : n0 ≤ c0) (h1 : n1 ≤ c1) (h2 : n2 ≤ c2) (m0 : c0 ≤ 9223372036854775807) (m1 : c1 ≤ 9223372036854775807) (m2 : c2 ≤ 9223372036854775807)
    (hn : n = min n0 (min n1 (min n2 5000))) (hb : n = 0 ∨ 4096 < n) :
    Calls Try.prog 4 #[.slice p0 n0 c0, .slice p1 n1 c1, .slice p2 n2 c2] w fun e w' => e = .returned (.bool true) ∧ Below w.heap.size w w' := by
  have hc := fun W => cut_at p0 p1 p2 n n0 n1 n2 c0 c1 c2 W h0 h1 h2 m0 m1 m2 hn
  have mn : n ≤ 9223372036854775807 := by omega
  have HD := Lib.hid (fun a1 a2 d1 d2 W => dist_bad a1 a2 n d1 n d2 W mn mn (Or.inr hb))
  have HC := Lib.hid hc
  clear hc hn h0 h1 h2
  have hz : (n = 0) ∨ (((n : Int) == 0) = false ∧ decide ((4096 : Int) < (n : Int)) = true) := by
    rcases hb with h | h
    · exact .inl h
    · exact .inr ⟨by simp; omega, by simp; omega⟩
  clear hb
  rcases hz with rfl | ⟨q1, q2⟩
  all_goals
    go_enter Try.func4, Try.ntmps4
    go_wp2_with (first | (go_at_call 14; refine (HC.out _).mono ?_; rintro e w' ⟨rfl, q, rfl⟩) | (go_at_call 10; refine (HD.out _ _ _ _ _).mono ?_; rintro e w' ⟨rfl, rfl⟩) | (go_at_call 13; refine (known_any _).mono ?_; rintro e w' ⟨rfl, hb2⟩))
    go_ret
    exact ⟨rfl, (below_drewN (Below.refl _ _) _).trans (hb2.mono (by simp))⟩


set_option maxRecDepth 100000 in
set_option maxHeartbeats 4000000 in
theorem walk_good (p0 p1 p2 : Option Addr) (n n0 n1 n2 c0 c1 c2 : Nat) (w : World) (xs ys zs : List Int) (D1 D2 D3 L1 L2 A : Int) (h0 : n0 ≤ c0) (h1 : n1 ≤ c1) (h2 : n2 ≤ c2) (m0 : c0 ≤ 9223372036854775807) (m1 : c1 ≤ 9223372036854775807) (m2 : c2 ≤ 9223372036854775807)
    (hn : n = min n0 (min n1 (min n2 5000))) (g1 : 1 ≤ n) (g2 : n ≤ 4096)
    (i0 : Ints .i32 w (.slice p0 n c0) xs) (i1 : Ints .i32 w (.slice p1 n c1) ys) (i2 : Ints .i32 w (.slice p2 n c2) zs) (hx : In32 xs) (hy : In32 ys) (hz : In32 zs)
    (l0 : xs.length = n) (l1 : ys.length = n) (l2 : zs.length = n)
    (e1 : distTo xs ys n = D1) (e2 : distTo ys zs n = D2) (e3 : distTo xs zs n = D3)
    (k1 : lowF D1 D2 = L1) (k2 : lowF D2 D1 = L2) (k3 : apartF D1 D2 = A)
    (v1 : 0 ≤ D1) (v1' : D1 ≤ 17592186044416) (v2 : 0 ≤ D2) (v2' : D2 ≤ 17592186044416) (v3 : 0 ≤ D3) (v4 : D3 ≤ D1 + D2) (v5 : L1 ≤ D3) (v6 : A ≤ D3)
    (hL : (L1 < L2 ∧ A = L2) ∨ (L2 ≤ L1 ∧ A = L1))
    (hs : (D1 = 0 ∧ sameB xs ys = true) ∨ (D1 ≠ 0 ∧ sameB xs ys = false)) :
    Calls Try.prog 4 #[.slice p0 n0 c0, .slice p1 n1 c1, .slice p2 n2 c2] w fun e w' => e = .returned (.bool true) ∧ Below w.heap.size w w' := by
  have HC := Lib.hid (fun W => cut_at p0 p1 p2 n n0 n1 n2 c0 c1 c2 W h0 h1 h2 m0 m1 m2 hn)
  have X1 := Lib.hid (fun q => dist_n _ _ xs ys n D1 _ (i0.drewN q) (i1.drewN q) hx hy l0 l1 g1 g2 e1)
  have X2 := Lib.hid (fun q => dist_n _ _ ys xs n D1 _ (i1.drewN q) (i0.drewN q) hy hx l1 l0 g1 g2 ((distTo_comm xs ys n).trans e1))
  have X3 := Lib.hid (fun q => dist_n _ _ ys zs n D2 _ (i1.drewN q) (i2.drewN q) hy hz l1 l2 g1 g2 e2)
  have X4 := Lib.hid (fun q => dist_n _ _ xs zs n D3 _ (i0.drewN q) (i2.drewN q) hx hz l0 l2 g1 g2 e3)
  have mn : xs.length ≤ 9223372036854775807 := by omega
  have mn2 : ys.length ≤ 9223372036854775807 := by omega
  have X5 := Lib.hid (fun q => same_any _ _ xs ys _ (i0.drewN q) (i1.drewN q) mn mn2)
  have Y1 := Lib.hid (fun W => (k1 ▸ low_any D1 D2 W (by omega) (by omega) (by omega) (by omega) : Calls Try.prog 15 #[.int .i64 D1, .int .i64 D2] W fun e w' => e = .returned (.int .i64 L1) ∧ W = w'))
  have Y2 := Lib.hid (fun W => (k2 ▸ low_any D2 D1 W (by omega) (by omega) (by omega) (by omega) : Calls Try.prog 15 #[.int .i64 D2, .int .i64 D1] W fun e w' => e = .returned (.int .i64 L2) ∧ W = w'))
  have Y3 := Lib.hid (fun W => (k3 ▸ apart_any D1 D2 W (by omega) (by omega) (by omega) (by omega) : Calls Try.prog 16 #[.int .i64 D1, .int .i64 D2] W fun e w' => e = .returned (.int .i64 A) ∧ W = w'))
  clear i0 i1 i2 hx hy hz l0 l1 l2 e1 e2 e3 k1 k2 k3 hn h0 h1 h2 mn mn2
  rcases hL with ⟨c1', rfl⟩ | ⟨c1', rfl⟩ <;> rcases hs with ⟨s1, s2⟩ | ⟨s1, s2⟩
  all_goals
    first | subst s1 | (have s3 : (D1 == 0) = false := by simpa using s1)
  all_goals
    go_enter Try.func4, Try.ntmps4
    go_wp2_with fail
    refine (HC.out _).mono ?_
    rintro e w' ⟨rfl, q, rfl⟩
    go_wp2_with fail
    refine (X1.out _).mono ?_
    rintro e w' ⟨rfl, rfl⟩
    go_wp2_with fail
    refine (X2.out _).mono ?_
    rintro e w' ⟨rfl, rfl⟩
    go_wp2_with fail
    refine (X3.out _).mono ?_
    rintro e w' ⟨rfl, rfl⟩
    go_wp2_with fail
    refine (X4.out _).mono ?_
    rintro e w' ⟨rfl, rfl⟩
    go_wp2_with fail
    refine (X5.out _).mono ?_
    rintro e w' ⟨rfl, q2, rfl⟩
    go_wp2_with fail
    refine (Y1.out _).mono ?_
    rintro e w' ⟨rfl, rfl⟩
    go_wp2_with fail
    refine (Y3.out _).mono ?_
    rintro e w' ⟨rfl, rfl⟩
    go_wp2_with fail
    refine (Y3.out _).mono ?_
    rintro e w' ⟨rfl, rfl⟩
    go_wp2_with fail
    refine (Y1.out _).mono ?_
    rintro e w' ⟨rfl, rfl⟩
    go_wp2_with fail
    refine (Y2.out _).mono ?_
    rintro e w' ⟨rfl, rfl⟩
    go_wp2_with (go_at_call 13; refine (known_any _).mono ?_; rintro e w' ⟨rfl, hb2⟩)
    go_ret
    exact ⟨rfl, (below_drewN (Below.refl _ _) _).trans (hb2.mono (by simp))⟩

theorem walk (a0 : Option Addr) (n0 c0 : Nat) (z0 : List Int) (a1 : Option Addr) (n1 c1 : Nat) (z1 : List Int) (a2 : Option Addr) (n2 c2 : Nat) (z2 : List Int) (w : World) (w0 : IsRow .i32 w a0 n0 c0 z0) (r0 : c0 * 4 ≤ 140737488351232) (w1 : IsRow .i32 w a1 n1 c1 z1) (r1 : c1 * 4 ≤ 140737488351232) (w2 : IsRow .i32 w a2 n2 c2 z2) (r2 : c2 * 4 ≤ 140737488351232) :
    Calls Try.prog 4 #[.slice a0 n0 c0, .slice a1 n1 c1, .slice a2 n2 c2] w fun e w' => e = .returned (.bool true) ∧ Below w.heap.size w w' := by
  obtain ⟨n, hn⟩ : ∃ n, n = min n0 (min n1 (min n2 5000)) := ⟨_, rfl⟩
  have h0 := w0.lec
  have h1 := w1.lec
  have h2 := w2.lec
  by_cases hb : n = 0 ∨ 4096 < n
  · exact walk_bad a0 a1 a2 n n0 n1 n2 c0 c1 c2 w h0 h1 h2 (by omega) (by omega) (by omega) hn hb
  · have l0 := w0.length
    have l1 := w1.length
    have l2 := w2.length
    have i0 := Ints.cut (m := n) w0.ints (by omega)
    have i1 := Ints.cut (m := n) w1.ints (by omega)
    have i2 := Ints.cut (m := n) w2.ints (by omega)
    have b0 := In32.cut (in32_of_wf w0.wf) n
    have b1 := In32.cut (in32_of_wf w1.wf) n
    have b2 := In32.cut (in32_of_wf w2.wf) n
    have L0 : ((z0.take n0).take n).length = n := by simp at l0 ⊢; omega
    have L1 : ((z1.take n1).take n).length = n := by simp at l1 ⊢; omega
    have L2 : ((z2.take n2).take n).length = n := by simp at l2 ⊢; omega
    generalize (z0.take n0).take n = xs at *
    generalize (z1.take n1).take n = ys at *
    generalize (z2.take n2).take n = zs at *
    have d1 := distTo_bd xs ys b0 b1 n
    have d2 := distTo_bd ys zs b1 b2 n
    have d3 := distTo_bd xs zs b0 b2 n
    have t1 := distTo_tri xs ys zs n
    have t2 := distTo_tri ys xs zs n
    have t3 := distTo_tri xs zs ys n
    rw [distTo_comm xs ys n] at t2
    rw [distTo_comm ys zs n] at t3
    have ds := dist_same xs ys n L0 L1
    have lf := low_facts (distTo xs ys n) (distTo ys zs n) (distTo xs zs n) d1.1 d2.1 (by omega) (by omega)
    refine walk_good a0 a1 a2 n n0 n1 n2 c0 c1 c2 w xs ys zs _ _ _ _ _ _ h0 h1 h2 (by omega) (by omega) (by omega) hn (by omega) (by omega) i0 i1 i2 b0 b1 b2 L0 L1 L2 rfl rfl rfl rfl rfl rfl d1.1 (by omega) d2.1 (by omega) d3.1 t1 ?_ ?_ ?_ ds
    · rcases lf with ⟨a, b, c, d⟩ | ⟨a, b, c, d⟩ <;> rw [b] <;> omega
    · rcases lf with ⟨a, b, c, d⟩ | ⟨a, b, c, d⟩ <;> rw [d] <;> omega
    · rcases lf with ⟨a, b, c, d⟩ | ⟨a, b, c, d⟩ <;> rw [b, c, d] <;> omega

theorem own : ownKnob Try.prog.godebug = none := by kernel_rfl
theorem laidOut : laidOutB Try.prog = true := by kernel_rfl

set_option maxRecDepth 100000 in
theorem contract (H : Type) (enc : TypeId × Value → H) (W : World) (base : Nat) (args : Array Value) (ds gs : List (DataW H)) (before : List MemPlace)
    (hval0 : ∀ (j : Nat) t v, Try.f4.params[j]? = some t → args[j]? = some v → Value.okWide Try.prog W .any base t v)
    (hW : DataW.Whole enc Try.prog Try.f4.params.toList Rows.vectMetricSpec.vars false W args.toList ds gs before)
    (hsz0 : (DataW.weightsEach Try.prog (Try.f4.params.toList ++ Rows.vectMetricSpec.plain.varTypes Try.prog) (ds ++ gs)).all (· ≤ reachBytes) = true) :
    Calls Try.prog 4 args W fun e W' => ∃ v, e = .returned v ∧ Rows.vectMetricSpec.post enc Try.prog Try.f4 false true false false W args v W' := by
  have hval : ∀ (j : Nat) t v, Try.f4.params[j]? = some t → args[j]? = some v → Value.okWide Try.prog W .any base t v := hval0
  have hW' := hW
  obtain ⟨p, q, hA0, hV, rfl, hfz, hnd⟩ := hW
  have hA : DataW.TrodAll enc Try.prog W 0 (fun _ => true) true Try.f4.params.toList args.toList ds p := hA0
  have hsz : (DataW.weightsEach Try.prog (Try.f4.params.toList ++ Rows.vectMetricSpec.plain.varTypes Try.prog) (ds ++ gs)).all (· ≤ reachBytes) = true := hsz0
  rw [Try.params4] at hA hval hsz
  obtain ⟨v0, vs0, d0, ds0, p0, q0, hargs, rfl, rfl, h0, r0'⟩ := trodAll_cons hA
  obtain ⟨v1, vs1, d1, ds1, p1, q1, rfl, rfl, rfl, h1, r1'⟩ := trodAll_cons r0'
  obtain ⟨v2, vs2, d2, ds2, p2, q2, rfl, rfl, rfl, h2, r2'⟩ := trodAll_cons r1'
  obtain ⟨rfl, rfl, rfl⟩ := trodAll_nil r2'
  obtain rfl : args = #[v0, v1, v2] := by cases args; simp_all
  obtain ⟨rfl, rfl⟩ := trodVars_none hV
  have k0 := h0
  have lt0 : ∀ x ∈ p0, x.block < W.heap.size := by obtain ⟨m, hm⟩ := k0; exact DataW.trod_lt m _ _ _ hm
  have k1 := h1
  have lt1 : ∀ x ∈ p1, x.block < W.heap.size := by obtain ⟨m, hm⟩ := k1; exact DataW.trod_lt m _ _ _ hm
  have k2 := h2
  have lt2 : ∀ x ∈ p2, x.block < W.heap.size := by obtain ⟨m, hm⟩ := k2; exact DataW.trod_lt m _ _ _ hm
  obtain ⟨a0, n0, c0, rfl⟩ := okWide_slice Try.underlying22 (hval 0 22 v0 rfl rfl)
  obtain ⟨z0, w0, r0⟩ : ∃ zs, IsRow .i32 W a0 n0 c0 zs ∧ c0 * 4 ≤ 140737488351232 := by
    obtain ⟨fuel, hf⟩ := h0
    rcases open_ints Try.underlying22 Try.underlying21 (by kernel_rfl) hf with ⟨hcs, _⟩ | ⟨x, l, c, zs, hcs, _, hl, hm, hz, hx, hcell, hwz⟩
    · simp [Value.cells] at hcs
      obtain ⟨rfl, rfl, rfl⟩ := hcs
      exact ⟨[], .inl ⟨rfl, rfl, rfl, rfl⟩, by omega⟩
    · simp [Value.cells] at hcs
      obtain ⟨rfl, rfl, rfl⟩ := hcs
      simp only [Prod.mk.injEq] at hx
      have hz' : zs.length = c0 := by simpa using hz
      have hs := sized_slice hsz (j := 0) (t := 22) rfl (congrArg some hx.1) Try.underlying22
      rw [show Try.prog.bytesOf 21 = 4 from by kernel_rfl] at hs
      simp only [lits, List.length_map, List.length_take, List.length_drop, reachBytes] at hs
      exact ⟨zs, .inr ⟨_, rfl, hl, hm, hz', hcell, hwz⟩, by omega⟩
  obtain ⟨a1, n1, c1, rfl⟩ := okWide_slice Try.underlying22 (hval 1 22 v1 rfl rfl)
  obtain ⟨z1, w1, r1⟩ : ∃ zs, IsRow .i32 W a1 n1 c1 zs ∧ c1 * 4 ≤ 140737488351232 := by
    obtain ⟨fuel, hf⟩ := h1
    rcases open_ints Try.underlying22 Try.underlying21 (by kernel_rfl) hf with ⟨hcs, _⟩ | ⟨x, l, c, zs, hcs, _, hl, hm, hz, hx, hcell, hwz⟩
    · simp [Value.cells] at hcs
      obtain ⟨rfl, rfl, rfl⟩ := hcs
      exact ⟨[], .inl ⟨rfl, rfl, rfl, rfl⟩, by omega⟩
    · simp [Value.cells] at hcs
      obtain ⟨rfl, rfl, rfl⟩ := hcs
      simp only [Prod.mk.injEq] at hx
      have hz' : zs.length = c1 := by simpa using hz
      have hs := sized_slice hsz (j := 1) (t := 22) rfl (congrArg some hx.1) Try.underlying22
      rw [show Try.prog.bytesOf 21 = 4 from by kernel_rfl] at hs
      simp only [lits, List.length_map, List.length_take, List.length_drop, reachBytes] at hs
      exact ⟨zs, .inr ⟨_, rfl, hl, hm, hz', hcell, hwz⟩, by omega⟩
  obtain ⟨a2, n2, c2, rfl⟩ := okWide_slice Try.underlying22 (hval 2 22 v2 rfl rfl)
  obtain ⟨z2, w2, r2⟩ : ∃ zs, IsRow .i32 W a2 n2 c2 zs ∧ c2 * 4 ≤ 140737488351232 := by
    obtain ⟨fuel, hf⟩ := h2
    rcases open_ints Try.underlying22 Try.underlying21 (by kernel_rfl) hf with ⟨hcs, _⟩ | ⟨x, l, c, zs, hcs, _, hl, hm, hz, hx, hcell, hwz⟩
    · simp [Value.cells] at hcs
      obtain ⟨rfl, rfl, rfl⟩ := hcs
      exact ⟨[], .inl ⟨rfl, rfl, rfl, rfl⟩, by omega⟩
    · simp [Value.cells] at hcs
      obtain ⟨rfl, rfl, rfl⟩ := hcs
      simp only [Prod.mk.injEq] at hx
      have hz' : zs.length = c2 := by simpa using hz
      have hs := sized_slice hsz (j := 2) (t := 22) rfl (congrArg some hx.1) Try.underlying22
      rw [show Try.prog.bytesOf 21 = 4 from by kernel_rfl] at hs
      simp only [lits, List.length_map, List.length_take, List.length_drop, reachBytes] at hs
      exact ⟨zs, .inr ⟨_, rfl, hl, hm, hz', hcell, hwz⟩, by omega⟩
  clear hA0 hval0 hsz0
  refine (walk a0 n0 c0 z0 a1 n1 c1 z1 a2 n2 c2 z2 W w0 r0 w1 r1 w2 r2).mono fun e W' ⟨he, bel⟩ => ?_
  subst he
  exact ⟨_, rfl, _, _, _, [], _, [], hW', trodAll_mk1 (shut_bool Try.underlying4 _), (trodAll_cons_mk (Below.trod laidOut (by kernel_rfl) (of_decide_eq_true (by kernel_rfl)) k0 bel lt0) (trodAll_cons_mk (Below.trod laidOut (by kernel_rfl) (of_decide_eq_true (by kernel_rfl)) k1 bel lt1) (trodAll_cons_mk (Below.trod laidOut (by kernel_rfl) (of_decide_eq_true (by kernel_rfl)) k2 bel lt2) trodAll_mk0))), rfl, bel.frame _, fun h => by cases h⟩

set_option maxRecDepth 100000 in
theorem lifted (os : Os) (started : os.Started) (H : Type) (enc : TypeId × Value → H) :
    ReturnsInHanded {} Try.checked os 4 .any (Rows.vectMetricSpec.pre6 enc Try.prog Try.f4 Rows.vectMetricRow.domain false) (Rows.vectMetricSpec.post enc Try.prog Try.f4 false true false false) := by
  refine returnsInHanded_of_change_sized (C := Try.checked) own started (by kernel_rfl) Try.func4
    (ChangeSpec.witness6 (enc := enc) (C := Try.checked) false ⟨#[], #[.slice none 0 0, .slice none 0 0, .slice none 0 0], []⟩ 8 (by kernel_rfl) (by kernel_rfl) (by kernel_rfl) (by kernel_rfl)) ?_
  intro W base args ds gs before hval hW _ hsz _
  exact contract H enc W base args ds gs before hval hW hsz

theorem over : Rows.vectMetricRow.holds Try.pinned (OpenSpec.ofChange Rows.vectMetricSpec) :=
  OpenClaim.holds_of_wide 4 Try.f4 rfl rfl rfl rfl rfl rfl rfl ⟨rfl, rfl, rfl, rfl, rfl⟩ rfl rfl rfl rfl rfl (by kernel_rfl) Try.func4 (by kernel_rfl)
    (of_decide_eq_true (by kernel_rfl)) (by unfold Func.isWrapper; first | (rw [if_pos (by decide +kernel)]; kernel_rfl) | (rw [if_neg (by decide +kernel)]; exact ⟨rfl, rfl⟩))
    (fun os started H enc _ => lifted os started H enc)

theorem proved : Rows.VectMetricSaid := over
#print axioms proved
end Go.Proofs.Yteidlneohlllmaa.vectMetric
