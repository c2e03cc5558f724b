/- VectOrder: the order of hits is total, whatever three hits come in. No condition. -/
import Derived.Test.YteidlneohlllmaaVecC
import Derived.ProofKit
import Derived.OpenShut
import Derived.Lib.SmallJoins
namespace Go.Proofs.Yteidlneohlllmaa.vectOrder
open Go.ChangeShapes Go.WideShapes Go.ChangeAt Go.RowKit Go.Joins
set_option linter.unusedVariables false

theorem own : ownKnob Try.prog.godebug = none := by kernel_rfl
theorem laidOut : laidOutB Try.prog = true := by kernel_rfl
theorem cellsHit : Try.prog.cellsOf 35 = 2 := by kernel_rfl
theorem hit_shape {H : Type} {enc : TypeId × Value → H} {W : World} {base : Nat} {v : Value} {d : DataW H} {p : List MemPlace} (hv : Value.okWide Try.prog W .any base 35 v) (h : DataW.Trod enc Try.prog W 0 (fun _ => true) true 35 v d p) :
    ∃ a b : Int, v = .agg #[.int .u64 a, .int .i64 b] := by
  obtain ⟨c0, c1, y0, y1, m, rfl, rfl, rfl, hy0, hy1⟩ := open_agg2 Try.underlying35 (by kernel_rfl) cellsHit hv h
  obtain ⟨a, e0, _, _⟩ := DataW.trod_int Try.underlying33 hy0
  obtain ⟨b, e1, _, _⟩ := DataW.trod_int Try.underlying2 hy1
  simp at e0 e1
  subst e0 e1
  exact ⟨a, b, rfl⟩

def Goal (k1 d1 k2 d2 k3 d3 : Int) (w : World) : Prop := Calls Try.prog 6 #[.agg #[.int .u64 k1, .int .i64 d1], .agg #[.int .u64 k2, .int .i64 d2], .agg #[.int .u64 k3, .int .i64 d3]] w fun e w' => e = .returned (.bool true) ∧ Below w.heap.size w w'
theorem cells (k1 d1 k2 d2 k3 d3 : Int) (w : World) : ∀ x : After (w.heap.size + 3) (((w.alloc (.cells #[.int .u64 k1, .int .i64 d1] 35)).alloc (.cells #[.int .u64 k2, .int .i64 d2] 35)).alloc (.cells #[.int .u64 k3, .int .i64 d3] 35)), x.1.cell? ⟨w.heap.size, 0, none⟩ = some (.int .u64 k1) ∧ x.1.cell? ⟨w.heap.size, 1, none⟩ = some (.int .i64 d1) ∧ x.1.cell? ⟨w.heap.size + 1, 0, none⟩ = some (.int .u64 k2) ∧ x.1.cell? ⟨w.heap.size + 1, 1, none⟩ = some (.int .i64 d2) ∧ x.1.cell? ⟨w.heap.size + 1 + 1, 0, none⟩ = some (.int .u64 k3) ∧ x.1.cell? ⟨w.heap.size + 1 + 1, 1, none⟩ = some (.int .i64 d3) := by
  intro x
  refine ⟨?_, ?_, ?_, ?_, ?_, ?_⟩ <;> rw [x.cell (by omega)] <;> simp [go_sem]
theorem fin {k1 d1 k2 d2 k3 d3 : Int} {w w1 w2 : World} (hb : Below (w.heap.size + 3) (((w.alloc (.cells #[.int .u64 k1, .int .i64 d1] 35)).alloc (.cells #[.int .u64 k2, .int .i64 d2] 35)).alloc (.cells #[.int .u64 k3, .int .i64 d3] 35)) w1) (h2 : Below w1.heap.size w1 w2) : Below w.heap.size w w2 := by
  have hs := hb.size
  simp at hs
  exact (((((Below.refl _ _).alloc (Nat.le_refl _) _).alloc (by simp) _).alloc (by simp; omega) _).trans (hb.mono (by omega))).trans (h2.mono (by omega))

theorem ord_cases (k1 d1 k2 d2 k3 d3 : Int) (hn : ¬ (k1 = k2 ∧ d1 = d2)) :
    (ordF k1 d1 k2 d2 = -1 ∧ ordF k2 d2 k1 d1 = 1 ∧ 0 < ordF k2 d2 k3 d3) ∨ (ordF k1 d1 k2 d2 = -1 ∧ ordF k2 d2 k1 d1 = 1 ∧ ordF k2 d2 k3 d3 ≤ 0 ∧ ordF k1 d1 k3 d3 ≤ 0) ∨
    (ordF k1 d1 k2 d2 = 1 ∧ ordF k2 d2 k1 d1 = -1 ∧ ordF k2 d2 k3 d3 < 0) ∨ (ordF k1 d1 k2 d2 = 1 ∧ ordF k2 d2 k1 d1 = -1 ∧ 0 ≤ ordF k2 d2 k3 d3 ∧ 0 ≤ ordF k1 d1 k3 d3) := by
  have a := ordF_spec k1 d1 k2 d2
  have b := ordF_spec k2 d2 k1 d1
  have c := ordF_spec k2 d2 k3 d3
  have d := ordF_spec k1 d1 k3 d3
  rcases a with ⟨a1, a2⟩ | ⟨a1, a2⟩ | ⟨a1, a2, a3⟩
  · have b1 : ordF k2 d2 k1 d1 = 1 := by clear c d; omega
    clear b
    by_cases hx : 0 < ordF k2 d2 k3 d3
    · exact .inl ⟨a1, b1, hx⟩
    · refine .inr (.inl ⟨a1, b1, by omega, ?_⟩)
      have c' : d2 < d3 ∨ (d2 = d3 ∧ k2 ≤ k3) := by omega
      clear c
      omega
  · have b1 : ordF k2 d2 k1 d1 = -1 := by clear c d; omega
    clear b
    by_cases hx : ordF k2 d2 k3 d3 < 0
    · exact .inr (.inr (.inl ⟨a1, b1, hx⟩))
    · refine .inr (.inr (.inr ⟨a1, b1, by omega, ?_⟩))
      have c' : d3 < d2 ∨ (d2 = d3 ∧ k3 ≤ k2) := by omega
      clear c
      omega
  · exact absurd ⟨a3, a2⟩ hn

set_option maxHeartbeats 1000000 in
theorem n1 (k1 d1 k2 d2 k3 d3 : Int) (w : World) (h1 : ordF k1 d1 k2 d2 = -1) (h2 : ordF k2 d2 k1 d1 = 1) (q : ¬ k1 = k2) (x : 0 < ordF k2 d2 k3 d3) : Goal k1 d1 k2 d2 k3 d3 w := by
  unfold Goal
  go_enter Try.func6, Try.ntmps6
  go_wp2_with fail
  refine region_quiet_in (w.heap.size + 3) _ (by kernel_rfl) (by kernel_rfl) (Below.refl _ _).drew ?_
  have c1 := cells k1 d1 k2 d2 k3 d3 w
  repeat (go_big_quiet_step ((go_at_call 19; exact Calls.in_after' (by simp) (order_any _ _ _ _ _))))
  refine wpQuiet_nil ?_
  intro w1 hb
  have c2 := c1 ⟨w1, hb⟩
  clear c1
  dsimp only at c2
  obtain ⟨e1, e2, e3, e4, e5, e6⟩ := c2
  have HB := Lib.hid hb
  clear hb
  go_wp2_with (go_at_call 13; refine (known_any _).mono ?_; rintro e w' ⟨rfl, hb2⟩)
  go_ret
  exact ⟨rfl, fin HB.out hb2⟩

set_option maxHeartbeats 1000000 in
theorem e1 (k1 d1 d2 k3 d3 : Int) (w : World) (h1 : ordF k1 d1 k1 d2 = -1) (h2 : ordF k1 d2 k1 d1 = 1) (q : ¬ d1 = d2) (x : 0 < ordF k1 d2 k3 d3) : Goal k1 d1 k1 d2 k3 d3 w := by
  unfold Goal
  go_enter Try.func6, Try.ntmps6
  go_wp2_with fail
  refine region_quiet_in (w.heap.size + 3) _ (by kernel_rfl) (by kernel_rfl) (Below.refl _ _).drew ?_
  have c1 := cells k1 d1 k1 d2 k3 d3 w
  repeat (go_big_quiet_step ((go_at_call 19; exact Calls.in_after' (by simp) (order_any _ _ _ _ _))))
  refine wpQuiet_nil ?_
  intro w1 hb
  have c2 := c1 ⟨w1, hb⟩
  clear c1
  dsimp only at c2
  obtain ⟨e1, e2, e3, e4, e5, e6⟩ := c2
  have HB := Lib.hid hb
  clear hb
  go_wp2_with (go_at_call 13; refine (known_any _).mono ?_; rintro e w' ⟨rfl, hb2⟩)
  go_ret
  exact ⟨rfl, fin HB.out hb2⟩

set_option maxHeartbeats 1000000 in
theorem n2 (k1 d1 k2 d2 k3 d3 : Int) (w : World) (h1 : ordF k1 d1 k2 d2 = -1) (h2 : ordF k2 d2 k1 d1 = 1) (q : ¬ k1 = k2) (x : ordF k2 d2 k3 d3 ≤ 0) (y : ordF k1 d1 k3 d3 ≤ 0) : Goal k1 d1 k2 d2 k3 d3 w := by
  unfold Goal
  go_enter Try.func6, Try.ntmps6
  go_wp2_with fail
  refine region_quiet_in (w.heap.size + 3) _ (by kernel_rfl) (by kernel_rfl) (Below.refl _ _).drew ?_
  have c1 := cells k1 d1 k2 d2 k3 d3 w
  repeat (go_big_quiet_step ((go_at_call 19; exact Calls.in_after' (by simp) (order_any _ _ _ _ _))))
  refine wpQuiet_nil ?_
  intro w1 hb
  have c2 := c1 ⟨w1, hb⟩
  clear c1
  dsimp only at c2
  obtain ⟨e1, e2, e3, e4, e5, e6⟩ := c2
  have HB := Lib.hid hb
  clear hb
  go_wp2_with (go_at_call 13; refine (known_any _).mono ?_; rintro e w' ⟨rfl, hb2⟩)
  go_ret
  exact ⟨rfl, fin HB.out hb2⟩

set_option maxHeartbeats 1000000 in
theorem e2 (k1 d1 d2 k3 d3 : Int) (w : World) (h1 : ordF k1 d1 k1 d2 = -1) (h2 : ordF k1 d2 k1 d1 = 1) (q : ¬ d1 = d2) (x : ordF k1 d2 k3 d3 ≤ 0) (y : ordF k1 d1 k3 d3 ≤ 0) : Goal k1 d1 k1 d2 k3 d3 w := by
  unfold Goal
  go_enter Try.func6, Try.ntmps6
  go_wp2_with fail
  refine region_quiet_in (w.heap.size + 3) _ (by kernel_rfl) (by kernel_rfl) (Below.refl _ _).drew ?_
  have c1 := cells k1 d1 k1 d2 k3 d3 w
  repeat (go_big_quiet_step ((go_at_call 19; exact Calls.in_after' (by simp) (order_any _ _ _ _ _))))
  refine wpQuiet_nil ?_
  intro w1 hb
  have c2 := c1 ⟨w1, hb⟩
  clear c1
  dsimp only at c2
  obtain ⟨e1, e2, e3, e4, e5, e6⟩ := c2
  have HB := Lib.hid hb
  clear hb
  go_wp2_with (go_at_call 13; refine (known_any _).mono ?_; rintro e w' ⟨rfl, hb2⟩)
  go_ret
  exact ⟨rfl, fin HB.out hb2⟩

set_option maxHeartbeats 1000000 in
theorem n3 (k1 d1 k2 d2 k3 d3 : Int) (w : World) (h1 : ordF k1 d1 k2 d2 = 1) (h2 : ordF k2 d2 k1 d1 = -1) (q : ¬ k1 = k2) (x : ordF k2 d2 k3 d3 < 0) : Goal k1 d1 k2 d2 k3 d3 w := by
  unfold Goal
  go_enter Try.func6, Try.ntmps6
  go_wp2_with fail
  refine region_quiet_in (w.heap.size + 3) _ (by kernel_rfl) (by kernel_rfl) (Below.refl _ _).drew ?_
  have c1 := cells k1 d1 k2 d2 k3 d3 w
  repeat (go_big_quiet_step ((go_at_call 19; exact Calls.in_after' (by simp) (order_any _ _ _ _ _))))
  refine wpQuiet_nil ?_
  intro w1 hb
  have c2 := c1 ⟨w1, hb⟩
  clear c1
  dsimp only at c2
  obtain ⟨e1, e2, e3, e4, e5, e6⟩ := c2
  have HB := Lib.hid hb
  clear hb
  go_wp2_with (go_at_call 13; refine (known_any _).mono ?_; rintro e w' ⟨rfl, hb2⟩)
  go_ret
  exact ⟨rfl, fin HB.out hb2⟩

set_option maxHeartbeats 1000000 in
theorem e3 (k1 d1 d2 k3 d3 : Int) (w : World) (h1 : ordF k1 d1 k1 d2 = 1) (h2 : ordF k1 d2 k1 d1 = -1) (q : ¬ d1 = d2) (x : ordF k1 d2 k3 d3 < 0) : Goal k1 d1 k1 d2 k3 d3 w := by
  unfold Goal
  go_enter Try.func6, Try.ntmps6
  go_wp2_with fail
  refine region_quiet_in (w.heap.size + 3) _ (by kernel_rfl) (by kernel_rfl) (Below.refl _ _).drew ?_
  have c1 := cells k1 d1 k1 d2 k3 d3 w
  repeat (go_big_quiet_step ((go_at_call 19; exact Calls.in_after' (by simp) (order_any _ _ _ _ _))))
  refine wpQuiet_nil ?_
  intro w1 hb
  have c2 := c1 ⟨w1, hb⟩
  clear c1
  dsimp only at c2
  obtain ⟨e1, e2, e3, e4, e5, e6⟩ := c2
  have HB := Lib.hid hb
  clear hb
  go_wp2_with (go_at_call 13; refine (known_any _).mono ?_; rintro e w' ⟨rfl, hb2⟩)
  go_ret
  exact ⟨rfl, fin HB.out hb2⟩

set_option maxHeartbeats 1000000 in
theorem n4 (k1 d1 k2 d2 k3 d3 : Int) (w : World) (h1 : ordF k1 d1 k2 d2 = 1) (h2 : ordF k2 d2 k1 d1 = -1) (q : ¬ k1 = k2) (x : 0 ≤ ordF k2 d2 k3 d3) (y : 0 ≤ ordF k1 d1 k3 d3) : Goal k1 d1 k2 d2 k3 d3 w := by
  unfold Goal
  go_enter Try.func6, Try.ntmps6
  go_wp2_with fail
  refine region_quiet_in (w.heap.size + 3) _ (by kernel_rfl) (by kernel_rfl) (Below.refl _ _).drew ?_
  have c1 := cells k1 d1 k2 d2 k3 d3 w
  repeat (go_big_quiet_step ((go_at_call 19; exact Calls.in_after' (by simp) (order_any _ _ _ _ _))))
  refine wpQuiet_nil ?_
  intro w1 hb
  have c2 := c1 ⟨w1, hb⟩
  clear c1
  dsimp only at c2
  obtain ⟨e1, e2, e3, e4, e5, e6⟩ := c2
  have HB := Lib.hid hb
  clear hb
  go_wp2_with (go_at_call 13; refine (known_any _).mono ?_; rintro e w' ⟨rfl, hb2⟩)
  go_ret
  exact ⟨rfl, fin HB.out hb2⟩

set_option maxHeartbeats 1000000 in
theorem e4 (k1 d1 d2 k3 d3 : Int) (w : World) (h1 : ordF k1 d1 k1 d2 = 1) (h2 : ordF k1 d2 k1 d1 = -1) (q : ¬ d1 = d2) (x : 0 ≤ ordF k1 d2 k3 d3) (y : 0 ≤ ordF k1 d1 k3 d3) : Goal k1 d1 k1 d2 k3 d3 w := by
  unfold Goal
  go_enter Try.func6, Try.ntmps6
  go_wp2_with fail
  refine region_quiet_in (w.heap.size + 3) _ (by kernel_rfl) (by kernel_rfl) (Below.refl _ _).drew ?_
  have c1 := cells k1 d1 k1 d2 k3 d3 w
  repeat (go_big_quiet_step ((go_at_call 19; exact Calls.in_after' (by simp) (order_any _ _ _ _ _))))
  refine wpQuiet_nil ?_
  intro w1 hb
  have c2 := c1 ⟨w1, hb⟩
  clear c1
  dsimp only at c2
  obtain ⟨e1, e2, e3, e4, e5, e6⟩ := c2
  have HB := Lib.hid hb
  clear hb
  go_wp2_with (go_at_call 13; refine (known_any _).mono ?_; rintro e w' ⟨rfl, hb2⟩)
  go_ret
  exact ⟨rfl, fin HB.out hb2⟩

set_option maxHeartbeats 1000000 in
theorem s1 (k1 d1 k3 d3 : Int) (w : World) (h1 : ordF k1 d1 k1 d1 = 0) (x : ordF k1 d1 k3 d3 < 0) : Goal k1 d1 k1 d1 k3 d3 w := by
  unfold Goal
  go_enter Try.func6, Try.ntmps6
  go_wp2_with fail
  refine region_quiet_in (w.heap.size + 3) _ (by kernel_rfl) (by kernel_rfl) (Below.refl _ _).drew ?_
  have c1 := cells k1 d1 k1 d1 k3 d3 w
  repeat (go_big_quiet_step ((go_at_call 19; exact Calls.in_after' (by simp) (order_any _ _ _ _ _))))
  refine wpQuiet_nil ?_
  intro w1 hb
  have c2 := c1 ⟨w1, hb⟩
  clear c1
  dsimp only at c2
  obtain ⟨e1, e2, e3, e4, e5, e6⟩ := c2
  have HB := Lib.hid hb
  clear hb
  go_wp2_with (go_at_call 13; refine (known_any _).mono ?_; rintro e w' ⟨rfl, hb2⟩)
  go_ret
  exact ⟨rfl, fin HB.out hb2⟩

set_option maxHeartbeats 1000000 in
theorem s2 (k1 d1 k3 d3 : Int) (w : World) (h1 : ordF k1 d1 k1 d1 = 0) (x : ordF k1 d1 k3 d3 = 0) : Goal k1 d1 k1 d1 k3 d3 w := by
  unfold Goal
  go_enter Try.func6, Try.ntmps6
  go_wp2_with fail
  refine region_quiet_in (w.heap.size + 3) _ (by kernel_rfl) (by kernel_rfl) (Below.refl _ _).drew ?_
  have c1 := cells k1 d1 k1 d1 k3 d3 w
  repeat (go_big_quiet_step ((go_at_call 19; exact Calls.in_after' (by simp) (order_any _ _ _ _ _))))
  refine wpQuiet_nil ?_
  intro w1 hb
  have c2 := c1 ⟨w1, hb⟩
  clear c1
  dsimp only at c2
  obtain ⟨e1, e2, e3, e4, e5, e6⟩ := c2
  have HB := Lib.hid hb
  clear hb
  go_wp2_with (go_at_call 13; refine (known_any _).mono ?_; rintro e w' ⟨rfl, hb2⟩)
  go_ret
  exact ⟨rfl, fin HB.out hb2⟩

set_option maxHeartbeats 1000000 in
theorem s3 (k1 d1 k3 d3 : Int) (w : World) (h1 : ordF k1 d1 k1 d1 = 0) (x : 0 < ordF k1 d1 k3 d3) : Goal k1 d1 k1 d1 k3 d3 w := by
  unfold Goal
  go_enter Try.func6, Try.ntmps6
  go_wp2_with fail
  refine region_quiet_in (w.heap.size + 3) _ (by kernel_rfl) (by kernel_rfl) (Below.refl _ _).drew ?_
  have c1 := cells k1 d1 k1 d1 k3 d3 w
  repeat (go_big_quiet_step ((go_at_call 19; exact Calls.in_after' (by simp) (order_any _ _ _ _ _))))
  refine wpQuiet_nil ?_
  intro w1 hb
  have c2 := c1 ⟨w1, hb⟩
  clear c1
  dsimp only at c2
  obtain ⟨e1, e2, e3, e4, e5, e6⟩ := c2
  have HB := Lib.hid hb
  clear hb
  go_wp2_with (go_at_call 13; refine (known_any _).mono ?_; rintro e w' ⟨rfl, hb2⟩)
  go_ret
  exact ⟨rfl, fin HB.out hb2⟩

theorem walk (k1 d1 k2 d2 k3 d3 : Int) (w : World) : Goal k1 d1 k2 d2 k3 d3 w := by
  by_cases hk : k1 = k2
  · subst hk
    by_cases hd : d1 = d2
    · subst hd
      have h1 : ordF k1 d1 k1 d1 = 0 := by rw [ordF_eq]; (repeat' split) <;> omega
      have : ordF k1 d1 k3 d3 < 0 ∨ ordF k1 d1 k3 d3 = 0 ∨ 0 < ordF k1 d1 k3 d3 := by omega
      rcases this with x | x | x
      · exact s1 _ _ _ _ w h1 x
      · exact s2 _ _ _ _ w h1 x
      · exact s3 _ _ _ _ w h1 x
    · rcases ord_cases k1 d1 k1 d2 k3 d3 (fun h => hd h.2) with ⟨h1, h2, x⟩ | ⟨h1, h2, x, y⟩ | ⟨h1, h2, x⟩ | ⟨h1, h2, x, y⟩
      · exact e1 _ _ _ _ _ w h1 h2 hd x
      · exact e2 _ _ _ _ _ w h1 h2 hd x y
      · exact e3 _ _ _ _ _ w h1 h2 hd x
      · exact e4 _ _ _ _ _ w h1 h2 hd x y
  · rcases ord_cases k1 d1 k2 d2 k3 d3 (fun h => hk h.1) with ⟨h1, h2, x⟩ | ⟨h1, h2, x, y⟩ | ⟨h1, h2, x⟩ | ⟨h1, h2, x, y⟩
    · exact n1 _ _ _ _ _ _ w h1 h2 hk x
    · exact n2 _ _ _ _ _ _ w h1 h2 hk x y
    · exact n3 _ _ _ _ _ _ w h1 h2 hk x
    · exact n4 _ _ _ _ _ _ w h1 h2 hk x y

set_option maxRecDepth 100000 in
theorem lifted (os : Os) (started : os.Started) (H : Type) (enc : TypeId × Value → H) :
    ReturnsInHanded {} Try.checked os 6 .any (Rows.vectOrderSpec.pre6 enc Try.prog Try.f6 Rows.vectOrderRow.domain false) (Rows.vectOrderSpec.post enc Try.prog Try.f6 false true false false) := by
  refine returnsInHanded_of_change (C := Try.checked) own started (by kernel_rfl) Try.func6
    (ChangeSpec.witness6 (enc := enc) (C := Try.checked) false ⟨#[], #[.agg #[.int .u64 0, .int .i64 0], .agg #[.int .u64 0, .int .i64 0], .agg #[.int .u64 0, .int .i64 0]], []⟩ 8 (by kernel_rfl) (by kernel_rfl) (by kernel_rfl) (by kernel_rfl)) ?_
  intro W base args ds gs before hval0 hW hcnd _
  have hval : ∀ (j : Nat) t v, Try.f6.params[j]? = some t → args[j]? = some v → Value.okWide Try.prog W .any base t v := hval0
  have hW' := hW
  obtain ⟨p, q, hA0, hV, rfl, hfz, hnd⟩ := hW
  have hA : DataW.TrodAll enc Try.prog W 0 (fun _ => true) true Try.f6.params.toList args.toList ds p := hA0
  rw [Try.params6] at hA hval
  obtain ⟨v0, vs0, d0, ds0, p0, q0, hargs, rfl, rfl, h0, r0⟩ := trodAll_cons hA
  obtain ⟨v1, vs1, d1, ds1, p1, q1, rfl, rfl, rfl, h1, r1⟩ := trodAll_cons r0
  obtain ⟨v2, vs2, d2, ds2, p2, q2, rfl, rfl, rfl, h2, r2⟩ := trodAll_cons r1
  obtain ⟨rfl, rfl, rfl⟩ := trodAll_nil r2
  obtain rfl : args = #[v0, v1, v2] := by cases args; simp_all
  obtain ⟨rfl, rfl⟩ := trodVars_none hV
  have k0 := h0
  have k1 := h1
  have k2 := h2
  have lt0 : ∀ x ∈ p0, x.block < W.heap.size := by obtain ⟨m, hm⟩ := k0; exact DataW.trod_lt m _ _ _ hm
  have lt1 : ∀ x ∈ p1, x.block < W.heap.size := by obtain ⟨m, hm⟩ := k1; exact DataW.trod_lt m _ _ _ hm
  have lt2 : ∀ x ∈ p2, x.block < W.heap.size := by obtain ⟨m, hm⟩ := k2; exact DataW.trod_lt m _ _ _ hm
  obtain ⟨a0, b0, rfl⟩ := hit_shape (hval 0 35 v0 rfl rfl) h0
  obtain ⟨a1, b1, rfl⟩ := hit_shape (hval 1 35 v1 rfl rfl) h1
  obtain ⟨a2, b2, rfl⟩ := hit_shape (hval 2 35 v2 rfl rfl) h2
  clear hA0 hval0
  refine (walk a0 b0 a1 b1 a2 b2 W).mono fun e W' ⟨he, bel⟩ => ?_
  subst he
  exact ⟨_, rfl, _, _, _, [], _, [], hW', trodAll_mk1 (shut_bool Try.underlying4 _), (trodAll_cons_mk (Below.trod laidOut (by kernel_rfl) (of_decide_eq_true (by kernel_rfl)) k0 bel lt0) (trodAll_cons_mk (Below.trod laidOut (by kernel_rfl) (of_decide_eq_true (by kernel_rfl)) k1 bel lt1) (trodAll_cons_mk (Below.trod laidOut (by kernel_rfl) (of_decide_eq_true (by kernel_rfl)) k2 bel lt2) trodAll_mk0))), rfl, bel.frame _, fun h => by cases h⟩

theorem over : Rows.vectOrderRow.holds Try.pinned (OpenSpec.ofChange Rows.vectOrderSpec) :=
  OpenClaim.holds_of_wide 6 Try.f6 rfl rfl rfl rfl rfl rfl rfl ⟨rfl, rfl, rfl, rfl, rfl⟩ rfl rfl rfl rfl rfl (by kernel_rfl) Try.func6 (by kernel_rfl)
    (of_decide_eq_true (by kernel_rfl)) (by unfold Func.isWrapper; first | (rw [if_pos (by decide +kernel)]; kernel_rfl) | (rw [if_neg (by decide +kernel)]; exact ⟨rfl, rfl⟩))
    (fun os started H enc _ => lifted os started H enc)

theorem proved : Rows.VectOrderSaid := over
#print axioms proved
end Go.Proofs.Yteidlneohlllmaa.vectOrder
