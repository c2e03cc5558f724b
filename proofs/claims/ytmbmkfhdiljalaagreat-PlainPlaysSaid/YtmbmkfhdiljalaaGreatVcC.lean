/- Contracts of cmp.Compare, cmp.Or at two, vect.Order. -/
import Derived.Test.YtmbmkfhdiljalaaGreatVcB
import Derived.StillTailTactics
import Derived.Deep.QuietTactic
import Derived.BigQuiet
set_option linter.unusedVariables false
set_option linter.unusedSimpArgs false
set_option maxRecDepth 10000
namespace Go.Proofs.YtmbmkfhdiljalaaGreat.vc
open Go.RowKit

theorem region_still_tail {P : Program} {id : Nat} {Q : Exit → Act → World → Prop} {a : Act} {w : World} {l : List Oper} (n : Nat) (hm : P.follows .mixedOrders = true) (hB : Region.lexTailB .any l.toArray n = true)
    (h : wpStill P l.toArray w.drew (fun a' => wpList P l.toArray Q (l.drop n) a' w.drew) (l.take n) a) : (Code.region id l.toArray true).wp P Q a w :=
  wp_region_still_tail n hm hB h

def cmpF (a b : Int) : Int := if a < b then -1 else if b < a then 1 else 0
def orF (a b : Int) : Int := if a = 0 then b else a
def ordF (k1 d1 k2 d2 : Int) : Int := orF (cmpF d1 d2) (cmpF k1 k2)
theorem orF_ne {a b : Int} (h : (a != 0) = true) : a = orF a b := by unfold orF; rw [if_neg (by simpa using h)]
theorem orF_eq {a b : Int} (h : (a != 0) = false) : b = orF a b := by unfold orF; rw [if_pos (by simpa using h)]
theorem ordF_eq (k1 d1 k2 d2 : Int) : ordF k1 d1 k2 d2 = if d1 < d2 then -1 else if d2 < d1 then 1 else if k1 < k2 then -1 else if k2 < k1 then 1 else 0 := by
  unfold ordF orF cmpF; (repeat' split) <;> simp_all

theorem ordF_spec (k1 d1 k2 d2 : Int) : (ordF k1 d1 k2 d2 = -1 ∧ (d1 < d2 ∨ (d1 = d2 ∧ k1 < k2))) ∨ (ordF k1 d1 k2 d2 = 1 ∧ (d2 < d1 ∨ (d1 = d2 ∧ k2 < k1))) ∨ (ordF k1 d1 k2 d2 = 0 ∧ d1 = d2 ∧ k1 = k2) := by
  rw [ordF_eq]; (repeat' split) <;> omega

set_option maxHeartbeats 400000 in
theorem cmp64_any (a b : Int) (w : World) : Calls Tryz.prog 108 #[.int .i64 a, .int .i64 b] w fun e w' => e = .returned (.int .i64 (cmpF a b)) ∧ w' = w := by
  go_enter Tryz.func108, Tryz.ntmps108
  go_wp2
  all_goals go_ret
  all_goals refine ⟨ret_int ?_, rfl⟩
  all_goals (unfold cmpF; repeat' split)
  all_goals first | rfl | omega

set_option maxHeartbeats 400000 in
theorem cmpu64_any (a b : Int) (w : World) : Calls Tryz.prog 109 #[.int .u64 a, .int .u64 b] w fun e w' => e = .returned (.int .i64 (cmpF a b)) ∧ w' = w := by
  go_enter Tryz.func109, Tryz.ntmps109
  go_wp2
  all_goals go_ret
  all_goals refine ⟨ret_int ?_, rfl⟩
  all_goals (unfold cmpF; repeat' split)
  all_goals first | rfl | omega

set_option maxHeartbeats 400000 in
theorem or2_any (a b : Int) (B c : Nat) (w : World) (h0 : w.cell? ⟨B, 0, none⟩ = some (.int .i64 a)) (h1 : w.cell? ⟨B, 1, none⟩ = some (.int .i64 b)) :
    Calls Tryz.prog 107 #[.slice (some ⟨B, 0, none⟩) 2 c] w fun e w' => e = .returned (.int .i64 (orF a b)) ∧ w' = w := by
  go_enter Tryz.func107, Tryz.ntmps107
  go_wp2
  go_loop [8] (fun i => ∃ k : Nat, k ≤ 2 ∧ i = .int .i64 k ∧ (0 < k → (a != 0) = false) ∧ (1 < k → (b != 0) = false)) (fun i => 2 - (intOf i).toNat)
  case atStart => exact ⟨0, by omega, rfl, by omega, by omega⟩
  case round =>
    obtain ⟨k, hk, rfl, r1, r2⟩ := hrel
    have hk3 : k = 0 ∨ k = 1 ∨ k = 2 := by omega
    rcases hk3 with rfl | rfl | rfl
    · clear r1 r2
      by_cases ha : (a != 0) = true
      · have HA := Lib.hid ha
        go_wp2
        go_ret
        exact ⟨ret_int (orF_ne HA.out), rfl⟩
      · have ha' : (a != 0) = false := by simpa using ha
        clear ha
        go_wp2
        go_round
        case rel => exact ⟨1, by omega, by go_num, fun _ => ha', by omega⟩
        case measure => simp [intOf]
    · have ha := r1 (by omega)
      clear r1 r2
      have HA := Lib.hid ha
      by_cases hb : (b != 0) = true
      · go_wp2
        go_ret
        exact ⟨ret_int (orF_eq HA.out), rfl⟩
      · have hb' : (b != 0) = false := by simpa using hb
        clear hb
        go_wp2
        go_round
        case rel => exact ⟨2, by omega, by go_num, fun _ => ha, fun _ => hb'⟩
        case measure => simp [intOf]
    · have ha := r1 (by omega)
      have hb := r2 (by omega)
      have hb0 : b = 0 := by simpa using hb
      clear r1 r2
      have HB := Lib.hid hb0
      have HA := Lib.hid ha
      clear hb0 hb
      go_wp2
      go_ret
      exact ⟨ret_int (HB.out.symm.trans (orF_eq HA.out)), rfl⟩

set_option maxHeartbeats 400000 in
theorem order_full (k1 d1 k2 d2 : Int) (w : World) :
    Calls Tryz.prog 92 #[.agg #[.int .u64 k1, .int .i64 d1], .agg #[.int .u64 k2, .int .i64 d2]] w fun e w' => e = .returned (.int .i64 (ordF k1 d1 k2 d2)) ∧ w' = (((w.alloc (.cells #[.int .u64 k1, .int .i64 d1] 109)).alloc (.cells #[.int .u64 k2, .int .i64 d2] 109)).alloc (.cells #[.int .i64 (cmpF d1 d2), .int .i64 (cmpF k1 k2)] 3)).drew := by
  go_enter Tryz.func92, Tryz.ntmps92
  go_wp2
  refine region_still_tail 10 (by kernel_rfl) (by kernel_rfl) ?_
  simp only [List.take_succ_cons, List.take_zero, List.drop_succ_cons, List.drop_zero]
  repeat still_step
  still_call (cmp64_any _ _ _)
  repeat still_step
  still_call (cmpu64_any _ _ _)
  refine wpStill_nil ?_
  go_wp2_with fail
  refine (or2_any (cmpF d1 d2) (cmpF k1 k2) _ _ _ ?_ ?_).mono ?_
  · simp [go_sem]
  · simp [go_sem]
  · rintro e w' ⟨rfl, rfl⟩
    go_wp2
    go_ret
    exact ⟨rfl, rfl⟩
theorem order_any (k1 d1 k2 d2 : Int) (w : World) :
    Calls Tryz.prog 92 #[.agg #[.int .u64 k1, .int .i64 d1], .agg #[.int .u64 k2, .int .i64 d2]] w fun e w' => e = .returned (.int .i64 (ordF k1 d1 k2 d2)) ∧ Below w.heap.size w w' :=
  (order_full k1 d1 k2 d2 w).mono fun e w' ⟨h1, h2⟩ => ⟨h1, h2 ▸ ((((Below.refl _ _).alloc (Nat.le_refl _) _).alloc (by simp) _).alloc (by simp; omega) _).drew⟩

/-- A world that is as W was below block B. -/
def After (B : Nat) (W : World) : Type := { w' : World // Below B W w' }
instance After.nonempty (B : Nat) (W : World) : Nonempty (After B W) := ⟨⟨W, Below.refl _ _⟩⟩
theorem After.cell {B : Nat} {W : World} (x : After B W) {b o : Nat} (h : b < B) : x.1.cell? ⟨b, o, none⟩ = W.cell? ⟨b, o, none⟩ := x.2.cell (p := ⟨b, o, none⟩) h
theorem region_quiet_in {P : Program} {id : Nat} {Q : Exit → Act → World → Prop} {a : Act} {w : World} {l : List Oper} (B : Nat) (W : World) (hm : P.follows .mixedOrders = true) (hB : Region.lexB .any l.toArray = true)
    (hw : Below B W w.drew)
    (h : wpQuiet P l.toArray (fun w' => ∃ x : After B W, w' = x.1) (fun a' => ∀ w1, Below B W w1 → Q .normal a' w1) l a) : (Code.region id l.toArray true).wp P Q a w := by
  refine wp_region_quiet (C := fun w' => ∃ x : After B W, w' = x.1) hm hB ⟨⟨w.drew, hw⟩, rfl⟩ ?_
  have e : (fun a' => ∀ w', (∃ x : After B W, w' = x.1) → Q .normal a' w') = (fun a' => ∀ w1, Below B W w1 → Q .normal a' w1) := by
    funext a'
    refine propext ⟨fun h w1 hb => h w1 ⟨⟨w1, hb⟩, rfl⟩, ?_⟩
    rintro h _ ⟨x, rfl⟩
    exact h x.1 x.2
  rw [e]
  exact h
theorem Calls.in_after {P : Program} {f : FuncId} {args : Array Value} {B : Nat} {W : World} {x : After B W} {v : Value}
    (h : Calls P f args x.1 fun e w' => e = .returned v ∧ Below B x.1 w') : Calls P f args x.1 fun e w'' => e = .returned v ∧ ∃ y : After B W, w'' = y.1 :=
  h.mono fun _ w' ⟨he, hb⟩ => ⟨he, ⟨w', x.2.trans hb⟩, rfl⟩
theorem Calls.in_after' {P : Program} {f : FuncId} {args : Array Value} {B : Nat} {W : World} {x : After B W} {v : Value} (hB : B ≤ W.heap.size)
    (h : Calls P f args x.1 fun e w' => e = .returned v ∧ Below x.1.heap.size x.1 w') : Calls P f args x.1 fun e w'' => e = .returned v ∧ ∃ y : After B W, w'' = y.1 :=
  h.mono fun _ w' ⟨he, hb⟩ => ⟨he, ⟨w', x.2.trans (hb.mono (Nat.le_trans hB x.2.size))⟩, rfl⟩
end Go.Proofs.YtmbmkfhdiljalaaGreat.vc
