/- Plain: the looks of All and seen (printed by gen_look.py). -/
import Derived.Test.YtmbmkfhdiljalaaGreatMg13
import Derived.Test.YtmbmkfhdiljalaaGreatMg14
namespace Go.Proofs.YtmbmkfhdiljalaaGreat
open Go.RowKit Go.ChangeShapes Go.WideShapes Go.ChangeAt
set_option linter.unusedVariables false
set_option linter.unusedSimpArgs false

theorem itemV_shape (r : Option Ver) : ∃ k a1 n1 d1 a2 n2 d2, itemV r = #[.int .u64 k, .slice a1 n1 d1, .slice a2 n2 d2] := by
  cases r with
  | none => exact ⟨_, _, _, _, _, _, _, rfl⟩
  | some x => exact ⟨_, _, _, _, _, _, _, rfl⟩

set_option maxRecDepth 100000 in
set_option maxHeartbeats 4000000 in
theorem all1_on {w : World} {B p ba bo : Nat} {D : PDB} (h : DbAt w B p ba bo D) {bx : Nat} (hx : Row w bx #[.pointer (some ⟨p, 0, none⟩)] 23) (key : Int) (hl : (vsOf D.all key).vs.length ≤ 1000000) :
    Calls Tryz.prog 45 #[.int .u64 key, .pointer (some ⟨bx, 0, none⟩)] w (AsOfTo (asofL (vsOf D.all key).vs D.last) w) := by
  obtain ⟨k, a1, n1, d1, a2, n2, d2, hI⟩ := itemV_shape (asofL (vsOf D.all key).vs D.last)
  have AS : Hid (∀ y, Only [] w y → Calls Tryz.prog 46 #[.pointer (some ⟨p, 0, none⟩), .int .u64 D.last, .int .u64 key] y (fun e w' => e = .returned (.tuple #[.agg #[.int .u64 k, .slice a1 n1 d1, .slice a2 n2 d2], .bool (okV (asofL (vsOf D.all key).vs D.last))]) ∧ Below y.heap.size y w')) := Lib.hid fun y hy => by
    have := asof_on (h.only hy (by simp)) D.last key hl
    unfold AsOfTo at this
    rw [hI] at this
    exact this
  unfold AsOfTo
  have HI := Lib.hid hI
  rw [hI]
  generalize okV (asofL (vsOf D.all key).vs D.last) = ok at *
  have R3 : Hid (Row (w.alloc (.cells #[.int .u64 0, .slice none 0 0, .slice none 0 0] tIt)) w.heap.size #[.int .u64 0, .slice none 0 0, .slice none 0 0] tIt) := Lib.hid (Row.made _ _ _)
  have K0 : Hid (Only [] w (w.alloc (.cells #[.int .u64 0, .slice none 0 0, .slice none 0 0] tIt))) := Lib.hid ((Only.refl [] w).alloc _)
  have DL := Lib.hid (h.row.only K0.out (by simp))
  have XB := Lib.hid (hx.only K0.out (by simp))
  have NE : Hid (p ≠ w.heap.size ∧ bx ≠ w.heap.size) := Lib.hid ⟨by have := h.row.lt; omega, by have := hx.lt; omega⟩
  clear h hx hl hI
  go_enter Tryz.func45, Tryz.ntmps45
  go_upto_region 1 with fail
  generalize w.alloc (.cells #[.int .u64 0, .slice none 0 0, .slice none 0 0] tIt) = w1 at *
  have SO : Hid (∀ y, Only [w.heap.size] w1 y → y.cell? ⟨bx, 0, none⟩ = some (.pointer (some ⟨p, 0, none⟩)) ∧ y.cell? ⟨p, 2, none⟩ = some (.int .u64 D.last)) := Lib.hid fun y hy => ⟨(XB.out.only hy (by simpa using NE.out.2)).cell 0, (DL.out.only hy (by simpa using NE.out.1)).cell 2⟩
  go_region_held3 (fun y => y.cell? ⟨bx, 0, none⟩ = some (.pointer (some ⟨p, 0, none⟩)) ∧ y.cell? ⟨p, 2, none⟩ = some (.int .u64 D.last))
    (first
      | exact SO.out _ ((((X2.out.mono (by simp)).setCell (.inl (by simp)) _).setCell (.inl (by simp)) _).setCell (.inl (by simp)) _)
      | exact SO.out _ (X2.out.mono (by simp))
      | exact SO.out _ ((Only.refl [] w1).drew.mono (by simp)))
    (first | ((with_reducible refine (AS.out w1.drew (K0.out.drew)).mono ?_); rintro _ w2 ⟨rfl, b⟩; have X2 : Hid (Only [] w1 w2) := Lib.hid ((Only.refl [] w1).drew.below b); have R32 := Lib.hid (R3.out.only X2.out (by simp)); have ⟨g0, g1, g2⟩ : w2.cell? ⟨w.heap.size, 0, none⟩ = some (.int .u64 0) ∧ w2.cell? ⟨w.heap.size, 1, none⟩ = some (.slice none 0 0) ∧ w2.cell? ⟨w.heap.size, 2, none⟩ = some (.slice none 0 0) := ⟨R32.out.cell 0, R32.out.cell 1, R32.out.cell 2⟩; have ⟨f0, f1, f2⟩ : w2.frozen? ⟨w.heap.size, 0, none⟩ = false ∧ w2.frozen? ⟨w.heap.size, 1, none⟩ = false ∧ w2.frozen? ⟨w.heap.size, 2, none⟩ = false := ⟨R32.out.free 0, R32.out.free 1, R32.out.free 2⟩; clear b))
  all_goals
    go_wp2_with fail
    refine bodyPost_ret (results_item_tmp rfl _ _ w.heap.size #[.int .u64 k, .slice a1 n1 d1, .slice a2 n2 d2] rfl rfl ?_) rfl ?_
    · have h6 := ((R32.out.set 0 (.int .u64 k)).set 1 (.slice a1 n1 d1)).set 2 (.slice a2 n2 d2)
      simpa using h6
    · refine ⟨rfl, (((K0.out.trans X2.out (by simp)).mono (G := [w.heap.size]) (by simp)).trans ((((Only.refl [w.heap.size] w2).setCell (.inl (by simp)) _).setCell (.inl (by simp)) _).setCell (.inl (by simp)) _) (by simp)).toBelow (Nat.le_refl _) (by simp)⟩

set_option maxRecDepth 100000 in
set_option maxHeartbeats 4000000 in
theorem seen1_on {w : World} {B p ba bo : Nat} {D : PDB} (h : DbAt w B p ba bo D) {o : PTx} (ho : o ∈ D.op) {bx cx : Nat} (hx : Row w bx #[.pointer (some ⟨p, 0, none⟩)] 23) (hy : Row w cx #[.pointer (some ⟨o.bt, 0, none⟩)] 81) (key : Int) (hl : (vsOf D.all key).vs.length ≤ 1000000) :
    Calls Tryz.prog 82 #[.int .u64 key, .pointer (some ⟨bx, 0, none⟩), .pointer (some ⟨cx, 0, none⟩)] w (AsOfTo (seesR D o key) w) := by
  obtain ⟨k, a1, n1, d1, a2, n2, d2, hI⟩ := itemV_shape (seesR D o key)
  have AS : Hid (∀ y, Only [] w y → Calls Tryz.prog 49 #[.pointer (some ⟨p, 0, none⟩), .pointer (some ⟨o.bt, 0, none⟩), .int .u64 key] y (fun e w' => e = .returned (.tuple #[.agg #[.int .u64 k, .slice a1 n1 d1, .slice a2 n2 d2], .bool (okV (seesR D o key))]) ∧ Below y.heap.size y w')) := Lib.hid fun y hy => by
    have := sees_on (h.only hy (by simp)) ho key hl
    unfold AsOfTo at this
    rw [hI] at this
    exact this
  unfold AsOfTo
  have HI := Lib.hid hI
  rw [hI]
  generalize okV (seesR D o key) = ok at *
  have R3 : Hid (Row (w.alloc (.cells #[.int .u64 0, .slice none 0 0, .slice none 0 0] tIt)) w.heap.size #[.int .u64 0, .slice none 0 0, .slice none 0 0] tIt) := Lib.hid (Row.made _ _ _)
  have K0 : Hid (Only [] w (w.alloc (.cells #[.int .u64 0, .slice none 0 0, .slice none 0 0] tIt))) := Lib.hid ((Only.refl [] w).alloc _)
  have YB := Lib.hid (hy.only K0.out (by simp))
  have XB := Lib.hid (hx.only K0.out (by simp))
  have NE : Hid (cx ≠ w.heap.size ∧ bx ≠ w.heap.size) := Lib.hid ⟨by have := hy.lt; omega, by have := hx.lt; omega⟩
  clear h hx hy ho hl hI
  go_enter Tryz.func82, Tryz.ntmps82
  go_upto_region 1 with fail
  generalize w.alloc (.cells #[.int .u64 0, .slice none 0 0, .slice none 0 0] tIt) = w1 at *
  have x0 : w1.cell? ⟨bx, 0, none⟩ = some (.pointer (some ⟨p, 0, none⟩)) := XB.out.cell 0
  have y0 : w1.cell? ⟨cx, 0, none⟩ = some (.pointer (some ⟨o.bt, 0, none⟩)) := YB.out.cell 0
  go_wp2_with fail
  refine (AS.out w1 K0.out).mono ?_
  rintro _ w2 ⟨rfl, b⟩
  have X2 : Hid (Only [] w1 w2) := Lib.hid ((Only.refl [] w1).below b)
  have R32 := Lib.hid (R3.out.only X2.out (by simp))
  have ⟨g0, g1, g2⟩ : w2.cell? ⟨w.heap.size, 0, none⟩ = some (.int .u64 0) ∧ w2.cell? ⟨w.heap.size, 1, none⟩ = some (.slice none 0 0) ∧ w2.cell? ⟨w.heap.size, 2, none⟩ = some (.slice none 0 0) := ⟨R32.out.cell 0, R32.out.cell 1, R32.out.cell 2⟩
  have ⟨f0, f1, f2⟩ : w2.frozen? ⟨w.heap.size, 0, none⟩ = false ∧ w2.frozen? ⟨w.heap.size, 1, none⟩ = false ∧ w2.frozen? ⟨w.heap.size, 2, none⟩ = false := ⟨R32.out.free 0, R32.out.free 1, R32.out.free 2⟩
  clear b x0 y0
  all_goals
    go_wp2_with fail
    refine bodyPost_ret (results_item_tmp rfl _ _ w.heap.size #[.int .u64 k, .slice a1 n1 d1, .slice a2 n2 d2] rfl rfl ?_) rfl ?_
    · have h6 := ((R32.out.set 0 (.int .u64 k)).set 1 (.slice a1 n1 d1)).set 2 (.slice a2 n2 d2)
      simpa using h6
    · refine ⟨rfl, (((K0.out.trans X2.out (by simp)).mono (G := [w.heap.size]) (by simp)).trans ((((Only.refl [w.heap.size] w2).setCell (.inl (by simp)) _).setCell (.inl (by simp)) _).setCell (.inl (by simp)) _) (by simp)).toBelow (Nat.le_refl _) (by simp)⟩
end Go.Proofs.YtmbmkfhdiljalaaGreat
