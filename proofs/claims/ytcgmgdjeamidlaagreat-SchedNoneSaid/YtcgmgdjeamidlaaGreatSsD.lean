/- Requests; whether two are alike (printed by gen_ssd.py). -/
import Derived.Test.YtcgmgdjeamidlaaGreatSsC
namespace Go.Proofs.YtcgmgdjeamidlaaGreat
open Go.RowKit Go.ChangeShapes Go.WideShapes Go.ChangeAt
set_option linter.unusedVariables false
set_option linter.unusedSimpArgs false

abbrev tRq : TypeId := 50
structure Rq where
  kind : Int
  it : Rc3
  key : Int
  hi : Int
  n : Int
  q : Sl
  fl : Sl
  scale : Int
def Rq.cells (x : Rq) : Array Value := #[.int .i64 x.kind, .int .u64 x.it.key, x.it.vec.v, x.it.tag.v, .int .u64 x.key, .int .u64 x.hi, .int .i64 x.n, x.q.v, x.fl.v, .int .i64 x.scale]
/-- Alike. -/
def Rq.alike (x y : Rq) : Bool := decide (x.kind = y.kind) && (decide (x.it.c = y.it.c) && (decide (x.key = y.key) && (decide (x.hi = y.hi) && (decide (x.n = y.n) && (decide (x.scale = y.scale) && (decide (x.q.xs = y.q.xs) && decide (x.fl.xs = y.fl.xs)))))))
structure Rq.At (w : World) (x : Rq) : Prop where
  it : x.it.At w
  q : SlRd .i32 w x.q
  fl : SlRd .u64 w x.fl
theorem Rq.At.below {w w' : World} {x : Rq} (h : x.At w) (k : Below w.heap.size w w') : x.At w' := ⟨h.it.below k, h.q.only ((Only.refl [] w).below k) (by simp), h.fl.only ((Only.refl [] w).below k) (by simp)⟩
set_option maxRecDepth 100000 in
set_option maxHeartbeats 16000000 in
theorem same_on {x y : Rq} {w : World} (hx : x.At w) (hy : y.At w) : Calls Tryz.prog 193 #[.agg x.cells, .agg y.cells] w fun e w' => e = .returned (.bool (x.alike y)) ∧ Below w.heap.size w w' := by
  have SI := Lib.hid fun (z : World) (hz : Below w.heap.size w z) => itsame (hx.below hz).it (hy.below hz).it
  have SQ := Lib.hid fun (z : World) (hz : Below w.heap.size w z) => sleq32 (hx.below hz).q (hy.below hz).q
  have SF := Lib.hid fun (z : World) (hz : Below w.heap.size w z) => sleq64 (hx.below hz).fl (hy.below hz).fl
  have EC : Hid (x.alike y = (decide (x.kind = y.kind) && (decide (x.it.c = y.it.c) && (decide (x.key = y.key) && (decide (x.hi = y.hi) && (decide (x.n = y.n) && (decide (x.scale = y.scale) && (decide (x.q.xs = y.q.xs) && decide (x.fl.xs = y.fl.xs))))))))) := Lib.hid rfl
  have B0 : ∀ a b, Below w.heap.size w ((w.alloc a).alloc b) := fun a b => ((Below.refl _ w).alloc (Nat.le_refl _) _).alloc (by simp) _
  have BB := Lib.hid B0
  clear hx hy B0
  rw [EC.out]
  clear EC
  generalize decide (x.it.c = y.it.c) = b1 at *
  generalize decide (x.q.xs = y.q.xs) = b2 at *
  generalize decide (x.fl.xs = y.fl.xs) = b3 at *
  unfold Rq.cells Sl.v
  unfold Rc3.v Sl.v at SI
  unfold Sl.v at SQ SF
  by_cases h : x.kind = y.kind
  · have k_kind : (x.kind == y.kind) = true := by simp [h]
    rw [show decide (x.kind = y.kind) = true from decide_eq_true h]
    clear h
    cases b1 with
    | false =>
      go_enter Tryz.func193, Tryz.ntmps193
      go_wp2_with fail
      have RA : Hid (Row ((w.alloc (.cells #[.int .i64 x.kind, .int .u64 x.it.key, .slice x.it.vec.a x.it.vec.xs.length x.it.vec.c, .slice x.it.tag.a x.it.tag.xs.length x.it.tag.c, .int .u64 x.key, .int .u64 x.hi, .int .i64 x.n, .slice x.q.a x.q.xs.length x.q.c, .slice x.fl.a x.fl.xs.length x.fl.c, .int .i64 x.scale] tRq)).alloc (.cells #[.int .i64 y.kind, .int .u64 y.it.key, .slice y.it.vec.a y.it.vec.xs.length y.it.vec.c, .slice y.it.tag.a y.it.tag.xs.length y.it.tag.c, .int .u64 y.key, .int .u64 y.hi, .int .i64 y.n, .slice y.q.a y.q.xs.length y.q.c, .slice y.fl.a y.fl.xs.length y.fl.c, .int .i64 y.scale] tRq)) w.heap.size #[.int .i64 x.kind, .int .u64 x.it.key, .slice x.it.vec.a x.it.vec.xs.length x.it.vec.c, .slice x.it.tag.a x.it.tag.xs.length x.it.tag.c, .int .u64 x.key, .int .u64 x.hi, .int .i64 x.n, .slice x.q.a x.q.xs.length x.q.c, .slice x.fl.a x.fl.xs.length x.fl.c, .int .i64 x.scale] tRq) := Lib.hid ((Row.made w _ _).only ((Only.refl [] _).alloc _) (by simp))
      have RB : Hid (Row ((w.alloc (.cells #[.int .i64 x.kind, .int .u64 x.it.key, .slice x.it.vec.a x.it.vec.xs.length x.it.vec.c, .slice x.it.tag.a x.it.tag.xs.length x.it.tag.c, .int .u64 x.key, .int .u64 x.hi, .int .i64 x.n, .slice x.q.a x.q.xs.length x.q.c, .slice x.fl.a x.fl.xs.length x.fl.c, .int .i64 x.scale] tRq)).alloc (.cells #[.int .i64 y.kind, .int .u64 y.it.key, .slice y.it.vec.a y.it.vec.xs.length y.it.vec.c, .slice y.it.tag.a y.it.tag.xs.length y.it.tag.c, .int .u64 y.key, .int .u64 y.hi, .int .i64 y.n, .slice y.q.a y.q.xs.length y.q.c, .slice y.fl.a y.fl.xs.length y.fl.c, .int .i64 y.scale] tRq)) (w.heap.size + 1) #[.int .i64 y.kind, .int .u64 y.it.key, .slice y.it.vec.a y.it.vec.xs.length y.it.vec.c, .slice y.it.tag.a y.it.tag.xs.length y.it.tag.c, .int .u64 y.key, .int .u64 y.hi, .int .i64 y.n, .slice y.q.a y.q.xs.length y.q.c, .slice y.fl.a y.fl.xs.length y.fl.c, .int .i64 y.scale] tRq) := Lib.hid (by
        have h := Row.made (w.alloc (.cells #[.int .i64 x.kind, .int .u64 x.it.key, .slice x.it.vec.a x.it.vec.xs.length x.it.vec.c, .slice x.it.tag.a x.it.tag.xs.length x.it.tag.c, .int .u64 x.key, .int .u64 x.hi, .int .i64 x.n, .slice x.q.a x.q.xs.length x.q.c, .slice x.fl.a x.fl.xs.length x.fl.c, .int .i64 x.scale] tRq)) #[.int .i64 y.kind, .int .u64 y.it.key, .slice y.it.vec.a y.it.vec.xs.length y.it.vec.c, .slice y.it.tag.a y.it.tag.xs.length y.it.tag.c, .int .u64 y.key, .int .u64 y.hi, .int .i64 y.n, .slice y.q.a y.q.xs.length y.q.c, .slice y.fl.a y.fl.xs.length y.fl.c, .int .i64 y.scale] tRq
        rwa [World.size_alloc] at h)
      have BW := Lib.hid (BB.out (.cells #[.int .i64 x.kind, .int .u64 x.it.key, .slice x.it.vec.a x.it.vec.xs.length x.it.vec.c, .slice x.it.tag.a x.it.tag.xs.length x.it.tag.c, .int .u64 x.key, .int .u64 x.hi, .int .i64 x.n, .slice x.q.a x.q.xs.length x.q.c, .slice x.fl.a x.fl.xs.length x.fl.c, .int .i64 x.scale] tRq) (.cells #[.int .i64 y.kind, .int .u64 y.it.key, .slice y.it.vec.a y.it.vec.xs.length y.it.vec.c, .slice y.it.tag.a y.it.tag.xs.length y.it.tag.c, .int .u64 y.key, .int .u64 y.hi, .int .i64 y.n, .slice y.q.a y.q.xs.length y.q.c, .slice y.fl.a y.fl.xs.length y.fl.c, .int .i64 y.scale] tRq))
      refine (SI.out _ BW.out).mono ?_
      generalize (w.alloc (.cells #[.int .i64 x.kind, .int .u64 x.it.key, .slice x.it.vec.a x.it.vec.xs.length x.it.vec.c, .slice x.it.tag.a x.it.tag.xs.length x.it.tag.c, .int .u64 x.key, .int .u64 x.hi, .int .i64 x.n, .slice x.q.a x.q.xs.length x.q.c, .slice x.fl.a x.fl.xs.length x.fl.c, .int .i64 x.scale] tRq)).alloc (.cells #[.int .i64 y.kind, .int .u64 y.it.key, .slice y.it.vec.a y.it.vec.xs.length y.it.vec.c, .slice y.it.tag.a y.it.tag.xs.length y.it.tag.c, .int .u64 y.key, .int .u64 y.hi, .int .i64 y.n, .slice y.q.a y.q.xs.length y.q.c, .slice y.fl.a y.fl.xs.length y.fl.c, .int .i64 y.scale] tRq) = w1 at *
      rintro _ w2 ⟨rfl, hb2⟩
      have B2 : Hid (Below w.heap.size w w2) := Lib.hid (BW.out.trans (hb2.mono BW.out.size))
      have RA2 := Lib.hid (RA.out.only ((Only.refl [] w1).below hb2) (by simp))
      have RB2 := Lib.hid (RB.out.only ((Only.refl [] w1).below hb2) (by simp))
      have l4 : w2.cell? ⟨w.heap.size, 4, none⟩ = some (.int .u64 x.key) := (RA2.out).cell 4
      have r4 : w2.cell? ⟨w.heap.size + 1, 4, none⟩ = some (.int .u64 y.key) := (RB2.out).cell 4
      have l5 : w2.cell? ⟨w.heap.size, 5, none⟩ = some (.int .u64 x.hi) := (RA2.out).cell 5
      have r5 : w2.cell? ⟨w.heap.size + 1, 5, none⟩ = some (.int .u64 y.hi) := (RB2.out).cell 5
      have l6 : w2.cell? ⟨w.heap.size, 6, none⟩ = some (.int .i64 x.n) := (RA2.out).cell 6
      have r6 : w2.cell? ⟨w.heap.size + 1, 6, none⟩ = some (.int .i64 y.n) := (RB2.out).cell 6
      have l7 : w2.cell? ⟨w.heap.size, 7, none⟩ = some (.slice x.q.a x.q.xs.length x.q.c) := (RA2.out).cell 7
      have r7 : w2.cell? ⟨w.heap.size + 1, 7, none⟩ = some (.slice y.q.a y.q.xs.length y.q.c) := (RB2.out).cell 7
      have l9 : w2.cell? ⟨w.heap.size, 9, none⟩ = some (.int .i64 x.scale) := (RA2.out).cell 9
      have r9 : w2.cell? ⟨w.heap.size + 1, 9, none⟩ = some (.int .i64 y.scale) := (RB2.out).cell 9
      clear hb2 SI BB RA RB BW
      go_wp2_with fail
      go_ret
      exact ⟨rfl, B2.out⟩
    | true =>
      by_cases h : x.key = y.key
      · have k_key : (x.key == y.key) = true := by simp [h]
        rw [show decide (x.key = y.key) = true from decide_eq_true h]
        clear h
        by_cases h : x.hi = y.hi
        · have k_hi : (x.hi == y.hi) = true := by simp [h]
          rw [show decide (x.hi = y.hi) = true from decide_eq_true h]
          clear h
          by_cases h : x.n = y.n
          · have k_n : (x.n == y.n) = true := by simp [h]
            rw [show decide (x.n = y.n) = true from decide_eq_true h]
            clear h
            by_cases h : x.scale = y.scale
            · have k_scale : (x.scale == y.scale) = true := by simp [h]
              rw [show decide (x.scale = y.scale) = true from decide_eq_true h]
              clear h
              cases b2 with
              | false =>
                go_enter Tryz.func193, Tryz.ntmps193
                go_wp2_with fail
                have RA : Hid (Row ((w.alloc (.cells #[.int .i64 x.kind, .int .u64 x.it.key, .slice x.it.vec.a x.it.vec.xs.length x.it.vec.c, .slice x.it.tag.a x.it.tag.xs.length x.it.tag.c, .int .u64 x.key, .int .u64 x.hi, .int .i64 x.n, .slice x.q.a x.q.xs.length x.q.c, .slice x.fl.a x.fl.xs.length x.fl.c, .int .i64 x.scale] tRq)).alloc (.cells #[.int .i64 y.kind, .int .u64 y.it.key, .slice y.it.vec.a y.it.vec.xs.length y.it.vec.c, .slice y.it.tag.a y.it.tag.xs.length y.it.tag.c, .int .u64 y.key, .int .u64 y.hi, .int .i64 y.n, .slice y.q.a y.q.xs.length y.q.c, .slice y.fl.a y.fl.xs.length y.fl.c, .int .i64 y.scale] tRq)) w.heap.size #[.int .i64 x.kind, .int .u64 x.it.key, .slice x.it.vec.a x.it.vec.xs.length x.it.vec.c, .slice x.it.tag.a x.it.tag.xs.length x.it.tag.c, .int .u64 x.key, .int .u64 x.hi, .int .i64 x.n, .slice x.q.a x.q.xs.length x.q.c, .slice x.fl.a x.fl.xs.length x.fl.c, .int .i64 x.scale] tRq) := Lib.hid ((Row.made w _ _).only ((Only.refl [] _).alloc _) (by simp))
                have RB : Hid (Row ((w.alloc (.cells #[.int .i64 x.kind, .int .u64 x.it.key, .slice x.it.vec.a x.it.vec.xs.length x.it.vec.c, .slice x.it.tag.a x.it.tag.xs.length x.it.tag.c, .int .u64 x.key, .int .u64 x.hi, .int .i64 x.n, .slice x.q.a x.q.xs.length x.q.c, .slice x.fl.a x.fl.xs.length x.fl.c, .int .i64 x.scale] tRq)).alloc (.cells #[.int .i64 y.kind, .int .u64 y.it.key, .slice y.it.vec.a y.it.vec.xs.length y.it.vec.c, .slice y.it.tag.a y.it.tag.xs.length y.it.tag.c, .int .u64 y.key, .int .u64 y.hi, .int .i64 y.n, .slice y.q.a y.q.xs.length y.q.c, .slice y.fl.a y.fl.xs.length y.fl.c, .int .i64 y.scale] tRq)) (w.heap.size + 1) #[.int .i64 y.kind, .int .u64 y.it.key, .slice y.it.vec.a y.it.vec.xs.length y.it.vec.c, .slice y.it.tag.a y.it.tag.xs.length y.it.tag.c, .int .u64 y.key, .int .u64 y.hi, .int .i64 y.n, .slice y.q.a y.q.xs.length y.q.c, .slice y.fl.a y.fl.xs.length y.fl.c, .int .i64 y.scale] tRq) := Lib.hid (by
                  have h := Row.made (w.alloc (.cells #[.int .i64 x.kind, .int .u64 x.it.key, .slice x.it.vec.a x.it.vec.xs.length x.it.vec.c, .slice x.it.tag.a x.it.tag.xs.length x.it.tag.c, .int .u64 x.key, .int .u64 x.hi, .int .i64 x.n, .slice x.q.a x.q.xs.length x.q.c, .slice x.fl.a x.fl.xs.length x.fl.c, .int .i64 x.scale] tRq)) #[.int .i64 y.kind, .int .u64 y.it.key, .slice y.it.vec.a y.it.vec.xs.length y.it.vec.c, .slice y.it.tag.a y.it.tag.xs.length y.it.tag.c, .int .u64 y.key, .int .u64 y.hi, .int .i64 y.n, .slice y.q.a y.q.xs.length y.q.c, .slice y.fl.a y.fl.xs.length y.fl.c, .int .i64 y.scale] tRq
                  rwa [World.size_alloc] at h)
                have BW := Lib.hid (BB.out (.cells #[.int .i64 x.kind, .int .u64 x.it.key, .slice x.it.vec.a x.it.vec.xs.length x.it.vec.c, .slice x.it.tag.a x.it.tag.xs.length x.it.tag.c, .int .u64 x.key, .int .u64 x.hi, .int .i64 x.n, .slice x.q.a x.q.xs.length x.q.c, .slice x.fl.a x.fl.xs.length x.fl.c, .int .i64 x.scale] tRq) (.cells #[.int .i64 y.kind, .int .u64 y.it.key, .slice y.it.vec.a y.it.vec.xs.length y.it.vec.c, .slice y.it.tag.a y.it.tag.xs.length y.it.tag.c, .int .u64 y.key, .int .u64 y.hi, .int .i64 y.n, .slice y.q.a y.q.xs.length y.q.c, .slice y.fl.a y.fl.xs.length y.fl.c, .int .i64 y.scale] tRq))
                refine (SI.out _ BW.out).mono ?_
                generalize (w.alloc (.cells #[.int .i64 x.kind, .int .u64 x.it.key, .slice x.it.vec.a x.it.vec.xs.length x.it.vec.c, .slice x.it.tag.a x.it.tag.xs.length x.it.tag.c, .int .u64 x.key, .int .u64 x.hi, .int .i64 x.n, .slice x.q.a x.q.xs.length x.q.c, .slice x.fl.a x.fl.xs.length x.fl.c, .int .i64 x.scale] tRq)).alloc (.cells #[.int .i64 y.kind, .int .u64 y.it.key, .slice y.it.vec.a y.it.vec.xs.length y.it.vec.c, .slice y.it.tag.a y.it.tag.xs.length y.it.tag.c, .int .u64 y.key, .int .u64 y.hi, .int .i64 y.n, .slice y.q.a y.q.xs.length y.q.c, .slice y.fl.a y.fl.xs.length y.fl.c, .int .i64 y.scale] tRq) = w1 at *
                rintro _ w2 ⟨rfl, hb2⟩
                have B2 : Hid (Below w.heap.size w w2) := Lib.hid (BW.out.trans (hb2.mono BW.out.size))
                have RA2 := Lib.hid (RA.out.only ((Only.refl [] w1).below hb2) (by simp))
                have RB2 := Lib.hid (RB.out.only ((Only.refl [] w1).below hb2) (by simp))
                have l4 : w2.cell? ⟨w.heap.size, 4, none⟩ = some (.int .u64 x.key) := (RA2.out).cell 4
                have r4 : w2.cell? ⟨w.heap.size + 1, 4, none⟩ = some (.int .u64 y.key) := (RB2.out).cell 4
                have l5 : w2.cell? ⟨w.heap.size, 5, none⟩ = some (.int .u64 x.hi) := (RA2.out).cell 5
                have r5 : w2.cell? ⟨w.heap.size + 1, 5, none⟩ = some (.int .u64 y.hi) := (RB2.out).cell 5
                have l6 : w2.cell? ⟨w.heap.size, 6, none⟩ = some (.int .i64 x.n) := (RA2.out).cell 6
                have r6 : w2.cell? ⟨w.heap.size + 1, 6, none⟩ = some (.int .i64 y.n) := (RB2.out).cell 6
                have l7 : w2.cell? ⟨w.heap.size, 7, none⟩ = some (.slice x.q.a x.q.xs.length x.q.c) := (RA2.out).cell 7
                have r7 : w2.cell? ⟨w.heap.size + 1, 7, none⟩ = some (.slice y.q.a y.q.xs.length y.q.c) := (RB2.out).cell 7
                have l9 : w2.cell? ⟨w.heap.size, 9, none⟩ = some (.int .i64 x.scale) := (RA2.out).cell 9
                have r9 : w2.cell? ⟨w.heap.size + 1, 9, none⟩ = some (.int .i64 y.scale) := (RB2.out).cell 9
                clear hb2 SI BB RA RB BW
                go_wp2_with fail
                refine (SQ.out w2 B2.out).mono ?_
                rintro _ w3 ⟨rfl, hb3⟩
                have B3 : Hid (Below w.heap.size w w3) := Lib.hid (B2.out.trans (hb3.mono B2.out.size))
                have l8 : w3.cell? ⟨w.heap.size, 8, none⟩ = some (.slice x.fl.a x.fl.xs.length x.fl.c) := (RA2.out.only ((Only.refl [] w2).below hb3) (by simp)).cell 8
                have r8 : w3.cell? ⟨w.heap.size + 1, 8, none⟩ = some (.slice y.fl.a y.fl.xs.length y.fl.c) := (RB2.out.only ((Only.refl [] w2).below hb3) (by simp)).cell 8
                clear hb3 SQ
                go_wp2_with fail
                go_ret
                exact ⟨rfl, B3.out⟩
              | true =>
                cases b3 with
                | false =>
                  go_enter Tryz.func193, Tryz.ntmps193
                  go_wp2_with fail
                  have RA : Hid (Row ((w.alloc (.cells #[.int .i64 x.kind, .int .u64 x.it.key, .slice x.it.vec.a x.it.vec.xs.length x.it.vec.c, .slice x.it.tag.a x.it.tag.xs.length x.it.tag.c, .int .u64 x.key, .int .u64 x.hi, .int .i64 x.n, .slice x.q.a x.q.xs.length x.q.c, .slice x.fl.a x.fl.xs.length x.fl.c, .int .i64 x.scale] tRq)).alloc (.cells #[.int .i64 y.kind, .int .u64 y.it.key, .slice y.it.vec.a y.it.vec.xs.length y.it.vec.c, .slice y.it.tag.a y.it.tag.xs.length y.it.tag.c, .int .u64 y.key, .int .u64 y.hi, .int .i64 y.n, .slice y.q.a y.q.xs.length y.q.c, .slice y.fl.a y.fl.xs.length y.fl.c, .int .i64 y.scale] tRq)) w.heap.size #[.int .i64 x.kind, .int .u64 x.it.key, .slice x.it.vec.a x.it.vec.xs.length x.it.vec.c, .slice x.it.tag.a x.it.tag.xs.length x.it.tag.c, .int .u64 x.key, .int .u64 x.hi, .int .i64 x.n, .slice x.q.a x.q.xs.length x.q.c, .slice x.fl.a x.fl.xs.length x.fl.c, .int .i64 x.scale] tRq) := Lib.hid ((Row.made w _ _).only ((Only.refl [] _).alloc _) (by simp))
                  have RB : Hid (Row ((w.alloc (.cells #[.int .i64 x.kind, .int .u64 x.it.key, .slice x.it.vec.a x.it.vec.xs.length x.it.vec.c, .slice x.it.tag.a x.it.tag.xs.length x.it.tag.c, .int .u64 x.key, .int .u64 x.hi, .int .i64 x.n, .slice x.q.a x.q.xs.length x.q.c, .slice x.fl.a x.fl.xs.length x.fl.c, .int .i64 x.scale] tRq)).alloc (.cells #[.int .i64 y.kind, .int .u64 y.it.key, .slice y.it.vec.a y.it.vec.xs.length y.it.vec.c, .slice y.it.tag.a y.it.tag.xs.length y.it.tag.c, .int .u64 y.key, .int .u64 y.hi, .int .i64 y.n, .slice y.q.a y.q.xs.length y.q.c, .slice y.fl.a y.fl.xs.length y.fl.c, .int .i64 y.scale] tRq)) (w.heap.size + 1) #[.int .i64 y.kind, .int .u64 y.it.key, .slice y.it.vec.a y.it.vec.xs.length y.it.vec.c, .slice y.it.tag.a y.it.tag.xs.length y.it.tag.c, .int .u64 y.key, .int .u64 y.hi, .int .i64 y.n, .slice y.q.a y.q.xs.length y.q.c, .slice y.fl.a y.fl.xs.length y.fl.c, .int .i64 y.scale] tRq) := Lib.hid (by
                    have h := Row.made (w.alloc (.cells #[.int .i64 x.kind, .int .u64 x.it.key, .slice x.it.vec.a x.it.vec.xs.length x.it.vec.c, .slice x.it.tag.a x.it.tag.xs.length x.it.tag.c, .int .u64 x.key, .int .u64 x.hi, .int .i64 x.n, .slice x.q.a x.q.xs.length x.q.c, .slice x.fl.a x.fl.xs.length x.fl.c, .int .i64 x.scale] tRq)) #[.int .i64 y.kind, .int .u64 y.it.key, .slice y.it.vec.a y.it.vec.xs.length y.it.vec.c, .slice y.it.tag.a y.it.tag.xs.length y.it.tag.c, .int .u64 y.key, .int .u64 y.hi, .int .i64 y.n, .slice y.q.a y.q.xs.length y.q.c, .slice y.fl.a y.fl.xs.length y.fl.c, .int .i64 y.scale] tRq
                    rwa [World.size_alloc] at h)
                  have BW := Lib.hid (BB.out (.cells #[.int .i64 x.kind, .int .u64 x.it.key, .slice x.it.vec.a x.it.vec.xs.length x.it.vec.c, .slice x.it.tag.a x.it.tag.xs.length x.it.tag.c, .int .u64 x.key, .int .u64 x.hi, .int .i64 x.n, .slice x.q.a x.q.xs.length x.q.c, .slice x.fl.a x.fl.xs.length x.fl.c, .int .i64 x.scale] tRq) (.cells #[.int .i64 y.kind, .int .u64 y.it.key, .slice y.it.vec.a y.it.vec.xs.length y.it.vec.c, .slice y.it.tag.a y.it.tag.xs.length y.it.tag.c, .int .u64 y.key, .int .u64 y.hi, .int .i64 y.n, .slice y.q.a y.q.xs.length y.q.c, .slice y.fl.a y.fl.xs.length y.fl.c, .int .i64 y.scale] tRq))
                  refine (SI.out _ BW.out).mono ?_
                  generalize (w.alloc (.cells #[.int .i64 x.kind, .int .u64 x.it.key, .slice x.it.vec.a x.it.vec.xs.length x.it.vec.c, .slice x.it.tag.a x.it.tag.xs.length x.it.tag.c, .int .u64 x.key, .int .u64 x.hi, .int .i64 x.n, .slice x.q.a x.q.xs.length x.q.c, .slice x.fl.a x.fl.xs.length x.fl.c, .int .i64 x.scale] tRq)).alloc (.cells #[.int .i64 y.kind, .int .u64 y.it.key, .slice y.it.vec.a y.it.vec.xs.length y.it.vec.c, .slice y.it.tag.a y.it.tag.xs.length y.it.tag.c, .int .u64 y.key, .int .u64 y.hi, .int .i64 y.n, .slice y.q.a y.q.xs.length y.q.c, .slice y.fl.a y.fl.xs.length y.fl.c, .int .i64 y.scale] tRq) = w1 at *
                  rintro _ w2 ⟨rfl, hb2⟩
                  have B2 : Hid (Below w.heap.size w w2) := Lib.hid (BW.out.trans (hb2.mono BW.out.size))
                  have RA2 := Lib.hid (RA.out.only ((Only.refl [] w1).below hb2) (by simp))
                  have RB2 := Lib.hid (RB.out.only ((Only.refl [] w1).below hb2) (by simp))
                  have l4 : w2.cell? ⟨w.heap.size, 4, none⟩ = some (.int .u64 x.key) := (RA2.out).cell 4
                  have r4 : w2.cell? ⟨w.heap.size + 1, 4, none⟩ = some (.int .u64 y.key) := (RB2.out).cell 4
                  have l5 : w2.cell? ⟨w.heap.size, 5, none⟩ = some (.int .u64 x.hi) := (RA2.out).cell 5
                  have r5 : w2.cell? ⟨w.heap.size + 1, 5, none⟩ = some (.int .u64 y.hi) := (RB2.out).cell 5
                  have l6 : w2.cell? ⟨w.heap.size, 6, none⟩ = some (.int .i64 x.n) := (RA2.out).cell 6
                  have r6 : w2.cell? ⟨w.heap.size + 1, 6, none⟩ = some (.int .i64 y.n) := (RB2.out).cell 6
                  have l7 : w2.cell? ⟨w.heap.size, 7, none⟩ = some (.slice x.q.a x.q.xs.length x.q.c) := (RA2.out).cell 7
                  have r7 : w2.cell? ⟨w.heap.size + 1, 7, none⟩ = some (.slice y.q.a y.q.xs.length y.q.c) := (RB2.out).cell 7
                  have l9 : w2.cell? ⟨w.heap.size, 9, none⟩ = some (.int .i64 x.scale) := (RA2.out).cell 9
                  have r9 : w2.cell? ⟨w.heap.size + 1, 9, none⟩ = some (.int .i64 y.scale) := (RB2.out).cell 9
                  clear hb2 SI BB RA RB BW
                  go_wp2_with fail
                  refine (SQ.out w2 B2.out).mono ?_
                  rintro _ w3 ⟨rfl, hb3⟩
                  have B3 : Hid (Below w.heap.size w w3) := Lib.hid (B2.out.trans (hb3.mono B2.out.size))
                  have l8 : w3.cell? ⟨w.heap.size, 8, none⟩ = some (.slice x.fl.a x.fl.xs.length x.fl.c) := (RA2.out.only ((Only.refl [] w2).below hb3) (by simp)).cell 8
                  have r8 : w3.cell? ⟨w.heap.size + 1, 8, none⟩ = some (.slice y.fl.a y.fl.xs.length y.fl.c) := (RB2.out.only ((Only.refl [] w2).below hb3) (by simp)).cell 8
                  clear hb3 SQ
                  go_wp2_with fail
                  refine (SF.out w3 B3.out).mono ?_
                  rintro _ w4 ⟨rfl, hb4⟩
                  have B4 : Hid (Below w.heap.size w w4) := Lib.hid (B3.out.trans (hb4.mono B3.out.size))
                  clear hb4 SF
                  go_wp2_with fail
                  go_ret
                  exact ⟨rfl, B4.out⟩
                | true =>
                  go_enter Tryz.func193, Tryz.ntmps193
                  go_wp2_with fail
                  have RA : Hid (Row ((w.alloc (.cells #[.int .i64 x.kind, .int .u64 x.it.key, .slice x.it.vec.a x.it.vec.xs.length x.it.vec.c, .slice x.it.tag.a x.it.tag.xs.length x.it.tag.c, .int .u64 x.key, .int .u64 x.hi, .int .i64 x.n, .slice x.q.a x.q.xs.length x.q.c, .slice x.fl.a x.fl.xs.length x.fl.c, .int .i64 x.scale] tRq)).alloc (.cells #[.int .i64 y.kind, .int .u64 y.it.key, .slice y.it.vec.a y.it.vec.xs.length y.it.vec.c, .slice y.it.tag.a y.it.tag.xs.length y.it.tag.c, .int .u64 y.key, .int .u64 y.hi, .int .i64 y.n, .slice y.q.a y.q.xs.length y.q.c, .slice y.fl.a y.fl.xs.length y.fl.c, .int .i64 y.scale] tRq)) w.heap.size #[.int .i64 x.kind, .int .u64 x.it.key, .slice x.it.vec.a x.it.vec.xs.length x.it.vec.c, .slice x.it.tag.a x.it.tag.xs.length x.it.tag.c, .int .u64 x.key, .int .u64 x.hi, .int .i64 x.n, .slice x.q.a x.q.xs.length x.q.c, .slice x.fl.a x.fl.xs.length x.fl.c, .int .i64 x.scale] tRq) := Lib.hid ((Row.made w _ _).only ((Only.refl [] _).alloc _) (by simp))
                  have RB : Hid (Row ((w.alloc (.cells #[.int .i64 x.kind, .int .u64 x.it.key, .slice x.it.vec.a x.it.vec.xs.length x.it.vec.c, .slice x.it.tag.a x.it.tag.xs.length x.it.tag.c, .int .u64 x.key, .int .u64 x.hi, .int .i64 x.n, .slice x.q.a x.q.xs.length x.q.c, .slice x.fl.a x.fl.xs.length x.fl.c, .int .i64 x.scale] tRq)).alloc (.cells #[.int .i64 y.kind, .int .u64 y.it.key, .slice y.it.vec.a y.it.vec.xs.length y.it.vec.c, .slice y.it.tag.a y.it.tag.xs.length y.it.tag.c, .int .u64 y.key, .int .u64 y.hi, .int .i64 y.n, .slice y.q.a y.q.xs.length y.q.c, .slice y.fl.a y.fl.xs.length y.fl.c, .int .i64 y.scale] tRq)) (w.heap.size + 1) #[.int .i64 y.kind, .int .u64 y.it.key, .slice y.it.vec.a y.it.vec.xs.length y.it.vec.c, .slice y.it.tag.a y.it.tag.xs.length y.it.tag.c, .int .u64 y.key, .int .u64 y.hi, .int .i64 y.n, .slice y.q.a y.q.xs.length y.q.c, .slice y.fl.a y.fl.xs.length y.fl.c, .int .i64 y.scale] tRq) := Lib.hid (by
                    have h := Row.made (w.alloc (.cells #[.int .i64 x.kind, .int .u64 x.it.key, .slice x.it.vec.a x.it.vec.xs.length x.it.vec.c, .slice x.it.tag.a x.it.tag.xs.length x.it.tag.c, .int .u64 x.key, .int .u64 x.hi, .int .i64 x.n, .slice x.q.a x.q.xs.length x.q.c, .slice x.fl.a x.fl.xs.length x.fl.c, .int .i64 x.scale] tRq)) #[.int .i64 y.kind, .int .u64 y.it.key, .slice y.it.vec.a y.it.vec.xs.length y.it.vec.c, .slice y.it.tag.a y.it.tag.xs.length y.it.tag.c, .int .u64 y.key, .int .u64 y.hi, .int .i64 y.n, .slice y.q.a y.q.xs.length y.q.c, .slice y.fl.a y.fl.xs.length y.fl.c, .int .i64 y.scale] tRq
                    rwa [World.size_alloc] at h)
                  have BW := Lib.hid (BB.out (.cells #[.int .i64 x.kind, .int .u64 x.it.key, .slice x.it.vec.a x.it.vec.xs.length x.it.vec.c, .slice x.it.tag.a x.it.tag.xs.length x.it.tag.c, .int .u64 x.key, .int .u64 x.hi, .int .i64 x.n, .slice x.q.a x.q.xs.length x.q.c, .slice x.fl.a x.fl.xs.length x.fl.c, .int .i64 x.scale] tRq) (.cells #[.int .i64 y.kind, .int .u64 y.it.key, .slice y.it.vec.a y.it.vec.xs.length y.it.vec.c, .slice y.it.tag.a y.it.tag.xs.length y.it.tag.c, .int .u64 y.key, .int .u64 y.hi, .int .i64 y.n, .slice y.q.a y.q.xs.length y.q.c, .slice y.fl.a y.fl.xs.length y.fl.c, .int .i64 y.scale] tRq))
                  refine (SI.out _ BW.out).mono ?_
                  generalize (w.alloc (.cells #[.int .i64 x.kind, .int .u64 x.it.key, .slice x.it.vec.a x.it.vec.xs.length x.it.vec.c, .slice x.it.tag.a x.it.tag.xs.length x.it.tag.c, .int .u64 x.key, .int .u64 x.hi, .int .i64 x.n, .slice x.q.a x.q.xs.length x.q.c, .slice x.fl.a x.fl.xs.length x.fl.c, .int .i64 x.scale] tRq)).alloc (.cells #[.int .i64 y.kind, .int .u64 y.it.key, .slice y.it.vec.a y.it.vec.xs.length y.it.vec.c, .slice y.it.tag.a y.it.tag.xs.length y.it.tag.c, .int .u64 y.key, .int .u64 y.hi, .int .i64 y.n, .slice y.q.a y.q.xs.length y.q.c, .slice y.fl.a y.fl.xs.length y.fl.c, .int .i64 y.scale] tRq) = w1 at *
                  rintro _ w2 ⟨rfl, hb2⟩
                  have B2 : Hid (Below w.heap.size w w2) := Lib.hid (BW.out.trans (hb2.mono BW.out.size))
                  have RA2 := Lib.hid (RA.out.only ((Only.refl [] w1).below hb2) (by simp))
                  have RB2 := Lib.hid (RB.out.only ((Only.refl [] w1).below hb2) (by simp))
                  have l4 : w2.cell? ⟨w.heap.size, 4, none⟩ = some (.int .u64 x.key) := (RA2.out).cell 4
                  have r4 : w2.cell? ⟨w.heap.size + 1, 4, none⟩ = some (.int .u64 y.key) := (RB2.out).cell 4
                  have l5 : w2.cell? ⟨w.heap.size, 5, none⟩ = some (.int .u64 x.hi) := (RA2.out).cell 5
                  have r5 : w2.cell? ⟨w.heap.size + 1, 5, none⟩ = some (.int .u64 y.hi) := (RB2.out).cell 5
                  have l6 : w2.cell? ⟨w.heap.size, 6, none⟩ = some (.int .i64 x.n) := (RA2.out).cell 6
                  have r6 : w2.cell? ⟨w.heap.size + 1, 6, none⟩ = some (.int .i64 y.n) := (RB2.out).cell 6
                  have l7 : w2.cell? ⟨w.heap.size, 7, none⟩ = some (.slice x.q.a x.q.xs.length x.q.c) := (RA2.out).cell 7
                  have r7 : w2.cell? ⟨w.heap.size + 1, 7, none⟩ = some (.slice y.q.a y.q.xs.length y.q.c) := (RB2.out).cell 7
                  have l9 : w2.cell? ⟨w.heap.size, 9, none⟩ = some (.int .i64 x.scale) := (RA2.out).cell 9
                  have r9 : w2.cell? ⟨w.heap.size + 1, 9, none⟩ = some (.int .i64 y.scale) := (RB2.out).cell 9
                  clear hb2 SI BB RA RB BW
                  go_wp2_with fail
                  refine (SQ.out w2 B2.out).mono ?_
                  rintro _ w3 ⟨rfl, hb3⟩
                  have B3 : Hid (Below w.heap.size w w3) := Lib.hid (B2.out.trans (hb3.mono B2.out.size))
                  have l8 : w3.cell? ⟨w.heap.size, 8, none⟩ = some (.slice x.fl.a x.fl.xs.length x.fl.c) := (RA2.out.only ((Only.refl [] w2).below hb3) (by simp)).cell 8
                  have r8 : w3.cell? ⟨w.heap.size + 1, 8, none⟩ = some (.slice y.fl.a y.fl.xs.length y.fl.c) := (RB2.out.only ((Only.refl [] w2).below hb3) (by simp)).cell 8
                  clear hb3 SQ
                  go_wp2_with fail
                  refine (SF.out w3 B3.out).mono ?_
                  rintro _ w4 ⟨rfl, hb4⟩
                  have B4 : Hid (Below w.heap.size w w4) := Lib.hid (B3.out.trans (hb4.mono B3.out.size))
                  clear hb4 SF
                  go_wp2_with fail
                  go_ret
                  exact ⟨rfl, B4.out⟩
            · have k_scale : (x.scale == y.scale) = false := by simp [h]
              rw [show decide (x.scale = y.scale) = false from decide_eq_false h]
              clear h
              go_enter Tryz.func193, Tryz.ntmps193
              go_wp2_with fail
              have RA : Hid (Row ((w.alloc (.cells #[.int .i64 x.kind, .int .u64 x.it.key, .slice x.it.vec.a x.it.vec.xs.length x.it.vec.c, .slice x.it.tag.a x.it.tag.xs.length x.it.tag.c, .int .u64 x.key, .int .u64 x.hi, .int .i64 x.n, .slice x.q.a x.q.xs.length x.q.c, .slice x.fl.a x.fl.xs.length x.fl.c, .int .i64 x.scale] tRq)).alloc (.cells #[.int .i64 y.kind, .int .u64 y.it.key, .slice y.it.vec.a y.it.vec.xs.length y.it.vec.c, .slice y.it.tag.a y.it.tag.xs.length y.it.tag.c, .int .u64 y.key, .int .u64 y.hi, .int .i64 y.n, .slice y.q.a y.q.xs.length y.q.c, .slice y.fl.a y.fl.xs.length y.fl.c, .int .i64 y.scale] tRq)) w.heap.size #[.int .i64 x.kind, .int .u64 x.it.key, .slice x.it.vec.a x.it.vec.xs.length x.it.vec.c, .slice x.it.tag.a x.it.tag.xs.length x.it.tag.c, .int .u64 x.key, .int .u64 x.hi, .int .i64 x.n, .slice x.q.a x.q.xs.length x.q.c, .slice x.fl.a x.fl.xs.length x.fl.c, .int .i64 x.scale] tRq) := Lib.hid ((Row.made w _ _).only ((Only.refl [] _).alloc _) (by simp))
              have RB : Hid (Row ((w.alloc (.cells #[.int .i64 x.kind, .int .u64 x.it.key, .slice x.it.vec.a x.it.vec.xs.length x.it.vec.c, .slice x.it.tag.a x.it.tag.xs.length x.it.tag.c, .int .u64 x.key, .int .u64 x.hi, .int .i64 x.n, .slice x.q.a x.q.xs.length x.q.c, .slice x.fl.a x.fl.xs.length x.fl.c, .int .i64 x.scale] tRq)).alloc (.cells #[.int .i64 y.kind, .int .u64 y.it.key, .slice y.it.vec.a y.it.vec.xs.length y.it.vec.c, .slice y.it.tag.a y.it.tag.xs.length y.it.tag.c, .int .u64 y.key, .int .u64 y.hi, .int .i64 y.n, .slice y.q.a y.q.xs.length y.q.c, .slice y.fl.a y.fl.xs.length y.fl.c, .int .i64 y.scale] tRq)) (w.heap.size + 1) #[.int .i64 y.kind, .int .u64 y.it.key, .slice y.it.vec.a y.it.vec.xs.length y.it.vec.c, .slice y.it.tag.a y.it.tag.xs.length y.it.tag.c, .int .u64 y.key, .int .u64 y.hi, .int .i64 y.n, .slice y.q.a y.q.xs.length y.q.c, .slice y.fl.a y.fl.xs.length y.fl.c, .int .i64 y.scale] tRq) := Lib.hid (by
                have h := Row.made (w.alloc (.cells #[.int .i64 x.kind, .int .u64 x.it.key, .slice x.it.vec.a x.it.vec.xs.length x.it.vec.c, .slice x.it.tag.a x.it.tag.xs.length x.it.tag.c, .int .u64 x.key, .int .u64 x.hi, .int .i64 x.n, .slice x.q.a x.q.xs.length x.q.c, .slice x.fl.a x.fl.xs.length x.fl.c, .int .i64 x.scale] tRq)) #[.int .i64 y.kind, .int .u64 y.it.key, .slice y.it.vec.a y.it.vec.xs.length y.it.vec.c, .slice y.it.tag.a y.it.tag.xs.length y.it.tag.c, .int .u64 y.key, .int .u64 y.hi, .int .i64 y.n, .slice y.q.a y.q.xs.length y.q.c, .slice y.fl.a y.fl.xs.length y.fl.c, .int .i64 y.scale] tRq
                rwa [World.size_alloc] at h)
              have BW := Lib.hid (BB.out (.cells #[.int .i64 x.kind, .int .u64 x.it.key, .slice x.it.vec.a x.it.vec.xs.length x.it.vec.c, .slice x.it.tag.a x.it.tag.xs.length x.it.tag.c, .int .u64 x.key, .int .u64 x.hi, .int .i64 x.n, .slice x.q.a x.q.xs.length x.q.c, .slice x.fl.a x.fl.xs.length x.fl.c, .int .i64 x.scale] tRq) (.cells #[.int .i64 y.kind, .int .u64 y.it.key, .slice y.it.vec.a y.it.vec.xs.length y.it.vec.c, .slice y.it.tag.a y.it.tag.xs.length y.it.tag.c, .int .u64 y.key, .int .u64 y.hi, .int .i64 y.n, .slice y.q.a y.q.xs.length y.q.c, .slice y.fl.a y.fl.xs.length y.fl.c, .int .i64 y.scale] tRq))
              refine (SI.out _ BW.out).mono ?_
              generalize (w.alloc (.cells #[.int .i64 x.kind, .int .u64 x.it.key, .slice x.it.vec.a x.it.vec.xs.length x.it.vec.c, .slice x.it.tag.a x.it.tag.xs.length x.it.tag.c, .int .u64 x.key, .int .u64 x.hi, .int .i64 x.n, .slice x.q.a x.q.xs.length x.q.c, .slice x.fl.a x.fl.xs.length x.fl.c, .int .i64 x.scale] tRq)).alloc (.cells #[.int .i64 y.kind, .int .u64 y.it.key, .slice y.it.vec.a y.it.vec.xs.length y.it.vec.c, .slice y.it.tag.a y.it.tag.xs.length y.it.tag.c, .int .u64 y.key, .int .u64 y.hi, .int .i64 y.n, .slice y.q.a y.q.xs.length y.q.c, .slice y.fl.a y.fl.xs.length y.fl.c, .int .i64 y.scale] tRq) = w1 at *
              rintro _ w2 ⟨rfl, hb2⟩
              have B2 : Hid (Below w.heap.size w w2) := Lib.hid (BW.out.trans (hb2.mono BW.out.size))
              have RA2 := Lib.hid (RA.out.only ((Only.refl [] w1).below hb2) (by simp))
              have RB2 := Lib.hid (RB.out.only ((Only.refl [] w1).below hb2) (by simp))
              have l4 : w2.cell? ⟨w.heap.size, 4, none⟩ = some (.int .u64 x.key) := (RA2.out).cell 4
              have r4 : w2.cell? ⟨w.heap.size + 1, 4, none⟩ = some (.int .u64 y.key) := (RB2.out).cell 4
              have l5 : w2.cell? ⟨w.heap.size, 5, none⟩ = some (.int .u64 x.hi) := (RA2.out).cell 5
              have r5 : w2.cell? ⟨w.heap.size + 1, 5, none⟩ = some (.int .u64 y.hi) := (RB2.out).cell 5
              have l6 : w2.cell? ⟨w.heap.size, 6, none⟩ = some (.int .i64 x.n) := (RA2.out).cell 6
              have r6 : w2.cell? ⟨w.heap.size + 1, 6, none⟩ = some (.int .i64 y.n) := (RB2.out).cell 6
              have l7 : w2.cell? ⟨w.heap.size, 7, none⟩ = some (.slice x.q.a x.q.xs.length x.q.c) := (RA2.out).cell 7
              have r7 : w2.cell? ⟨w.heap.size + 1, 7, none⟩ = some (.slice y.q.a y.q.xs.length y.q.c) := (RB2.out).cell 7
              have l9 : w2.cell? ⟨w.heap.size, 9, none⟩ = some (.int .i64 x.scale) := (RA2.out).cell 9
              have r9 : w2.cell? ⟨w.heap.size + 1, 9, none⟩ = some (.int .i64 y.scale) := (RB2.out).cell 9
              clear hb2 SI BB RA RB BW
              go_wp2_with fail
              go_ret
              exact ⟨rfl, B2.out⟩
          · have k_n : (x.n == y.n) = false := by simp [h]
            rw [show decide (x.n = y.n) = false from decide_eq_false h]
            clear h
            go_enter Tryz.func193, Tryz.ntmps193
            go_wp2_with fail
            have RA : Hid (Row ((w.alloc (.cells #[.int .i64 x.kind, .int .u64 x.it.key, .slice x.it.vec.a x.it.vec.xs.length x.it.vec.c, .slice x.it.tag.a x.it.tag.xs.length x.it.tag.c, .int .u64 x.key, .int .u64 x.hi, .int .i64 x.n, .slice x.q.a x.q.xs.length x.q.c, .slice x.fl.a x.fl.xs.length x.fl.c, .int .i64 x.scale] tRq)).alloc (.cells #[.int .i64 y.kind, .int .u64 y.it.key, .slice y.it.vec.a y.it.vec.xs.length y.it.vec.c, .slice y.it.tag.a y.it.tag.xs.length y.it.tag.c, .int .u64 y.key, .int .u64 y.hi, .int .i64 y.n, .slice y.q.a y.q.xs.length y.q.c, .slice y.fl.a y.fl.xs.length y.fl.c, .int .i64 y.scale] tRq)) w.heap.size #[.int .i64 x.kind, .int .u64 x.it.key, .slice x.it.vec.a x.it.vec.xs.length x.it.vec.c, .slice x.it.tag.a x.it.tag.xs.length x.it.tag.c, .int .u64 x.key, .int .u64 x.hi, .int .i64 x.n, .slice x.q.a x.q.xs.length x.q.c, .slice x.fl.a x.fl.xs.length x.fl.c, .int .i64 x.scale] tRq) := Lib.hid ((Row.made w _ _).only ((Only.refl [] _).alloc _) (by simp))
            have RB : Hid (Row ((w.alloc (.cells #[.int .i64 x.kind, .int .u64 x.it.key, .slice x.it.vec.a x.it.vec.xs.length x.it.vec.c, .slice x.it.tag.a x.it.tag.xs.length x.it.tag.c, .int .u64 x.key, .int .u64 x.hi, .int .i64 x.n, .slice x.q.a x.q.xs.length x.q.c, .slice x.fl.a x.fl.xs.length x.fl.c, .int .i64 x.scale] tRq)).alloc (.cells #[.int .i64 y.kind, .int .u64 y.it.key, .slice y.it.vec.a y.it.vec.xs.length y.it.vec.c, .slice y.it.tag.a y.it.tag.xs.length y.it.tag.c, .int .u64 y.key, .int .u64 y.hi, .int .i64 y.n, .slice y.q.a y.q.xs.length y.q.c, .slice y.fl.a y.fl.xs.length y.fl.c, .int .i64 y.scale] tRq)) (w.heap.size + 1) #[.int .i64 y.kind, .int .u64 y.it.key, .slice y.it.vec.a y.it.vec.xs.length y.it.vec.c, .slice y.it.tag.a y.it.tag.xs.length y.it.tag.c, .int .u64 y.key, .int .u64 y.hi, .int .i64 y.n, .slice y.q.a y.q.xs.length y.q.c, .slice y.fl.a y.fl.xs.length y.fl.c, .int .i64 y.scale] tRq) := Lib.hid (by
              have h := Row.made (w.alloc (.cells #[.int .i64 x.kind, .int .u64 x.it.key, .slice x.it.vec.a x.it.vec.xs.length x.it.vec.c, .slice x.it.tag.a x.it.tag.xs.length x.it.tag.c, .int .u64 x.key, .int .u64 x.hi, .int .i64 x.n, .slice x.q.a x.q.xs.length x.q.c, .slice x.fl.a x.fl.xs.length x.fl.c, .int .i64 x.scale] tRq)) #[.int .i64 y.kind, .int .u64 y.it.key, .slice y.it.vec.a y.it.vec.xs.length y.it.vec.c, .slice y.it.tag.a y.it.tag.xs.length y.it.tag.c, .int .u64 y.key, .int .u64 y.hi, .int .i64 y.n, .slice y.q.a y.q.xs.length y.q.c, .slice y.fl.a y.fl.xs.length y.fl.c, .int .i64 y.scale] tRq
              rwa [World.size_alloc] at h)
            have BW := Lib.hid (BB.out (.cells #[.int .i64 x.kind, .int .u64 x.it.key, .slice x.it.vec.a x.it.vec.xs.length x.it.vec.c, .slice x.it.tag.a x.it.tag.xs.length x.it.tag.c, .int .u64 x.key, .int .u64 x.hi, .int .i64 x.n, .slice x.q.a x.q.xs.length x.q.c, .slice x.fl.a x.fl.xs.length x.fl.c, .int .i64 x.scale] tRq) (.cells #[.int .i64 y.kind, .int .u64 y.it.key, .slice y.it.vec.a y.it.vec.xs.length y.it.vec.c, .slice y.it.tag.a y.it.tag.xs.length y.it.tag.c, .int .u64 y.key, .int .u64 y.hi, .int .i64 y.n, .slice y.q.a y.q.xs.length y.q.c, .slice y.fl.a y.fl.xs.length y.fl.c, .int .i64 y.scale] tRq))
            refine (SI.out _ BW.out).mono ?_
            generalize (w.alloc (.cells #[.int .i64 x.kind, .int .u64 x.it.key, .slice x.it.vec.a x.it.vec.xs.length x.it.vec.c, .slice x.it.tag.a x.it.tag.xs.length x.it.tag.c, .int .u64 x.key, .int .u64 x.hi, .int .i64 x.n, .slice x.q.a x.q.xs.length x.q.c, .slice x.fl.a x.fl.xs.length x.fl.c, .int .i64 x.scale] tRq)).alloc (.cells #[.int .i64 y.kind, .int .u64 y.it.key, .slice y.it.vec.a y.it.vec.xs.length y.it.vec.c, .slice y.it.tag.a y.it.tag.xs.length y.it.tag.c, .int .u64 y.key, .int .u64 y.hi, .int .i64 y.n, .slice y.q.a y.q.xs.length y.q.c, .slice y.fl.a y.fl.xs.length y.fl.c, .int .i64 y.scale] tRq) = w1 at *
            rintro _ w2 ⟨rfl, hb2⟩
            have B2 : Hid (Below w.heap.size w w2) := Lib.hid (BW.out.trans (hb2.mono BW.out.size))
            have RA2 := Lib.hid (RA.out.only ((Only.refl [] w1).below hb2) (by simp))
            have RB2 := Lib.hid (RB.out.only ((Only.refl [] w1).below hb2) (by simp))
            have l4 : w2.cell? ⟨w.heap.size, 4, none⟩ = some (.int .u64 x.key) := (RA2.out).cell 4
            have r4 : w2.cell? ⟨w.heap.size + 1, 4, none⟩ = some (.int .u64 y.key) := (RB2.out).cell 4
            have l5 : w2.cell? ⟨w.heap.size, 5, none⟩ = some (.int .u64 x.hi) := (RA2.out).cell 5
            have r5 : w2.cell? ⟨w.heap.size + 1, 5, none⟩ = some (.int .u64 y.hi) := (RB2.out).cell 5
            have l6 : w2.cell? ⟨w.heap.size, 6, none⟩ = some (.int .i64 x.n) := (RA2.out).cell 6
            have r6 : w2.cell? ⟨w.heap.size + 1, 6, none⟩ = some (.int .i64 y.n) := (RB2.out).cell 6
            have l7 : w2.cell? ⟨w.heap.size, 7, none⟩ = some (.slice x.q.a x.q.xs.length x.q.c) := (RA2.out).cell 7
            have r7 : w2.cell? ⟨w.heap.size + 1, 7, none⟩ = some (.slice y.q.a y.q.xs.length y.q.c) := (RB2.out).cell 7
            have l9 : w2.cell? ⟨w.heap.size, 9, none⟩ = some (.int .i64 x.scale) := (RA2.out).cell 9
            have r9 : w2.cell? ⟨w.heap.size + 1, 9, none⟩ = some (.int .i64 y.scale) := (RB2.out).cell 9
            clear hb2 SI BB RA RB BW
            go_wp2_with fail
            go_ret
            exact ⟨rfl, B2.out⟩
        · have k_hi : (x.hi == y.hi) = false := by simp [h]
          rw [show decide (x.hi = y.hi) = false from decide_eq_false h]
          clear h
          go_enter Tryz.func193, Tryz.ntmps193
          go_wp2_with fail
          have RA : Hid (Row ((w.alloc (.cells #[.int .i64 x.kind, .int .u64 x.it.key, .slice x.it.vec.a x.it.vec.xs.length x.it.vec.c, .slice x.it.tag.a x.it.tag.xs.length x.it.tag.c, .int .u64 x.key, .int .u64 x.hi, .int .i64 x.n, .slice x.q.a x.q.xs.length x.q.c, .slice x.fl.a x.fl.xs.length x.fl.c, .int .i64 x.scale] tRq)).alloc (.cells #[.int .i64 y.kind, .int .u64 y.it.key, .slice y.it.vec.a y.it.vec.xs.length y.it.vec.c, .slice y.it.tag.a y.it.tag.xs.length y.it.tag.c, .int .u64 y.key, .int .u64 y.hi, .int .i64 y.n, .slice y.q.a y.q.xs.length y.q.c, .slice y.fl.a y.fl.xs.length y.fl.c, .int .i64 y.scale] tRq)) w.heap.size #[.int .i64 x.kind, .int .u64 x.it.key, .slice x.it.vec.a x.it.vec.xs.length x.it.vec.c, .slice x.it.tag.a x.it.tag.xs.length x.it.tag.c, .int .u64 x.key, .int .u64 x.hi, .int .i64 x.n, .slice x.q.a x.q.xs.length x.q.c, .slice x.fl.a x.fl.xs.length x.fl.c, .int .i64 x.scale] tRq) := Lib.hid ((Row.made w _ _).only ((Only.refl [] _).alloc _) (by simp))
          have RB : Hid (Row ((w.alloc (.cells #[.int .i64 x.kind, .int .u64 x.it.key, .slice x.it.vec.a x.it.vec.xs.length x.it.vec.c, .slice x.it.tag.a x.it.tag.xs.length x.it.tag.c, .int .u64 x.key, .int .u64 x.hi, .int .i64 x.n, .slice x.q.a x.q.xs.length x.q.c, .slice x.fl.a x.fl.xs.length x.fl.c, .int .i64 x.scale] tRq)).alloc (.cells #[.int .i64 y.kind, .int .u64 y.it.key, .slice y.it.vec.a y.it.vec.xs.length y.it.vec.c, .slice y.it.tag.a y.it.tag.xs.length y.it.tag.c, .int .u64 y.key, .int .u64 y.hi, .int .i64 y.n, .slice y.q.a y.q.xs.length y.q.c, .slice y.fl.a y.fl.xs.length y.fl.c, .int .i64 y.scale] tRq)) (w.heap.size + 1) #[.int .i64 y.kind, .int .u64 y.it.key, .slice y.it.vec.a y.it.vec.xs.length y.it.vec.c, .slice y.it.tag.a y.it.tag.xs.length y.it.tag.c, .int .u64 y.key, .int .u64 y.hi, .int .i64 y.n, .slice y.q.a y.q.xs.length y.q.c, .slice y.fl.a y.fl.xs.length y.fl.c, .int .i64 y.scale] tRq) := Lib.hid (by
            have h := Row.made (w.alloc (.cells #[.int .i64 x.kind, .int .u64 x.it.key, .slice x.it.vec.a x.it.vec.xs.length x.it.vec.c, .slice x.it.tag.a x.it.tag.xs.length x.it.tag.c, .int .u64 x.key, .int .u64 x.hi, .int .i64 x.n, .slice x.q.a x.q.xs.length x.q.c, .slice x.fl.a x.fl.xs.length x.fl.c, .int .i64 x.scale] tRq)) #[.int .i64 y.kind, .int .u64 y.it.key, .slice y.it.vec.a y.it.vec.xs.length y.it.vec.c, .slice y.it.tag.a y.it.tag.xs.length y.it.tag.c, .int .u64 y.key, .int .u64 y.hi, .int .i64 y.n, .slice y.q.a y.q.xs.length y.q.c, .slice y.fl.a y.fl.xs.length y.fl.c, .int .i64 y.scale] tRq
            rwa [World.size_alloc] at h)
          have BW := Lib.hid (BB.out (.cells #[.int .i64 x.kind, .int .u64 x.it.key, .slice x.it.vec.a x.it.vec.xs.length x.it.vec.c, .slice x.it.tag.a x.it.tag.xs.length x.it.tag.c, .int .u64 x.key, .int .u64 x.hi, .int .i64 x.n, .slice x.q.a x.q.xs.length x.q.c, .slice x.fl.a x.fl.xs.length x.fl.c, .int .i64 x.scale] tRq) (.cells #[.int .i64 y.kind, .int .u64 y.it.key, .slice y.it.vec.a y.it.vec.xs.length y.it.vec.c, .slice y.it.tag.a y.it.tag.xs.length y.it.tag.c, .int .u64 y.key, .int .u64 y.hi, .int .i64 y.n, .slice y.q.a y.q.xs.length y.q.c, .slice y.fl.a y.fl.xs.length y.fl.c, .int .i64 y.scale] tRq))
          refine (SI.out _ BW.out).mono ?_
          generalize (w.alloc (.cells #[.int .i64 x.kind, .int .u64 x.it.key, .slice x.it.vec.a x.it.vec.xs.length x.it.vec.c, .slice x.it.tag.a x.it.tag.xs.length x.it.tag.c, .int .u64 x.key, .int .u64 x.hi, .int .i64 x.n, .slice x.q.a x.q.xs.length x.q.c, .slice x.fl.a x.fl.xs.length x.fl.c, .int .i64 x.scale] tRq)).alloc (.cells #[.int .i64 y.kind, .int .u64 y.it.key, .slice y.it.vec.a y.it.vec.xs.length y.it.vec.c, .slice y.it.tag.a y.it.tag.xs.length y.it.tag.c, .int .u64 y.key, .int .u64 y.hi, .int .i64 y.n, .slice y.q.a y.q.xs.length y.q.c, .slice y.fl.a y.fl.xs.length y.fl.c, .int .i64 y.scale] tRq) = w1 at *
          rintro _ w2 ⟨rfl, hb2⟩
          have B2 : Hid (Below w.heap.size w w2) := Lib.hid (BW.out.trans (hb2.mono BW.out.size))
          have RA2 := Lib.hid (RA.out.only ((Only.refl [] w1).below hb2) (by simp))
          have RB2 := Lib.hid (RB.out.only ((Only.refl [] w1).below hb2) (by simp))
          have l4 : w2.cell? ⟨w.heap.size, 4, none⟩ = some (.int .u64 x.key) := (RA2.out).cell 4
          have r4 : w2.cell? ⟨w.heap.size + 1, 4, none⟩ = some (.int .u64 y.key) := (RB2.out).cell 4
          have l5 : w2.cell? ⟨w.heap.size, 5, none⟩ = some (.int .u64 x.hi) := (RA2.out).cell 5
          have r5 : w2.cell? ⟨w.heap.size + 1, 5, none⟩ = some (.int .u64 y.hi) := (RB2.out).cell 5
          have l6 : w2.cell? ⟨w.heap.size, 6, none⟩ = some (.int .i64 x.n) := (RA2.out).cell 6
          have r6 : w2.cell? ⟨w.heap.size + 1, 6, none⟩ = some (.int .i64 y.n) := (RB2.out).cell 6
          have l7 : w2.cell? ⟨w.heap.size, 7, none⟩ = some (.slice x.q.a x.q.xs.length x.q.c) := (RA2.out).cell 7
          have r7 : w2.cell? ⟨w.heap.size + 1, 7, none⟩ = some (.slice y.q.a y.q.xs.length y.q.c) := (RB2.out).cell 7
          have l9 : w2.cell? ⟨w.heap.size, 9, none⟩ = some (.int .i64 x.scale) := (RA2.out).cell 9
          have r9 : w2.cell? ⟨w.heap.size + 1, 9, none⟩ = some (.int .i64 y.scale) := (RB2.out).cell 9
          clear hb2 SI BB RA RB BW
          go_wp2_with fail
          go_ret
          exact ⟨rfl, B2.out⟩
      · have k_key : (x.key == y.key) = false := by simp [h]
        rw [show decide (x.key = y.key) = false from decide_eq_false h]
        clear h
        go_enter Tryz.func193, Tryz.ntmps193
        go_wp2_with fail
        have RA : Hid (Row ((w.alloc (.cells #[.int .i64 x.kind, .int .u64 x.it.key, .slice x.it.vec.a x.it.vec.xs.length x.it.vec.c, .slice x.it.tag.a x.it.tag.xs.length x.it.tag.c, .int .u64 x.key, .int .u64 x.hi, .int .i64 x.n, .slice x.q.a x.q.xs.length x.q.c, .slice x.fl.a x.fl.xs.length x.fl.c, .int .i64 x.scale] tRq)).alloc (.cells #[.int .i64 y.kind, .int .u64 y.it.key, .slice y.it.vec.a y.it.vec.xs.length y.it.vec.c, .slice y.it.tag.a y.it.tag.xs.length y.it.tag.c, .int .u64 y.key, .int .u64 y.hi, .int .i64 y.n, .slice y.q.a y.q.xs.length y.q.c, .slice y.fl.a y.fl.xs.length y.fl.c, .int .i64 y.scale] tRq)) w.heap.size #[.int .i64 x.kind, .int .u64 x.it.key, .slice x.it.vec.a x.it.vec.xs.length x.it.vec.c, .slice x.it.tag.a x.it.tag.xs.length x.it.tag.c, .int .u64 x.key, .int .u64 x.hi, .int .i64 x.n, .slice x.q.a x.q.xs.length x.q.c, .slice x.fl.a x.fl.xs.length x.fl.c, .int .i64 x.scale] tRq) := Lib.hid ((Row.made w _ _).only ((Only.refl [] _).alloc _) (by simp))
        have RB : Hid (Row ((w.alloc (.cells #[.int .i64 x.kind, .int .u64 x.it.key, .slice x.it.vec.a x.it.vec.xs.length x.it.vec.c, .slice x.it.tag.a x.it.tag.xs.length x.it.tag.c, .int .u64 x.key, .int .u64 x.hi, .int .i64 x.n, .slice x.q.a x.q.xs.length x.q.c, .slice x.fl.a x.fl.xs.length x.fl.c, .int .i64 x.scale] tRq)).alloc (.cells #[.int .i64 y.kind, .int .u64 y.it.key, .slice y.it.vec.a y.it.vec.xs.length y.it.vec.c, .slice y.it.tag.a y.it.tag.xs.length y.it.tag.c, .int .u64 y.key, .int .u64 y.hi, .int .i64 y.n, .slice y.q.a y.q.xs.length y.q.c, .slice y.fl.a y.fl.xs.length y.fl.c, .int .i64 y.scale] tRq)) (w.heap.size + 1) #[.int .i64 y.kind, .int .u64 y.it.key, .slice y.it.vec.a y.it.vec.xs.length y.it.vec.c, .slice y.it.tag.a y.it.tag.xs.length y.it.tag.c, .int .u64 y.key, .int .u64 y.hi, .int .i64 y.n, .slice y.q.a y.q.xs.length y.q.c, .slice y.fl.a y.fl.xs.length y.fl.c, .int .i64 y.scale] tRq) := Lib.hid (by
          have h := Row.made (w.alloc (.cells #[.int .i64 x.kind, .int .u64 x.it.key, .slice x.it.vec.a x.it.vec.xs.length x.it.vec.c, .slice x.it.tag.a x.it.tag.xs.length x.it.tag.c, .int .u64 x.key, .int .u64 x.hi, .int .i64 x.n, .slice x.q.a x.q.xs.length x.q.c, .slice x.fl.a x.fl.xs.length x.fl.c, .int .i64 x.scale] tRq)) #[.int .i64 y.kind, .int .u64 y.it.key, .slice y.it.vec.a y.it.vec.xs.length y.it.vec.c, .slice y.it.tag.a y.it.tag.xs.length y.it.tag.c, .int .u64 y.key, .int .u64 y.hi, .int .i64 y.n, .slice y.q.a y.q.xs.length y.q.c, .slice y.fl.a y.fl.xs.length y.fl.c, .int .i64 y.scale] tRq
          rwa [World.size_alloc] at h)
        have BW := Lib.hid (BB.out (.cells #[.int .i64 x.kind, .int .u64 x.it.key, .slice x.it.vec.a x.it.vec.xs.length x.it.vec.c, .slice x.it.tag.a x.it.tag.xs.length x.it.tag.c, .int .u64 x.key, .int .u64 x.hi, .int .i64 x.n, .slice x.q.a x.q.xs.length x.q.c, .slice x.fl.a x.fl.xs.length x.fl.c, .int .i64 x.scale] tRq) (.cells #[.int .i64 y.kind, .int .u64 y.it.key, .slice y.it.vec.a y.it.vec.xs.length y.it.vec.c, .slice y.it.tag.a y.it.tag.xs.length y.it.tag.c, .int .u64 y.key, .int .u64 y.hi, .int .i64 y.n, .slice y.q.a y.q.xs.length y.q.c, .slice y.fl.a y.fl.xs.length y.fl.c, .int .i64 y.scale] tRq))
        refine (SI.out _ BW.out).mono ?_
        generalize (w.alloc (.cells #[.int .i64 x.kind, .int .u64 x.it.key, .slice x.it.vec.a x.it.vec.xs.length x.it.vec.c, .slice x.it.tag.a x.it.tag.xs.length x.it.tag.c, .int .u64 x.key, .int .u64 x.hi, .int .i64 x.n, .slice x.q.a x.q.xs.length x.q.c, .slice x.fl.a x.fl.xs.length x.fl.c, .int .i64 x.scale] tRq)).alloc (.cells #[.int .i64 y.kind, .int .u64 y.it.key, .slice y.it.vec.a y.it.vec.xs.length y.it.vec.c, .slice y.it.tag.a y.it.tag.xs.length y.it.tag.c, .int .u64 y.key, .int .u64 y.hi, .int .i64 y.n, .slice y.q.a y.q.xs.length y.q.c, .slice y.fl.a y.fl.xs.length y.fl.c, .int .i64 y.scale] tRq) = w1 at *
        rintro _ w2 ⟨rfl, hb2⟩
        have B2 : Hid (Below w.heap.size w w2) := Lib.hid (BW.out.trans (hb2.mono BW.out.size))
        have RA2 := Lib.hid (RA.out.only ((Only.refl [] w1).below hb2) (by simp))
        have RB2 := Lib.hid (RB.out.only ((Only.refl [] w1).below hb2) (by simp))
        have l4 : w2.cell? ⟨w.heap.size, 4, none⟩ = some (.int .u64 x.key) := (RA2.out).cell 4
        have r4 : w2.cell? ⟨w.heap.size + 1, 4, none⟩ = some (.int .u64 y.key) := (RB2.out).cell 4
        have l5 : w2.cell? ⟨w.heap.size, 5, none⟩ = some (.int .u64 x.hi) := (RA2.out).cell 5
        have r5 : w2.cell? ⟨w.heap.size + 1, 5, none⟩ = some (.int .u64 y.hi) := (RB2.out).cell 5
        have l6 : w2.cell? ⟨w.heap.size, 6, none⟩ = some (.int .i64 x.n) := (RA2.out).cell 6
        have r6 : w2.cell? ⟨w.heap.size + 1, 6, none⟩ = some (.int .i64 y.n) := (RB2.out).cell 6
        have l7 : w2.cell? ⟨w.heap.size, 7, none⟩ = some (.slice x.q.a x.q.xs.length x.q.c) := (RA2.out).cell 7
        have r7 : w2.cell? ⟨w.heap.size + 1, 7, none⟩ = some (.slice y.q.a y.q.xs.length y.q.c) := (RB2.out).cell 7
        have l9 : w2.cell? ⟨w.heap.size, 9, none⟩ = some (.int .i64 x.scale) := (RA2.out).cell 9
        have r9 : w2.cell? ⟨w.heap.size + 1, 9, none⟩ = some (.int .i64 y.scale) := (RB2.out).cell 9
        clear hb2 SI BB RA RB BW
        go_wp2_with fail
        go_ret
        exact ⟨rfl, B2.out⟩
  · have k_kind : (x.kind == y.kind) = false := by simp [h]
    rw [show decide (x.kind = y.kind) = false from decide_eq_false h]
    clear h
    go_enter Tryz.func193, Tryz.ntmps193
    go_wp2_with fail
    go_ret
    exact ⟨rfl, BB.out _ _⟩
end Go.Proofs.YtcgmgdjeamidlaaGreat
