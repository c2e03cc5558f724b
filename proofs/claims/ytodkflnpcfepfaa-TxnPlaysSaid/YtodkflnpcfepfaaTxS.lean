/- Same, of two looks that are alike. -/
import Derived.Test.YtodkflnpcfepfaaTxR
namespace Go.Proofs.Ytodkflnpcfepfaa
open Go.RowKit Go.ChangeShapes Go.WideShapes Go.ChangeAt
set_option linter.unusedVariables false
set_option linter.unusedSimpArgs false

/-- A slice of stamps. -/
def StAt (w : World) (a : Option Addr) (n : Nat) (ds : List (Int × Int)) : Prop := ds.length = n ∧ (n = 0 ∨ ∃ g o, a = some ⟨g, o, none⟩ ∧ ∀ (j : Nat) d, ds[j]? = some d → w.cell? ⟨g, o + j * 2, none⟩ = some (.int .u64 d.1) ∧ w.cell? ⟨g, o + j * 2 + 1, none⟩ = some (.int .u64 d.2))
theorem StAt.below {w w' : World} {a : Option Addr} {n : Nat} {ds : List (Int × Int)} (h : StAt w a n ds) (k : Below w.heap.size w w') : StAt w' a n ds := by
  refine ⟨h.1, h.2.imp id ?_⟩
  rintro ⟨g, o, rfl, hf⟩
  refine ⟨g, o, rfl, fun j d hd => ?_⟩
  obtain ⟨h1, h2⟩ := hf j d hd
  exact ⟨(k.cell (p := ⟨g, o + j * 2, none⟩) (cell_lt h1)).trans h1, (k.cell (p := ⟨g, o + j * 2 + 1, none⟩) (cell_lt h2)).trans h2⟩
theorem StAt.take {w : World} {a : Option Addr} {n m : Nat} {ds : List (Int × Int)} (h : StAt w a n ds) (hm : m ≤ n) : StAt w a m (ds.take m) := by
  refine ⟨by rw [List.length_take, h.1]; omega, ?_⟩
  by_cases h0 : m = 0
  · exact .inl h0
  · rcases h.2 with h1 | ⟨g, o, rfl, hf⟩
    · omega
    · refine .inr ⟨g, o, rfl, fun j d hd => hf j d ?_⟩
      rw [List.getElem?_take] at hd
      split at hd
      · exact hd
      · cases hd
theorem dsL_get (ds : List (Int × Int)) : ∀ (j : Nat) (d : Int × Int), ds[j]? = some d → (dsL ds)[j * 2]? = some (.int .u64 d.1) ∧ (dsL ds)[j * 2 + 1]? = some (.int .u64 d.2) := by
  induction ds with
  | nil => intro j d h; simp at h
  | cons x ds ih =>
    intro j d h
    have e : dsL (x :: ds) = .int .u64 x.1 :: .int .u64 x.2 :: dsL ds := rfl
    rw [e]
    cases j with
    | zero => simp only [List.getElem?_cons_zero, Option.some.injEq] at h; subst h; exact ⟨rfl, rfl⟩
    | succ j =>
      have := ih j d (by simpa using h)
      rw [show (j + 1) * 2 = j * 2 + 1 + 1 by omega]
      simpa using this
theorem StAt.of_own {w : World} {B n m c : Nat} {a : Option Addr} {ds : List (Int × Int)} (h : w.ownsRow B tSt 2 (.slice a m c) n (dsL ds)) (hd : ds.length = n) : m = n ∧ StAt w a n ds := by
  rcases h.2 with ⟨e, h0⟩ | ⟨g, cap, cur, e, hb, hgh, hnc, hcm, hcs, htake⟩
  · simp only [Value.slice.injEq] at e
    obtain ⟨rfl, rfl, rfl⟩ := e
    exact ⟨h0.symm, hd, .inl h0⟩
  · simp only [Value.slice.injEq] at e
    obtain ⟨rfl, rfl, rfl⟩ := e
    refine ⟨rfl, hd, .inr ⟨g, 0, rfl, fun j d hj => ?_⟩⟩
    have hlt : j < m := by have := (List.getElem?_eq_some_iff.1 hj).1; omega
    obtain ⟨h1, h2⟩ := dsL_get ds j d hj
    rw [Nat.zero_add]
    exact ⟨(World.ownsRow.cellAt h (j * 2) (by omega)).trans h1, (World.ownsRow.cellAt h (j * 2 + 1) (by omega)).trans h2⟩
theorem neq_stamp (a b : Int) (w : World) : (binOp .neq tSt (.agg #[.int .u64 a, .int .u64 b]) (.agg #[.int .u64 a, .int .u64 b])).run Try.prog w = .ok (.bool false) w := by
  have u3 := Try.underlying29
  have a3 := Try.isAgg29
  have z3 := Try.sizeOf29
  have hS : Try.prog.underlying tSt = some (.struct (Try.prog.fieldsOf tSt)) := by kernel_rfl
  have hp : Try.prog.stoodInHeld tSt = false := by kernel_rfl
  rw [run_neq_struct, show (10000 : Nat) = 9999 + 1 from rfl, run_equalIn_agg w 9999 tSt _ _ hS hp]
  simp only [Program.fieldsOf, Try.underlying47]
  go_simp
set_option maxRecDepth 100000 in
set_option maxHeartbeats 4000000 in
theorem same_true (self start base : Int) (a1 a2 : Option Addr) (n c1 c2 : Nat) (ds : List (Int × Int)) (w : World) (h1 : StAt w a1 n ds) (h2 : StAt w a2 n ds) (hn : n ≤ 1000000) :
    Calls Try.prog 15 #[.agg (lookR self start base (.slice a1 n c1)), .agg (lookR self start base (.slice a2 n c2))] w fun e w' => e = .returned (.bool true) ∧ Below w.heap.size w w' := by
  have H1 := Lib.hid h1
  have H2 := Lib.hid h2
  have DL : Hid (ds.length = n) := Lib.hid h1.1
  have hn2 := hn
  unfold lookR
  clear h1 h2 hn
  go_enter Try.func15, Try.ntmps15
  go_wp2_with fail
  have R1 : Hid (Row ((w.alloc (.cells #[.int .u64 self, .int .u64 start, .int .u64 base, .slice a1 n c1] tLk)).alloc (.cells #[.int .u64 self, .int .u64 start, .int .u64 base, .slice a2 n c2] tLk)) w.heap.size #[.int .u64 self, .int .u64 start, .int .u64 base, .slice a1 n c1] tLk) := Lib.hid ((Row.made w _ _).only ((Only.refl [] _).alloc _) (by simp))
  have R2 : Hid (Row ((w.alloc (.cells #[.int .u64 self, .int .u64 start, .int .u64 base, .slice a1 n c1] tLk)).alloc (.cells #[.int .u64 self, .int .u64 start, .int .u64 base, .slice a2 n c2] tLk)) (w.heap.size + 1) #[.int .u64 self, .int .u64 start, .int .u64 base, .slice a2 n c2] tLk) := Lib.hid (by
    have h := Row.made (w.alloc (.cells #[.int .u64 self, .int .u64 start, .int .u64 base, .slice a1 n c1] tLk)) #[.int .u64 self, .int .u64 start, .int .u64 base, .slice a2 n c2] tLk
    rw [World.size_alloc] at h
    exact h)
  have B2 : Hid (Below w.heap.size w ((w.alloc (.cells #[.int .u64 self, .int .u64 start, .int .u64 base, .slice a1 n c1] tLk)).alloc (.cells #[.int .u64 self, .int .u64 start, .int .u64 base, .slice a2 n c2] tLk))) := Lib.hid (((Below.refl _ _).alloc (Nat.le_refl _) _).alloc (by simp) _)
  generalize (w.alloc (.cells #[.int .u64 self, .int .u64 start, .int .u64 base, .slice a1 n c1] tLk)).alloc (.cells #[.int .u64 self, .int .u64 start, .int .u64 base, .slice a2 n c2] tLk) = w2 at *
  have S1 := Lib.hid (H1.out.below B2.out)
  have S2 := Lib.hid (H2.out.below B2.out)
  clear H1 H2
  go_loopw [5] (fun u wr => ∃ j : Nat, u = .int .i64 j ∧ Hid (j ≤ n ∧ Below w2.heap.size w2 wr)) (fun u _ => n - (intOf u).toNat)
  case atStart => exact ⟨0, rfl, Lib.hid ⟨Nat.zero_le _, Below.refl _ _⟩⟩
  case round =>
    obtain ⟨j, rfl, hj⟩ := hrel
    have HJ := Lib.hid hj.out.1
    have BW := Lib.hid hj.out.2
    clear hj
    have r1 : wr.cell? ⟨w.heap.size, 3, none⟩ = some (.slice a1 n c1) := (BW.out.cell (p := ⟨w.heap.size, 3, none⟩) R1.out.lt).trans (R1.out.cell 3)
    have r2 : wr.cell? ⟨w.heap.size + 1, 3, none⟩ = some (.slice a2 n c2) := (BW.out.cell (p := ⟨w.heap.size + 1, 3, none⟩) R2.out.lt).trans (R2.out.cell 3)
    by_cases hlt : j < n
    · have d1 : decide (j < n) = true := decide_eq_true hlt
      have hd : ∃ d, ds[j]? = some d := ⟨_, List.getElem?_eq_getElem (by rw [DL.out]; exact hlt)⟩
      obtain ⟨⟨dx, dy⟩, hd⟩ := hd
      obtain ⟨g1, o1, rfl, f1⟩ : ∃ g o, a1 = some ⟨g, o, none⟩ ∧ ∀ (j : Nat) d, ds[j]? = some d → w2.cell? ⟨g, o + j * 2, none⟩ = some (.int .u64 d.1) ∧ w2.cell? ⟨g, o + j * 2 + 1, none⟩ = some (.int .u64 d.2) := S1.out.2.resolve_left (by omega)
      obtain ⟨g2, o2, rfl, f2⟩ : ∃ g o, a2 = some ⟨g, o, none⟩ ∧ ∀ (j : Nat) d, ds[j]? = some d → w2.cell? ⟨g, o + j * 2, none⟩ = some (.int .u64 d.1) ∧ w2.cell? ⟨g, o + j * 2 + 1, none⟩ = some (.int .u64 d.2) := S2.out.2.resolve_left (by omega)
      obtain ⟨x1, x2⟩ := f1 j _ hd
      obtain ⟨y1, y2⟩ := f2 j _ hd
      have x1 : wr.cell? ⟨g1, o1 + j * 2, none⟩ = some (.int .u64 dx) := (BW.out.cell (p := ⟨g1, o1 + j * 2, none⟩) (cell_lt x1)).trans x1
      have x2 : wr.cell? ⟨g1, o1 + j * 2 + 1, none⟩ = some (.int .u64 dy) := (BW.out.cell (p := ⟨g1, o1 + j * 2 + 1, none⟩) (cell_lt x2)).trans x2
      have y1 : wr.cell? ⟨g2, o2 + j * 2, none⟩ = some (.int .u64 dx) := (BW.out.cell (p := ⟨g2, o2 + j * 2, none⟩) (cell_lt y1)).trans y1
      have y2 : wr.cell? ⟨g2, o2 + j * 2 + 1, none⟩ = some (.int .u64 dy) := (BW.out.cell (p := ⟨g2, o2 + j * 2 + 1, none⟩) (cell_lt y2)).trans y2
      have gm : Try.prog.eqGuardType Try.prog.depth tSt = false := by kernel_rfl
      have ne := neq_stamp dx dy
      have HL := Lib.hid hlt
      clear f1 f2 hd
      go_wp2_with fail
      go_quiet (fail)
      have BN : Hid (Below w2.heap.size w2 (wr.drewN nq)) := Lib.hid (below_drewN BW.out nq)
      go_wp2_with fail
      go_roundw
      case rel => exact ⟨j + 1, by go_num, Lib.hid ⟨by have := HL.out; omega, BN.out⟩⟩
      case measure => simp [intOf]; have := HL.out; omega
    · have d1 : decide (j < n) = false := decide_eq_false hlt
      clear hlt
      go_wp2_with fail
      go_ret
      exact ⟨rfl, B2.out.trans (BW.out.mono B2.out.size)⟩
end Go.Proofs.Ytodkflnpcfepfaa
