/- Sched: its lines in memory; Reset, New. -/
import Derived.Test.YtcgmgdjeamidlaaGreatScA
import Derived.Test.YtcgmgdjeamidlaaGreatSsU
import Derived.LoopTactic
import Derived.Deep.CutBlock
import Derived.Deep.RegionHeld3
namespace Go.Proofs.YtcgmgdjeamidlaaGreat
open Go.RowKit Go.ChangeShapes Go.WideShapes Go.ChangeAt
set_option linter.unusedVariables false
set_option linter.unusedSimpArgs false

abbrev tLn : TypeId := 143
def lnL (ls : List (Nat × Nat × Bool)) : List Value := ls.flatMap fun x => [.pointer (some ⟨x.1, 0, none⟩), .pointer (some ⟨x.2.1, 0, none⟩), .bool x.2.2]
theorem lnL_len (ls : List (Nat × Nat × Bool)) : (lnL ls).length = 3 * ls.length := by
  induction ls with
  | nil => rfl
  | cons x l ih =>
    show (_ ++ lnL l).length = _
    rw [List.length_append, ih]
    simp
    omega
/-- Behind i rounds of Reset. -/
structure ResI (g l n : Nat) (base : Value) (w : World) (i : Nat) (wr : World) (ls : List (Nat × Nat × Bool)) (cs : Array Value) : Prop where
  len : ls.length = i
  size : cs.size = n * 3
  take : cs.toList.take (i * 3) = lnL ls
  rl : Row wr l cs tLn
  rg : Row wr g #[.slice (some ⟨l, 0, none⟩) n n, .bool false] tSc
  each : ∀ x ∈ ls, Row wr x.1 #[base, .int .u64 0] tSs ∧ StrmF wr x.2.1 [] 0 [x.2.1] ∧ x.2.2 = false
  fresh : ∀ b ∈ ls.flatMap (fun x => [x.1, x.2.1]), w.heap.size ≤ b
  nd : (ls.flatMap (fun x => [x.1, x.2.1])).Nodup
  only : Only [g, l] w wr
theorem ResI.push {g l n : Nat} {base : Value} {w : World} {i : Nat} {wr : World} {ls : List (Nat × Nat × Bool)} {cs : Array Value} (h : ResI g l n base w i wr ls cs) (hi : i < n) (hg : g ≠ l) {a b : Nat} {y : World} (hy : Only [] wr y) (ha : wr.heap.size ≤ a) (hb : wr.heap.size ≤ b) (hab : a ≠ b) (ra : Row y a #[base, .int .u64 0] tSs) (rb : StrmF y b [] 0 [b]) :
    ∃ cs', ResI g l n base w (i + 1) (((y.setCell ⟨l, i * 3, none⟩ (.pointer (some ⟨a, 0, none⟩))).setCell ⟨l, i * 3 + 1, none⟩ (.pointer (some ⟨b, 0, none⟩))).setCell ⟨l, i * 3 + 2, none⟩ (.bool false)) (ls ++ [(a, b, false)]) cs' := by
  have hl := h.rl.lt
  have hgl := h.rg.lt
  have ry := h.rl.only hy (by simp)
  have k : Only [l] y (((y.setCell ⟨l, i * 3, none⟩ (.pointer (some ⟨a, 0, none⟩))).setCell ⟨l, i * 3 + 1, none⟩ (.pointer (some ⟨b, 0, none⟩))).setCell ⟨l, i * 3 + 2, none⟩ (.bool false)) := (((Only.refl [l] y).setCell (.inl (by simp)) _).setCell (.inl (by simp)) _).setCell (.inl (by simp)) _
  have hsz := h.size
  have hlt : ∀ c ∈ ls.flatMap (fun x => [x.1, x.2.1]), c < wr.heap.size := by
    intro c hc
    obtain ⟨x, hx, hc⟩ := List.mem_flatMap.1 hc
    obtain ⟨h1, h2, _⟩ := h.each x hx
    simp at hc
    rcases hc with rfl | rfl
    · exact h1.lt
    · exact h2.lt _ (by simp)
  refine ⟨_, ⟨by rw [List.length_append, h.len]; rfl, ?_, ?_, ((ry.set (i * 3) (.pointer (some ⟨a, 0, none⟩))).set (i * 3 + 1) (.pointer (some ⟨b, 0, none⟩))).set (i * 3 + 2) (.bool false), (h.rg.only hy (by simp)).only k (by simp; exact hg), fun x hx => ?_, fun c hc => ?_, ?_, ?_⟩⟩
  · simp [hsz]
  · have ht := h.take
    have e : lnL (ls ++ [(a, b, false)]) = lnL ls ++ [.pointer (some ⟨a, 0, none⟩), .pointer (some ⟨b, 0, none⟩), .bool false] := by simp [lnL]
    rw [e, ← ht]
    refine List.ext_getElem? fun j => ?_
    have hll : (cs.toList.take (i * 3)).length = i * 3 := by simp; omega
    rw [List.getElem?_take]
    by_cases h1 : j < i * 3
    · rw [if_pos (by omega), List.getElem?_append_left (by omega), List.getElem?_take_of_lt h1]
      simp only [Array.getElem?_toList]
      rw [Array.getElem?_setIfInBounds_ne (by omega), Array.getElem?_setIfInBounds_ne (by omega), Array.getElem?_setIfInBounds_ne (by omega)]
    · rw [List.getElem?_append_right (by omega), hll]
      by_cases h2 : j < (i + 1) * 3
      · rw [if_pos h2]
        simp only [Array.getElem?_toList]
        obtain h3 | h3 | h3 : j = i * 3 ∨ j = i * 3 + 1 ∨ j = i * 3 + 2 := by omega
        · subst h3
          rw [Array.getElem?_setIfInBounds_ne (by omega), Array.getElem?_setIfInBounds_ne (by omega), Array.getElem?_setIfInBounds_self_of_lt (by omega)]
          simp
        · subst h3
          rw [Array.getElem?_setIfInBounds_ne (by omega), Array.getElem?_setIfInBounds_self_of_lt (by simp; omega), show i * 3 + 1 - i * 3 = 1 by omega]
          simp
        · subst h3
          rw [Array.getElem?_setIfInBounds_self_of_lt (by simp; omega), show i * 3 + 2 - i * 3 = 2 by omega]
          simp
      · rw [if_neg h2, List.getElem?_eq_none (by simp; omega)]
  · rcases List.mem_append.1 hx with hx | hx
    · obtain ⟨h1, h2, h3⟩ := h.each x hx
      have l1 := h1.lt
      have l2 := h2.lt x.2.1 (by simp)
      have n1 : x.1 ≠ l := by
        intro e
        have hm := h.fresh x.1 (List.mem_flatMap.2 ⟨x, hx, by simp⟩)
        rw [e] at h1
        have hr1 : wr.heap[l]? = _ := h.rl
        have hr2 : wr.heap[l]? = _ := h1
        rw [hr1] at hr2
        simp at hr2
        exact absurd hr2.2 (by decide)
      have n2 : x.2.1 ≠ l := by
        intro e
        obtain ⟨sl, hr2, _⟩ := h2
        rw [e] at hr2
        have hr1 : wr.heap[l]? = _ := h.rl
        have hr3 : wr.heap[l]? = _ := hr2
        rw [hr1] at hr3
        simp at hr3
        exact absurd hr3.2 (by decide)
      exact ⟨(h1.only hy (by simp)).only k (by simp [n1]), (h2.only hy (by simp)).only k (by simp [n2]), h3⟩
    · simp at hx
      subst hx
      exact ⟨ra.only k (by simp; omega), rb.only k (by simp; omega), rfl⟩
  · rw [List.flatMap_append, List.mem_append] at hc
    have := h.only.size
    rcases hc with hc | hc
    · exact h.fresh c hc
    · simp at hc
      omega
  · rw [List.flatMap_append, List.nodup_append]
    refine ⟨h.nd, by simp [hab], fun c hc d hd e => ?_⟩
    have := hlt c hc
    simp at hd
    omega
  · exact (h.only.trans hy (by simp)).trans k (by intro j hj; left; simp at hj; simp [hj])
set_option maxRecDepth 100000 in
set_option maxHeartbeats 4000000 in
theorem reset_on {w : World} {g l n : Nat} {d : Bool} {tb pb : _} {cs : Array Value} (hs : Row w g #[.slice (some ⟨l, 0, none⟩) n n, .bool d] tSc) (hl : Row w l cs tLn) (hc : cs.size = n * 3) (hg : g ≠ l) (hn : 0 < n) (hn8 : n ≤ 8) :
    Calls Tryz.prog 34 #[.pointer (some ⟨g, 0, none⟩), .iface tb pb] w fun e w' => e = .returned (.int .i64 0) ∧ ∃ ls cs', ResI g l n (.iface tb pb) w n w' ls cs' := by
  have SN := Lib.hid (sessions_on hs)
  have c0 : w.cell? ⟨g, 0, none⟩ = some (.slice (some ⟨l, 0, none⟩) n n) := hs.cell 0
  have c1 : w.cell? ⟨g, 1, none⟩ = some (.bool d) := hs.cell 1
  have f1 := hs.free 1
  have HN := Lib.hid (And.intro hn hn8)
  have HG := Lib.hid hg
  have dn : decide ((n : Int) = 0) = false := decide_eq_false (by omega)
  have dq : ((n : Int) == 0) = false := by simp; omega
  go_enter Tryz.func34, Tryz.ntmps34
  go_wp2_with fail
  refine SN.out.mono ?_
  rintro _ w2 ⟨rfl, hw⟩
  subst w2
  go_wp2_with fail
  have I0 : Hid (ResI g l n (.iface tb pb) w 0 (w.setCell ⟨g, 1, none⟩ (.bool false)) [] cs) := Lib.hid (by
    have k : Only [g] w (w.setCell ⟨g, 1, none⟩ (.bool false)) := (Only.refl _ w).setCell (.inl (by simp)) _
    exact ⟨rfl, hc, by simp [lnL], hl.only k (by simp; exact fun e => hg e.symm), by simpa using hs.set 1 (.bool false), by simp, by simp, by simp, k.mono (by intro i hi; left; simp at hi; simp [hi])⟩)
  clear c0 c1 f1 SN hs hl hc hg hn hn8
  go_loopw [5, 21] (fun u5 u wr => ∃ j : Nat, u = .int .i64 (j : Int) ∧ Hid (j ≤ n) ∧ ∃ ls cs', Hid (ResI g l n (.iface tb pb) w j wr ls cs')) (fun _ u _ => n - (intOf u).toNat)
  case atStart => exact ⟨0, rfl, Lib.hid (Nat.zero_le _), [], cs, I0⟩
  case round =>
    obtain ⟨j, rfl, HJ, ls, cs', HI⟩ := hrel
    rename World => w3
    have ej : IntKind.i64.wrap ((j : Int) + 1) = ((j + 1 : Nat) : Int) := IntWalk.i64_in _ (by have := HJ.out; have := HN.out; omega)
    by_cases hlt : j < n
    · have d1 : decide ((j : Int) < (n : Int)) = true := decide_eq_true (by omega)
      have d1' : decide (j < n) = true := decide_eq_true hlt
      have j3 : (j : Int) < (n : Int) := by omega
      have cg : w3.cell? ⟨g, 0, none⟩ = some (.slice (some ⟨l, 0, none⟩) n n) := HI.out.rg.cell 0
      have LL : Hid (∀ y, Only [] w3 y → ∀ k, k < 3 → (∃ q, y.cell? ⟨l, j * 3 + k, none⟩ = some q) ∧ y.frozen? ⟨l, j * 3 + k, none⟩ = false) := Lib.hid fun y hy k hk => by
        have r := HI.out.rl.only hy (by simp)
        refine ⟨⟨_, (r.cell (j * 3 + k)).trans (Array.getElem?_eq_getElem (by rw [HI.out.size]; omega))⟩, r.free _⟩
      have GO : Hid (∀ y, Only [] w3 y → y.cell? ⟨g, 0, none⟩ = some (.slice (some ⟨l, 0, none⟩) n n)) := Lib.hid fun y hy => (HI.out.rg.only hy (by simp)).cell 0
      have S1 := Lib.hid fun y => sess_new (.iface tb pb) ⟨_, _, rfl⟩ y
      have S2 := Lib.hid fun y => strm_new y
      have HJL := Lib.hid hlt
      clear hlt
      go_upto_block 1 with fail
      go_cut [] from 22 to 34 (fun wc => ∃ ls2 cs2, Hid (ResI g l n (.iface tb pb) w (j + 1) wc ls2 cs2))
      case first =>
        go_upto_region 7 with fail
        have g0 := GO.out w3.drew (Only.refl _ w3).drew
        go_region_with
          (first
            | ((with_reducible refine (S1.out w3.drew).mono ?_); rintro _ w4 ⟨rfl, h4⟩; have X1 : Hid (Only [] w3 w4) := Lib.hid (by rw [h4]; exact ((Only.refl _ w3).drew).alloc _); have R1 : Hid (Row w4 w3.heap.size #[.iface tb pb, .int .u64 0] tSs) := Lib.hid (by rw [h4]; exact Row.made w3.drew _ _); have g4 := GO.out w4 X1.out; clear h4)
            | ((with_reducible refine (S2.out w4).mono ?_); rintro _ w5 ⟨rfl, h5⟩; have X2 : Hid (Only [] w3 w5) := Lib.hid (by rw [h5]; exact X1.out.alloc _); have R2 : Hid (StrmF w5 w4.heap.size [] 0 [w4.heap.size] ∧ Row w5 w3.heap.size #[.iface tb pb, .int .u64 0] tSs) := Lib.hid (by rw [h5]; exact ⟨StrmF.made w4, R1.out.only ((Only.refl [] w4).alloc _) (by simp)⟩); have g5 := GO.out w5 X2.out; clear h5; obtain ⟨⟨q0, p0⟩, f0⟩ := LL.out w5 X2.out 0 (by omega); obtain ⟨⟨q1, p1⟩, f1⟩ := LL.out w5 X2.out 1 (by omega); obtain ⟨⟨q2, p2⟩, f2⟩ := LL.out w5 X2.out 2 (by omega); rw [Nat.add_zero] at p0 f0))
        all_goals
          go_wp2_with fail
          go_meet
          obtain ⟨cs3, h3⟩ := HI.out.push HJL.out HG.out X2.out (Nat.le_refl _) X1.out.size (fun e => by have := R1.out.lt; omega) R2.out.2 R2.out.1
          exact ⟨_, cs3, Lib.hid h3⟩
      case rest =>
        obtain ⟨ls2, cs2, HI2⟩ := hcut
        have J1 := Lib.hid (show j + 1 ≤ n from HJL.out)
        clear HI HJL HJ S1 S2 LL GO
        go_wp2_with fail
        go_roundw
        case rel => exact ⟨j + 1, by go_num, J1, ls2, cs2, HI2⟩
        case measure => have := J1.out; simp [intOf]; omega
    · have d1 : decide ((j : Int) < (n : Int)) = false := decide_eq_false (by omega)
      have d1' : decide (j < n) = false := decide_eq_false hlt
      obtain rfl : j = n := by have := HJ.out; omega
      clear hlt
      go_wp2_with fail
      go_ret
      exact ⟨rfl, ls, cs', HI.out⟩
theorem infoLn : (Tryz.prog.info? tLn).map (fun i => (i.zero, i.size, i.bytes)) = some (some (.agg #[.pointer none, .pointer none, .bool false]), 3, 24) := by kernel_rfl
theorem make_lines (n : Nat) (hn : n ≤ 8) : ∀ x : World, (Instr.makeSlice 102 (.int .i64 (n : Int)) (.int .i64 (n : Int))).run Tryz.prog x = .ok (.slice (some ⟨x.heap.size, 0, none⟩) n n) (x.alloc (.cells (madeCells #[.pointer none, .pointer none, .bool false] (n * 3)) tLn)) := fun x => by
  obtain ⟨i, hi, h0, h1, h2⟩ := info_parts infoLn
  have hr := run_make (P := Tryz.prog) x 102 tLn i _ Tryz.underlying102 hi h0 .i64 .i64 n n (by omega) (by omega) (by rw [h2]; omega) (by omega)
  simpa [Value.cells, h1] using hr
/-- A sched of n sessions over a base. -/
def MadeTo (n : Nat) (base : Value) (w : World) (e : Ending) (w' : World) : Prop := ∃ w0 g l ls cs, e = .returned (.tuple #[.pointer (some ⟨g, 0, none⟩), .int .i64 0]) ∧ ResI g l n base w0 n w' ls cs ∧ Only [] w w0 ∧ w.heap.size ≤ g ∧ w.heap.size ≤ l ∧ g ≠ l ∧ g < w0.heap.size ∧ l < w0.heap.size
set_option maxRecDepth 100000 in
set_option maxHeartbeats 4000000 in
theorem new_on_ {w : World} {n : Nat} {tb pb : _} (hn : 0 < n) (hn8 : n ≤ 8) :
    Calls Tryz.prog 26 #[.iface tb pb, .int .i64 n] w (MadeTo n (.iface tb pb) w) := by
  have mk := make_lines n hn8
  have d1 : decide ((n : Int) < 1) = false := decide_eq_false (by omega)
  have d2 : decide ((8 : Int) < (n : Int)) = false := decide_eq_false (by omega)
  have HN := Lib.hid (And.intro hn hn8)
  clear hn hn8
  go_enter Tryz.func26, Tryz.ntmps26
  go_wp2_with fail
  have RS := Lib.hid (reset_on (w := (w.alloc (.cells (madeCells #[.pointer none, .pointer none, .bool false] (n * 3)) tLn)).alloc (.cells #[.slice (some ⟨w.heap.size, 0, none⟩) n n, .bool false] tSc)) (g := w.heap.size + 1) (l := w.heap.size) (n := n) (d := false) (tb := tb) (pb := pb) (cs := madeCells #[.pointer none, .pointer none, .bool false] (n * 3)) (by
    have h := Row.made (w.alloc (.cells (madeCells #[.pointer none, .pointer none, .bool false] (n * 3)) tLn)) #[.slice (some ⟨w.heap.size, 0, none⟩) n n, .bool false] tSc
    rwa [World.size_alloc] at h) ((Row.made w _ _).only ((Only.refl [] _).alloc _) (by simp)) (size_madeCells _ _) (by omega) HN.out.1 HN.out.2)
  have OO : Hid (Only [] w ((w.alloc (.cells (madeCells #[.pointer none, .pointer none, .bool false] (n * 3)) tLn)).alloc (.cells #[.slice (some ⟨w.heap.size, 0, none⟩) n n, .bool false] tSc)) ∧ w.heap.size + 1 < ((w.alloc (.cells (madeCells #[.pointer none, .pointer none, .bool false] (n * 3)) tLn)).alloc (.cells #[.slice (some ⟨w.heap.size, 0, none⟩) n n, .bool false] tSc)).heap.size) := Lib.hid ⟨((Only.refl _ w).alloc _).alloc _, by simp⟩
  refine RS.out.mono ?_
  generalize (w.alloc (.cells (madeCells #[.pointer none, .pointer none, .bool false] (n * 3)) tLn)).alloc (.cells #[.slice (some ⟨w.heap.size, 0, none⟩) n n, .bool false] tSc) = w1 at *
  rintro _ w2 ⟨rfl, ls, cs, hI⟩
  have N : Hid (MadeTo n (.iface tb pb) w (.returned (.tuple #[.pointer (some ⟨w.heap.size + 1, 0, none⟩), .int .i64 0])) w2) := Lib.hid ⟨w1, _, _, ls, cs, rfl, hI, OO.out.1, by omega, Nat.le_refl _, by omega, OO.out.2, by have := OO.out.2; omega⟩
  clear hI RS OO mk
  go_wp2_with fail
  go_ret2
  exact N.out
end Go.Proofs.YtcgmgdjeamidlaaGreat
