/- New, operate, Sectors, Used, Arm. -/
import Derived.Test.YtjhomphbfkbaoaaDkA
namespace Go.Proofs.Ytjhomphbfkbaoaa.dk
open Go.RowKit Go.ChangeShapes Go.WideShapes Go.ChangeAt
set_option linter.unusedVariables false

/-- BLOCK p IS A DEVICE that is D; F are its blocks, all from B on. -/
def DkF (w : World) (B p : Nat) (D : Dk) (F : List Nat) : Prop := ∃ bl bw bn, DkAt w p bl bw bn D ∧ F = [p, bl, bw, bn] ∧ ∀ b ∈ F, B ≤ b
theorem DkF.only {G F : List Nat} {w w' : World} {B p : Nat} {D : Dk} (h : DkF w B p D F) (k : Only G w w') (hG : ∀ b ∈ G, b ∉ F) : DkF w' B p D F := by
  obtain ⟨bl, bw, bn, h, rfl, hB⟩ := h
  refine ⟨bl, bw, bn, h.only k ?_ ?_ ?_ ?_, rfl, hB⟩ <;> exact fun hg => hG _ hg (by simp)
theorem DkAt.lt {w : World} {p bl bw bn : Nat} {D : Dk} (h : DkAt w p bl bw bn D) : ∀ b ∈ [p, bl, bw, bn], b < w.heap.size := by
  obtain ⟨L, hL, _⟩ := h.lm
  intro b hb
  simp only [List.mem_cons, List.not_mem_nil, or_false] at hb
  rcases hb with rfl | rfl | rfl | rfl
  · exact h.row.lt
  · exact hL.lt
  · exact h.wm.lt
  · exact h.nm.lt
theorem DkF.lt {F : List Nat} {w : World} {B p : Nat} {D : Dk} (h : DkF w B p D F) : ∀ b ∈ F, b < w.heap.size := by
  obtain ⟨bl, bw, bn, h, rfl, _⟩ := h
  exact h.lt
theorem DkF.ge {F : List Nat} {w : World} {B p : Nat} {D : Dk} (h : DkF w B p D F) : ∀ b ∈ F, B ≤ b := by
  obtain ⟨bl, bw, bn, h, rfl, h1⟩ := h
  exact h1
theorem DkF.fine {F : List Nat} {w : World} {B p : Nat} {D : Dk} (h : DkF w B p D F) : D.Fine := by
  obtain ⟨bl, bw, bn, h, rfl, h1⟩ := h
  exact h.fine
theorem DkF.below {F : List Nat} {w w' : World} {B p : Nat} {D : Dk} (h : DkF w B p D F) (k : Below w.heap.size w w') : DkF w' B p D F :=
  h.only (G := []) ⟨k.os, k.tape, k.output, k.size, fun i hi _ => k.block i hi⟩ (by simp)
theorem DkF.mem {F : List Nat} {w : World} {B p : Nat} {D : Dk} (h : DkF w B p D F) : p ∈ F := by
  obtain ⟨bl, bw, bn, h, rfl, h1⟩ := h
  simp

def newD (s m : Int) : Dk := ⟨fun _ => blank, [], [], s, m, 0, false⟩
theorem newD_fine {s m : Int} (h1 : 1 ≤ s) (h2 : s ≤ 65536) (h3 : 0 ≤ m) (h4 : m ≤ s) : (newD s m).Fine :=
  ⟨by simp [newD]; omega, h2, h3, h4, by simp [newD], by simp [newD], fun _ => blank_is, by simp [newD], by simp [newD]⟩
def NewPost (s m : Int) (w : World) (e : Ending) (w' : World) : Prop := ∃ p F, e = .returned (.tuple #[.pointer (some ⟨p, 0, none⟩), .int .i64 0]) ∧ DkF w' w.heap.size p (newD s m) F ∧ Only [] w w'
set_option maxHeartbeats 1000000 in
theorem new_ok (s m : Int) (w : World) (h1 : 1 ≤ s) (h2 : s ≤ 65536) (h3 : 0 ≤ m) (h4 : m ≤ s) : Calls Try.prog 8 #[.int .i64 s, .int .i64 m] w (NewPost s m w) := by
  have hmm := @run_makeMap Try.prog
  have d1 : decide (s < 1) = false := decide_eq_false (by omega)
  have d2 : decide (65536 < s) = false := decide_eq_false (by omega)
  have d3 : decide (m < 0) = false := decide_eq_false (by omega)
  have d4 : decide (s < m) = false := decide_eq_false (by omega)
  go_enter Try.func8, Try.ntmps8
  go_wp2
  go_ret2
  have k0 := Only.refl [] (w.alloc (.map #[] 0))
  have k1 := k0.alloc (.map #[] 0)
  have k2 := k1.alloc (.map #[] 0)
  have s1 : (w.alloc (.map #[] 0)).heap.size = w.heap.size + 1 := by simp
  have s2 : ((w.alloc (.map #[] 0)).alloc (.map #[] 0)).heap.size = w.heap.size + 2 := by simp
  have s3 : (((w.alloc (.map #[] 0)).alloc (.map #[] 0)).alloc (.map #[] 0)).heap.size = w.heap.size + 3 := by simp
  refine ⟨_, _, rfl, ⟨w.heap.size, w.heap.size + 1, w.heap.size + 2, ⟨?_, ⟨[], ?_, ?_⟩, ?_, ?_, ?_, newD_fine h1 h2 h3 h4⟩, rfl, ?_⟩, ?_⟩
  · have := Row.made (((w.alloc (.map #[] 0)).alloc (.map #[] 0)).alloc (.map #[] 0)) ((newD s m).cells w.heap.size (w.heap.size + 1) (w.heap.size + 2)) tDk
    simpa [Dk.cells, newD] using this
  · exact ((MapAt.made w .i64).only k2 (by simp)).only ((Only.refl [] _).alloc _) (by simp)
  · exact ⟨fun k => by simp [lk, newD], by simp⟩
  · rw [← s1]
    exact (((MapAt.made (w.alloc (.map #[] 0)) .i64).only ((Only.refl [] _).alloc _) (by simp)).only ((Only.refl [] _).alloc _) (by simp))
  · rw [← s2]
    exact ((MapAt.made ((w.alloc (.map #[] 0)).alloc (.map #[] 0)) .i64).only ((Only.refl [] _).alloc _) (by simp))
  · simp; omega
  · simp; omega
  · exact ((((Only.refl [] w).alloc _).alloc _).alloc _).alloc _
def NotMade (w : World) (e : Ending) (w' : World) : Prop := e = .returned (.tuple #[.pointer none, .int .i64 2]) ∧ w' = w
theorem new_no (s m : Int) (w : World) (h : s < 1 ∨ 65536 < s ∨ m < 0 ∨ s < m) : Calls Try.prog 8 #[.int .i64 s, .int .i64 m] w (NotMade w) := by
  by_cases h1 : s < 1
  · have d1 : decide (s < 1) = true := decide_eq_true (by omega)
    clear h
    go_enter Try.func8, Try.ntmps8
    go_wp2
    go_ret2
    exact ⟨rfl, rfl⟩
  by_cases h2 : 65536 < s
  · have d1 : decide (s < 1) = false := decide_eq_false (by omega)
    have d2 : decide (65536 < s) = true := decide_eq_true (by omega)
    clear h
    go_enter Try.func8, Try.ntmps8
    go_wp2
    go_ret2
    exact ⟨rfl, rfl⟩
  by_cases h3 : m < 0
  · have d1 : decide (s < 1) = false := decide_eq_false (by omega)
    have d2 : decide (65536 < s) = false := decide_eq_false (by omega)
    have d3 : decide (m < 0) = true := decide_eq_true (by omega)
    clear h
    go_enter Try.func8, Try.ntmps8
    go_wp2
    go_ret2
    exact ⟨rfl, rfl⟩
  · have d1 : decide (s < 1) = false := decide_eq_false (by omega)
    have d2 : decide (65536 < s) = false := decide_eq_false (by omega)
    have d3 : decide (m < 0) = false := decide_eq_false (by omega)
    have d4 : decide (s < m) = true := decide_eq_true (by omega)
    clear h
    go_enter Try.func8, Try.ntmps8
    go_wp2
    go_ret2
    exact ⟨rfl, rfl⟩

/-! ### operate -/
def opD (D : Dk) : Dk := if 0 < D.armed then { D with armed := D.armed - 1, off := decide (D.armed - 1 = 0) } else D
theorem opD_last (D : Dk) : (opD D).last = D.last := by unfold opD; split <;> rfl
theorem opD_waits (D : Dk) : (opD D).waits = D.waits := by unfold opD; split <;> rfl
theorem opD_seen (D : Dk) : (opD D).seen = D.seen := by unfold opD; split <;> rfl
theorem opD_sectors (D : Dk) : (opD D).sectors = D.sectors := by unfold opD; split <;> rfl
theorem opD_most (D : Dk) : (opD D).most = D.most := by unfold opD; split <;> rfl
theorem opD_fine {D : Dk} (h : D.Fine) : (opD D).Fine := by
  unfold opD
  split
  · exact ⟨h.s0, h.s1, h.m0, h.m1, by have := h.a0; simp; omega, by have := h.a1; simp; omega, h.la, h.wa, h.se⟩
  · exact h
/-- Only the numbers have turned. -/
theorem DkAt.turned {w w' : World} {p bl bw bn : Nat} {D D' : Dk} (h : DkAt w p bl bw bn D) (k : Only [p] w w') (hr : Row w' p (D'.cells bl bw bn) tDk) (e1 : D'.last = D.last) (e2 : D'.waits = D.waits) (e3 : D'.seen = D.seen) (e4 : D'.sectors = D.sectors) (hf : D'.Fine) : DkAt w' p bl bw bn D' := by
  have hnd := h.nd
  simp only [List.nodup_cons, List.mem_cons, not_or, List.not_mem_nil, not_false_eq_true] at hnd
  obtain ⟨⟨n1, n2, n3, _⟩, _⟩ := hnd
  obtain ⟨L, hL, hR⟩ := h.lm
  refine ⟨hr, ⟨L, hL.only k (by simp; exact fun e => n1 e.symm), by rw [e1, e4]; exact hR⟩, ?_, ?_, h.nd, hf⟩
  · rw [e2]; exact h.wm.only k (by simp; exact fun e => n2 e.symm)
  · rw [e3]; exact h.nm.only k (by simp; exact fun e => n3 e.symm)
def OperatePost (p bl bw bn : Nat) (D : Dk) (w : World) (e : Ending) (w' : World) : Prop := e = .returned (.int .i64 (errOff (opD D).off)) ∧ DkAt w' p bl bw bn (opD D) ∧ Only [p] w w' ∧ w'.heap.size = w.heap.size
set_option maxHeartbeats 1000000 in
theorem operate_at (w : World) (p bl bw bn : Nat) (D : Dk) (h : DkAt w p bl bw bn D) : Calls Try.prog 43 #[.pointer (some ⟨p, 0, none⟩)] w (OperatePost p bl bw bn D w) := by
  have c5 := h.c5
  have c6 := h.c6
  have f5 := h.row.free 5
  have f6 := h.row.free 6
  have a0 := h.fine.a0
  have a1 := h.fine.a1
  by_cases ha : 0 < D.armed
  · have d1 : decide (0 < D.armed) = true := decide_eq_true ha
    have eD : opD D = { D with armed := D.armed - 1, off := decide (D.armed - 1 = 0) } := by unfold opD; rw [if_pos ha]
    have hdk : DkAt ((w.setCell ⟨p, 5, none⟩ (.int .i64 (D.armed - 1))).setCell ⟨p, 6, none⟩ (.bool (D.armed - 1 == 0))) p bl bw bn (opD D) := by
      refine h.turned (((Only.refl [p] w).setCell (by simp) _).setCell (by simp) _) ?_ (opD_last D) (opD_waits D) (opD_seen D) (opD_sectors D) (opD_fine h.fine)
      have := (h.row.set 5 (.int .i64 (D.armed - 1))).set 6 (.bool (D.armed - 1 == 0))
      rw [eD]
      have e : (D.armed - 1 == 0) = decide (D.armed - 1 = 0) := rfl
      simpa [Dk.cells, e] using this
    have T := Lib.hid (there_at _ p bl bw bn _ hdk)
    have HD := Lib.hid hdk
    have HE := Lib.hid eD
    have hs : wrap64 (D.armed - 1) = D.armed - 1 := by unfold wrap64; omega
    clear h hdk eD
    go_enter Try.func43, Try.ntmps43
    go_wp2_with fail
    refine T.out.mono ?_
    rintro _ w' ⟨rfl, hw'⟩
    subst hw'
    go_wp2_with fail
    go_ret
    exact ⟨rfl, HD.out, ((Only.refl [p] w).setCell (by simp) _).setCell (by simp) _, by simp⟩
  · have d1 : decide (0 < D.armed) = false := decide_eq_false ha
    have eD : opD D = D := by unfold opD; rw [if_neg ha]
    have T := Lib.hid (there_at _ p bl bw bn _ h)
    have HD := Lib.hid h
    have HE := Lib.hid eD
    clear h eD
    go_enter Try.func43, Try.ntmps43
    go_wp2_with fail
    refine T.out.mono ?_
    rintro _ w' ⟨rfl, hw'⟩
    subst hw'
    go_wp2_with fail
    go_ret
    refine ⟨?_, by rw [HE.out]; exact HD.out, Only.refl _ _, rfl⟩
    rw [HE.out]
    rfl

/-! ### Sectors, Used, Arm -/
theorem sectors_at (w : World) (p bl bw bn : Nat) (D : Dk) (h : DkAt w p bl bw bn D) : Calls Try.prog 42 #[.pointer (some ⟨p, 0, none⟩)] w fun e w' => e = .returned (.int .i64 D.sectors) ∧ w' = w := by
  have c3 := h.c3
  clear h
  go_enter Try.func42, Try.ntmps42
  go_wp2
  go_ret
  exact ⟨rfl, rfl⟩
def ArmPost (p bl bw bn : Nat) (D : Dk) (n : Int) (w : World) (e : Ending) (w' : World) : Prop := e = .returned (.int .i64 0) ∧ DkAt w' p bl bw bn { D with armed := n } ∧ Only [p] w w' ∧ w'.heap.size = w.heap.size
set_option maxHeartbeats 1000000 in
theorem arm_ok (w : World) (p bl bw bn : Nat) (D : Dk) (n : Int) (h : DkAt w p bl bw bn D) (ho : D.off = false) (h0 : 0 ≤ n) (h1 : n ≤ 1073741824) : Calls Try.prog 22 #[.pointer (some ⟨p, 0, none⟩), .int .i64 n] w (ArmPost p bl bw bn D n w) := by
  have T := there_at _ p bl bw bn _ h
  rw [ho] at T
  simp only [errOff] at T
  have T := Lib.hid T
  have c5 := h.c5
  have f5 := h.row.free 5
  have HD : Hid (DkAt (w.setCell ⟨p, 5, none⟩ (.int .i64 n)) p bl bw bn { D with armed := n }) := Lib.hid (by
    refine h.turned ((Only.refl [p] w).setCell (by simp) _) ?_ rfl rfl rfl rfl ⟨h.fine.s0, h.fine.s1, h.fine.m0, h.fine.m1, h0, h1, h.fine.la, h.fine.wa, h.fine.se⟩
    have := h.row.set 5 (.int .i64 n)
    simpa [Dk.cells] using this)
  have d1 : decide (n < 0) = false := decide_eq_false (by omega)
  have d2 : decide (1073741824 < n) = false := decide_eq_false (by omega)
  clear h ho
  go_enter Try.func22, Try.ntmps22
  go_wp2_with fail
  refine T.out.mono ?_
  rintro _ w' ⟨rfl, hw'⟩
  subst hw'
  go_wp2_with fail
  go_ret
  exact ⟨rfl, HD.out, (Only.refl [p] _).setCell (by simp) _, by simp⟩
end Go.Proofs.Ytjhomphbfkbaoaa.dk
