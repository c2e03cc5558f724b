/- The device: what a block that is one holds; bytes of a number; there, operate, New. -/
import Derived.Test.YtekdogmhgijocaaArr
import Derived.Outline
import Derived.Carry
set_option linter.unusedSimpArgs false
namespace Go.Proofs.Ytekdogmhgijocaa.dk
open Go.RowKit Go.ChangeShapes Go.WideShapes Go.ChangeAt
set_option linter.unusedVariables false

abbrev tDk : TypeId := 60
abbrev tSec : TypeId := 84
abbrev tByte : TypeId := 5
def bytesV (s : List Int) : Array Value := (s.map (Value.int .u8)).toArray
def secV (s : List Int) : Value := .agg (bytesV s)
def blank : List Int := List.replicate 128 0
def IsSec (s : List Int) : Prop := s.length = 128 ∧ ∀ x ∈ s, 0 ≤ x ∧ x < 256
theorem blank_is : IsSec blank := ⟨by simp [blank], fun x hx => by rw [(List.mem_replicate.1 hx).2]; omega⟩
/-- 128 bytes of a number. -/
def secOf (n : Int) : List Int := (List.range 128).map fun (i : Nat) => (n + (i : Int)) % 256
theorem secOf_is (n : Int) : IsSec (secOf n) := ⟨by simp [secOf], fun x hx => by
  simp only [secOf, List.mem_map, List.mem_range] at hx
  obtain ⟨i, _, rfl⟩ := hx
  omega⟩
theorem bytesV_size (s : List Int) : (bytesV s).size = s.length := by simp [bytesV]
theorem bytesV_get (s : List Int) (i : Nat) (h : i < s.length) : (bytesV s)[i]? = some (.int .u8 (s[i]?.getD 0)) := by simp [bytesV, h]
theorem bytesV_one (s : List Int) : (bytesV s).all (·.oneCell') = true := by
  rw [Array.all_eq_true_iff_forall_mem]
  intro v hv
  simp only [bytesV, List.mem_toArray, List.mem_map] at hv
  obtain ⟨x, _, rfl⟩ := hv
  rfl
theorem bytesV_inj {s t : List Int} (h : bytesV s = bytesV t) : s = t := by
  have h1 : s.map (Value.int .u8) = t.map (Value.int .u8) := by simpa [bytesV] using h
  have := congrArg (List.map fun v => match v with | .int _ x => x | _ => 0) h1
  simpa [List.map_map, Function.comp_def] using this
theorem secV_inj {s t : List Int} (h : secV s = secV t) : s = t := bytesV_inj (by simpa [secV] using h)
theorem zeroSecI : (Try.prog.info? 84).map (fun i => (i.zero, i.size)) = some (some (.agg (Array.replicate 128 (.int .u8 0))), 128) := by kernel_rfl
theorem zeroSec (w : World) : (zeroValue 84).run Try.prog w = .ok (.agg (Array.replicate 128 (.int .u8 0))) w := (zero_of_info zeroSecI).1 w
theorem sizeSec : (Try.prog.info? 84).map (·.size) = some 128 := (zero_of_info zeroSecI).2
theorem blank_agg : secV blank = .agg (Array.replicate 128 (.int .u8 0)) := by
  simp only [secV, bytesV, blank, List.map_replicate, List.toArray_replicate]
theorem zeroSec' (w : World) : (zeroValue 84).run Try.prog w = .ok (secV blank) w := by rw [blank_agg]; exact zeroSec w
theorem infoByte : (Try.prog.info? 5).map (fun i => (i.zero, i.size, i.bytes)) = some (some (.int .u8 0), 1, 1) := by kernel_rfl

structure Dk where
  last : Int → List Int
  waits : List (Int × List Int)
  seen : List Int
  sectors : Int
  most : Int
  armed : Int
  off : Bool
def waL (l : List (Int × List Int)) : List (Int × Value) := l.map fun p => (p.1, secV p.2)
def seL (l : List Int) : List (Int × Value) := l.map fun k => (k, .bool true)
structure Dk.Fine (D : Dk) : Prop where
  s0 : 0 ≤ D.sectors
  s1 : D.sectors ≤ 65536
  m0 : 0 ≤ D.most
  m1 : D.most ≤ D.sectors
  a0 : 0 ≤ D.armed
  a1 : D.armed ≤ 1073741824
  la : ∀ k, IsSec (D.last k)
  wa : ∀ p ∈ D.waits, 0 ≤ p.1 ∧ p.1 < D.sectors ∧ IsSec p.2
  se : ∀ k ∈ D.seen, 0 ≤ k ∧ k < D.sectors
def Dk.cells (D : Dk) (bl bw bn : Nat) : Array Value := #[.map (some bl), .map (some bw), .map (some bn), .int .i64 D.sectors, .int .i64 D.most, .int .i64 D.armed, .bool D.off]
/-- The list that a map of sectors holds reads as f. -/
def Reads (f : Int → List Int) (s : Int) (L : List (Int × Value)) : Prop := (∀ k, (lk k L).getD (secV blank) = secV (f k)) ∧ ∀ p ∈ L, 0 ≤ p.1 ∧ p.1 < s
structure DkAt (w : World) (p bl bw bn : Nat) (D : Dk) : Prop where
  row : Row w p (D.cells bl bw bn) tDk
  lm : ∃ L, MapAt w bl .i64 L ∧ Reads D.last D.sectors L
  wm : MapAt w bw .i64 (waL D.waits)
  nm : MapAt w bn .i64 (seL D.seen)
  nd : [p, bl, bw, bn].Nodup
  fine : D.Fine
theorem DkAt.only {G : List Nat} {w w' : World} {p bl bw bn : Nat} {D : Dk} (h : DkAt w p bl bw bn D) (k : Only G w w') (h0 : p ∉ G) (h1 : bl ∉ G) (h2 : bw ∉ G) (h3 : bn ∉ G) : DkAt w' p bl bw bn D := by
  obtain ⟨L, hL, hR⟩ := h.lm
  exact ⟨h.row.only k h0, ⟨L, hL.only k h1, hR⟩, h.wm.only k h2, h.nm.only k h3, h.nd, h.fine⟩
section
variable {w : World} {p bl bw bn : Nat} {D : Dk}
theorem DkAt.c0 (h : DkAt w p bl bw bn D) : w.cell? ⟨p, 0, none⟩ = some (.map (some bl)) := h.row.cell 0
theorem DkAt.c1 (h : DkAt w p bl bw bn D) : w.cell? ⟨p, 1, none⟩ = some (.map (some bw)) := h.row.cell 1
theorem DkAt.c2 (h : DkAt w p bl bw bn D) : w.cell? ⟨p, 2, none⟩ = some (.map (some bn)) := h.row.cell 2
theorem DkAt.c3 (h : DkAt w p bl bw bn D) : w.cell? ⟨p, 3, none⟩ = some (.int .i64 D.sectors) := h.row.cell 3
theorem DkAt.c4 (h : DkAt w p bl bw bn D) : w.cell? ⟨p, 4, none⟩ = some (.int .i64 D.most) := h.row.cell 4
theorem DkAt.c5 (h : DkAt w p bl bw bn D) : w.cell? ⟨p, 5, none⟩ = some (.int .i64 D.armed) := h.row.cell 5
theorem DkAt.c6 (h : DkAt w p bl bw bn D) : w.cell? ⟨p, 6, none⟩ = some (.bool D.off) := h.row.cell 6
end
def errOff (b : Bool) : Int := if b then 6 else 0

set_option maxHeartbeats 1000000 in
theorem there_at (w : World) (p bl bw bn : Nat) (D : Dk) (h : DkAt w p bl bw bn D) : Calls Try.prog 40 #[.pointer (some ⟨p, 0, none⟩)] w fun e w' => e = .returned (.int .i64 (errOff D.off)) ∧ w' = w := by
  have qT := fun w r => run_eql_map_nil (P := Try.prog) w _ _ _ r Try.underlying57
  have c0 := h.c0
  have c6 := h.c6
  clear h
  cases hD : D.off
  · rw [hD] at c6
    go_enter Try.func40, Try.ntmps40
    go_wp2
    go_ret
    exact ⟨rfl, rfl⟩
  · rw [hD] at c6
    go_enter Try.func40, Try.ntmps40
    go_wp2
    go_ret
    exact ⟨rfl, rfl⟩
theorem there_nil (w : World) : Calls Try.prog 40 #[.pointer none] w fun e w' => e = .returned (.int .i64 1) ∧ w' = w := by
  go_enter Try.func40, Try.ntmps40
  go_wp2
  go_ret
  exact ⟨rfl, rfl⟩
theorem there_zero (w : World) (p : Nat) (h : w.cell? ⟨p, 0, none⟩ = some (.map none)) : Calls Try.prog 40 #[.pointer (some ⟨p, 0, none⟩)] w fun e w' => e = .returned (.int .i64 1) ∧ w' = w := by
  have qT := fun w r => run_eql_map_nil (P := Try.prog) w _ _ _ r Try.underlying57
  go_enter Try.func40, Try.ntmps40
  go_wp2
  go_ret
  exact ⟨rfl, rfl⟩

/-! ### sector -/
theorem nodup_lt : ∀ (n : Nat) (l : List Nat), l.Nodup → (∀ x ∈ l, x < n) → l.length ≤ n
  | 0, [], _, _ => Nat.le_refl _
  | 0, x :: l, _, h => absurd (h x (List.mem_cons_self ..)) (by omega)
  | n + 1, l, hn, h => by
    have h1 := nodup_lt n (l.filter fun x => decide (x ≠ n)) (hn.filter _) fun x hx => by
      have := (List.mem_filter.1 hx)
      have h2 := h x this.1
      have h3 := of_decide_eq_true this.2
      omega
    have h2 : l.length ≤ (l.filter fun x => decide (x ≠ n)).length + 1 := by
      clear h h1
      induction l with
      | nil => simp
      | cons x r ih =>
        simp only [List.nodup_cons] at hn
        rw [List.filter_cons]
        by_cases e : x = n
        · subst e
          have : r.filter (fun y => !decide (y = x)) = r := List.filter_eq_self.2 fun y hy => by
            simp
            rintro rfl
            exact hn.1 hy
          simp [this]
        · rw [if_pos (by simpa using e)]
          have := ih hn.2
          simp only [List.length_cons]
          omega
    omega
end Go.Proofs.Ytekdogmhgijocaa.dk

/- New, operate, Sectors, Used, Arm. -/
namespace Go.Proofs.Ytekdogmhgijocaa.dk
open Go.RowKit Go.ChangeShapes Go.WideShapes Go.ChangeAt
set_option linter.unusedVariables false

/-- BLOCK p IS A DEVICE that is D; F are its blocks, all from B on. -/
def DkF (w : World) (B p : Nat) (D : Dk) (F : List Nat) : Prop := ∃ bl bw bn, DkAt w p bl bw bn D ∧ F = [p, bl, bw, bn] ∧ ∀ b ∈ F, B ≤ b
theorem DkF.only {G F : List Nat} {w w' : World} {B p : Nat} {D : Dk} (h : DkF w B p D F) (k : Only G w w') (hG : ∀ b ∈ G, b ∉ F) : DkF w' B p D F := by
  obtain ⟨bl, bw, bn, h, rfl, hB⟩ := h
  refine ⟨bl, bw, bn, h.only k ?_ ?_ ?_ ?_, rfl, hB⟩ <;> exact fun hg => hG _ hg (by simp)
theorem DkAt.lt {w : World} {p bl bw bn : Nat} {D : Dk} (h : DkAt w p bl bw bn D) : ∀ b ∈ [p, bl, bw, bn], b < w.heap.size := by
  obtain ⟨L, hL, _⟩ := h.lm
  intro b hb
  simp only [List.mem_cons, List.not_mem_nil, or_false] at hb
  rcases hb with rfl | rfl | rfl | rfl
  · exact h.row.lt
  · exact hL.lt
  · exact h.wm.lt
  · exact h.nm.lt
theorem DkF.lt {F : List Nat} {w : World} {B p : Nat} {D : Dk} (h : DkF w B p D F) : ∀ b ∈ F, b < w.heap.size := by
  obtain ⟨bl, bw, bn, h, rfl, _⟩ := h
  exact h.lt
theorem DkF.ge {F : List Nat} {w : World} {B p : Nat} {D : Dk} (h : DkF w B p D F) : ∀ b ∈ F, B ≤ b := by
  obtain ⟨bl, bw, bn, h, rfl, h1⟩ := h
  exact h1
theorem DkF.fine {F : List Nat} {w : World} {B p : Nat} {D : Dk} (h : DkF w B p D F) : D.Fine := by
  obtain ⟨bl, bw, bn, h, rfl, h1⟩ := h
  exact h.fine
theorem DkF.below {F : List Nat} {w w' : World} {B p : Nat} {D : Dk} (h : DkF w B p D F) (k : Below w.heap.size w w') : DkF w' B p D F :=
  h.only (G := []) ⟨k.os, k.tape, k.output, k.size, fun i hi _ => k.block i hi⟩ (by simp)
theorem DkF.mem {F : List Nat} {w : World} {B p : Nat} {D : Dk} (h : DkF w B p D F) : p ∈ F := by
  obtain ⟨bl, bw, bn, h, rfl, h1⟩ := h
  simp

def newD (s m : Int) : Dk := ⟨fun _ => blank, [], [], s, m, 0, false⟩
theorem newD_fine {s m : Int} (h1 : 1 ≤ s) (h2 : s ≤ 65536) (h3 : 0 ≤ m) (h4 : m ≤ s) : (newD s m).Fine :=
  ⟨by simp [newD]; omega, h2, h3, h4, by simp [newD], by simp [newD], fun _ => blank_is, by simp [newD], by simp [newD]⟩
def NewPost (s m : Int) (w : World) (e : Ending) (w' : World) : Prop := ∃ p F, e = .returned (.tuple #[.pointer (some ⟨p, 0, none⟩), .int .i64 0]) ∧ DkF w' w.heap.size p (newD s m) F ∧ Only [] w w'
set_option maxHeartbeats 1000000 in
theorem new_ok (s m : Int) (w : World) (h1 : 1 ≤ s) (h2 : s ≤ 65536) (h3 : 0 ≤ m) (h4 : m ≤ s) : Calls Try.prog 8 #[.int .i64 s, .int .i64 m] w (NewPost s m w) := by
  have hmm := @run_makeMap Try.prog
  have d1 : decide (s < 1) = false := decide_eq_false (by omega)
  have d2 : decide (65536 < s) = false := decide_eq_false (by omega)
  have d3 : decide (m < 0) = false := decide_eq_false (by omega)
  have d4 : decide (s < m) = false := decide_eq_false (by omega)
  go_enter Try.func8, Try.ntmps8
  go_wp2
  go_ret2
  have k0 := Only.refl [] (w.alloc (.map #[] 0))
  have k1 := k0.alloc (.map #[] 0)
  have k2 := k1.alloc (.map #[] 0)
  have s1 : (w.alloc (.map #[] 0)).heap.size = w.heap.size + 1 := by simp
  have s2 : ((w.alloc (.map #[] 0)).alloc (.map #[] 0)).heap.size = w.heap.size + 2 := by simp
  have s3 : (((w.alloc (.map #[] 0)).alloc (.map #[] 0)).alloc (.map #[] 0)).heap.size = w.heap.size + 3 := by simp
  refine ⟨_, _, rfl, ⟨w.heap.size, w.heap.size + 1, w.heap.size + 2, ⟨?_, ⟨[], ?_, ?_⟩, ?_, ?_, ?_, newD_fine h1 h2 h3 h4⟩, rfl, ?_⟩, ?_⟩
  · have := Row.made (((w.alloc (.map #[] 0)).alloc (.map #[] 0)).alloc (.map #[] 0)) ((newD s m).cells w.heap.size (w.heap.size + 1) (w.heap.size + 2)) tDk
    simpa [Dk.cells, newD] using this
  · exact ((MapAt.made w .i64).only k2 (by simp)).only ((Only.refl [] _).alloc _) (by simp)
  · exact ⟨fun k => by simp [lk, newD], by simp⟩
  · rw [← s1]
    exact (((MapAt.made (w.alloc (.map #[] 0)) .i64).only ((Only.refl [] _).alloc _) (by simp)).only ((Only.refl [] _).alloc _) (by simp))
  · rw [← s2]
    exact ((MapAt.made ((w.alloc (.map #[] 0)).alloc (.map #[] 0)) .i64).only ((Only.refl [] _).alloc _) (by simp))
  · simp; omega
  · simp; omega
  · exact ((((Only.refl [] w).alloc _).alloc _).alloc _).alloc _
def NotMade (w : World) (e : Ending) (w' : World) : Prop := e = .returned (.tuple #[.pointer none, .int .i64 2]) ∧ w' = w
theorem new_no (s m : Int) (w : World) (h : s < 1 ∨ 65536 < s ∨ m < 0 ∨ s < m) : Calls Try.prog 8 #[.int .i64 s, .int .i64 m] w (NotMade w) := by
  by_cases h1 : s < 1
  · have d1 : decide (s < 1) = true := decide_eq_true (by omega)
    clear h
    go_enter Try.func8, Try.ntmps8
    go_wp2
    go_ret2
    exact ⟨rfl, rfl⟩
  by_cases h2 : 65536 < s
  · have d1 : decide (s < 1) = false := decide_eq_false (by omega)
    have d2 : decide (65536 < s) = true := decide_eq_true (by omega)
    clear h
    go_enter Try.func8, Try.ntmps8
    go_wp2
    go_ret2
    exact ⟨rfl, rfl⟩
  by_cases h3 : m < 0
  · have d1 : decide (s < 1) = false := decide_eq_false (by omega)
    have d2 : decide (65536 < s) = false := decide_eq_false (by omega)
    have d3 : decide (m < 0) = true := decide_eq_true (by omega)
    clear h
    go_enter Try.func8, Try.ntmps8
    go_wp2
    go_ret2
    exact ⟨rfl, rfl⟩
  · have d1 : decide (s < 1) = false := decide_eq_false (by omega)
    have d2 : decide (65536 < s) = false := decide_eq_false (by omega)
    have d3 : decide (m < 0) = false := decide_eq_false (by omega)
    have d4 : decide (s < m) = true := decide_eq_true (by omega)
    clear h
    go_enter Try.func8, Try.ntmps8
    go_wp2
    go_ret2
    exact ⟨rfl, rfl⟩

/-! ### operate -/
def opD (D : Dk) : Dk := if 0 < D.armed then { D with armed := D.armed - 1, off := decide (D.armed - 1 = 0) } else D
theorem opD_last (D : Dk) : (opD D).last = D.last := by unfold opD; split <;> rfl
theorem opD_waits (D : Dk) : (opD D).waits = D.waits := by unfold opD; split <;> rfl
theorem opD_seen (D : Dk) : (opD D).seen = D.seen := by unfold opD; split <;> rfl
theorem opD_sectors (D : Dk) : (opD D).sectors = D.sectors := by unfold opD; split <;> rfl
theorem opD_most (D : Dk) : (opD D).most = D.most := by unfold opD; split <;> rfl
theorem opD_fine {D : Dk} (h : D.Fine) : (opD D).Fine := by
  unfold opD
  split
  · exact ⟨h.s0, h.s1, h.m0, h.m1, by have := h.a0; simp; omega, by have := h.a1; simp; omega, h.la, h.wa, h.se⟩
  · exact h
/-- Only the numbers have turned. -/
theorem DkAt.turned {w w' : World} {p bl bw bn : Nat} {D D' : Dk} (h : DkAt w p bl bw bn D) (k : Only [p] w w') (hr : Row w' p (D'.cells bl bw bn) tDk) (e1 : D'.last = D.last) (e2 : D'.waits = D.waits) (e3 : D'.seen = D.seen) (e4 : D'.sectors = D.sectors) (hf : D'.Fine) : DkAt w' p bl bw bn D' := by
  have hnd := h.nd
  simp only [List.nodup_cons, List.mem_cons, not_or, List.not_mem_nil, not_false_eq_true] at hnd
  obtain ⟨⟨n1, n2, n3, _⟩, _⟩ := hnd
  obtain ⟨L, hL, hR⟩ := h.lm
  refine ⟨hr, ⟨L, hL.only k (by simp; exact fun e => n1 e.symm), by rw [e1, e4]; exact hR⟩, ?_, ?_, h.nd, hf⟩
  · rw [e2]; exact h.wm.only k (by simp; exact fun e => n2 e.symm)
  · rw [e3]; exact h.nm.only k (by simp; exact fun e => n3 e.symm)
def OperatePost (p bl bw bn : Nat) (D : Dk) (w : World) (e : Ending) (w' : World) : Prop := e = .returned (.int .i64 (errOff (opD D).off)) ∧ DkAt w' p bl bw bn (opD D) ∧ Only [p] w w' ∧ w'.heap.size = w.heap.size
set_option maxHeartbeats 1000000 in
theorem operate_at (w : World) (p bl bw bn : Nat) (D : Dk) (h : DkAt w p bl bw bn D) : Calls Try.prog 43 #[.pointer (some ⟨p, 0, none⟩)] w (OperatePost p bl bw bn D w) := by
  have c5 := h.c5
  have c6 := h.c6
  have f5 := h.row.free 5
  have f6 := h.row.free 6
  have a0 := h.fine.a0
  have a1 := h.fine.a1
  by_cases ha : 0 < D.armed
  · have d1 : decide (0 < D.armed) = true := decide_eq_true ha
    have eD : opD D = { D with armed := D.armed - 1, off := decide (D.armed - 1 = 0) } := by unfold opD; rw [if_pos ha]
    have hdk : DkAt ((w.setCell ⟨p, 5, none⟩ (.int .i64 (D.armed - 1))).setCell ⟨p, 6, none⟩ (.bool (D.armed - 1 == 0))) p bl bw bn (opD D) := by
      refine h.turned (((Only.refl [p] w).setCell (by simp) _).setCell (by simp) _) ?_ (opD_last D) (opD_waits D) (opD_seen D) (opD_sectors D) (opD_fine h.fine)
      have := (h.row.set 5 (.int .i64 (D.armed - 1))).set 6 (.bool (D.armed - 1 == 0))
      rw [eD]
      have e : (D.armed - 1 == 0) = decide (D.armed - 1 = 0) := rfl
      simpa [Dk.cells, e] using this
    have T := Lib.hid (there_at _ p bl bw bn _ hdk)
    have HD := Lib.hid hdk
    have HE := Lib.hid eD
    have hs : wrap64 (D.armed - 1) = D.armed - 1 := by unfold wrap64; omega
    clear h hdk eD
    go_enter Try.func43, Try.ntmps43
    go_wp2_with fail
    refine T.out.mono ?_
    rintro _ w' ⟨rfl, hw'⟩
    subst hw'
    go_wp2_with fail
    go_ret
    exact ⟨rfl, HD.out, ((Only.refl [p] w).setCell (by simp) _).setCell (by simp) _, by simp⟩
  · have d1 : decide (0 < D.armed) = false := decide_eq_false ha
    have eD : opD D = D := by unfold opD; rw [if_neg ha]
    have T := Lib.hid (there_at _ p bl bw bn _ h)
    have HD := Lib.hid h
    have HE := Lib.hid eD
    clear h eD
    go_enter Try.func43, Try.ntmps43
    go_wp2_with fail
    refine T.out.mono ?_
    rintro _ w' ⟨rfl, hw'⟩
    subst hw'
    go_wp2_with fail
    go_ret
    refine ⟨?_, by rw [HE.out]; exact HD.out, Only.refl _ _, rfl⟩
    rw [HE.out]
    rfl

/-! ### Sectors, Used, Arm -/
theorem sectors_at (w : World) (p bl bw bn : Nat) (D : Dk) (h : DkAt w p bl bw bn D) : Calls Try.prog 42 #[.pointer (some ⟨p, 0, none⟩)] w fun e w' => e = .returned (.int .i64 D.sectors) ∧ w' = w := by
  have c3 := h.c3
  clear h
  go_enter Try.func42, Try.ntmps42
  go_wp2
  go_ret
  exact ⟨rfl, rfl⟩
def ArmPost (p bl bw bn : Nat) (D : Dk) (n : Int) (w : World) (e : Ending) (w' : World) : Prop := e = .returned (.int .i64 0) ∧ DkAt w' p bl bw bn { D with armed := n } ∧ Only [p] w w' ∧ w'.heap.size = w.heap.size
set_option maxHeartbeats 1000000 in
theorem arm_ok (w : World) (p bl bw bn : Nat) (D : Dk) (n : Int) (h : DkAt w p bl bw bn D) (ho : D.off = false) (h0 : 0 ≤ n) (h1 : n ≤ 1073741824) : Calls Try.prog 22 #[.pointer (some ⟨p, 0, none⟩), .int .i64 n] w (ArmPost p bl bw bn D n w) := by
  have T := there_at _ p bl bw bn _ h
  rw [ho] at T
  simp only [errOff] at T
  have T := Lib.hid T
  have c5 := h.c5
  have f5 := h.row.free 5
  have HD : Hid (DkAt (w.setCell ⟨p, 5, none⟩ (.int .i64 n)) p bl bw bn { D with armed := n }) := Lib.hid (by
    refine h.turned ((Only.refl [p] w).setCell (by simp) _) ?_ rfl rfl rfl rfl ⟨h.fine.s0, h.fine.s1, h.fine.m0, h.fine.m1, h0, h1, h.fine.la, h.fine.wa, h.fine.se⟩
    have := h.row.set 5 (.int .i64 n)
    simpa [Dk.cells] using this)
  have d1 : decide (n < 0) = false := decide_eq_false (by omega)
  have d2 : decide (1073741824 < n) = false := decide_eq_false (by omega)
  clear h ho
  go_enter Try.func22, Try.ntmps22
  go_wp2_with fail
  refine T.out.mono ?_
  rintro _ w' ⟨rfl, hw'⟩
  subst hw'
  go_wp2_with fail
  go_ret
  exact ⟨rfl, HD.out, (Only.refl [p] _).setCell (by simp) _, by simp⟩
end Go.Proofs.Ytekdogmhgijocaa.dk

/- Write, Read. -/
namespace Go.Proofs.Ytekdogmhgijocaa.dk
open Go.RowKit Go.ChangeShapes Go.WideShapes Go.ChangeAt
set_option linter.unusedVariables false

theorem zeroBool (w : World) : (zeroValue 4).run Try.prog w = .ok (.bool false) w := by kernel_rfl
/-! ### the lists -/
def upS (k : Int) (s : List Int) : List (Int × List Int) → List (Int × List Int)
  | [] => [(k, s)]
  | (j, u) :: r => if k = j then (j, s) :: r else (j, u) :: upS k s r
def findS (k : Int) : List (Int × List Int) → Option (List Int)
  | [] => none
  | (j, u) :: r => if k = j then some u else findS k r
def addK (k : Int) : List Int → List Int
  | [] => [k]
  | j :: r => if k = j then j :: r else j :: addK k r
theorem up_waL (k : Int) (s : List Int) : ∀ l, up k (secV s) (waL l) = waL (upS k s l)
  | [] => rfl
  | (j, u) :: r => by
    simp only [waL, List.map_cons, up, upS]
    by_cases h : k = j
    · rw [if_pos h, if_pos h]; simp
    · rw [if_neg h, if_neg h]
      have := up_waL k s r
      simp only [waL] at this
      simp [this]
theorem up_seL (k : Int) : ∀ l, up k (.bool true) (seL l) = seL (addK k l)
  | [] => rfl
  | j :: r => by
    simp only [seL, List.map_cons, up, addK]
    by_cases h : k = j
    · rw [if_pos h, if_pos h]; simp
    · rw [if_neg h, if_neg h]
      have := up_seL k r
      simp only [seL] at this
      simp [this]
theorem lk_waL (k : Int) : ∀ l, lk k (waL l) = (findS k l).map secV
  | [] => rfl
  | (j, u) :: r => by
    simp only [waL, List.map_cons, lk, findS]
    by_cases h : k = j
    · rw [if_pos h, if_pos h]; rfl
    · rw [if_neg h, if_neg h]; exact lk_waL k r
theorem lk_seL (k : Int) : ∀ l, lk k (seL l) = if k ∈ l then some (.bool true) else none
  | [] => by simp [seL, lk]
  | j :: r => by
    simp only [seL, List.map_cons, lk]
    by_cases h : k = j
    · rw [if_pos h, if_pos (by simp [h])]
    · rw [if_neg h]
      have := lk_seL k r
      simp only [seL] at this
      rw [this]
      simp [h]
theorem mem_upS {k : Int} {s : List Int} {p : Int × List Int} : ∀ {l}, p ∈ upS k s l → p = (k, s) ∨ p ∈ l
  | [], h => by simp [upS] at h; exact .inl h
  | (j, u) :: r, h => by
    simp only [upS] at h
    by_cases e : k = j
    · rw [if_pos e] at h
      rcases List.mem_cons.1 h with h | h
      · exact .inl (by rw [h, e])
      · exact .inr (List.mem_cons_of_mem _ h)
    · rw [if_neg e] at h
      rcases List.mem_cons.1 h with h | h
      · exact .inr (by rw [h]; exact List.mem_cons_self ..)
      · rcases mem_upS h with h | h
        · exact .inl h
        · exact .inr (List.mem_cons_of_mem _ h)
theorem mem_addK {k x : Int} : ∀ {l : List Int}, x ∈ addK k l ↔ x = k ∨ x ∈ l
  | [] => by simp [addK]
  | j :: r => by
    simp only [addK]
    by_cases e : k = j
    · rw [if_pos e, List.mem_cons, e]
      constructor
      · rintro (h | h)
        · exact .inl h
        · exact .inr (.inr h)
      · rintro (h | h | h)
        · exact .inl h
        · exact .inl h
        · exact .inr h
    · rw [if_neg e, List.mem_cons, List.mem_cons, mem_addK (l := r)]
      constructor
      · rintro (h | h | h)
        · exact .inr (.inl h)
        · exact .inl h
        · exact .inr (.inr h)
      · rintro (h | h | h)
        · exact .inr (.inl h)
        · exact .inl h
        · exact .inr (.inr h)
theorem findS_up {k j : Int} {s : List Int} : ∀ {l}, findS j (upS k s l) = if j = k then some s else findS j l
  | [] => by simp [upS, findS]
  | (i, u) :: r => by
    simp only [upS]
    by_cases e : k = i
    · rw [if_pos e]
      subst e
      simp only [findS]
      by_cases h : j = k
      · rw [if_pos h, if_pos h]
      · rw [if_neg h, if_neg h, if_neg h]
    · rw [if_neg e]
      simp only [findS]
      rw [findS_up (l := r)]
      by_cases h : j = i
      · rw [if_pos h, if_pos h, if_neg (by omega)]
      · rw [if_neg h, if_neg h]
/-! ### Write -/
def putD (D : Dk) (at_ : Int) (s : List Int) : Dk := { D with waits := upS at_ s D.waits, seen := addK at_ D.seen }
def writeD (D : Dk) (at_ : Int) (s : List Int) : Dk := opD (putD D at_ s)
theorem putD_fine {D : Dk} {k : Int} {s : List Int} (h : D.Fine) (h0 : 0 ≤ k) (h1 : k < D.sectors) (hs : IsSec s) : (putD D k s).Fine :=
  ⟨h.s0, h.s1, h.m0, h.m1, h.a0, h.a1, h.la, fun p hp => by
    rcases mem_upS hp with rfl | hp
    · exact ⟨h0, h1, hs⟩
    · exact h.wa p hp, fun x hx => by
    rcases mem_addK.1 hx with rfl | hx
    · exact ⟨h0, h1⟩
    · exact h.se x hx⟩
theorem DkAt.nw {w : World} {p bl bw bn : Nat} {D : Dk} (h : DkAt w p bl bw bn D) : ¬ p = bw := by
  have := h.nd; simp at this; omega
theorem DkAt.nwn {w : World} {p bl bw bn : Nat} {D : Dk} (h : DkAt w p bl bw bn D) : ¬ bw = bn := by
  have := h.nd; simp at this; omega
theorem DkAt.put {w w1 w2 : World} {p bl bw bn : Nat} {D : Dk} {k : Int} {s : List Int} (h : DkAt w p bl bw bn D) (k1 : Only [bw] w w1) (m1 : MapAt w1 bw .i64 (up k (secV s) (waL D.waits))) (k2 : Only [bn] w1 w2) (m2 : MapAt w2 bn .i64 (up k (.bool true) (seL D.seen)))
    (hf : (putD D k s).Fine) : DkAt w2 p bl bw bn (putD D k s) := by
  have hnd := h.nd
  simp only [List.nodup_cons, List.mem_cons, not_or, List.not_mem_nil, not_false_eq_true] at hnd
  obtain ⟨⟨n1, n2, n3, _⟩, ⟨n4, n5, _⟩, ⟨n6, _⟩, _⟩ := hnd
  obtain ⟨L, hL, hR⟩ := h.lm
  refine ⟨(h.row.only k1 (by simp; exact n2)).only k2 (by simp; exact n3), ⟨L, (hL.only k1 (by simp; exact n4)).only k2 (by simp; exact n5), hR⟩, ?_, ?_, h.nd, hf⟩
  · have := m1.only k2 (by simp; exact n6)
    rw [up_waL] at this; exact this
  · rw [up_seL] at m2; exact m2
/-- The bytes that a slice holds. -/
def Bytes (w : World) (b off : Nat) (s : List Int) : Prop := Cells w b off (s.map (Value.int .u8))
def WritePost (p bl bw bn : Nat) (D : Dk) (at_ : Int) (s : List Int) (w : World) (e : Ending) (w' : World) : Prop := e = .returned (.int .i64 (errOff (writeD D at_ s).off)) ∧ DkAt w' p bl bw bn (writeD D at_ s) ∧ Only [p, bw, bn] w w'
set_option maxRecDepth 100000 in
set_option maxHeartbeats 4000000 in
theorem write_ok (w : World) (p bl bw bn : Nat) (D : Dk) (at_ : Int) (g off cap : Nat) (s : List Int) (h : DkAt w p bl bw bn D) (ho : D.off = false) (h0 : 0 ≤ at_) (h1 : at_ < D.sectors) (hs : IsSec s) (hg : Bytes w g off s)
    (hc : 128 ≤ cap) (hm : at_ ∈ D.seen ∨ (D.seen.length : Int) < D.most) :
    Calls Try.prog 25 #[.pointer (some ⟨p, 0, none⟩), .int .i64 at_, .slice (some ⟨g, off, none⟩) 128 cap] w (WritePost p bl bw bn D at_ s w) := by
  have T := there_at _ p bl bw bn _ h
  rw [ho] at T
  simp only [errOff] at T
  have T := Lib.hid T
  have c1 := h.c1
  have c2 := h.c2
  have c3 := h.c3
  have c4 := h.c4
  have H := Lib.hid h
  have HS := Lib.hid hs
  have HG := Lib.hid hg
  have HO := Lib.hid ho
  have d1 : decide (at_ < 0) = false := decide_eq_false (by omega)
  have d2 : decide (D.sectors ≤ at_) = false := decide_eq_false (by omega)
  have hlook : ∀ x : World, (MapAt x bn .i64 (seL D.seen)) → (Instr.lookup 58 (.map (some bn)) (.int .i64 at_) false).run Try.prog x = .ok (.bool (decide (at_ ∈ D.seen))) x := fun x hx => by
    have := hx.look (P := Try.prog) Try.underlying58 Try.underlying3 (zeroBool x) at_ false
    rw [this, lk_seL]
    by_cases e : at_ ∈ D.seen
    · simp [e]
    · simp [e]
  have L0 : ∀ n, (Instr.lookup 58 (.map (some bn)) (.int .i64 at_) false).run Try.prog (w.drewN n) = .ok (.bool (decide (at_ ∈ D.seen))) (w.drewN n) := fun n => hlook _ (h.nm.only ((Only.refl [] w).drewN n) (by simp))
  clear hlook
  clear h ho hs hg
  have hin : decide (at_ ∈ D.seen) = true ∨ decide (at_ ∈ D.seen) = false ∧ decide (D.most ≤ (D.seen.length : Int)) = false := by
    by_cases e : at_ ∈ D.seen
    · exact .inl (decide_eq_true e)
    · exact .inr ⟨decide_eq_false e, decide_eq_false (by rcases hm with h | h; exact absurd h e; omega)⟩
  clear hm
  rcases hin with hin | ⟨hin, hin2⟩
  · rw [hin] at L0
    go_enter Try.func25, Try.ntmps25
    go_wp2_with fail
    refine T.out.mono ?_
    rintro _ w' ⟨rfl, hw'⟩
    subst hw'
    go_wp2_with fail
    go_quiet (fail)
    go_wp2_with fail
    have C2 : Hid (Only [] w' (w'.drewN nq)) := Lib.hid ((Only.refl [] w').drewN nq)
    have H2 : Hid (DkAt (w'.drewN nq) p bl bw bn D) := Lib.hid (H.out.only C2.out (by simp) (by simp) (by simp) (by simp))
    have HG2 : Hid (Bytes (w'.drewN nq) g off s) := Lib.hid (HG.out.only C2.out (by simp))
    generalize w'.drewN nq = w2 at *
    clear L0 T
    have O3 : Hid (Only [] w2 w2.drew) := Lib.hid (Only.refl [] w2).drew
    have H3 : Hid (DkAt w2.drew p bl bw bn D) := Lib.hid (H2.out.only O3.out (by simp) (by simp) (by simp) (by simp))
    have e1 := H3.out.c1
    clear c1 c2 c3 c4
    have AT := run_arrayAt (P := Try.prog) Try.underlying84 (some ⟨g, off, none⟩) 128 cap (Nat.le_refl _)
    refine wp_region_still_tail 8 (by kernel_rfl) (by kernel_rfl) ?_
    simp only [List.take_succ_cons, List.take_zero, List.drop_succ_cons, List.drop_zero]
    iterate 7 still_step
    refine wpStill_load_cells rfl 84 (.tmp 55) rfl g off rfl (s.map (Value.int .u8)) (HG2.out.only O3.out (by simp)) _ Try.underlying84 rfl (by rw [List.length_map, HS.out.1]; exact sizeSec) ?_
    simp only [Act.put, List.setIfInBounds_toArray, List.set_cons_succ, List.set_cons_zero]
    refine wpStill_nil ?_
    change wpList _ _ _ _ _ w2.drew
    clear AT e1
    go_wp2_with (first
      | (at_mapUpdate; refine wpList_update_at _ rfl (.tmp 52) (.tmp 53) (.tmp 56) 57 rfl 3 84 .i64 Try.underlying57 Try.underlying3 bw _ rfl H3.out.wm at_ (secV s) rfl rfl ?_; intro w4 hm4 ho4 hs4; have e2 := (ho4.cell H3.out.row.lt (by simp; exact H3.out.nw)).trans H3.out.c2)
      | (at_mapUpdate; refine wpList_update_at _ rfl (.tmp 60) (.tmp 61) (.const (.bool true)) 58 rfl 3 4 .i64 Try.underlying58 Try.underlying3 bn _ rfl (H3.out.nm.only ho4 (by simp; exact fun e => H3.out.nwn e.symm)) at_ (.bool true) rfl rfl ?_; intro w5 hm5 ho5 hs5)
      | (go_at_call 43; refine (operate_at w5 p bl bw bn _ (H3.out.put ho4 hm4 ho5 hm5 (putD_fine H3.out.fine h0 h1 HS.out))).mono ?_; rintro _ w6 ⟨rfl, hd6, ho6, hs6⟩))
    go_ret
    exact ⟨rfl, hd6, ((((C2.out.sub (by simp)).and (O3.out.sub (by simp))).and (ho4.sub (by simp))).and (ho5.sub (by simp))).and (ho6.sub (by simp))⟩
  · rw [hin] at L0
    go_enter Try.func25, Try.ntmps25
    go_wp2_with fail
    refine T.out.mono ?_
    rintro _ w' ⟨rfl, hw'⟩
    subst hw'
    go_wp2_with fail
    refine wp_region_quiet_lit (by kernel_rfl) (by kernel_rfl) ?_
    repeat (go_big_quiet_step (fail))
    refine wpQuiet_len_at rfl (.tmp 41) 58 rfl 3 4 .i64 Try.underlying58 bn (seL D.seen) rfl (by rintro _ ⟨n, rfl⟩; exact H.out.nm.only ((Only.refl [] _).drewN n) (by simp)) ?_
    rw [show (seL D.seen).length = D.seen.length by simp [seL]]
    simp only [Act.put, List.setIfInBounds_toArray, List.set_cons_succ, List.set_cons_zero]
    repeat (go_big_quiet_step (fail))
    refine wpQuiet_nil ?_
    intro _ hw2
    obtain ⟨nq, rfl⟩ := hw2
    go_wp2_with fail
    have C2 : Hid (Only [] w' (w'.drewN nq)) := Lib.hid ((Only.refl [] w').drewN nq)
    have H2 : Hid (DkAt (w'.drewN nq) p bl bw bn D) := Lib.hid (H.out.only C2.out (by simp) (by simp) (by simp) (by simp))
    have HG2 : Hid (Bytes (w'.drewN nq) g off s) := Lib.hid (HG.out.only C2.out (by simp))
    generalize w'.drewN nq = w2 at *
    clear L0 T
    have O3 : Hid (Only [] w2 w2.drew) := Lib.hid (Only.refl [] w2).drew
    have H3 : Hid (DkAt w2.drew p bl bw bn D) := Lib.hid (H2.out.only O3.out (by simp) (by simp) (by simp) (by simp))
    have e1 := H3.out.c1
    clear c1 c2 c3 c4
    have AT := run_arrayAt (P := Try.prog) Try.underlying84 (some ⟨g, off, none⟩) 128 cap (Nat.le_refl _)
    refine wp_region_still_tail 8 (by kernel_rfl) (by kernel_rfl) ?_
    simp only [List.take_succ_cons, List.take_zero, List.drop_succ_cons, List.drop_zero]
    iterate 7 still_step
    refine wpStill_load_cells rfl 84 (.tmp 55) rfl g off rfl (s.map (Value.int .u8)) (HG2.out.only O3.out (by simp)) _ Try.underlying84 rfl (by rw [List.length_map, HS.out.1]; exact sizeSec) ?_
    simp only [Act.put, List.setIfInBounds_toArray, List.set_cons_succ, List.set_cons_zero]
    refine wpStill_nil ?_
    change wpList _ _ _ _ _ w2.drew
    clear AT e1
    go_wp2_with (first
      | (at_mapUpdate; refine wpList_update_at _ rfl (.tmp 52) (.tmp 53) (.tmp 56) 57 rfl 3 84 .i64 Try.underlying57 Try.underlying3 bw _ rfl H3.out.wm at_ (secV s) rfl rfl ?_; intro w4 hm4 ho4 hs4; have e2 := (ho4.cell H3.out.row.lt (by simp; exact H3.out.nw)).trans H3.out.c2)
      | (at_mapUpdate; refine wpList_update_at _ rfl (.tmp 60) (.tmp 61) (.const (.bool true)) 58 rfl 3 4 .i64 Try.underlying58 Try.underlying3 bn _ rfl (H3.out.nm.only ho4 (by simp; exact fun e => H3.out.nwn e.symm)) at_ (.bool true) rfl rfl ?_; intro w5 hm5 ho5 hs5)
      | (go_at_call 43; refine (operate_at w5 p bl bw bn _ (H3.out.put ho4 hm4 ho5 hm5 (putD_fine H3.out.fine h0 h1 HS.out))).mono ?_; rintro _ w6 ⟨rfl, hd6, ho6, hs6⟩))
    go_ret
    exact ⟨rfl, hd6, ((((C2.out.sub (by simp)).and (O3.out.sub (by simp))).and (ho4.sub (by simp))).and (ho5.sub (by simp))).and (ho6.sub (by simp))⟩
/-! ### Read -/
def sectorD (D : Dk) (k : Int) : List Int := (findS k D.waits).getD (D.last k)
theorem sectorD_is {D : Dk} (h : D.Fine) (k : Int) : IsSec (sectorD D k) := by
  unfold sectorD
  cases e : findS k D.waits with
  | none => exact h.la k
  | some s =>
    have : ∀ l, findS k l = some s → (k, s) ∈ l := by
      intro l
      induction l with
      | nil => intro h; simp [findS] at h
      | cons x r ih =>
        obtain ⟨j, u⟩ := x
        intro h
        simp only [findS] at h
        by_cases e : k = j
        · rw [if_pos e] at h; cases h; rw [e]; exact List.mem_cons_self ..
        · rw [if_neg e] at h; exact List.mem_cons_of_mem _ (ih h)
    exact (h.wa _ (this _ e)).2.2
def ReadPost (D : Dk) (k : Int) (w : World) (e : Ending) (w' : World) : Prop := e = .returned (.tuple #[.slice (some ⟨w.heap.size, 0, none⟩) 128 128, .int .i64 0]) ∧ Row w' w.heap.size (bytesV (sectorD D k)) tSec ∧ Only [] w w' ∧ w'.heap.size = w.heap.size + 1
set_option maxRecDepth 100000 in
set_option maxHeartbeats 4000000 in
theorem read_ok (w : World) (p bl bw bn : Nat) (D : Dk) (at_ : Int) (h : DkAt w p bl bw bn D) (ho : D.off = false) (h0 : 0 ≤ at_) (h1 : at_ < D.sectors) :
    Calls Try.prog 30 #[.pointer (some ⟨p, 0, none⟩), .int .i64 at_] w (ReadPost D at_ w) := by
  have T := there_at _ p bl bw bn _ h
  rw [ho] at T
  simp only [errOff] at T
  have T := Lib.hid T
  have c1 := h.c1
  have c0 := h.c0
  have c3 := h.c3
  have plt := h.row.lt
  have H := Lib.hid h
  have HO := Lib.hid ho
  have d1 : decide (at_ < 0) = false := decide_eq_false (by omega)
  have d2 : decide (D.sectors ≤ at_) = false := decide_eq_false (by omega)
  clear h ho
  have HZ := Lib.hid zeroSec'
  go_enter Try.func30, Try.ntmps30
  go_wp2_with fail
  refine T.out.mono ?_
  rintro _ w' ⟨rfl, hw'⟩
  subst hw'
  cases hf : findS at_ D.waits with
  | none =>
    have hs : sectorD D at_ = D.last at_ := by unfold sectorD; rw [hf]; rfl
    have hl : lk at_ (waL D.waits) = none := by rw [lk_waL, hf]; rfl
    have HL := Lib.hid hl
    obtain ⟨L, hL, hR⟩ := H.out.lm
    have h128 := (H.out.fine.la at_).1
    have HM := Lib.hid hL
    have HR := Lib.hid hR.1
    have HF := Lib.hid hs
    have blt := hL.lt
    clear hl hL hR hs hf
    go_wp2_with (first
      | (at_lookup; refine wpList_look_at _ rfl (.tmp 28) (.tmp 29) 57 true rfl 3 84 .i64 Try.underlying57 Try.underlying3 _ HZ.out bw _ rfl H.out.wm at_ rfl ?_; rw [HL.out])
      | (refine wpList_alloc_at rfl 84 rfl _ zeroSec ?_; intro w1 hr1 ho1 hs1; have k1 := (ho1.cell plt (by simp)).trans c0)
      | (refine wpList_store_at rfl 84 (.tmp 7) (.tmp 31) rfl w'.heap.size rfl (bytesV blank) rfl _ _ hr1 (by rw [bytesV_size]; exact sizeSec) (by rw [bytesV_size, Array.size_replicate]; rfl) (bytesV_one _) ?_; intro w2 hr2 ho2 hs2; have k2 := (ho2.cell (by omega) (by simp; omega)).trans k1)
      | (at_lookup; refine wpList_look_at _ rfl (.tmp 38) (.tmp 39) 57 false rfl 3 84 .i64 Try.underlying57 Try.underlying3 _ HZ.out bl _ rfl ((HM.out.only ho1 (by simp)).only ho2 (by simp; omega)) at_ rfl ?_; rw [if_neg (by simp), HR.out at_])
      | (refine wpList_store_at rfl 84 (.tmp 7) (.tmp 40) rfl w'.heap.size rfl (bytesV (D.last at_)) rfl _ _ hr2 (by rw [bytesV_size, h128]; exact sizeSec) (by rw [bytesV_size, bytesV_size, h128]; simp [blank]) (bytesV_one _) ?_; intro w3 hr3 ho3 hs3))
    go_ret2
    rw [← HF.out] at hr3
    exact ⟨rfl, hr3, (ho1.trans ho2 (by simp)).trans ho3 (by simp), by omega⟩
  | some s =>
    have hs : sectorD D at_ = s := by unfold sectorD; rw [hf]; rfl
    have hl : lk at_ (waL D.waits) = some (secV s) := by rw [lk_waL, hf]; rfl
    have HL := Lib.hid hl
    have h128 : s.length = 128 := hs ▸ (sectorD_is H.out.fine at_).1
    have HF := Lib.hid hs
    clear hl hs hf
    go_wp2_with (first
      | (at_lookup; refine wpList_look_at _ rfl (.tmp 28) (.tmp 29) 57 true rfl 3 84 .i64 Try.underlying57 Try.underlying3 _ HZ.out bw _ rfl H.out.wm at_ rfl ?_; rw [HL.out])
      | (refine wpList_alloc_at rfl 84 rfl _ zeroSec ?_; intro w1 hr1 ho1 hs1; have k1 := (ho1.cell plt (by simp)).trans c0)
      | (refine wpList_store_at rfl 84 (.tmp 7) (.tmp 31) rfl w'.heap.size rfl (bytesV s) rfl _ _ hr1 (by rw [bytesV_size, h128]; exact sizeSec) (by rw [bytesV_size, Array.size_replicate, h128]) (bytesV_one _) ?_; intro w2 hr2 ho2 hs2; have k2 := (ho2.cell (by omega) (by simp; omega)).trans k1))
    go_ret2
    rw [← HF.out] at hr2
    exact ⟨rfl, hr2, ho1.trans ho2 (by simp), by omega⟩
end Go.Proofs.Ytekdogmhgijocaa.dk
