/- The device: what a block that is one holds; bytes of a number; there, operate, New. -/
import Derived.Test.YtjhomphbfkbaoaaArr
import Derived.Outline
import Derived.Carry
namespace Go.Proofs.Ytjhomphbfkbaoaa.dk
open Go.RowKit Go.ChangeShapes Go.WideShapes Go.ChangeAt
set_option linter.unusedVariables false

abbrev tDk : TypeId := 60
abbrev tSec : TypeId := 84
abbrev tByte : TypeId := 5
def bytesV (s : List Int) : Array Value := (s.map (Value.int .u8)).toArray
def secV (s : List Int) : Value := .agg (bytesV s)
def blank : List Int := List.replicate 128 0
def IsSec (s : List Int) : Prop := s.length = 128 ∧ ∀ x ∈ s, 0 ≤ x ∧ x < 256
theorem blank_is : IsSec blank := ⟨by simp [blank], fun x hx => by rw [(List.mem_replicate.1 hx).2]; omega⟩
/-- 128 bytes of a number. -/
def secOf (n : Int) : List Int := (List.range 128).map fun (i : Nat) => (n + (i : Int)) % 256
theorem secOf_is (n : Int) : IsSec (secOf n) := ⟨by simp [secOf], fun x hx => by
  simp only [secOf, List.mem_map, List.mem_range] at hx
  obtain ⟨i, _, rfl⟩ := hx
  omega⟩
theorem bytesV_size (s : List Int) : (bytesV s).size = s.length := by simp [bytesV]
theorem bytesV_get (s : List Int) (i : Nat) (h : i < s.length) : (bytesV s)[i]? = some (.int .u8 (s[i]?.getD 0)) := by simp [bytesV, h]
theorem bytesV_one (s : List Int) : (bytesV s).all (·.oneCell') = true := by
  rw [Array.all_eq_true_iff_forall_mem]
  intro v hv
  simp only [bytesV, List.mem_toArray, List.mem_map] at hv
  obtain ⟨x, _, rfl⟩ := hv
  rfl
theorem bytesV_inj {s t : List Int} (h : bytesV s = bytesV t) : s = t := by
  have h1 : s.map (Value.int .u8) = t.map (Value.int .u8) := by simpa [bytesV] using h
  have := congrArg (List.map fun v => match v with | .int _ x => x | _ => 0) h1
  simpa [List.map_map, Function.comp_def] using this
theorem secV_inj {s t : List Int} (h : secV s = secV t) : s = t := bytesV_inj (by simpa [secV] using h)
theorem zeroSecI : (Try.prog.info? 84).map (fun i => (i.zero, i.size)) = some (some (.agg (Array.replicate 128 (.int .u8 0))), 128) := by kernel_rfl
theorem zeroSec (w : World) : (zeroValue 84).run Try.prog w = .ok (.agg (Array.replicate 128 (.int .u8 0))) w := (zero_of_info zeroSecI).1 w
theorem sizeSec : (Try.prog.info? 84).map (·.size) = some 128 := (zero_of_info zeroSecI).2
theorem blank_agg : secV blank = .agg (Array.replicate 128 (.int .u8 0)) := by
  simp only [secV, bytesV, blank, List.map_replicate, List.toArray_replicate]
theorem zeroSec' (w : World) : (zeroValue 84).run Try.prog w = .ok (secV blank) w := by rw [blank_agg]; exact zeroSec w
theorem infoByte : (Try.prog.info? 5).map (fun i => (i.zero, i.size, i.bytes)) = some (some (.int .u8 0), 1, 1) := by kernel_rfl

structure Dk where
  last : Int → List Int
  waits : List (Int × List Int)
  seen : List Int
  sectors : Int
  most : Int
  armed : Int
  off : Bool
def waL (l : List (Int × List Int)) : List (Int × Value) := l.map fun p => (p.1, secV p.2)
def seL (l : List Int) : List (Int × Value) := l.map fun k => (k, .bool true)
structure Dk.Fine (D : Dk) : Prop where
  s0 : 0 ≤ D.sectors
  s1 : D.sectors ≤ 65536
  m0 : 0 ≤ D.most
  m1 : D.most ≤ D.sectors
  a0 : 0 ≤ D.armed
  a1 : D.armed ≤ 1073741824
  la : ∀ k, IsSec (D.last k)
  wa : ∀ p ∈ D.waits, 0 ≤ p.1 ∧ p.1 < D.sectors ∧ IsSec p.2
  se : ∀ k ∈ D.seen, 0 ≤ k ∧ k < D.sectors
def Dk.cells (D : Dk) (bl bw bn : Nat) : Array Value := #[.map (some bl), .map (some bw), .map (some bn), .int .i64 D.sectors, .int .i64 D.most, .int .i64 D.armed, .bool D.off]
/-- The list that a map of sectors holds reads as f. -/
def Reads (f : Int → List Int) (s : Int) (L : List (Int × Value)) : Prop := (∀ k, (lk k L).getD (secV blank) = secV (f k)) ∧ ∀ p ∈ L, 0 ≤ p.1 ∧ p.1 < s
structure DkAt (w : World) (p bl bw bn : Nat) (D : Dk) : Prop where
  row : Row w p (D.cells bl bw bn) tDk
  lm : ∃ L, MapAt w bl .i64 L ∧ Reads D.last D.sectors L
  wm : MapAt w bw .i64 (waL D.waits)
  nm : MapAt w bn .i64 (seL D.seen)
  nd : [p, bl, bw, bn].Nodup
  fine : D.Fine
theorem DkAt.only {G : List Nat} {w w' : World} {p bl bw bn : Nat} {D : Dk} (h : DkAt w p bl bw bn D) (k : Only G w w') (h0 : p ∉ G) (h1 : bl ∉ G) (h2 : bw ∉ G) (h3 : bn ∉ G) : DkAt w' p bl bw bn D := by
  obtain ⟨L, hL, hR⟩ := h.lm
  exact ⟨h.row.only k h0, ⟨L, hL.only k h1, hR⟩, h.wm.only k h2, h.nm.only k h3, h.nd, h.fine⟩
section
variable {w : World} {p bl bw bn : Nat} {D : Dk}
theorem DkAt.c0 (h : DkAt w p bl bw bn D) : w.cell? ⟨p, 0, none⟩ = some (.map (some bl)) := h.row.cell 0
theorem DkAt.c1 (h : DkAt w p bl bw bn D) : w.cell? ⟨p, 1, none⟩ = some (.map (some bw)) := h.row.cell 1
theorem DkAt.c2 (h : DkAt w p bl bw bn D) : w.cell? ⟨p, 2, none⟩ = some (.map (some bn)) := h.row.cell 2
theorem DkAt.c3 (h : DkAt w p bl bw bn D) : w.cell? ⟨p, 3, none⟩ = some (.int .i64 D.sectors) := h.row.cell 3
theorem DkAt.c4 (h : DkAt w p bl bw bn D) : w.cell? ⟨p, 4, none⟩ = some (.int .i64 D.most) := h.row.cell 4
theorem DkAt.c5 (h : DkAt w p bl bw bn D) : w.cell? ⟨p, 5, none⟩ = some (.int .i64 D.armed) := h.row.cell 5
theorem DkAt.c6 (h : DkAt w p bl bw bn D) : w.cell? ⟨p, 6, none⟩ = some (.bool D.off) := h.row.cell 6
end
def errOff (b : Bool) : Int := if b then 6 else 0

set_option maxHeartbeats 1000000 in
theorem there_at (w : World) (p bl bw bn : Nat) (D : Dk) (h : DkAt w p bl bw bn D) : Calls Try.prog 40 #[.pointer (some ⟨p, 0, none⟩)] w fun e w' => e = .returned (.int .i64 (errOff D.off)) ∧ w' = w := by
  have qT := fun w r => run_eql_map_nil (P := Try.prog) w _ _ _ r Try.underlying57
  have c0 := h.c0
  have c6 := h.c6
  clear h
  cases hD : D.off
  · rw [hD] at c6
    go_enter Try.func40, Try.ntmps40
    go_wp2
    go_ret
    exact ⟨rfl, rfl⟩
  · rw [hD] at c6
    go_enter Try.func40, Try.ntmps40
    go_wp2
    go_ret
    exact ⟨rfl, rfl⟩
theorem there_nil (w : World) : Calls Try.prog 40 #[.pointer none] w fun e w' => e = .returned (.int .i64 1) ∧ w' = w := by
  go_enter Try.func40, Try.ntmps40
  go_wp2
  go_ret
  exact ⟨rfl, rfl⟩
theorem there_zero (w : World) (p : Nat) (h : w.cell? ⟨p, 0, none⟩ = some (.map none)) : Calls Try.prog 40 #[.pointer (some ⟨p, 0, none⟩)] w fun e w' => e = .returned (.int .i64 1) ∧ w' = w := by
  have qT := fun w r => run_eql_map_nil (P := Try.prog) w _ _ _ r Try.underlying57
  go_enter Try.func40, Try.ntmps40
  go_wp2
  go_ret
  exact ⟨rfl, rfl⟩

/-! ### sector -/
theorem nodup_lt : ∀ (n : Nat) (l : List Nat), l.Nodup → (∀ x ∈ l, x < n) → l.length ≤ n
  | 0, [], _, _ => Nat.le_refl _
  | 0, x :: l, _, h => absurd (h x (List.mem_cons_self ..)) (by omega)
  | n + 1, l, hn, h => by
    have h1 := nodup_lt n (l.filter fun x => decide (x ≠ n)) (hn.filter _) fun x hx => by
      have := (List.mem_filter.1 hx)
      have h2 := h x this.1
      have h3 := of_decide_eq_true this.2
      omega
    have h2 : l.length ≤ (l.filter fun x => decide (x ≠ n)).length + 1 := by
      clear h h1
      induction l with
      | nil => simp
      | cons x r ih =>
        simp only [List.nodup_cons] at hn
        rw [List.filter_cons]
        by_cases e : x = n
        · subst e
          have : r.filter (fun y => !decide (y = x)) = r := List.filter_eq_self.2 fun y hy => by
            simp
            rintro rfl
            exact hn.1 hy
          simp [this]
        · rw [if_pos (by simpa using e)]
          have := ih hn.2
          simp only [List.length_cons]
          omega
    omega
end Go.Proofs.Ytjhomphbfkbaoaa.dk
