/- The device: what a block that is one holds; bytes of a number; there, operate, New. -/
import Derived.Test.YtiheobbollpaaaaArr
import Derived.Outline
import Derived.Carry
namespace Go.Proofs.Ytiheobbollpaaaa
open Go.RowKit Go.ChangeShapes Go.WideShapes Go.ChangeAt
set_option linter.unusedVariables false

abbrev tDk : TypeId := 57
abbrev tSec : TypeId := 60
abbrev tByte : TypeId := 5
def bytesV (s : List Int) : Array Value := (s.map (Value.int .u8)).toArray
def secV (s : List Int) : Value := .agg (bytesV s)
def blank : List Int := List.replicate 128 0
def IsSec (s : List Int) : Prop := s.length = 128 ∧ ∀ x ∈ s, 0 ≤ x ∧ x < 256
theorem blank_is : IsSec blank := ⟨by simp [blank], fun x hx => by rw [(List.mem_replicate.1 hx).2]; omega⟩
/-- 128 bytes of a number. -/
def secOf (n : Int) : List Int := (List.range 128).map fun (i : Nat) => (n + (i : Int)) % 256
theorem secOf_is (n : Int) : IsSec (secOf n) := ⟨by simp [secOf], fun x hx => by
  simp only [secOf, List.mem_map, List.mem_range] at hx
  obtain ⟨i, _, rfl⟩ := hx
  omega⟩
theorem bytesV_size (s : List Int) : (bytesV s).size = s.length := by simp [bytesV]
theorem bytesV_get (s : List Int) (i : Nat) (h : i < s.length) : (bytesV s)[i]? = some (.int .u8 (s[i]?.getD 0)) := by simp [bytesV, h]
theorem bytesV_one (s : List Int) : (bytesV s).all (·.oneCell') = true := by
  rw [Array.all_eq_true_iff_forall_mem]
  intro v hv
  simp only [bytesV, List.mem_toArray, List.mem_map] at hv
  obtain ⟨x, _, rfl⟩ := hv
  rfl
theorem bytesV_inj {s t : List Int} (h : bytesV s = bytesV t) : s = t := by
  have h1 : s.map (Value.int .u8) = t.map (Value.int .u8) := by simpa [bytesV] using h
  have := congrArg (List.map fun v => match v with | .int _ x => x | _ => 0) h1
  simpa [List.map_map, Function.comp_def] using this
theorem secV_inj {s t : List Int} (h : secV s = secV t) : s = t := bytesV_inj (by simpa [secV] using h)
theorem zeroSecI : (Try.prog.info? 60).map (fun i => (i.zero, i.size)) = some (some (.agg (Array.replicate 128 (.int .u8 0))), 128) := by kernel_rfl
theorem zeroSec (w : World) : (zeroValue 60).run Try.prog w = .ok (.agg (Array.replicate 128 (.int .u8 0))) w := (zero_of_info zeroSecI).1 w
theorem sizeSec : (Try.prog.info? 60).map (·.size) = some 128 := (zero_of_info zeroSecI).2
theorem blank_agg : secV blank = .agg (Array.replicate 128 (.int .u8 0)) := by
  simp only [secV, bytesV, blank, List.map_replicate, List.toArray_replicate]
theorem zeroSec' (w : World) : (zeroValue 60).run Try.prog w = .ok (secV blank) w := by rw [blank_agg]; exact zeroSec w
theorem infoByte : (Try.prog.info? 5).map (fun i => (i.zero, i.size, i.bytes)) = some (some (.int .u8 0), 1, 1) := by kernel_rfl

structure Dk where
  last : Int → List Int
  waits : List (Int × List Int)
  seen : List Int
  sectors : Int
  most : Int
  armed : Int
  off : Bool
def waL (l : List (Int × List Int)) : List (Int × Value) := l.map fun p => (p.1, secV p.2)
def seL (l : List Int) : List (Int × Value) := l.map fun k => (k, .bool true)
structure Dk.Fine (D : Dk) : Prop where
  s0 : 0 ≤ D.sectors
  s1 : D.sectors ≤ 65536
  m0 : 0 ≤ D.most
  m1 : D.most ≤ D.sectors
  a0 : 0 ≤ D.armed
  a1 : D.armed ≤ 1073741824
  la : ∀ k, IsSec (D.last k)
  wa : ∀ p ∈ D.waits, 0 ≤ p.1 ∧ p.1 < D.sectors ∧ IsSec p.2
  se : ∀ k ∈ D.seen, 0 ≤ k ∧ k < D.sectors
def Dk.cells (D : Dk) (bl bw bn : Nat) : Array Value := #[.map (some bl), .map (some bw), .map (some bn), .int .i64 D.sectors, .int .i64 D.most, .int .i64 D.armed, .bool D.off]
/-- The list that a map of sectors holds reads as f. -/
def Reads (f : Int → List Int) (s : Int) (L : List (Int × Value)) : Prop := (∀ k, (lk k L).getD (secV blank) = secV (f k)) ∧ ∀ p ∈ L, 0 ≤ p.1 ∧ p.1 < s
structure DkAt (w : World) (p bl bw bn : Nat) (D : Dk) : Prop where
  row : Row w p (D.cells bl bw bn) tDk
  lm : ∃ L, MapAt w bl .i64 L ∧ Reads D.last D.sectors L
  wm : MapAt w bw .i64 (waL D.waits)
  nm : MapAt w bn .i64 (seL D.seen)
  nd : [p, bl, bw, bn].Nodup
  fine : D.Fine
theorem DkAt.only {G : List Nat} {w w' : World} {p bl bw bn : Nat} {D : Dk} (h : DkAt w p bl bw bn D) (k : Only G w w') (h0 : p ∉ G) (h1 : bl ∉ G) (h2 : bw ∉ G) (h3 : bn ∉ G) : DkAt w' p bl bw bn D := by
  obtain ⟨L, hL, hR⟩ := h.lm
  exact ⟨h.row.only k h0, ⟨L, hL.only k h1, hR⟩, h.wm.only k h2, h.nm.only k h3, h.nd, h.fine⟩
section
variable {w : World} {p bl bw bn : Nat} {D : Dk}
theorem DkAt.c0 (h : DkAt w p bl bw bn D) : w.cell? ⟨p, 0, none⟩ = some (.map (some bl)) := h.row.cell 0
theorem DkAt.c1 (h : DkAt w p bl bw bn D) : w.cell? ⟨p, 1, none⟩ = some (.map (some bw)) := h.row.cell 1
theorem DkAt.c2 (h : DkAt w p bl bw bn D) : w.cell? ⟨p, 2, none⟩ = some (.map (some bn)) := h.row.cell 2
theorem DkAt.c3 (h : DkAt w p bl bw bn D) : w.cell? ⟨p, 3, none⟩ = some (.int .i64 D.sectors) := h.row.cell 3
theorem DkAt.c4 (h : DkAt w p bl bw bn D) : w.cell? ⟨p, 4, none⟩ = some (.int .i64 D.most) := h.row.cell 4
theorem DkAt.c5 (h : DkAt w p bl bw bn D) : w.cell? ⟨p, 5, none⟩ = some (.int .i64 D.armed) := h.row.cell 5
theorem DkAt.c6 (h : DkAt w p bl bw bn D) : w.cell? ⟨p, 6, none⟩ = some (.bool D.off) := h.row.cell 6
end
def errOff (b : Bool) : Int := if b then 6 else 0

set_option maxHeartbeats 1000000 in
theorem there_at (w : World) (p bl bw bn : Nat) (D : Dk) (h : DkAt w p bl bw bn D) : Calls Try.prog 26 #[.pointer (some ⟨p, 0, none⟩)] w fun e w' => e = .returned (.int .i64 (errOff D.off)) ∧ w' = w := by
  have qT := fun w r => run_eql_map_nil (P := Try.prog) w _ _ _ r Try.underlying54
  have c0 := h.c0
  have c6 := h.c6
  clear h
  cases hD : D.off
  · rw [hD] at c6
    go_enter Try.func26, Try.ntmps26
    go_wp2
    go_ret
    exact ⟨rfl, rfl⟩
  · rw [hD] at c6
    go_enter Try.func26, Try.ntmps26
    go_wp2
    go_ret
    exact ⟨rfl, rfl⟩
theorem there_nil (w : World) : Calls Try.prog 26 #[.pointer none] w fun e w' => e = .returned (.int .i64 1) ∧ w' = w := by
  go_enter Try.func26, Try.ntmps26
  go_wp2
  go_ret
  exact ⟨rfl, rfl⟩
theorem there_zero (w : World) (p : Nat) (h : w.cell? ⟨p, 0, none⟩ = some (.map none)) : Calls Try.prog 26 #[.pointer (some ⟨p, 0, none⟩)] w fun e w' => e = .returned (.int .i64 1) ∧ w' = w := by
  have qT := fun w r => run_eql_map_nil (P := Try.prog) w _ _ _ r Try.underlying54
  go_enter Try.func26, Try.ntmps26
  go_wp2
  go_ret
  exact ⟨rfl, rfl⟩

/-! ### sector -/
def SectorPost (n : Int) (w : World) (e : Ending) (w' : World) : Prop := e = .returned (.slice (some ⟨w.heap.size, 0, none⟩) 128 128) ∧ Row w' w.heap.size (bytesV (secOf n)) tByte ∧ Only [] w w' ∧ w'.heap.size = w.heap.size + 1
def SoFar (n : Int) (w wr : World) (i : Nat) : Prop := ∃ A : Array Value, A.size = 128 ∧ Row wr w.heap.size A tByte ∧ (∀ j, j < i → A[j]? = some (.int .u8 ((n + (j : Int)) % 256))) ∧ (∀ j, j < 128 → ∃ x : Int, A[j]? = some (.int .u8 x)) ∧ Only [] w wr ∧ wr.heap.size = w.heap.size + 1
theorem byteOf (n i : Int) : IntKind.u8.wrap (wrap64 (n + i)) = (n + i) % 256 := by
  rw [show IntKind.u8.wrap (wrap64 (n + i)) = wrap64 (n + i) % 256 from rfl]
  unfold wrap64
  omega
set_option maxHeartbeats 1000000 in
theorem sector_any (n : Int) (w : World) : Calls Try.prog 11 #[.int .i64 n] w (SectorPost n w) := by
  obtain ⟨i0, hi0, hz0, hz1, hz2⟩ := info_parts infoByte
  go_enter Try.func11, Try.ntmps11
  go_wp2_with (refine wpList_make_at rfl _ _ _ rfl _ i0 _ Try.underlying23 hi0 hz0 hz1 rfl .i64 .i64 128 rfl rfl (by omega) (by omega) ?_; intro w1 hr1 ho1 hs1)
  have F0 : Hid (SoFar n w w1 0) := Lib.hid ⟨_, by simp, hr1, by omega, fun j hj => ⟨0, by simp [hj]⟩, ho1, hs1⟩
  clear hr1 ho1 hs1
  go_loopw [4] (fun u wr => ∃ i : Nat, i ≤ 128 ∧ u = .int .i64 i ∧ Hid (SoFar n w wr i)) (fun u _ => 128 - (intOf u).toNat)
  case atStart => exact ⟨0, by omega, rfl, F0⟩
  case round =>
    obtain ⟨i, hi, rfl, HF⟩ := hrel
    have hi0 : (0 : Int) ≤ (i : Int) := Int.natCast_nonneg _
    by_cases hlt : i < 128
    · have d1 : decide ((i : Int) < 128) = true := decide_eq_true (by omega)
      have hilt : (i : Int) < 128 := by omega
      obtain ⟨A, hA, hr, hx, hany, ho, hs⟩ := HF.out
      obtain ⟨x, hxi⟩ := hany i hlt
      have c1 : wr.cell? ⟨w.heap.size, i, none⟩ = some (.int .u8 x) := by rw [hr.cell]; exact hxi
      have f1 := hr.free i
      have F1 : Hid (SoFar n w (wr.setCell ⟨w.heap.size, i, none⟩ (.int .u8 ((n + (i : Int)) % 256))) (i + 1)) := Lib.hid ⟨_, by simp [hA], hr.set i _, fun j hj => by
          rcases Nat.lt_succ_iff_lt_or_eq.1 hj with h | rfl
          · rw [Array.getElem?_setIfInBounds_ne (by omega)]; exact hx j h
          · rw [Array.getElem?_setIfInBounds_self_of_lt (by omega)], fun j hj => by
          by_cases e : i = j
          · subst e; exact ⟨_, Array.getElem?_setIfInBounds_self_of_lt (by omega)⟩
          · rw [Array.getElem?_setIfInBounds_ne e]; exact hany j hj, ho.setCell (.inr (Nat.le_refl _)) _, by simp [hs]⟩
      have bo := byteOf n i
      clear hr hx hany ho hs hxi HF F0
      go_wp2_with fail
      go_roundw
      case rel => exact ⟨i + 1, by omega, by go_num, F1⟩
      case measure => simp [intOf]; omega
    · have d1 : decide ((i : Int) < 128) = false := decide_eq_false (by omega)
      obtain rfl : i = 128 := by omega
      go_wp2_with fail
      go_ret
      obtain ⟨A, hA, hr, hx, hany, ho, hs⟩ := HF.out
      have e : A = bytesV (secOf n) := Array.ext_getElem? fun j => by
        by_cases hj : j < 128
        · rw [hx j hj, bytesV_get _ _ (by rw [(secOf_is n).1]; exact hj)]
          simp [secOf, hj]
        · rw [Array.getElem?_eq_none (by omega), Array.getElem?_eq_none (by rw [bytesV_size, (secOf_is n).1]; omega)]
      subst e
      exact ⟨rfl, hr, ho, hs⟩
end Go.Proofs.Ytiheobbollpaaaa
