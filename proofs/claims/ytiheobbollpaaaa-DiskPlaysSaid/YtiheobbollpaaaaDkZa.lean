/- do: Read, Crash. -/
import Derived.Test.YtiheobbollpaaaaDkZ
namespace Go.Proofs.Ytiheobbollpaaaa
open Go.RowKit Go.ChangeShapes Go.WideShapes Go.ChangeAt
set_option linter.unusedVariables false

def ReadRow (W : World) (p : Nat) (F : List Nat) (D : Dk) (k : Int) (w : World) (e : Ending) (w' : World) : Prop := e = .returned (.tuple #[.slice (some ⟨w.heap.size, 0, none⟩) 128 128, .int .i64 0]) ∧ Row w' w.heap.size (bytesV (sectorD D k)) tSec ∧ Only [] w w'
theorem read_row {W w : World} {p : Nat} {D : Dk} {F : List Nat} (h : Dev W w p D F) (x : Int) (hr : readR D x = 0) : Calls Try.prog 15 #[.pointer (some ⟨p, 0, none⟩), .int .i64 x] w (ReadRow W p F D x w) := by
  obtain ⟨bl, bw, bn, hd, rfl, hB⟩ := h.dk
  unfold readR at hr
  by_cases ho : D.off = true
  · rw [if_pos ho] at hr; cases hr
  · rw [if_neg ho] at hr
    by_cases ha : x < 0 ∨ D.sectors ≤ x
    · rw [if_pos ha] at hr; cases hr
    · refine (read_ok w p bl bw bn D x hd (by simpa using ho) (by omega) (by omega)).mono ?_
      rintro e w' ⟨rfl, hr, k, _⟩
      exact ⟨rfl, hr, k⟩
theorem Pair.at {W w w' : World} {p : Nat} {F : List Nat} {q b1 b2 b3 n g : Nat} {D : Dk} (h : Pair W w p F q b1 b2 b3 n D) (k : Only [g] w w') (h1 : g ∉ F) (h2 : g ∉ [q, b1, b2, b3]) (h3 : W.heap.size ≤ g) : Pair W w' p F q b1 b2 b3 n D :=
  ⟨h.dev.only k (by simp; exact h1) (by simp; exact h3), h.rf.onlyL k (fun b hb => by simp only [List.mem_cons, List.not_mem_nil, or_false] at hb; rw [hb]; exact h2), h.dj, h.rge⟩
/-- A block of 128 cells of the call's own, beside the devices. -/
structure Beside (W w : World) (p : Nat) (F : List Nat) (q b1 b2 b3 n : Nat) (D : Dk) (g : Nat) (T : TypeId) : Prop where
  pair : Pair W w p F q b1 b2 b3 n D
  row : ∃ cur : Array Value, cur.size = 128 ∧ Row w g cur T
  nf : g ∉ F
  nr : g ∉ [q, b1, b2, b3]
  ge : W.heap.size ≤ g
theorem Beside.set {W w : World} {p : Nat} {F : List Nat} {q b1 b2 b3 n g i : Nat} {D : Dk} {T : TypeId} {v : Value} (h : Beside W w p F q b1 b2 b3 n D g T) : Beside W (w.setCell ⟨g, i, none⟩ v) p F q b1 b2 b3 n D g T := by
  obtain ⟨cur, hc, hr⟩ := h.row
  exact ⟨h.pair.at ((Only.refl [g] w).setCell (by simp) _) h.nf h.nr h.ge, ⟨_, by simp [hc], hr.set i v⟩, h.nf, h.nr, h.ge⟩
theorem conv_nil (x : World) : (convert 23 9 (.slice none 0 0)).run Try.prog x = .ok (.string ByteArray.empty) x :=
  run_convert_bytes_nil x 23 5 Try.underlying23 Try.underlying5 0 0 9 Try.underlying9
set_option maxRecDepth 100000 in
set_option maxHeartbeats 4000000 in
theorem do_read {W w : World} {p : Nat} {F : List Nat} {q b1 b2 b3 n : Nat} {D : Dk} (h : Pair W w p F q b1 b2 b3 n D) (x f : Int) (sh : Bool) (pa : Option Addr) (pl pc : Nat) : Calls Try.prog 21 #[.pointer (some ⟨p, 0, none⟩), .pointer (some ⟨q, 0, none⟩), .agg #[.int .i64 1, .int .i64 x, .int .i64 f, .bool sh, .slice pa pl pc]] w (DoPost W q b1 b2 b3 n D) := by
  have H := Lib.hid h
  clear h
  go_enter Try.func21, Try.ntmps21
  go_wp2_with fail
  have K1 : Only [] w (w.alloc (.cells #[.int .i64 1, .int .i64 x, .int .i64 f, .bool sh, .slice pa pl pc] 31)) := (Only.refl [] w).alloc _
  have P1 := Lib.hid (H.out.none K1)
  have BX := Lib.hid (Row.made w #[.int .i64 1, .int .i64 x, .int .i64 f, .bool sh, .slice pa pl pc] 31)
  have HBX : Hid (w.heap.size ∉ F ∧ w.heap.size ∉ [q, b1, b2, b3]) := Lib.hid ⟨fun hh => by have := H.out.lt _ (.inl hh); omega, fun hh => by have := H.out.lt _ (.inr hh); omega⟩

  by_cases hr : readR D x = 0
  · have HRR := Lib.hid hr
    refine (read_row P1.out.dev x hr).mono ?_
    rintro _ w2 ⟨rfl, hrow, k2⟩
    have hv : readV D x = .string (strOfNums (sectorD D x)) := by unfold readV; rw [if_pos hr]; rfl
    obtain ⟨g, hg⟩ : ∃ g, g = (w.alloc (.cells #[.int .i64 1, .int .i64 x, .int .i64 f, .bool sh, .slice pa pl pc] 31)).heap.size := ⟨_, rfl⟩
    rw [← hg] at hrow ⊢
    have P2 := Lib.hid (P1.out.none k2)
    have hbx : w2.cell? ⟨w.heap.size, 1, none⟩ = some (.int .i64 x) := (BX.out.only k2 (by simp)).cell 1
    have h128 := (sectorD_is P1.out.dev.fine x).1
    have cv := conv_bytes (cap := 128) (by have := hrow.cells; unfold Bytes; simpa [bytesV] using this : Bytes w2 g 0 (sectorD D x)) h128
    have B2 : Hid (Beside W w2 p F q b1 b2 b3 n D g tSec) := Lib.hid ⟨P2.out, ⟨_, by rw [bytesV_size, h128], hrow⟩, fun hh => by have := P1.out.lt _ (.inl hh); omega, fun hh => by have := P1.out.lt _ (.inr hh); omega, by have := P1.out.dev.bl.size; omega⟩
    clear hr hrow k2 hg h128 P1 BX K1 HBX
    go_wp2_with fail
    refine (rread_at P2.out.rf x).mono ?_
    rintro _ w3 ⟨rfl, hw3⟩
    subst hw3
    rw [hv, HRR.out]
    clear hbx hv P2
    go_wp2_with fail
    go_loopw [17] (fun u wr => ∃ i : Nat, i ≤ 128 ∧ u = .int .i64 i ∧ Hid (Beside W wr p F q b1 b2 b3 n D g tSec)) (fun u _ => 128 - (intOf u).toNat)
    case atStart => exact ⟨0, by omega, rfl, B2⟩
    case round =>
      clear B2 cv
      obtain ⟨i, hi, rfl, HB⟩ := hrel
      have i0 : (0 : Int) ≤ (i : Int) := Int.natCast_nonneg _
      by_cases hlt : i < 128
      · have e1 : decide ((i : Int) < 128) = true := decide_eq_true (by omega)
        have e1' : (i : Int) < 128 := by omega
        obtain ⟨cur, hcs, hcr⟩ := HB.out.row
        have l1 : wr.cell? ⟨g, i, none⟩ = some cur[i] := (hcr.cell i).trans (Array.getElem?_eq_getElem (by omega))
        have f1 := hcr.free i
        have F2 : Hid (Beside W (wr.setCell ⟨g, i, none⟩ (.int .u8 99)) p F q b1 b2 b3 n D g tSec) := Lib.hid HB.out.set
        clear hcr
        go_wp2_with fail
        go_roundw
        case rel => exact ⟨i + 1, by omega, by go_num, F2⟩
        case measure => simp [intOf]; omega
      · have e1 : decide ((i : Int) < 128) = false := decide_eq_false (by omega)
        go_wp2_with fail
        go_ret2
        exact ⟨p, F, rfl, HB.out.pair⟩
  · refine (read_no P1.out.dev x hr).mono ?_
    rintro _ w2 ⟨rfl, hw2⟩
    subst hw2
    have hv : readV D x = .string ByteArray.empty := by unfold readV; rw [if_neg hr]
    have cn := conv_nil
    clear hr
    go_wp2_with fail
    refine (rread_at P1.out.rf x).mono ?_
    rintro _ w3 ⟨rfl, hw3⟩
    subst hw3
    rw [hv]
    clear hv
    go_wp2_with fail
    go_loopw [17] (fun u wr => u = .int .i64 0 ∧ Hid (Pair W wr p F q b1 b2 b3 n D)) (fun _ _ => 0)
    case atStart => exact ⟨rfl, P1⟩
    case round =>
      obtain ⟨rfl, HB⟩ := hrel
      go_wp2_with fail
      go_ret2
      exact ⟨p, F, rfl, HB.out⟩
end Go.Proofs.Ytiheobbollpaaaa
