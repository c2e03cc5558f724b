/- The document's device: New. -/
import Derived.Test.YtiheobbollpaaaaDkW
namespace Go.Proofs.Ytiheobbollpaaaa
open Go.RowKit Go.ChangeShapes Go.WideShapes Go.ChangeAt
set_option linter.unusedVariables false

theorem blank_any (w : World) : Calls Try.prog 33 #[] w fun e w' => e = .returned (.string (strOfNums blank)) ∧ w' = w := by
  go_enter Try.func33, Try.ntmps33
  go_wp2_with fail
  go_ret
  exact ⟨by show Ending.returned (.string _) = Ending.returned (.string (strOfNums blank)); congr 2, rfl⟩
def NoRef (w : World) (e : Ending) (w' : World) : Prop := e = .returned (.pointer none) ∧ w' = w
theorem rnew_no (s m : Int) (w : World) (h : s < 1 ∨ 65536 < s ∨ m < 0 ∨ s < m) : Calls Try.prog 20 #[.int .i64 s, .int .i64 m] w (NoRef w) := by
  by_cases h1 : s < 1
  · have d1 : decide (s < 1) = true := decide_eq_true (by omega)
    clear h
    go_enter Try.func20, Try.ntmps20
    go_wp2
    go_ret
    exact ⟨rfl, rfl⟩
  by_cases h2 : 65536 < s
  · have d1 : decide (s < 1) = false := decide_eq_false (by omega)
    have d2 : decide (65536 < s) = true := decide_eq_true (by omega)
    clear h
    go_enter Try.func20, Try.ntmps20
    go_wp2
    go_ret
    exact ⟨rfl, rfl⟩
  by_cases h3 : m < 0
  · have d1 : decide (s < 1) = false := decide_eq_false (by omega)
    have d2 : decide (65536 < s) = false := decide_eq_false (by omega)
    have d3 : decide (m < 0) = true := decide_eq_true (by omega)
    clear h
    go_enter Try.func20, Try.ntmps20
    go_wp2
    go_ret
    exact ⟨rfl, rfl⟩
  · have d1 : decide (s < 1) = false := decide_eq_false (by omega)
    have d2 : decide (65536 < s) = false := decide_eq_false (by omega)
    have d3 : decide (m < 0) = false := decide_eq_false (by omega)
    have d4 : decide (s < m) = true := decide_eq_true (by omega)
    clear h
    go_enter Try.func20, Try.ntmps20
    go_wp2
    go_ret
    exact ⟨rfl, rfl⟩
theorem infoStr : (Try.prog.info? 9).map (fun i => (i.zero, i.size, i.bytes)) = some (some (.string ByteArray.empty), 1, 16) := by kernel_rfl
theorem infoBoo : (Try.prog.info? 4).map (fun i => (i.zero, i.size, i.bytes)) = some (some (.bool false), 1, 1) := by kernel_rfl
theorem make_strs (n : Nat) (hn : n ≤ 65536) : ∀ x : World, (Instr.makeSlice 69 (.int .i64 (n : Int)) (.int .i64 (n : Int))).run Try.prog x = .ok (.slice (some ⟨x.heap.size, 0, none⟩) n n) (x.alloc (.cells (Array.replicate n (.string ByteArray.empty)) 9)) := fun x => by
  obtain ⟨i0, hi0, hz0, hz1, hz2⟩ := info_parts infoStr
  have hr := run_make (P := Try.prog) x 69 9 i0 (.string ByteArray.empty) Try.underlying69 hi0 hz0 .i64 .i64 n n (by omega) (Int.le_refl _) (by rw [hz2]; omega) (by omega)
  simp only [Int.toNat_natCast, hz1, Nat.mul_one, Value.cells, madeCells_one] at hr
  exact hr
theorem make_bools (n : Nat) (hn : n ≤ 65536) : ∀ x : World, (Instr.makeSlice 70 (.int .i64 (n : Int)) (.int .i64 (n : Int))).run Try.prog x = .ok (.slice (some ⟨x.heap.size, 0, none⟩) n n) (x.alloc (.cells (Array.replicate n (.bool false)) 4)) := fun x => by
  obtain ⟨i0, hi0, hz0, hz1, hz2⟩ := info_parts infoBoo
  have hr := run_make (P := Try.prog) x 70 4 i0 (.bool false) Try.underlying70 hi0 hz0 .i64 .i64 n n (by omega) (Int.le_refl _) (by rw [hz2]; omega) (by omega)
  simp only [Int.toNat_natCast, hz1, Nat.mul_one, Value.cells, madeCells_one] at hr
  exact hr
theorem four_rows (w : World) (A B C O : Array Value) (TA TB TC TO : TypeId) : Row ((((w.alloc (.cells A TA)).alloc (.cells B TB)).alloc (.cells C TC)).alloc (.cells O TO)) w.heap.size A TA ∧ Row ((((w.alloc (.cells A TA)).alloc (.cells B TB)).alloc (.cells C TC)).alloc (.cells O TO)) (w.heap.size + 1) B TB ∧
    Row ((((w.alloc (.cells A TA)).alloc (.cells B TB)).alloc (.cells C TC)).alloc (.cells O TO)) (w.heap.size + 2) C TC ∧ Row ((((w.alloc (.cells A TA)).alloc (.cells B TB)).alloc (.cells C TC)).alloc (.cells O TO)) (w.heap.size + 3) O TO ∧ Only [] w ((((w.alloc (.cells A TA)).alloc (.cells B TB)).alloc (.cells C TC)).alloc (.cells O TO)) := by
  have k (x : World) (o : Obj) : Only [] x (x.alloc o) := (Only.refl [] x).alloc o
  refine ⟨(((Row.made w A TA).only (k _ _) (by simp)).only (k _ _) (by simp)).only (k _ _) (by simp), ?_, ?_, ?_, (((k w _).alloc _).alloc _).alloc _⟩
  · have := (((Row.made (w.alloc (.cells A TA)) B TB).only (k _ (.cells C TC)) (by simp)).only (k _ (.cells O TO)) (by simp))
    rwa [show (w.alloc (.cells A TA)).heap.size = w.heap.size + 1 by simp] at this
  · have := ((Row.made ((w.alloc (.cells A TA)).alloc (.cells B TB)) C TC).only (k _ (.cells O TO)) (by simp))
    rwa [show ((w.alloc (.cells A TA)).alloc (.cells B TB)).heap.size = w.heap.size + 2 by simp] at this
  · have := Row.made (((w.alloc (.cells A TA)).alloc (.cells B TB)).alloc (.cells C TC)) O TO
    rwa [show (((w.alloc (.cells A TA)).alloc (.cells B TB)).alloc (.cells C TC)).heap.size = w.heap.size + 3 by simp] at this
/-- The first i sectors are blank. -/
structure NInv (w wr : World) (q b1 b2 b3 n : Nat) (m : Int) (i : Nat) : Prop where
  row : Row wr q (rfCells b1 b2 b3 n (newD n m)) tRef
  r1 : Row wr b1 (tab n fun k => if k < i then strV blank else .string ByteArray.empty) 9
  r2 : Row wr b2 (Array.replicate n (.string ByteArray.empty)) 9
  r3 : Row wr b3 (Array.replicate n (.bool false)) 4
  nd : [q, b1, b2, b3].Nodup
  ge : ∀ b ∈ [q, b1, b2, b3], w.heap.size ≤ b
  on : Only [] w wr
theorem tab_empty (n : Nat) : Array.replicate n (.string ByteArray.empty) = tab n fun k => if k < 0 then strV blank else .string ByteArray.empty := by
  refine Array.ext_getElem? fun i => ?_
  by_cases hi : i < n
  · rw [tab_get _ _ _ hi]; simp [hi]
  · rw [Array.getElem?_eq_none (by simp; omega), Array.getElem?_eq_none (by rw [tab_size]; omega)]
theorem NInv.done {w wr : World} {q b1 b2 b3 n : Nat} {m : Int} (h : NInv w wr q b1 b2 b3 n m n) (h1 : 1 ≤ n) (h2 : n ≤ 65536) (h3 : 0 ≤ m) (h4 : m ≤ n) : RfAt wr q b1 b2 b3 n (newD n m) := by
  refine ⟨h.row, ?_, ?_, ?_, h.nd, newD_fine (by omega) (by omega) h3 h4, rfl, by simp [newD], by simp [newD]⟩
  · have := h.r1
    rw [tab_ext (h := laG (newD n m).last)] at this
    · exact this
    · intro k hk
      rw [if_pos hk]; rfl
  · have e : Array.replicate n (.string ByteArray.empty) = tab n (waG (newD n m).waits) := by
      refine Array.ext_getElem? fun i => ?_
      by_cases hi : i < n
      · rw [tab_get _ _ _ hi]; simp [hi, waG, newD, findS]
      · rw [Array.getElem?_eq_none (by simp; omega), Array.getElem?_eq_none (by rw [tab_size]; omega)]
    rw [← e]; exact h.r2
  · have e : Array.replicate n (.bool false) = tab n (seG (newD n m).seen) := by
      refine Array.ext_getElem? fun i => ?_
      by_cases hi : i < n
      · rw [tab_get _ _ _ hi]; simp [hi, seG, newD]
      · rw [Array.getElem?_eq_none (by simp; omega), Array.getElem?_eq_none (by rw [tab_size]; omega)]
    rw [← e]; exact h.r3
theorem NInv.next {w wr wd : World} {q b1 b2 b3 n : Nat} {m : Int} {i : Nat} (h : NInv w wr q b1 b2 b3 n m i) (k : Only [] wr wd) : NInv w (wd.setCell ⟨b1, i, none⟩ (strV blank)) q b1 b2 b3 n m (i + 1) := by
  have hnd := h.nd
  simp only [List.nodup_cons, List.mem_cons, not_or, List.not_mem_nil, not_false_eq_true] at hnd
  obtain ⟨⟨n1, n2, n3, _⟩, ⟨n4, n5, _⟩, ⟨n6, _⟩, _⟩ := hnd
  have k2 : Only [b1] wd (wd.setCell ⟨b1, i, none⟩ (strV blank)) := (Only.refl _ _).setCell (by simp) _
  have g1 := h.ge b1 (by simp)
  refine ⟨(h.row.only k (by simp)).only k2 (by simp; exact n1), ?_, (h.r2.only k (by simp)).only k2 (by simp; exact fun e => n4 e.symm), (h.r3.only k (by simp)).only k2 (by simp; exact fun e => n5 e.symm), h.nd, h.ge, (h.on.trans k (by simp)).trans k2 (by simp; exact g1)⟩
  have := (h.r1.only k (by simp)).set i (strV blank)
  rw [tab_set (h := fun k => if k < i + 1 then strV blank else .string ByteArray.empty)] at this
  · exact this
  · intro j hj
    by_cases e : j = i
    · subst e; rw [if_pos (by omega), if_pos rfl]
    · rw [if_neg e]
      by_cases h1 : j < i
      · rw [if_pos (by omega), if_pos h1]
      · rw [if_neg (by omega), if_neg h1]
def RNewPost (n : Nat) (m : Int) (w : World) (e : Ending) (w' : World) : Prop := ∃ q b1 b2 b3, e = .returned (.pointer (some ⟨q, 0, none⟩)) ∧ RfAt w' q b1 b2 b3 n (newD n m) ∧ Only [] w w' ∧ ∀ b ∈ [q, b1, b2, b3], w.heap.size ≤ b
set_option maxRecDepth 100000 in
set_option maxHeartbeats 4000000 in
theorem rnew_ok (n : Nat) (m : Int) (w : World) (h1 : 1 ≤ n) (h2 : n ≤ 65536) (h3 : 0 ≤ m) (h4 : m ≤ n) : Calls Try.prog 20 #[.int .i64 n, .int .i64 m] w (RNewPost n m w) := by
  have d1 : decide ((n : Int) < 1) = false := decide_eq_false (by omega)
  have d2 : decide (65536 < (n : Int)) = false := decide_eq_false (by omega)
  have d3 : decide (m < 0) = false := decide_eq_false (by omega)
  have d4 : decide ((n : Int) < m) = false := decide_eq_false (by omega)
  have m1 := make_strs n h2
  have m2 := make_bools n h2
  go_enter Try.func20, Try.ntmps20
  go_wp2_with fail
  go_region_with fail
  all_goals
    clear m1 m2
    have S0 : ∀ (A B C O : Array Value) (TA TB TC TO : TypeId) (b1 b2 b3 : Nat), (Row ((((w.alloc (.cells A TA)).alloc (.cells B TB)).alloc (.cells C TC)).alloc (.cells O TO)) w.heap.size A TA ∧ Row ((((w.alloc (.cells A TA)).alloc (.cells B TB)).alloc (.cells C TC)).alloc (.cells O TO)) (w.heap.size + 1) B TB ∧ Row ((((w.alloc (.cells A TA)).alloc (.cells B TB)).alloc (.cells C TC)).alloc (.cells O TO)) (w.heap.size + 2) C TC ∧ Row ((((w.alloc (.cells A TA)).alloc (.cells B TB)).alloc (.cells C TC)).alloc (.cells O TO)) (w.heap.size + 3) O TO ∧ Only [] w ((((w.alloc (.cells A TA)).alloc (.cells B TB)).alloc (.cells C TC)).alloc (.cells O TO))) := fun A B C O TA TB TC TO _ _ _ => four_rows w A B C O TA TB TC TO
    have S1 := Lib.hid S0
    clear S0
    go_wp2_with fail
    go_loopw [6] (fun u wr => ∃ i : Nat, i ≤ n ∧ u = .int .i64 i ∧ Hid (∃ b1 b2 b3, NInv w wr (w.heap.size + 1 + 1 + 1) b1 b2 b3 n m i)) (fun u _ => n - (intOf u).toNat)
    case atStart =>
      refine ⟨0, by omega, rfl, Lib.hid ?_⟩
      obtain ⟨ra, rb, rc, ro, k⟩ := S1.out _ _ _ _ _ _ _ _ 0 0 0
      first
        | exact ⟨_, _, _, ro, by rw [← tab_empty]; exact ra, rb, rc, by (try simp) <;> omega, by intro b hb; simp only [List.mem_cons, List.not_mem_nil, or_false] at hb; omega, k.drew⟩
        | exact ⟨_, _, _, ro, by rw [← tab_empty]; exact rb, ra, rc, by (try simp) <;> omega, by intro b hb; simp only [List.mem_cons, List.not_mem_nil, or_false] at hb; omega, k.drew⟩
        | exact ⟨_, _, _, ro, by rw [← tab_empty]; exact ra, rc, rb, by (try simp) <;> omega, by intro b hb; simp only [List.mem_cons, List.not_mem_nil, or_false] at hb; omega, k.drew⟩
        | exact ⟨_, _, _, ro, by rw [← tab_empty]; exact rc, ra, rb, by (try simp) <;> omega, by intro b hb; simp only [List.mem_cons, List.not_mem_nil, or_false] at hb; omega, k.drew⟩
        | exact ⟨_, _, _, ro, by rw [← tab_empty]; exact rb, rc, ra, by (try simp) <;> omega, by intro b hb; simp only [List.mem_cons, List.not_mem_nil, or_false] at hb; omega, k.drew⟩
        | exact ⟨_, _, _, ro, by rw [← tab_empty]; exact rc, rb, ra, by (try simp) <;> omega, by intro b hb; simp only [List.mem_cons, List.not_mem_nil, or_false] at hb; omega, k.drew⟩
    case round =>
      clear S1
      obtain ⟨i, hi, rfl, HI⟩ := hrel
      have i0 : (0 : Int) ≤ (i : Int) := Int.natCast_nonneg _
      obtain ⟨b1, b2, b3, hI⟩ := HI.out
      have NI := Lib.hid hI
      clear hI HI
      by_cases hlt : i < n
      · have e1 : decide ((i : Int) < (n : Int)) = true := decide_eq_true (by omega)
        have e1' : (i : Int) < (n : Int) := by omega
        have c0 : wr.drew.cell? ⟨w.heap.size + 1 + 1 + 1, 0, none⟩ = some (.slice (some ⟨b1, 0, none⟩) n n) := NI.out.row.cell 0
        have l1 : wr.drew.cell? ⟨b1, i, none⟩ = some _ := (NI.out.r1.cell i).trans (tab_get n _ i hlt)
        have f1 : wr.drew.frozen? ⟨b1, i, none⟩ = false := NI.out.r1.free i
        have F2 := Lib.hid (NI.out.next ((Only.refl [] wr).drew))
        simp only [strV] at F2
        go_wp2_with fail
        go_region_with ((go_at_call 33; refine (blank_any _).mono ?_; rintro _ x ⟨rfl, hx⟩; rw [hx]))
        all_goals
          go_wp2_with fail
          go_roundw
          case rel => exact ⟨i + 1, by omega, by go_num, Lib.hid ⟨_, _, _, F2.out⟩⟩
          case measure => simp [intOf]; omega
      · have e1 : decide ((i : Int) < (n : Int)) = false := decide_eq_false (by omega)
        have F9 : Hid (RfAt wr (w.heap.size + 1 + 1 + 1) b1 b2 b3 n (newD n m)) := Lib.hid (by
          have : i = n := by omega
          subst this
          exact NI.out.done h1 h2 h3 h4)
        go_wp2_with fail
        go_ret
        exact ⟨_, _, _, _, rfl, F9.out, NI.out.on, NI.out.ge⟩
end Go.Proofs.Ytiheobbollpaaaa
