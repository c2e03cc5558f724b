/- The document's device: Arm, Read, Sync. -/
import Derived.Test.YtiheobbollpaaaaDkS
namespace Go.Proofs.Ytiheobbollpaaaa
open Go.RowKit Go.ChangeShapes Go.WideShapes Go.ChangeAt
set_option linter.unusedVariables false

/-! ### Arm -/
def armR (D : Dk) (n : Int) : Int × Dk := if D.off = true then (6, D) else if n < 0 ∨ 1073741824 < n then (2, D) else (0, { D with armed := n })
def RfDone (q b1 b2 b3 n : Nat) (D' : Dk) (r : Int) (w : World) (e : Ending) (w' : World) : Prop := e = .returned (.int .i64 r) ∧ RfAt w' q b1 b2 b3 n D' ∧ Only [q, b1, b2, b3] w w'
set_option maxHeartbeats 1000000 in
theorem rarm_at {w : World} {q b1 b2 b3 n : Nat} {D : Dk} (h : RfAt w q b1 b2 b3 n D) (x : Int) : Calls Try.prog 37 #[.pointer (some ⟨q, 0, none⟩), .int .i64 x] w (RfDone q b1 b2 b3 n (armR D x).2 (armR D x).1 w) := by
  have c5 := h.c5
  have c4 := h.c4
  have f4 := h.row.free 4
  have H := Lib.hid h
  unfold armR
  by_cases ho : D.off = true
  · rw [ho] at c5
    rw [if_pos ho]
    clear h ho
    go_enter Try.func37, Try.ntmps37
    go_wp2_with fail
    go_ret
    exact ⟨rfl, H.out, Only.refl _ _⟩
  · rw [if_neg ho]
    have ho' : D.off = false := by simpa using ho
    rw [ho'] at c5
    by_cases h1 : x < 0
    · have d1 : decide (x < 0) = true := decide_eq_true h1
      rw [if_pos (.inl h1)]
      clear h ho ho'
      go_enter Try.func37, Try.ntmps37
      go_wp2_with fail
      go_ret
      exact ⟨rfl, H.out, Only.refl _ _⟩
    · have d1 : decide (x < 0) = false := decide_eq_false h1
      by_cases h2 : 1073741824 < x
      · have d2 : decide (1073741824 < x) = true := decide_eq_true h2
        rw [if_pos (.inr h2)]
        clear h ho ho'
        go_enter Try.func37, Try.ntmps37
        go_wp2_with fail
        go_ret
        exact ⟨rfl, H.out, Only.refl _ _⟩
      · have d2 : decide (1073741824 < x) = false := decide_eq_false h2
        rw [if_neg (by omega)]
        have E : Hid (RfAt (w.setCell ⟨q, 4, none⟩ (.int .i64 x)) q b1 b2 b3 n { D with armed := x }) := Lib.hid (by
          refine h.turned ((Only.refl [q] w).setCell (by simp) _) ?_ rfl rfl rfl rfl ⟨h.fine.s0, h.fine.s1, h.fine.m0, h.fine.m1, by simp; omega, by simp; omega, h.fine.la, h.fine.wa, h.fine.se⟩
          have := h.row.set 4 (.int .i64 x)
          simpa [rfCells] using this)
        clear h ho ho'
        go_enter Try.func37, Try.ntmps37
        go_wp2_with fail
        go_ret
        exact ⟨rfl, E.out, ((Only.refl [q] w).setCell (by simp) _).sub (by simp)⟩
/-! ### Read -/
def readR (D : Dk) (k : Int) : Int := if D.off = true then 6 else if k < 0 ∨ D.sectors ≤ k then 2 else 0
def readV (D : Dk) (k : Int) : Value := if readR D k = 0 then strV (sectorD D k) else .string ByteArray.empty
set_option maxHeartbeats 1000000 in
theorem rread_at {w : World} {q b1 b2 b3 n : Nat} {D : Dk} (h : RfAt w q b1 b2 b3 n D) (x : Int) : Calls Try.prog 35 #[.pointer (some ⟨q, 0, none⟩), .int .i64 x] w fun e w' => e = .returned (.tuple #[readV D x, .int .i64 (readR D x)]) ∧ w' = w := by
  have c5 := h.c5
  have c2 := h.c2
  have c1 := h.c1
  have c0 := h.c0
  have sec := h.sec
  have few := h.few
  have EMP : ByteArray.toList { data := #[] } = [] := by rw [ByteArray.toList_eq]
  by_cases ho : D.off = true
  · have er : readR D x = 6 := by unfold readR; rw [if_pos ho]
    have ev : readV D x = .string ByteArray.empty := by unfold readV; rw [er]; rfl
    rw [er, ev]
    rw [ho] at c5
    clear h ho er ev sec
    go_enter Try.func35, Try.ntmps35
    go_wp2_with fail
    go_ret2
    exact ⟨rfl, rfl⟩
  have ho' : D.off = false := by simpa using ho
  rw [ho'] at c5
  by_cases h1 : x < 0
  · have er : readR D x = 2 := by unfold readR; rw [if_neg ho, if_pos (.inl h1)]
    have ev : readV D x = .string ByteArray.empty := by unfold readV; rw [er]; rfl
    rw [er, ev]
    have d1 : decide (x < 0) = true := decide_eq_true h1
    clear h ho er ev sec ho'
    go_enter Try.func35, Try.ntmps35
    go_wp2_with fail
    go_ret2
    exact ⟨rfl, rfl⟩
  have d1 : decide (x < 0) = false := decide_eq_false h1
  by_cases h2 : (n : Int) ≤ x
  · have er : readR D x = 2 := by unfold readR; rw [if_neg ho, if_pos (.inr (by omega))]
    have ev : readV D x = .string ByteArray.empty := by unfold readV; rw [er]; rfl
    rw [er, ev]
    have d2 : decide ((n : Int) ≤ x) = true := decide_eq_true h2
    clear h ho er ev sec ho'
    go_enter Try.func35, Try.ntmps35
    go_wp2_with fail
    go_ret2
    exact ⟨rfl, rfl⟩
  have d2 : decide ((n : Int) ≤ x) = false := decide_eq_false h2
  obtain ⟨k, rfl⟩ : ∃ k : Nat, x = (k : Int) := ⟨x.toNat, by omega⟩
  have hk : k < n := by omega
  have k1 : (k : Int) < (n : Int) := by omega
  have er : readR D k = 0 := by unfold readR; rw [if_neg ho, if_neg (by omega)]
  have l2 := h.l2 hk
  have l1 := h.l1 hk
  unfold waG at l2
  cases hf : findS (k : Int) D.waits with
  | none =>
    have ev : readV D k = laG D.last k := by unfold readV; rw [if_pos er, sectorD_last hf]; rfl
    rw [er, ev]
    rw [hf] at l2
    clear h ho er ev sec ho' hf
    go_enter Try.func35, Try.ntmps35
    go_wp2_with fail
    go_ret2
    exact ⟨rfl, rfl⟩
  | some s =>
    have ev : readV D k = strV s := by unfold readV; rw [if_pos er, sectorD_waits hf]
    rw [er, ev]
    rw [hf] at l2
    have e1 := strV_ne (sec_of h.fine hf)
    simp only [strV] at l2
    clear h ho er ev sec ho' hf
    go_enter Try.func35, Try.ntmps35
    go_wp2_with fail
    go_ret2
    exact ⟨rfl, rfl⟩
end Go.Proofs.Ytiheobbollpaaaa
