/- The document's device: Sync, Write. -/
import Derived.Test.YtiheobbollpaaaaDkT
namespace Go.Proofs.Ytiheobbollpaaaa
open Go.RowKit Go.ChangeShapes Go.WideShapes Go.ChangeAt
set_option linter.unusedVariables false

/-! ### Sync -/
structure SyInv (q b1 b2 b3 n : Nat) (D : Dk) (w wr : World) (i : Nat) : Prop where
  row : Row wr q (rfCells b1 b2 b3 n D) tRef
  r1 : Row wr b1 (tab n fun k => if k < i then laG (sectorD D) k else laG D.last k) 9
  r2 : Row wr b2 (tab n fun k => if k < i then .string ByteArray.empty else waG D.waits k) 9
  r3 : Row wr b3 (tab n (seG D.seen)) 4
  on : Only [b1, b2] w wr
theorem SyInv.skip {q b1 b2 b3 n : Nat} {D : Dk} {w wr : World} {i : Nat} (h : SyInv q b1 b2 b3 n D w wr i) (hf : findS (i : Int) D.waits = none) : SyInv q b1 b2 b3 n D w wr (i + 1) := by
  refine ⟨h.row, ?_, ?_, h.r3, h.on⟩
  · rw [tab_ext (h := fun k => if k < i then laG (sectorD D) k else laG D.last k)]
    · exact h.r1
    · intro k hk
      by_cases h1 : k < i
      · rw [if_pos h1, if_pos (by omega)]
      · rw [if_neg h1]
        by_cases h2 : k = i
        · subst h2; rw [if_pos (by omega)]; unfold laG; rw [sectorD_last hf]
        · rw [if_neg (by omega)]
  · rw [tab_ext (h := fun k => if k < i then .string ByteArray.empty else waG D.waits k)]
    · exact h.r2
    · intro k hk
      by_cases h1 : k < i
      · rw [if_pos h1, if_pos (by omega)]
      · rw [if_neg h1]
        by_cases h2 : k = i
        · subst h2; rw [if_pos (by omega)]; unfold waG; rw [hf]
        · rw [if_neg (by omega)]
theorem SyInv.take {q b1 b2 b3 n : Nat} {D : Dk} {w wr : World} {i : Nat} {s : List Int} (h : SyInv q b1 b2 b3 n D w wr i) (hf : findS (i : Int) D.waits = some s) (hn : q ≠ b1 ∧ q ≠ b2 ∧ q ≠ b3 ∧ b1 ≠ b2 ∧ b1 ≠ b3 ∧ b2 ≠ b3) :
    SyInv q b1 b2 b3 n D w ((wr.setCell ⟨b1, i, none⟩ (strV s)).setCell ⟨b2, i, none⟩ (.string ByteArray.empty)) (i + 1) := by
  obtain ⟨n1, n2, n3, n4, n5, n6⟩ := hn
  have k1 : Only [b1, b2] wr ((wr.setCell ⟨b1, i, none⟩ (strV s)).setCell ⟨b2, i, none⟩ (.string ByteArray.empty)) := ((Only.refl _ _).setCell (by simp) _).setCell (by simp) _
  have kA : Only [b1] wr (wr.setCell ⟨b1, i, none⟩ (strV s)) := (Only.refl _ _).setCell (by simp) _
  have kB : Only [b2] (wr.setCell ⟨b1, i, none⟩ (strV s)) ((wr.setCell ⟨b1, i, none⟩ (strV s)).setCell ⟨b2, i, none⟩ (.string ByteArray.empty)) := (Only.refl _ _).setCell (by simp) _
  refine ⟨h.row.only k1 (by simp; exact ⟨n1, n2⟩), ?_, ?_, h.r3.only k1 (by simp; exact ⟨fun e => n5 e.symm, fun e => n6 e.symm⟩), h.on.and k1⟩
  · have := (h.r1.set i (strV s)).only kB (by simp; exact n4)
    rw [tab_set (h := fun k => if k < i + 1 then laG (sectorD D) k else laG D.last k)] at this
    · exact this
    · intro j hj
      by_cases e : j = i
      · subst e; rw [if_pos (by omega), if_pos rfl]; unfold laG; rw [sectorD_waits hf]
      · rw [if_neg e]
        by_cases h1 : j < i
        · rw [if_pos (by omega), if_pos h1]
        · rw [if_neg (by omega), if_neg h1]
  · have := (h.r2.only kA (by simp; exact fun e => n4 e.symm)).set i (.string ByteArray.empty)
    rw [tab_set (h := fun k => if k < i + 1 then .string ByteArray.empty else waG D.waits k)] at this
    · exact this
    · intro j hj
      by_cases e : j = i
      · subst e; rw [if_pos (by omega), if_pos rfl]
      · rw [if_neg e]
        by_cases h1 : j < i
        · rw [if_pos (by omega), if_pos h1]
        · rw [if_neg (by omega), if_neg h1]
theorem SyInv.done {q b1 b2 b3 n : Nat} {D : Dk} {w wr : World} (h : SyInv q b1 b2 b3 n D w wr n) (h0 : RfAt w q b1 b2 b3 n D) : RfAt wr q b1 b2 b3 n (synD D) := by
  refine ⟨h.row, ?_, ?_, h.r3, h0.nd, ?_, h0.sec, h0.sn, by simp [synD]⟩
  · have := h.r1
    rw [tab_ext (h := laG (synD D).last)] at this
    · exact this
    · intro k hk
      rw [if_pos hk]; rfl
  · have := h.r2
    rw [tab_ext (h := waG (synD D).waits)] at this
    · exact this
    · intro k hk
      rw [if_pos hk]; rfl
  · have f := h0.fine
    exact ⟨f.s0, f.s1, f.m0, f.m1, f.a0, f.a1, fun k => sectorD_is f k, by simp [synD], f.se⟩
theorem stepS_eq {D : Dk} (h1 : ¬ D.off = true) (h2 : ¬ (opD D).off = true) : stepS D = synD (opD D) := by
  rw [stepS, if_neg h1, if_neg h2, syncD, synD]
  simp only [opD_waits, opD_last]
set_option maxRecDepth 100000 in
set_option maxHeartbeats 2000000 in
theorem rsync_at {w : World} {q b1 b2 b3 n : Nat} {D : Dk} (h : RfAt w q b1 b2 b3 n D) : Calls Try.prog 36 #[.pointer (some ⟨q, 0, none⟩)] w (RfDone q b1 b2 b3 n (stepS D) (errOff (stepS D).off) w) := by
  have c5 := h.c5
  have G := Lib.hid (goes_at h)
  have H := Lib.hid h
  have few := h.few
  have EMP : ByteArray.toList { data := #[] } = [] := by rw [ByteArray.toList_eq]
  by_cases ho : D.off = true
  · rw [stepS, if_pos ho, ho]
    rw [ho] at c5
    have e6 : errOff true = 6 := rfl
    clear h ho
    go_enter Try.func36, Try.ntmps36
    go_wp2_with fail
    go_ret
    exact ⟨rfl, H.out, Only.refl _ _⟩
  have ho' : D.off = false := by simpa using ho
  rw [ho'] at c5
  by_cases h2 : (opD D).off = true
  · rw [stepS, if_neg ho, if_pos h2, h2]
    have H2 := Lib.hid h2
    clear h ho h2 ho'
    go_enter Try.func36, Try.ntmps36
    go_wp2_with fail
    refine G.out.mono ?_
    rintro _ w1 ⟨he, hr, k⟩
    rw [H2.out] at he
    subst he
    have HR := Lib.hid hr
    have HK := Lib.hid k
    clear hr k
    go_wp2_with fail
    go_ret
    exact ⟨rfl, HR.out, HK.out.sub (by simp)⟩
  have h2' : (opD D).off = false := by simpa using h2
  have e0 : errOff (stepS D).off = 0 := by rw [stepS_eq ho h2]; show errOff (opD D).off = 0; rw [h2']; rfl
  rw [e0, stepS_eq ho h2]
  have H2 := Lib.hid h2'
  clear h ho h2 ho' h2' e0
  go_enter Try.func36, Try.ntmps36
  go_wp2_with fail
  refine G.out.mono ?_
  rintro _ w1 ⟨he, hr, k⟩
  rw [H2.out] at he
  subst he
  have HR := Lib.hid hr
  have HK := Lib.hid k
  have I0 : Hid (SyInv q b1 b2 b3 n (opD D) w1 w1 0) := Lib.hid ⟨hr.row, by simpa using hr.r1, by simpa using hr.r2, hr.r3, Only.refl _ _⟩
  clear hr k c5
  generalize opD D = E at *
  go_wp2_with fail
  go_loopw [3] (fun u wr => ∃ i : Nat, i ≤ n ∧ u = .int .i64 i ∧ Hid (SyInv q b1 b2 b3 n E w1 wr i)) (fun u _ => n - (intOf u).toNat)
  case atStart => exact ⟨0, by omega, rfl, I0⟩
  case round =>
    clear I0
    obtain ⟨i, hi, rfl, HI⟩ := hrel
    have i0 : (0 : Int) ≤ (i : Int) := Int.natCast_nonneg _
    have c1 : wr.cell? ⟨q, 1, none⟩ = some (.slice (some ⟨b2, 0, none⟩) n n) := HI.out.row.cell 1
    by_cases hlt : i < n
    · have d1 : decide ((i : Int) < (n : Int)) = true := decide_eq_true (by omega)
      have d1' : (i : Int) < (n : Int) := by omega
      have l2 : wr.cell? ⟨b2, i, none⟩ = some (waG E.waits i) := ((HI.out.r2.cell i).trans (tab_get n _ i hlt)).trans (by rw [if_neg (by omega)])
      unfold waG at l2
      cases hf : findS (i : Int) E.waits with
      | none =>
        rw [hf] at l2
        have F2 := Lib.hid (HI.out.skip hf)
        clear hf
        go_wp2_with fail
        go_roundw
        case rel => exact ⟨i + 1, by omega, by go_num, F2⟩
        case measure => simp [intOf]; omega
      | some s =>
        rw [hf] at l2
        have e1 := strV_ne (sec_of HR.out.fine hf)
        have I2 : Hid (SyInv q b1 b2 b3 n E w1 wr.drew i) := Lib.hid ⟨HI.out.row.only ((Only.refl [] _).drew) (by simp), HI.out.r1.only ((Only.refl [] _).drew) (by simp), HI.out.r2.only ((Only.refl [] _).drew) (by simp), HI.out.r3.only ((Only.refl [] _).drew) (by simp), HI.out.on.drew⟩
        have F2 := Lib.hid (I2.out.take hf HR.out.ne)
        simp only [strV] at l2 F2
        obtain ⟨n1, n2, n3, n4, n5, n6⟩ := HR.out.ne
        have n1' : b1 ≠ q := fun e => n1 e.symm
        have n4' : b2 ≠ b1 := fun e => n4 e.symm
        have z0 : wr.drew.cell? ⟨q, 0, none⟩ = some (.slice (some ⟨b1, 0, none⟩) n n) := I2.out.row.cell 0
        have z1 : wr.drew.cell? ⟨q, 1, none⟩ = some (.slice (some ⟨b2, 0, none⟩) n n) := I2.out.row.cell 1
        have z2 : wr.drew.cell? ⟨b2, i, none⟩ = some (.string (strOfNums s)) := l2
        have z3 : wr.drew.cell? ⟨b1, i, none⟩ = some _ := (I2.out.r1.cell i).trans (tab_get n _ i hlt)
        have z4 := I2.out.r1.free i
        have z5 := I2.out.r2.free i
        clear hf
        go_wp2_with fail
        refine wp_region_still_tail 13 (by kernel_rfl) (by kernel_rfl) ?_
        simp only [List.take_succ_cons, List.take_zero, List.drop_succ_cons, List.drop_zero]
        iterate 13 still_step
        refine wpStill_nil ?_
        change wpList _ _ _ _ _ wr.drew
        generalize wr.drew = wd at *
        go_wp2_with fail
        go_roundw
        case rel => exact ⟨i + 1, by omega, by go_num, F2⟩
        case measure => simp [intOf]; omega
    · have d1 : decide ((i : Int) < (n : Int)) = false := decide_eq_false (by omega)
      have F9 : Hid (RfAt wr q b1 b2 b3 n (synD E)) := Lib.hid (by
        have : i = n := by omega
        subst this
        exact HI.out.done HR.out)
      go_wp2_with fail
      go_ret
      exact ⟨rfl, F9.out, (HK.out.sub (by simp)).and (HI.out.on.sub (by simp))⟩
end Go.Proofs.Ytiheobbollpaaaa
