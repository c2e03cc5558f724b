/- The document's device: Crash. -/
import Derived.Test.YtiheobbollpaaaaDkV
namespace Go.Proofs.Ytiheobbollpaaaa
open Go.RowKit Go.ChangeShapes Go.WideShapes Go.ChangeAt
set_option linter.unusedVariables false

/-- The first i sectors hold what Z tells, and do not wait. -/
structure UpInv (q b1 b2 b3 n : Nat) (D : Dk) (Z : Int → List Int) (w wr : World) (i : Nat) : Prop where
  row : Row wr q (rfCells b1 b2 b3 n D) tRef
  r1 : Row wr b1 (tab n fun k => if k < i then laG Z k else laG D.last k) 9
  r2 : Row wr b2 (tab n fun k => if k < i then .string ByteArray.empty else waG D.waits k) 9
  r3 : Row wr b3 (tab n (seG D.seen)) 4
  on : Only [b1, b2] w wr
theorem UpInv.drew {q b1 b2 b3 n : Nat} {D : Dk} {Z : Int → List Int} {w wr : World} {i : Nat} (h : UpInv q b1 b2 b3 n D Z w wr i) : UpInv q b1 b2 b3 n D Z w wr.drew i :=
  ⟨h.row.only ((Only.refl [] _).drew) (by simp), h.r1.only ((Only.refl [] _).drew) (by simp), h.r2.only ((Only.refl [] _).drew) (by simp), h.r3.only ((Only.refl [] _).drew) (by simp), h.on.drew⟩
theorem UpInv.r1_next {q b1 b2 b3 n : Nat} {D : Dk} {Z : Int → List Int} {w wr : World} {i : Nat} (h : UpInv q b1 b2 b3 n D Z w wr i) (hz : Z i = D.last i) : Row wr b1 (tab n fun k => if k < i + 1 then laG Z k else laG D.last k) 9 := by
  rw [tab_ext (h := fun k => if k < i then laG Z k else laG D.last k)]
  · exact h.r1
  · intro k hk
    by_cases h1 : k < i
    · rw [if_pos h1, if_pos (by omega)]
    · rw [if_neg h1]
      by_cases h2 : k = i
      · subst h2; rw [if_pos (by omega)]; unfold laG; rw [hz]
      · rw [if_neg (by omega)]
theorem UpInv.skip {q b1 b2 b3 n : Nat} {D : Dk} {Z : Int → List Int} {w wr : World} {i : Nat} (h : UpInv q b1 b2 b3 n D Z w wr i) (hf : findS (i : Int) D.waits = none) (hz : Z i = D.last i) : UpInv q b1 b2 b3 n D Z w wr (i + 1) := by
  refine ⟨h.row, h.r1_next hz, ?_, h.r3, h.on⟩
  rw [tab_ext (h := fun k => if k < i then .string ByteArray.empty else waG D.waits k)]
  · exact h.r2
  · intro k hk
    by_cases h1 : k < i
    · rw [if_pos h1, if_pos (by omega)]
    · rw [if_neg h1]
      by_cases h2 : k = i
      · subst h2; rw [if_pos (by omega)]; unfold waG; rw [hf]
      · rw [if_neg (by omega)]
theorem empty_next (b2 n i : Nat) (D : Dk) {w : World} (h : Row w b2 (tab n fun k => if k < i then .string ByteArray.empty else waG D.waits k) 9) : Row (w.setCell ⟨b2, i, none⟩ (.string ByteArray.empty)) b2 (tab n fun k => if k < i + 1 then .string ByteArray.empty else waG D.waits k) 9 := by
  have := h.set i (.string ByteArray.empty)
  rw [tab_set (h := fun k => if k < i + 1 then .string ByteArray.empty else waG D.waits k)] at this
  · exact this
  · intro j hj
    by_cases e : j = i
    · subst e; rw [if_pos (by omega), if_pos rfl]
    · rw [if_neg e]
      by_cases h1 : j < i
      · rw [if_pos (by omega), if_pos h1]
      · rw [if_neg (by omega), if_neg h1]
/-- It waits, and is lost. -/
theorem UpInv.lost {q b1 b2 b3 n : Nat} {D : Dk} {Z : Int → List Int} {w wr : World} {i : Nat} (h : UpInv q b1 b2 b3 n D Z w wr i) (hz : Z i = D.last i) (hn : q ≠ b1 ∧ q ≠ b2 ∧ q ≠ b3 ∧ b1 ≠ b2 ∧ b1 ≠ b3 ∧ b2 ≠ b3) :
    UpInv q b1 b2 b3 n D Z w (wr.setCell ⟨b2, i, none⟩ (.string ByteArray.empty)) (i + 1) := by
  obtain ⟨n1, n2, n3, n4, n5, n6⟩ := hn
  have kB : Only [b2] wr (wr.setCell ⟨b2, i, none⟩ (.string ByteArray.empty)) := (Only.refl _ _).setCell (by simp) _
  exact ⟨h.row.only kB (by simp; exact n2), (h.r1_next hz).only kB (by simp; exact n4), empty_next b2 n i D h.r2, h.r3.only kB (by simp; exact fun e => n6 e.symm), h.on.and (kB.sub (by simp))⟩
/-- It waits, and becomes s. -/
theorem UpInv.take {q b1 b2 b3 n : Nat} {D : Dk} {Z : Int → List Int} {w wr : World} {i : Nat} {s : List Int} (h : UpInv q b1 b2 b3 n D Z w wr i) (hz : Z i = s) (hn : q ≠ b1 ∧ q ≠ b2 ∧ q ≠ b3 ∧ b1 ≠ b2 ∧ b1 ≠ b3 ∧ b2 ≠ b3) :
    UpInv q b1 b2 b3 n D Z w ((wr.setCell ⟨b1, i, none⟩ (strV s)).setCell ⟨b2, i, none⟩ (.string ByteArray.empty)) (i + 1) := by
  obtain ⟨n1, n2, n3, n4, n5, n6⟩ := hn
  have k1 : Only [b1, b2] wr ((wr.setCell ⟨b1, i, none⟩ (strV s)).setCell ⟨b2, i, none⟩ (.string ByteArray.empty)) := ((Only.refl _ _).setCell (by simp) _).setCell (by simp) _
  have kA : Only [b1] wr (wr.setCell ⟨b1, i, none⟩ (strV s)) := (Only.refl _ _).setCell (by simp) _
  have kB : Only [b2] (wr.setCell ⟨b1, i, none⟩ (strV s)) ((wr.setCell ⟨b1, i, none⟩ (strV s)).setCell ⟨b2, i, none⟩ (.string ByteArray.empty)) := (Only.refl _ _).setCell (by simp) _
  refine ⟨h.row.only k1 (by simp; exact ⟨n1, n2⟩), ?_, empty_next b2 n i D (h.r2.only kA (by simp; exact fun e => n4 e.symm)), h.r3.only k1 (by simp; exact ⟨fun e => n5 e.symm, fun e => n6 e.symm⟩), h.on.and k1⟩
  have := (h.r1.set i (strV s)).only kB (by simp; exact n4)
  rw [tab_set (h := fun k => if k < i + 1 then laG Z k else laG D.last k)] at this
  · exact this
  · intro j hj
    by_cases e : j = i
    · subst e; rw [if_pos (by omega), if_pos rfl]; unfold laG; rw [hz]
    · rw [if_neg e]
      by_cases h1 : j < i
      · rw [if_pos (by omega), if_pos h1]
      · rw [if_neg (by omega), if_neg h1]
theorem crashD_fine {D : Dk} {pk : List Int} (hf : D.Fine) (hn : (D.waits.map (·.1)).Nodup) : (crashD D pk).Fine := by
  refine ⟨hf.s0, hf.s1, hf.m0, hf.m1, by simp [crashD], by simp [crashD], fun k => ?_, by simp [crashD], hf.se⟩
  rcases crash_sector (pk := pk) hn k with ⟨_, h⟩ | ⟨j, s, _, h1, h2⟩
  · show IsSec (sectorD (crashD D pk) k); rw [h]; exact hf.la k
  · show IsSec (sectorD (crashD D pk) k); rw [h2]; exact mixS_is (by rw [← sectorD_waits h1]; exact sectorD_is hf k) (hf.la k)
theorem UpInv.done {q b1 b2 b3 n : Nat} {D : Dk} {pk : List Int} {w wr : World} (h : UpInv q b1 b2 b3 n D (crashD D pk).last w wr n) (h0 : RfAt w q b1 b2 b3 n D) :
    RfAt ((wr.setCell ⟨q, 5, none⟩ (.bool false)).setCell ⟨q, 4, none⟩ (.int .i64 0)) q b1 b2 b3 n (crashD D pk) := by
  obtain ⟨n1, n2, n3, n4, n5, n6⟩ := h0.ne
  have k : Only [q] wr ((wr.setCell ⟨q, 5, none⟩ (.bool false)).setCell ⟨q, 4, none⟩ (.int .i64 0)) := ((Only.refl _ _).setCell (by simp) _).setCell (by simp) _
  refine ⟨?_, ?_, ?_, h.r3.only k (by simp; exact fun e => n3 e.symm), h0.nd, crashD_fine h0.fine h0.wn, h0.sec, h0.sn, by simp [crashD]⟩
  · have := (h.row.set 5 (.bool false)).set 4 (.int .i64 0)
    simpa [rfCells, crashD] using this
  · have := h.r1.only k (by simp; exact fun e => n1 e.symm)
    rw [tab_ext (h := laG (crashD D pk).last)] at this
    · exact this
    · intro j hj
      rw [if_pos hj]
  · have := h.r2.only k (by simp; exact fun e => n2 e.symm)
    rw [tab_ext (h := waG (crashD D pk).waits)] at this
    · exact this
    · intro j hj
      rw [if_pos hj]; rfl
theorem str_append (a b : List Int) : strOfNums a ++ strOfNums b = strOfNums (a ++ b) := by
  refine byteArray_ext' ?_
  rw [ByteArray.data_append, Array.toList_append, strOfNums_data, strOfNums_data, strOfNums_data, List.map_append]
def RCrashPost (q b1 b2 b3 n : Nat) (D' : Dk) (w : World) (e : Ending) (w' : World) : Prop := e = .returned (.tuple #[]) ∧ RfAt w' q b1 b2 b3 n D' ∧ Only [q, b1, b2, b3] w w'
set_option maxRecDepth 100000 in
set_option maxHeartbeats 8000000 in
theorem rcrash_at {w : World} {q b1 b2 b3 n : Nat} {D : Dk} (h : RfAt w q b1 b2 b3 n D) {ap : Option Addr} {m cp : Nat} {pk : List Int} (hm : pk.length = m) (hpk : Ints .u8 w (.slice ap m cp) pk) (hb : ∀ x ∈ pk, 0 ≤ x ∧ x < 256) (hap : 0 < m → ∀ a, ap = some a → a.block ≠ b1 ∧ a.block ≠ b2) :
    Calls Try.prog 38 #[.pointer (some ⟨q, 0, none⟩), .slice ap m cp] w (RCrashPost q b1 b2 b3 n (crashD D pk) w) := by
  have few := h.few
  have EMP : ByteArray.toList { data := #[] } = [] := by rw [ByteArray.toList_eq]
  have EMP2 : ByteArray.toList ByteArray.empty = [] := by rw [ByteArray.toList_eq]; rfl
  have I0 : Hid (UpInv q b1 b2 b3 n D (crashD D pk).last w w 0) := Lib.hid ⟨h.row, by simpa using h.r1, by simpa using h.r2, h.r3, Only.refl _ _⟩
  have H := Lib.hid h
  have HM := Lib.hid hm
  have HPK := Lib.hid hpk
  have HB := Lib.hid hb
  have HAP := Lib.hid hap
  clear h hm hpk hb hap
  go_enter Try.func38, Try.ntmps38
  go_wp2_with fail
  go_loopw [4, 5, 6, 7] (fun u v _ _ wr => ∃ i : Nat, i ≤ n ∧ u = .int .i64 (rank D i : Nat) ∧ v = .int .i64 i ∧ Hid (UpInv q b1 b2 b3 n D (crashD D pk).last w wr i)) (fun _ v _ _ _ => n - (intOf v).toNat)
  case atStart => exact ⟨0, by omega, rfl, rfl, I0⟩
  case round =>
    clear I0
    obtain ⟨i, hi, rfl, rfl, HI⟩ := hrel
    have i0 : (0 : Int) ≤ (i : Int) := Int.natCast_nonneg _
    have c1 : wr.cell? ⟨q, 1, none⟩ = some (.slice (some ⟨b2, 0, none⟩) n n) := HI.out.row.cell 1
    have c0 : wr.cell? ⟨q, 0, none⟩ = some (.slice (some ⟨b1, 0, none⟩) n n) := HI.out.row.cell 0
    have hrl : rank D i ≤ i := by unfold rank; have := List.length_filter_le (waitsB D) (List.range i); simpa using this
    have hrs := rank_succ D i
    have hcr := fun (hi : i < n) (s : List Int) (hw : findS (i : Int) D.waits = some s) => crash_rank (pk := pk) H.out.fine H.out.sec H.out.wn hi hw
    generalize rank D i = r at hrl hrs hcr
    have r0 : (0 : Int) ≤ (r : Int) := Int.natCast_nonneg _
    have r9 : (r : Int) ≤ 65536 := by omega
    by_cases hlt : i < n
    · have d1 : decide ((i : Int) < (n : Int)) = true := decide_eq_true (by omega)
      have d1' : (i : Int) < (n : Int) := by omega
      have l2 : wr.cell? ⟨b2, i, none⟩ = some (waG D.waits i) := ((HI.out.r2.cell i).trans (tab_get n _ i hlt)).trans (by rw [if_neg (by omega)])
      have l1 : wr.cell? ⟨b1, i, none⟩ = some (laG D.last i) := ((HI.out.r1.cell i).trans (tab_get n _ i hlt)).trans (by rw [if_neg (by omega)])
      unfold waG at l2
      cases hf : findS (i : Int) D.waits with
      | none =>
        rw [hf] at l2
        have l2 : wr.cell? ⟨b2, i, none⟩ = some (.string ByteArray.empty) := l2
        have F2 := Lib.hid (HI.out.skip hf (crash_still H.out.wn hf))
        rw [waitsB, hf, if_neg (by simp), Nat.add_zero] at hrs
        have HR := Lib.hid hrs
        clear hf hrs hcr
        go_wp2_with fail
        go_roundw
        case rel => exact ⟨i + 1, by omega, by rw [HR.out]; rfl, by go_num, F2⟩
        case measure => simp [intOf]; omega
      | some s =>
        rw [hf] at l2
        have h128 := sec_of H.out.fine hf
        have o128 := (H.out.fine.la (i : Int)).1
        have e1 := strV_ne h128
        have zc := hcr hlt s hf
        rw [waitsB, hf, if_pos (by rfl)] at hrs
        have HR := Lib.hid hrs
        have HZ := Lib.hid zc
        have H128 := Lib.hid h128
        have O128 := Lib.hid o128
        have lo := str_lo s
        have hi' := str_hi h128
        have lo2 := str_lo (D.last (i : Int))
        have hi2 := str_hi o128
        have sz1 := str_size h128
        have sz2 := str_size o128
        simp only [strV] at l2
        unfold laG at l1
        simp only [strV] at l1
        obtain ⟨n1, n2, n3, n4, n5, n6⟩ := H.out.ne
        have n1' : b1 ≠ q := fun e => n1 e.symm
        have n2' : b2 ≠ q := fun e => n2 e.symm
        have n4' : b2 ≠ b1 := fun e => n4 e.symm
        have z4 := HI.out.r1.free i
        have z5 := HI.out.r2.free i
        clear hf hrs hcr zc h128 o128
        by_cases hr : r < m
        · have d2 : decide ((r : Int) < (m : Int)) = true := decide_eq_true (by omega)
          have d2' : (r : Int) < (m : Int) := by omega
          obtain ⟨pb, po, pcap, hpv, hpc⟩ := HPK.out.shape (by rw [HM.out]; omega)
          rw [HM.out] at hpv
          simp only [Value.slice.injEq] at hpv
          obtain ⟨rfl, _, rfl⟩ := hpv
          have CP := hpc r (by rw [HM.out]; omega)
          have hpb : pb ∉ [b1, b2] := by have h3 := HAP.out (by omega) _ rfl; simp; exact h3
          have CP2 := (HI.out.on.cell (World.block_lt_of_cell? _ _ CP) hpb).trans CP
          have hxm : pk[r]?.getD 0 ∈ pk := by rw [List.getElem?_eq_getElem (by rw [HM.out]; omega)]; exact List.getElem_mem _
          have hxr := HB.out _ hxm
          have HC0 : pickAt pk r = pk[r]?.getD 0 % 4 := by unfold pickAt; rw [if_pos (by rw [HM.out]; exact hr)]
          generalize pk[r]?.getD 0 = x at CP2 hxr HC0
          have t0 : x.tmod 4 = x % 4 := Int.tmod_eq_emod_of_nonneg hxr.1
          obtain ⟨c, hc⟩ : ∃ c, x % 4 = c := ⟨_, rfl⟩
          rw [hc] at HC0 t0
          have hc4 : c = 0 ∨ c = 1 ∨ c = 2 ∨ c = 3 := by omega
          have HC := Lib.hid HC0
          clear hpc CP hpb hxm hxr HC0
          rcases hc4 with rfl | rfl | rfl | rfl
          · have F2 := Lib.hid (HI.out.lost (by rw [HZ.out, HC.out]; exact mixS_zero _ _ H128.out O128.out) H.out.ne)
            go_wp2_with fail
            go_roundw
            case rel => exact ⟨i + 1, by omega, by rw [HR.out]; go_num, by go_num, F2⟩
            case measure => simp [intOf]; omega
          · have F2 := Lib.hid (HI.out.drew.take (s := s) (by rw [HZ.out, HC.out]; exact mixS_one _ _) H.out.ne)
            simp only [strV] at F2
            have y0 : wr.drew.cell? ⟨q, 0, none⟩ = some (.slice (some ⟨b1, 0, none⟩) n n) := c0
            have y1 : wr.drew.cell? ⟨q, 1, none⟩ = some (.slice (some ⟨b2, 0, none⟩) n n) := c1
            have y2 : wr.drew.cell? ⟨b2, i, none⟩ = some (.string (strOfNums s)) := l2
            have y3 : wr.drew.cell? ⟨b1, i, none⟩ = some (.string (strOfNums (D.last (i : Int)))) := l1
            have y4 : wr.drew.frozen? ⟨b1, i, none⟩ = false := z4
            have y5 : wr.drew.frozen? ⟨b2, i, none⟩ = false := z5
            go_wp2_with fail
            refine wp_region_still_tail 13 (by kernel_rfl) (by kernel_rfl) ?_
            simp only [List.take_succ_cons, List.take_zero, List.drop_succ_cons, List.drop_zero]
            iterate 13 still_step
            refine wpStill_nil ?_
            change wpList _ _ _ _ _ wr.drew
            generalize wr.drew = wd at *
            go_wp2_with fail
            go_roundw
            case rel => exact ⟨i + 1, by omega, by rw [HR.out]; go_num, by go_num, F2⟩
            case measure => simp [intOf]; omega
          · have ap := str_append (s.take 64) ((D.last (i : Int)).drop 64)
            have sa : (strOfNums (s.take 64)).size = 64 := by rw [strOfNums_size, List.length_take, H128.out]; rfl
            have sb : (strOfNums ((D.last (i : Int)).drop 64)).size = 64 := by rw [strOfNums_size, List.length_drop, O128.out]
            have F2 := Lib.hid (HI.out.drew.take (s := s.take 64 ++ (D.last (i : Int)).drop 64) (by rw [HZ.out, HC.out]; rw [mixS, if_neg (by simp), mixA, if_pos (by decide)]) H.out.ne)
            simp only [strV] at F2
            have y0 : wr.drew.cell? ⟨q, 0, none⟩ = some (.slice (some ⟨b1, 0, none⟩) n n) := c0
            have y1 : wr.drew.cell? ⟨q, 1, none⟩ = some (.slice (some ⟨b2, 0, none⟩) n n) := c1
            have y2 : wr.drew.cell? ⟨b2, i, none⟩ = some (.string (strOfNums s)) := l2
            have y3 : wr.drew.cell? ⟨b1, i, none⟩ = some (.string (strOfNums (D.last (i : Int)))) := l1
            have y4 : wr.drew.frozen? ⟨b1, i, none⟩ = false := z4
            have y5 : wr.drew.frozen? ⟨b2, i, none⟩ = false := z5
            go_wp2_with fail
            refine wp_region_still_tail 17 (by kernel_rfl) (by kernel_rfl) ?_
            simp only [List.take_succ_cons, List.take_zero, List.drop_succ_cons, List.drop_zero]
            iterate 17 still_step
            refine wpStill_nil ?_
            change wpList _ _ _ _ _ wr.drew
            generalize wr.drew = wd at *
            go_wp2_with fail
            go_roundw
            case rel => exact ⟨i + 1, by omega, by rw [HR.out]; go_num, by go_num, F2⟩
            case measure => simp [intOf]; omega
          · have ap := str_append ((D.last (i : Int)).take 64) (s.drop 64)
            have sa : (strOfNums ((D.last (i : Int)).take 64)).size = 64 := by rw [strOfNums_size, List.length_take, O128.out]; rfl
            have sb : (strOfNums (s.drop 64)).size = 64 := by rw [strOfNums_size, List.length_drop, H128.out]
            have F2 := Lib.hid (HI.out.drew.take (s := (D.last (i : Int)).take 64 ++ s.drop 64) (by rw [HZ.out, HC.out]; rw [mixS, if_pos (by simp), mixA, if_neg (by decide)]) H.out.ne)
            simp only [strV] at F2
            have y0 : wr.drew.cell? ⟨q, 0, none⟩ = some (.slice (some ⟨b1, 0, none⟩) n n) := c0
            have y1 : wr.drew.cell? ⟨q, 1, none⟩ = some (.slice (some ⟨b2, 0, none⟩) n n) := c1
            have y2 : wr.drew.cell? ⟨b2, i, none⟩ = some (.string (strOfNums s)) := l2
            have y3 : wr.drew.cell? ⟨b1, i, none⟩ = some (.string (strOfNums (D.last (i : Int)))) := l1
            have y4 : wr.drew.frozen? ⟨b1, i, none⟩ = false := z4
            have y5 : wr.drew.frozen? ⟨b2, i, none⟩ = false := z5
            go_wp2_with fail
            refine wp_region_still_tail 17 (by kernel_rfl) (by kernel_rfl) ?_
            simp only [List.take_succ_cons, List.take_zero, List.drop_succ_cons, List.drop_zero]
            iterate 17 still_step
            refine wpStill_nil ?_
            change wpList _ _ _ _ _ wr.drew
            generalize wr.drew = wd at *
            go_wp2_with fail
            go_roundw
            case rel => exact ⟨i + 1, by omega, by rw [HR.out]; go_num, by go_num, F2⟩
            case measure => simp [intOf]; omega

        · have d2 : decide ((r : Int) < (m : Int)) = false := decide_eq_false (by omega)
          have HC : Hid (pickAt pk r = 0) := Lib.hid (by unfold pickAt; rw [if_neg (by rw [HM.out]; exact hr)])
          have F2 := Lib.hid (HI.out.lost (by rw [HZ.out, HC.out]; exact mixS_zero _ _ H128.out O128.out) H.out.ne)
          go_wp2_with fail
          go_roundw
          case rel => exact ⟨i + 1, by omega, by rw [HR.out]; go_num, by go_num, F2⟩
          case measure => simp [intOf]; omega

    · have d1 : decide ((i : Int) < (n : Int)) = false := decide_eq_false (by omega)
      have f5 := HI.out.row.free 5
      have f4 := HI.out.row.free 4
      have c5 : wr.cell? ⟨q, 5, none⟩ = some (.bool D.off) := HI.out.row.cell 5
      have c4 : wr.cell? ⟨q, 4, none⟩ = some (.int .i64 D.armed) := HI.out.row.cell 4
      have F9 : Hid (RfAt ((wr.setCell ⟨q, 5, none⟩ (.bool false)).setCell ⟨q, 4, none⟩ (.int .i64 0)) q b1 b2 b3 n (crashD D pk)) := Lib.hid (by
        have : i = n := by omega
        subst this
        exact HI.out.done H.out)
      clear hrs hcr
      go_wp2_with fail
      go_end0
      exact ⟨rfl, F9.out, (HI.out.on.sub (by simp)).and (((Only.refl [q] wr).setCell (.inl (by simp)) (p := ⟨q, 5, none⟩) (.bool false) |>.setCell (.inl (by simp)) (p := ⟨q, 4, none⟩) (.int .i64 0)).sub (by simp))⟩
end Go.Proofs.Ytiheobbollpaaaa
