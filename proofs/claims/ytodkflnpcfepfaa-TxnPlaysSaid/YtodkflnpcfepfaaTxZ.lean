/- The document's manager: done. -/
import Derived.Test.YtodkflnpcfepfaaTxY
namespace Go.Proofs.Ytodkflnpcfepfaa
open Go.RowKit Go.ChangeShapes Go.WideShapes Go.ChangeAt
set_option linter.unusedVariables false
set_option linter.unusedSimpArgs false

def doneAt (l : List RT) (t : Int) : List (Int × Int) := (l.filter fun x => decide (x.at_ = t)).map fun x => (x.n, t)
def doneTo (l : List RT) : Nat → List (Int × Int)
  | 0 => []
  | k + 1 => doneTo l k ++ doneAt l ((k : Int) + 1)
def doneL (R : Rf) : List (Int × Int) := doneTo R.all R.last.toNat
theorem doneAt_take {l : List RT} {j : Nat} {x : RT} (h : l[j]? = some x) (t : Int) : doneAt (l.take (j + 1)) t = doneAt (l.take j) t ++ (if x.at_ = t then [(x.n, t)] else []) := by
  rw [take_snoc h]
  unfold doneAt
  rw [List.filter_append, List.map_append]
  by_cases e : x.at_ = t <;> simp [e]
theorem doneAt_le (l : List RT) (t : Int) (j : Nat) : (doneAt (l.take j) t).length ≤ l.length := by
  unfold doneAt
  rw [List.length_map]
  refine Nat.le_trans (List.length_filter_le _ _) ?_
  rw [List.length_take]
  omega
theorem doneTo_le (l : List RT) : ∀ k, (doneTo l k).length ≤ k * l.length := by
  intro k
  induction k with
  | zero => simp [doneTo]
  | succ k ih =>
    simp only [doneTo, List.length_append]
    have := doneAt_le l ((k : Int) + 1) l.length
    rw [List.take_length] at this
    rw [Nat.succ_mul]
    omega
theorem stamp_new (w : World) (x y : Value) (t : TypeId) : ∀ j u, [x, y][j]? = some u → (w.alloc (.cells #[x, y] t)).cell? ((⟨w.heap.size, 0, none⟩ : Addr).add j) = some u := by
  intro j u hj
  have hr : Row (w.alloc (.cells #[x, y] t)) w.heap.size #[x, y] t := Row.made w _ _
  rw [add_plain, Nat.zero_add, hr.cell j]
  rcases j with _ | _ | j
  · simpa using hj
  · simpa using hj
  · simp at hj
def StampsTo (ds : List (Int × Int)) (w : World) (e : Ending) (w' : World) : Prop := ∃ a c, e = .returned (.slice a ds.length c) ∧ w'.ownsRow w.heap.size tSt 2 (.slice a ds.length c) ds.length (dsL ds) ∧ Below w.heap.size w w'
structure StInv (w wr : World) (v : Value) (ds : List (Int × Int)) : Prop where
  own : wr.ownsRow w.heap.size tSt 2 v ds.length (dsL ds)
  bl : Below w.heap.size w wr
theorem StInv.append {w wr w1 : World} {v v' : Value} {ds : List (Int × Int)} {x t : Int} {o : Obj} (h : StInv w wr v ds) (hown : w1.ownsRow w.heap.size tSt 2 v' (ds.length + 1) (dsL ds ++ [.int .u64 x, .int .u64 t])) (hg : (wr.alloc o).grownBy w1 v.ownBlock) : StInv w w1 v' (ds ++ [(x, t)]) := by
  have b1 : Below w.heap.size w (wr.alloc o) := h.bl.alloc h.bl.size _
  refine ⟨?_, b1.grown hg (by simp; have := h.bl.size; omega) (fun k hk => (h.own.lt k hk).1)⟩
  rw [dsL_append]
  simpa [dsL] using hown
set_option maxRecDepth 100000 in
set_option maxHeartbeats 4000000 in
theorem done_ref {w : World} {B p : Nat} {av : Value} {R : Rf} (h : RfAt w B p av R) :
    Calls Try.prog 40 #[.pointer (some ⟨p, 0, none⟩)] w (StampsTo (doneL R) w) := by
  have H := Lib.hid h
  obtain ⟨a, c, hav⟩ := h.av_shape
  have hlen := h.fine.len
  have HAV := Lib.hid hav
  obtain ⟨m, hm⟩ : ∃ m, R.all.length = m := ⟨_, rfl⟩
  have HM := Lib.hid hm
  rw [hm] at hlen
  obtain ⟨last, hl⟩ : ∃ last : Nat, R.last = (last : Int) := ⟨R.last.toNat, by have := h.fine.last0; omega⟩
  have HL := Lib.hid hl
  have hlast : last ≤ 1000 := by have := h.fine.last0; omega
  have I0 : Hid (StInv w w (.slice none 0 0) (doneTo R.all 0)) := Lib.hid ⟨by simpa [doneTo, dsL] using World.ownsRow_nil w w.heap.size tSt 2, Below.refl _ _⟩
  obtain ⟨i0, hi, hz0, hz1, hz2⟩ := info_parts infoStamp
  clear h hav hm hl
  go_enter Try.func40, Try.ntmps40
  go_wp2_with fail
  go_loopw [3, 4] (fun v u wr => ∃ k : Nat, k ≤ last ∧ u = .int .u64 ((k : Int) + 1) ∧ Hid (StInv w wr v (doneTo R.all k))) (fun _ u _ => last + 1 - (intOf u).toNat)
  case atStart => exact ⟨0, by omega, rfl, I0⟩
  case round =>
    obtain ⟨k, hk, rfl, HI⟩ := hrel
    have HW : Hid (RfAt wr B p av R) := Lib.hid (H.out.only ((Only.refl [] w).below HI.out.bl) (by simp))
    have c2 : wr.cell? ⟨p, 2, none⟩ = some (.int .u64 (last : Int)) := by
      have := HW.out.row.cell 2
      rw [← HL.out]
      exact this
    by_cases hlt : k < last
    · have d1 : decide ((k : Int) + 1 ≤ (last : Int)) = true := decide_eq_true (by omega)
      have d1' : decide (k + 1 ≤ last) = true := decide_eq_true (by omega)
      have I1 := Lib.hid (show StInv w wr _ (doneTo R.all k ++ doneAt (R.all.take 0) ((k : Int) + 1)) by simpa [doneAt] using HI.out)
      have HK := Lib.hid hlt
      clear hlt HI HW
      go_wp2_with fail
      clear c2
      go_loopw [3, 5] (fun v u wr => ∃ j : Nat, j ≤ m ∧ u = .int .i64 j ∧ Hid (StInv w wr v (doneTo R.all k ++ doneAt (R.all.take j) ((k : Int) + 1)))) (fun _ u _ => m - (intOf u).toNat)
      case atStart => exact ⟨0, by omega, rfl, I1⟩
      case round =>
        obtain ⟨j, hj, rfl, HI⟩ := hrel
        have HW : Hid (RfAt wr B p av R) := Lib.hid (H.out.only ((Only.refl [] w).below HI.out.bl) (by simp))
        have c1 : wr.cell? ⟨p, 1, none⟩ = some (.slice a m c) := by
          have := HW.out.row.cell 1
          rw [HAV.out, HM.out] at this
          exact this
        by_cases hlt : j < m
        · have d2 : decide ((j : Int) < (m : Int)) = true := decide_eq_true (by omega)
          have d2' : decide (j < m) = true := decide_eq_true hlt
          obtain ⟨x, hx⟩ : ∃ x, R.all[j]? = some x := ⟨_, List.getElem?_eq_getElem (by rw [HM.out]; exact hlt)⟩
          have TK := Lib.hid (doneAt_take hx ((k : Int) + 1))
          obtain ⟨g, cap, e1, hcap, hB, hR⟩ := HW.out.at_ hx
          rw [HAV.out] at e1
          simp only [Value.slice.injEq] at e1
          obtain ⟨rfl, _, rfl⟩ := e1
          have r0 := hR.c0
          have r2 := hR.c2
          clear hR hx hB hcap
          by_cases ho : x.at_ = (k : Int) + 1
          · rw [ho] at r2
            have TK2 : Hid (doneAt (R.all.take (j + 1)) ((k : Int) + 1) = doneAt (R.all.take j) ((k : Int) + 1) ++ [(x.n, (k : Int) + 1)]) := Lib.hid (by rw [TK.out, if_pos ho])
            have LE : Hid ((doneTo R.all k ++ doneAt (R.all.take j) ((k : Int) + 1)).length ≤ 1001000) := Lib.hid (by
              have l1 := doneTo_le R.all k
              have l2 := doneAt_le R.all ((k : Int) + 1) j
              rw [HM.out] at l1 l2
              have l3 : k * m ≤ 1000 * 1000 := Nat.mul_le_mul (by omega) hlen
              rw [List.length_append]
              omega)
            have BS : Hid (w.heap.size ≤ wr.heap.size) := Lib.hid HI.out.bl.size
            clear ho TK
            generalize hy : doneTo R.all k ++ doneAt (R.all.take j) ((k : Int) + 1) = ys at HI LE
            have HY := Lib.hid hy
            clear hy
            go_wp2_with (at_builtin; refine wpList_append_at rfl (.tmp 33) (.tmp 44) 40 rfl w.heap.size tSt i0 (.agg #[.int .u64 0, .int .u64 0]) 2 16 Try.underlying40 hi hz0 hz1 hz2 rfl (by decide) _ _ _ rfl (HI.out.own.alloc _) ⟨wr.heap.size, 0, none⟩ 1 1 [.int .u64 x.n, .int .u64 ((k : Int) + 1)] rfl rfl (stamp_new _ _ _ _) (by simp [Value.oneCell']) (by have := LE.out; unfold maxLen; omega) (by have := LE.out; omega) (by have := BS.out; simp; omega) ?_; intro v' w1 hown' hgrow _)
            have NX : Hid (StInv w w1 v' (doneTo R.all k ++ doneAt (R.all.take (j + 1)) ((k : Int) + 1))) := Lib.hid (by
              have h := HI.out.append hown' hgrow
              rw [← HY.out] at h
              rw [TK2.out, ← List.append_assoc]
              exact h)
            clear hown' hgrow
            go_roundw
            case rel => exact ⟨j + 1, by omega, by go_num, NX⟩
            case measure => simp [intOf]; omega
          · have f1 : (x.at_ == (k : Int) + 1) = false := by simpa using ho
            have f2 : decide (x.at_ = (k : Int) + 1) = false := decide_eq_false ho
            have TK2 : Hid (doneAt (R.all.take (j + 1)) ((k : Int) + 1) = doneAt (R.all.take j) ((k : Int) + 1)) := Lib.hid (by rw [TK.out, if_neg ho, List.append_nil])
            generalize x.at_ = xa at r2 f1 f2
            clear ho TK
            go_wp2_with fail
            go_roundw
            case rel => exact ⟨j + 1, by omega, by go_num, by rw [TK2.out]; exact HI⟩
            case measure => simp [intOf]; omega
        · have d2 : decide ((j : Int) < (m : Int)) = false := decide_eq_false (by omega)
          have d2' : decide (j < m) = false := decide_eq_false hlt
          have NX : Hid (StInv w wr _ (doneTo R.all (k + 1))) := Lib.hid (by
            have := HI.out
            rw [List.take_of_length_le (by rw [HM.out]; omega)] at this
            exact this)
          clear hlt HI
          go_wp2_with fail
          go_roundw
          case rel => exact ⟨k + 1, by have := HK.out; omega, by go_num, NX⟩
          case measure => simp [intOf]; have := HK.out; omega
    · have d1 : decide ((k : Int) + 1 ≤ (last : Int)) = false := decide_eq_false (by omega)
      have d1' : decide (k + 1 ≤ last) = false := decide_eq_false (by omega)
      have NX : Hid (StInv w wr _ (doneL R)) := Lib.hid (by
        have := HI.out
        have e : k = R.last.toNat := by rw [HL.out]; omega
        rw [e] at this
        exact this)
      clear hlt HI
      go_wp2_with fail
      go_ret
      have hown := NX.out.own
      obtain ⟨a9, c9, rfl⟩ := own_len hown
      exact ⟨a9, c9, rfl, hown, NX.out.bl⟩
end Go.Proofs.Ytodkflnpcfepfaa
