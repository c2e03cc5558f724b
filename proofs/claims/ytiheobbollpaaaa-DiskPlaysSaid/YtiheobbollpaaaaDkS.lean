/- The document's device: goes, Used, List, Arm, Read. -/
import Derived.Test.YtiheobbollpaaaaDkR
namespace Go.Proofs.Ytiheobbollpaaaa
open Go.RowKit Go.ChangeShapes Go.WideShapes Go.ChangeAt
set_option linter.unusedVariables false

theorem RfAt.turned {w w' : World} {q b1 b2 b3 n : Nat} {D D' : Dk} (h : RfAt w q b1 b2 b3 n D) (k : Only [q] w w') (hr : Row w' q (rfCells b1 b2 b3 n D') tRef) (e1 : D'.last = D.last) (e2 : D'.waits = D.waits) (e3 : D'.seen = D.seen) (e4 : D'.sectors = D.sectors) (hf : D'.Fine) : RfAt w' q b1 b2 b3 n D' := by
  obtain ⟨n1, n2, n3, _⟩ := h.ne
  exact ⟨hr, by rw [e1]; exact h.r1.only k (by simp; exact fun e => n1 e.symm), by rw [e2]; exact h.r2.only k (by simp; exact fun e => n2 e.symm), by rw [e3]; exact h.r3.only k (by simp; exact fun e => n3 e.symm), h.nd, hf, e4.trans h.sec, by rw [e3]; exact h.sn, by rw [e2]; exact h.wn⟩
theorem opD_off' (D : Dk) : (opD D).off = (if 0 < D.armed then decide (D.armed - 1 = 0) else D.off) := by unfold opD; split <;> rfl
theorem opD_armed' (D : Dk) : (opD D).armed = (if 0 < D.armed then D.armed - 1 else D.armed) := by unfold opD; split <;> rfl
theorem RfAt.lt {w : World} {q b1 b2 b3 n : Nat} {D : Dk} (h : RfAt w q b1 b2 b3 n D) : ∀ b ∈ [q, b1, b2, b3], b < w.heap.size := by
  intro b hb
  simp only [List.mem_cons, List.not_mem_nil, or_false] at hb
  rcases hb with rfl | rfl | rfl | rfl
  · exact h.row.lt
  · exact h.r1.lt
  · exact h.r2.lt
  · exact h.r3.lt
/-! ### goes -/
def GoesPost (q b1 b2 b3 n : Nat) (D : Dk) (w : World) (e : Ending) (w' : World) : Prop := e = .returned (.bool (opD D).off) ∧ RfAt w' q b1 b2 b3 n (opD D) ∧ Only [q] w w'
set_option maxHeartbeats 1000000 in
theorem goes_at {w : World} {q b1 b2 b3 n : Nat} {D : Dk} (h : RfAt w q b1 b2 b3 n D) : Calls Try.prog 43 #[.pointer (some ⟨q, 0, none⟩)] w (GoesPost q b1 b2 b3 n D w) := by
  have c4 := h.c4
  have c5 := h.c5
  have f4 := h.row.free 4
  have f5 := h.row.free 5
  have a0 := h.fine.a0
  have a1 := h.fine.a1
  by_cases hp : 0 < D.armed
  · have d1 : decide (0 < D.armed) = true := decide_eq_true hp
    have END : Hid (RfAt ((w.setCell ⟨q, 4, none⟩ (.int .i64 (D.armed - 1))).setCell ⟨q, 5, none⟩ (.bool (D.armed - 1 == 0))) q b1 b2 b3 n (opD D) ∧ (opD D).off = (D.armed - 1 == 0)) := Lib.hid (by
      have e : (opD D).off = (D.armed - 1 == 0) := by rw [opD_off', if_pos hp]; by_cases h0 : D.armed - 1 = 0 <;> simp [h0]
      refine ⟨h.turned (((Only.refl [q] w).setCell (by simp) _).setCell (by simp) _) ?_ (opD_last D) (opD_waits D) (opD_seen D) (opD_sectors D) (opD_fine h.fine), e⟩
      have := (h.row.set 4 (.int .i64 (D.armed - 1))).set 5 (.bool (D.armed - 1 == 0))
      have e4 : (opD D).armed = D.armed - 1 := by rw [opD_armed', if_pos hp]
      simpa [rfCells, opD_most, e, e4] using this)
    clear h
    go_enter Try.func43, Try.ntmps43
    go_wp2_with fail
    go_ret
    exact ⟨by rw [END.out.2]; rfl, END.out.1, ((Only.refl [q] w).setCell (by simp) _).setCell (by simp) _⟩
  · have d1 : decide (0 < D.armed) = false := decide_eq_false hp
    have END : Hid (RfAt w q b1 b2 b3 n (opD D) ∧ (opD D).off = D.off) := Lib.hid (by
      have e : opD D = D := by unfold opD; rw [if_neg hp]
      rw [e]; exact ⟨h, rfl⟩)
    clear h
    go_enter Try.func43, Try.ntmps43
    go_wp2_with fail
    go_ret
    exact ⟨by rw [END.out.2]; rfl, END.out.1, Only.refl _ _⟩
/-! ### Used -/
def cnt (D : Dk) (i : Nat) : Nat := ((List.range i).filter fun (k : Nat) => decide ((k : Int) ∈ D.seen)).length
theorem cnt_succ (D : Dk) (i : Nat) : cnt D (i + 1) = cnt D i + if (i : Int) ∈ D.seen then 1 else 0 := by
  unfold cnt
  rw [List.range_succ, List.filter_append, List.length_append]
  congr 1
  by_cases h : (i : Int) ∈ D.seen <;> simp [h]
theorem cnt_le (D : Dk) (i : Nat) : cnt D i ≤ i := by
  unfold cnt
  have := List.length_filter_le (fun (k : Nat) => decide ((k : Int) ∈ D.seen)) (List.range i)
  simpa using this
set_option maxHeartbeats 1000000 in
theorem rused_at {w : World} {q b1 b2 b3 n : Nat} {D : Dk} (h : RfAt w q b1 b2 b3 n D) : Calls Try.prog 24 #[.pointer (some ⟨q, 0, none⟩)] w fun e w' => e = .returned (.int .i64 (D.seen.length : Int)) ∧ w' = w := by
  have c2 := h.c2
  have few := h.few
  have H := Lib.hid h
  clear h
  go_enter Try.func24, Try.ntmps24
  go_wp2_with fail
  go_loopw [3, 4] (fun u v wr => ∃ i : Nat, i ≤ n ∧ u = .int .i64 (cnt D i : Nat) ∧ v = .int .i64 i ∧ Hid (wr = w)) (fun _ v _ => n - (intOf v).toNat)
  case atStart => exact ⟨0, by omega, rfl, rfl, Lib.hid rfl⟩
  case round =>
    obtain ⟨i, hi, rfl, rfl, HW⟩ := hrel
    obtain rfl := HW.out
    have i0 : (0 : Int) ≤ (i : Int) := Int.natCast_nonneg _
    have hc := cnt_le D i
    have hs := cnt_succ D i
    generalize hc0 : cnt D i = c at hc hs
    have c0 : (0 : Int) ≤ (c : Int) := Int.natCast_nonneg _
    have c9 : (c : Int) ≤ 65536 := by omega
    by_cases hlt : i < n
    · have d1 : decide ((i : Int) < (n : Int)) = true := decide_eq_true (by omega)
      have d1' : (i : Int) < (n : Int) := by omega
      have l3 := H.out.l3 hlt
      unfold seG at l3
      by_cases hm : (i : Int) ∈ D.seen
      · rw [decide_eq_true hm] at l3
        rw [if_pos hm] at hs
        have HS := Lib.hid hs
        clear hs hm hc0
        go_wp2_with fail
        go_roundw
        case rel => exact ⟨i + 1, by omega, by rw [HS.out]; go_num, by go_num, by first | exact Lib.hid trivial | exact Lib.hid rfl⟩
        case measure => simp [intOf]; omega
      · rw [decide_eq_false hm] at l3
        rw [if_neg hm] at hs
        have HS := Lib.hid hs
        clear hs hm hc0
        go_wp2_with fail
        go_roundw
        case rel => exact ⟨i + 1, by omega, by rw [HS.out]; go_num, by go_num, by first | exact Lib.hid trivial | exact Lib.hid rfl⟩
        case measure => simp [intOf]; omega
    · have d1 : decide ((i : Int) < (n : Int)) = false := decide_eq_false (by omega)
      have HC : Hid (c = D.seen.length) := Lib.hid (by
        have : i = n := by omega
        subst this
        rw [← hc0]
        exact seen_count H.out.fine H.out.sec H.out.sn)
      clear hs hc0
      go_wp2_with fail
      go_ret
      exact ⟨by rw [HC.out]; rfl, rfl⟩
/-! ### List -/
def lst (D : Dk) (i : Nat) : List Int := ((List.range i).filter (waitsB D)).map fun (k : Nat) => (k : Int)
theorem lst_succ (D : Dk) (i : Nat) : lst D (i + 1) = lst D i ++ if waitsB D i = true then [(i : Int)] else [] := by
  unfold lst
  rw [List.range_succ, List.filter_append, List.map_append]
  congr 1
  by_cases h : waitsB D i = true
  · rw [if_pos h]; simp [h]
  · rw [if_neg h]; simp [h]
theorem lst_len (D : Dk) (i : Nat) : (lst D i).length ≤ i := by
  unfold lst
  have := List.length_filter_le (waitsB D) (List.range i)
  simpa using this
theorem infoInt : (Try.prog.info? 3).map (fun i => (i.zero, i.size, i.bytes)) = some (some (.int .i64 0), 1, 8) := by kernel_rfl
theorem str_toList (s : List Int) : (strOfNums s).toList = s.map fun n => UInt8.ofNat n.toNat := by rw [ByteArray.toList_eq, strOfNums_data]
theorem strV_ne {s : List Int} (h : s.length = 128) : ((strOfNums s).toList == []) = false := by
  rw [str_toList]
  cases s with
  | nil => simp at h
  | cons a r => rfl
def RListTo (D : Dk) (w : World) (e : Ending) (w' : World) : Prop := ∃ v, e = .returned v ∧ w'.ownsRow w.heap.size 3 1 v (keysD D).length ((keysD D).map (Value.int .i64)) ∧ Below w.heap.size w w'
structure LInv (q b1 b2 b3 n : Nat) (D : Dk) (w wr : World) (i : Nat) (v : Value) : Prop where
  rf : RfAt wr q b1 b2 b3 n D
  lt : ∀ b ∈ [q, b1, b2, b3], b < w.heap.size
  own : wr.ownsRow w.heap.size 3 1 v (lst D i).length ((lst D i).map (Value.int .i64))
  bl : Below w.heap.size w wr
theorem LInv.push {q b1 b2 b3 n : Nat} {D : Dk} {w wr w5 : World} {i : Nat} {v v5 : Value} (h : LInv q b1 b2 b3 n D w wr i v) (k : Only v.ownBlock.toList wr w5) (hs : lst D (i + 1) = lst D i ++ [(i : Int)]) (ho : w5.ownsRow w.heap.size 3 1 v5 ((lst D i).length + 1) ((lst D i).map (Value.int .i64) ++ [.int .i64 (i : Int)])) : LInv q b1 b2 b3 n D w w5 (i + 1) v5 := by
  have hb : ∀ b, b ∈ v.ownBlock.toList → w.heap.size ≤ b := fun b hb => (h.own.lt b (by simpa using hb)).1
  have l := h.lt
  refine ⟨h.rf.only k (fun hh => ?_) (fun hh => ?_) (fun hh => ?_) (fun hh => ?_), h.lt, by rw [hs, List.length_append, List.map_append]; exact ho, h.bl.trans (k.toBelow h.bl.size hb)⟩
  · have := hb _ hh; have := l q (by simp); omega
  · have := hb _ hh; have := l b1 (by simp); omega
  · have := hb _ hh; have := l b2 (by simp); omega
  · have := hb _ hh; have := l b3 (by simp); omega
theorem sec_of {D : Dk} (h : D.Fine) {k : Int} {s : List Int} (hw : findS k D.waits = some s) : s.length = 128 := by rw [← sectorD_waits hw]; exact (sectorD_is h k).1
set_option maxHeartbeats 2000000 in
theorem rlist_at {w : World} {q b1 b2 b3 n : Nat} {D : Dk} (h : RfAt w q b1 b2 b3 n D) : Calls Try.prog 25 #[.pointer (some ⟨q, 0, none⟩)] w (RListTo D w) := by
  have few := h.few
  obtain ⟨i0', hi0, hz0, hz1, hz2⟩ := info_parts infoInt
  have I0 : Hid (LInv q b1 b2 b3 n D w w 0 (.slice none 0 0)) := Lib.hid ⟨h, h.lt, ⟨rfl, .inl ⟨rfl, rfl⟩⟩, Below.refl _ _⟩
  have SO := Lib.hid h.sec
  have FN := Lib.hid h.fine
  have WN := Lib.hid h.wn
  have EMP : ByteArray.toList { data := #[] } = [] := by rw [ByteArray.toList_eq]
  clear h
  go_enter Try.func25, Try.ntmps25
  go_wp2_with fail
  go_loopw [3, 4] (fun u v wr => ∃ i : Nat, i ≤ n ∧ v = .int .i64 i ∧ Hid (LInv q b1 b2 b3 n D w wr i u)) (fun _ v _ => n - (intOf v).toNat)
  case atStart => exact ⟨0, by omega, rfl, I0⟩
  case round =>
    clear I0
    obtain ⟨i, hi, rfl, HI⟩ := hrel
    have i0 : (0 : Int) ≤ (i : Int) := Int.natCast_nonneg _
    have c1 := HI.out.rf.c1
    by_cases hlt : i < n
    · have d1 : decide ((i : Int) < (n : Int)) = true := decide_eq_true (by omega)
      have d1' : (i : Int) < (n : Int) := by omega
      have l2 := HI.out.rf.l2 hlt
      have hs := lst_succ D i
      have hl := lst_len D i
      unfold waG at l2
      cases hf : findS (i : Int) D.waits with
      | none =>
        rw [hf] at l2
        rw [waitsB, hf, if_neg (by simp), List.append_nil] at hs
        have F2 : Hid (LInv q b1 b2 b3 n D w wr (i + 1) u3) := Lib.hid ⟨HI.out.rf, HI.out.lt, by rw [hs]; exact HI.out.own, HI.out.bl⟩
        clear hf hs
        go_wp2_with fail
        go_roundw
        case rel => exact ⟨i + 1, by omega, by go_num, F2⟩
        case measure => simp [intOf]; omega
      | some s =>
        rw [hf] at l2
        rw [waitsB, hf, if_pos (by rfl)] at hs
        have e1 := strV_ne (sec_of FN.out hf)
        simp only [strV] at l2
        have HS := Lib.hid hs
        clear hf hs
        go_wp2_with (at_builtin; refine wpList_append_at rfl (.tmp 22) (.tmp 24) 36 rfl w.heap.size 3 i0' (.int .i64 0) 1 8 Try.underlying36 hi0 hz0 hz1 hz2 rfl (by decide) u3 (lst D i).length ((lst D i).map (Value.int .i64)) rfl (HI.out.own.alloc _) ⟨wr.heap.size, 0, none⟩ 1 1 [.int .i64 (i : Int)] rfl rfl (fun q u hq => by rcases q with _ | q <;> simp at hq <;> subst hq <;> simp [go_sem]) (by simp [Value.oneCell']) (by unfold maxLen; omega) (by omega) (by have := HI.out.bl.size; simp; omega) ?_)
        intro v5 w5 hown5 hg5 hf5
        have k5 : Only (u3 : Value).ownBlock.toList wr w5 := ((Only.refl _ wr).alloc _).grown hg5 (fun k hk => .inl (by simp [hk]))
        have F2 : Hid (LInv q b1 b2 b3 n D w w5 (i + 1) v5) := Lib.hid (HI.out.push k5 HS.out hown5)
        clear hown5 hg5 hf5 k5
        go_wp2_with fail
        go_roundw
        case rel => exact ⟨i + 1, by omega, by go_num, F2⟩
        case measure => simp [intOf]; omega
    · have d1 : decide ((i : Int) < (n : Int)) = false := decide_eq_false (by omega)
      have E : Hid (i = n) := Lib.hid (by omega)
      go_wp2_with fail
      go_ret
      have hh := HI.out
      rw [E.out] at hh
      have ek : lst D n = keysD D := (keysD_range FN.out SO.out WN.out).symm
      exact ⟨_, rfl, by rw [← ek]; exact hh.own, hh.bl⟩
end Go.Proofs.Ytiheobbollpaaaa
