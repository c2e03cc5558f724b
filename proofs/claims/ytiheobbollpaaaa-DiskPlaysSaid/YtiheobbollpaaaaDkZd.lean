/- do: Write. -/
import Derived.Test.YtiheobbollpaaaaDkZc
namespace Go.Proofs.Ytiheobbollpaaaa
open Go.RowKit Go.ChangeShapes Go.WideShapes Go.ChangeAt
set_option linter.unusedVariables false

theorem own_of_row {w : World} {g base n : Nat} {cur : Array Value} {e : TypeId} (h : Row w g cur e) (hn : cur.size = n) (hb : base ≤ g) (hm : n ≤ maxLen) : w.ownsRow base e 1 (.slice (some ⟨g, 0, none⟩) n n) n cur.toList :=
  ⟨by simp [hn], .inr ⟨g, n, cur, rfl, hb, h, Nat.le_refl _, hm, by simp [hn], by rw [Nat.mul_one, List.take_of_length_le (by simp [hn])]⟩⟩
/-- A buffer of 129 bytes: the first i are nought, then those of f, then 77. -/
structure Buf (W w : World) (p : Nat) (F : List Nat) (q b1 b2 b3 n : Nat) (D : Dk) (g cap : Nat) (f : Int) (i : Nat) : Prop where
  pair : Pair W w p F q b1 b2 b3 n D
  row : ∃ cur : Array Value, Row w g cur 5 ∧ (∀ j, i ≤ j → j < 128 → cur[j]? = some (.int .u8 ((f + (j : Int)) % 256))) ∧ cur[128]? = some (.int .u8 77)
  nf : g ∉ F
  nr : g ∉ [q, b1, b2, b3]
  ge : W.heap.size ≤ g
theorem Buf.next {W w : World} {p : Nat} {F : List Nat} {q b1 b2 b3 n g cap i : Nat} {D : Dk} {f : Int} {v : Value} (h : Buf W w p F q b1 b2 b3 n D g cap f i) (hi : i < 128) : Buf W (w.setCell ⟨g, i, none⟩ v) p F q b1 b2 b3 n D g cap f (i + 1) := by
  obtain ⟨cur, hr, h1, h2⟩ := h.row
  exact ⟨h.pair.at ((Only.refl [g] w).setCell (by simp) _) h.nf h.nr h.ge, ⟨_, hr.set i v, fun j hj hk => by rw [Array.getElem?_setIfInBounds_ne (by omega)]; exact h1 j (by omega) hk, by rw [Array.getElem?_setIfInBounds_ne (by omega)]; exact h2⟩, h.nf, h.nr, h.ge⟩
theorem Buf.drewN {W w : World} {p : Nat} {F : List Nat} {q b1 b2 b3 n g cap i : Nat} {D : Dk} {f : Int} (h : Buf W w p F q b1 b2 b3 n D g cap f i) (m : Nat) : Buf W (w.drewN m) p F q b1 b2 b3 n D g cap f i := by
  obtain ⟨cur, hr, h1, h2⟩ := h.row
  exact ⟨h.pair.none ((Only.refl [] w).drewN m), ⟨cur, hr.only ((Only.refl [] w).drewN m) (by simp), h1, h2⟩, h.nf, h.nr, h.ge⟩
/-- The devices have turned, the buffer not. -/
theorem Buf.both {W w w2 : World} {p : Nat} {F : List Nat} {q b1 b2 b3 n g cap i : Nat} {D D' : Dk} {f : Int} {G : List Nat} (h : Buf W w p F q b1 b2 b3 n D g cap f i) (hp : Pair W w2 p F q b1 b2 b3 n D') (k : Only G w w2) (hG : g ∉ G) : Buf W w2 p F q b1 b2 b3 n D' g cap f i := by
  obtain ⟨cur, hr, h1, h2⟩ := h.row
  exact ⟨hp, ⟨cur, hr.only k hG, h1, h2⟩, h.nf, h.nr, h.ge⟩
theorem secOf_get (f : Int) (j : Nat) (h : j < 128) : (secOf f)[j]? = some ((f + (j : Int)) % 256) := by simp [secOf, h]
theorem Buf.bytes {W w : World} {p : Nat} {F : List Nat} {q b1 b2 b3 n g cap : Nat} {D : Dk} {f : Int} (h : Buf W w p F q b1 b2 b3 n D g cap f 0) : Bytes w g 0 (secOf f) := fun j v hj => by
  obtain ⟨cur, hr, h1, h2⟩ := h.row
  rw [List.getElem?_map, Option.map_eq_some_iff] at hj
  obtain ⟨z, hz, rfl⟩ := hj
  have hlt : j < 128 := by have := (List.getElem?_eq_some_iff.1 hz).1; rw [(secOf_is f).1] at this; exact this
  rw [Nat.zero_add, hr.cell, h1 j (Nat.zero_le _) hlt]
  rw [secOf_get f j hlt] at hz
  cases hz; rfl
theorem buf_made {W w1 w2 w5 : World} {p : Nat} {F : List Nat} {q b1 b2 b3 n g0 : Nat} {D : Dk} {f : Int} {v5 : Value} (hp : Pair W w1 p F q b1 b2 b3 n D) (k : Only [] w1 w2) (k5 : Only [g0] w2 w5) (hg0 : w1.heap.size ≤ g0) (ho : w5.ownsRow w1.heap.size 5 1 v5 129 ((bytesV (secOf f)).toList ++ [.int .u8 77])) :
    ∃ g cap, v5 = .slice (some ⟨g, 0, none⟩) 129 cap ∧ 129 ≤ cap ∧ cap ≤ 9223372036854775807 ∧ w1.heap.size ≤ g ∧ Buf W w5 p F q b1 b2 b3 n D g cap f 0 := by
  have hP := hp.new k k5 (by simp; exact hg0)
  rcases ho.2 with ⟨_, h0⟩ | ⟨g, cap, cur, rfl, hb, hg, hnc, hcm, hcs, ht⟩
  · omega
  · have hl := hp.lt
    have hs := hp.dev.bl.size
    have hat : ∀ j, j < 129 → cur[j]? = ((bytesV (secOf f)).toList ++ [.int .u8 77])[j]? := fun j hj => by
      rw [← ht, List.getElem?_take, if_pos (by omega), Array.getElem?_toList]
    have hlen : (bytesV (secOf f)).toList.length = 128 := by rw [Array.length_toList, bytesV_size, (secOf_is f).1]
    refine ⟨g, cap, rfl, hnc, by unfold maxLen at hcm; omega, hb, hP, ⟨cur, hg, fun j _ hj => ?_, ?_⟩, fun hh => by have := hl g (.inl hh); omega, fun hh => by have := hl g (.inr hh); omega, by omega⟩
    · rw [hat j (by omega), List.getElem?_append_left (by omega), Array.getElem?_toList, bytesV_get _ _ (by rw [(secOf_is f).1]; exact hj), secOf_get f j hj]; rfl
    · rw [hat 128 (by omega), List.getElem?_append_right (by omega), hlen]; rfl
set_option maxRecDepth 100000 in
set_option maxHeartbeats 8000000 in
theorem do_write_true {W w : World} {p : Nat} {F : List Nat} {q b1 b2 b3 n : Nat} {D : Dk} (h : Pair W w p F q b1 b2 b3 n D) (x f : Int) (pa : Option Addr) (pl pc : Nat) : Calls Try.prog 21 #[.pointer (some ⟨p, 0, none⟩), .pointer (some ⟨q, 0, none⟩), .agg #[.int .i64 0, .int .i64 x, .int .i64 f, .bool true, .slice pa pl pc]] w (DoPost W q b1 b2 b3 n (writeR D x 127 (secOf f)).2) := by
  obtain ⟨i0', hi0, hz0, hz1, hz2⟩ := info_parts infoByte
  have H := Lib.hid h
  clear h
  go_enter Try.func21, Try.ntmps21
  go_wp2_with fail
  have K1 : Only [] w (w.alloc (.cells #[.int .i64 0, .int .i64 x, .int .i64 f, .bool true, .slice pa pl pc] 31)) := (Only.refl [] w).alloc _
  have P1 := Lib.hid (H.out.none K1)
  have BX := Lib.hid (Row.made w #[.int .i64 0, .int .i64 x, .int .i64 f, .bool true, .slice pa pl pc] 31)
  have HBX : Hid (w.heap.size ∉ F ∧ w.heap.size ∉ [q, b1, b2, b3]) := Lib.hid ⟨fun hh => by have := H.out.lt _ (.inl hh); omega, fun hh => by have := H.out.lt _ (.inr hh); omega⟩

  generalize hw1 : w.alloc (.cells #[.int .i64 0, .int .i64 x, .int .i64 f, .bool true, .slice pa pl pc] 31) = w1 at *
  clear hw1 K1 H
  refine (sector_any f w1).mono ?_
  rintro _ w2 ⟨rfl, hr2, k2, hs2⟩
  have OW := Lib.hid (own_of_row (base := w1.heap.size) hr2 (by rw [bytesV_size, (secOf_is f).1]) (Nat.le_refl _) (by unfold maxLen; omega))
  have K2 := Lib.hid k2
  have hbw := BX.out.lt
  have BX2 := Lib.hid (BX.out.only k2 (by simp))
  have HS2 := Lib.hid hs2
  clear hr2 k2 BX hs2
  go_wp2_with (at_builtin; refine wpList_append_at rfl (.tmp 27) (.tmp 28) 23 rfl w1.heap.size 5 i0' (.int .u8 0) 1 1 Try.underlying23 hi0 hz0 hz1 hz2 rfl (by decide) (.slice (some ⟨w1.heap.size, 0, none⟩) 128 128) 128 (bytesV (secOf f)).toList rfl (OW.out.alloc _) ⟨w2.heap.size, 0, none⟩ 1 1 [.int .u8 77] rfl rfl (fun q u hq => by rcases q with _ | q <;> simp at hq <;> subst hq <;> simp [go_sem]) (by simp [Value.oneCell']) (by unfold maxLen; omega) (by omega) (by have := HS2.out; simp; omega) ?_)
  intro v5 w5 hown5 hg5 hf5
  have k5 : Only [w1.heap.size] w2 w5 := ((Only.refl _ w2).alloc _).grown hg5 (fun k hk => by simp [Value.ownBlock] at hk; exact .inl (by simp; omega))
  obtain ⟨g, cap, rfl, hcap, hcap2, hg1, hbuf⟩ := buf_made P1.out K2.out k5 (Nat.le_refl _) hown5
  have B5 := Lib.hid hbuf
  have hs2 := HS2.out
  have BX5 := Lib.hid (BX2.out.only k5 (by simp; omega))
  have NEQ : Hid (w.heap.size ≠ g) := Lib.hid (by omega)
  clear hown5 hg5 hf5 k5 hbuf OW K2 BX2 P1 hs2 HS2
  obtain ⟨R, hR⟩ : ∃ R, writeR D x 127 (secOf f) = R := ⟨_, rfl⟩
  have HR := Lib.hid hR
  clear hR
  have hcapA : (127 : Int) ≤ (cap : Int) := by omega
  have hcapB : (128 : Int) ≤ (cap : Int) := by omega
  have c3 : w5.cell? ⟨w.heap.size, 3, none⟩ = some (.bool true) := BX5.out.cell 3
  go_wp2_with fail
  have B6 : Hid (Buf W w5.drew p F q b1 b2 b3 n D g cap f 0) := Lib.hid (B5.out.drewN 1)
  have c1 : w5.drew.cell? ⟨w.heap.size, 1, none⟩ = some (.int .i64 x) := BX5.out.cell 1
  have BX6 : Hid (Row w5.drew w.heap.size #[.int .i64 0, .int .i64 x, .int .i64 f, .bool true, .slice pa pl pc] 31) := Lib.hid BX5.out
  clear B5 BX5 c3
  go_region_with (first
    | (go_at_call 10; refine (write_total B6.out.pair.dev x (secOf f) (by omega) (fun hx => ⟨B6.out.bytes, secOf_is f⟩) (by omega)).mono ?_; rw [HR.out]; rintro _ y ⟨rfl, hdy, ky⟩; have RY := Lib.hid (B6.out.pair.rf.onlyL ky B6.out.pair.dj); have DY := Lib.hid hdy; have KY := Lib.hid ky; have c2 : y.cell? ⟨w.heap.size, 1, none⟩ = some (.int .i64 x) := (ky.cell BX6.out.lt HBX.out.1).trans c1; have BY : Hid (Bytes y g 0 (secOf f)) := Lib.hid (B6.out.bytes.only ky B6.out.nf); clear hdy ky)
    | (go_at_call 34; refine (rwrite_at RY.out x g 0 127 cap (secOf f) (by omega) (fun hx => ⟨BY.out, secOf_is f⟩)).mono ?_; rw [HR.out]; rintro _ z ⟨rfl, hrz, kz⟩; have B7 : Hid (Buf W z p F q b1 b2 b3 n R.2 g cap f 0 ∧ Row z w.heap.size #[.int .i64 0, .int .i64 x, .int .i64 f, .bool true, .slice pa pl pc] 31) := Lib.hid ⟨(B6.out.both (B6.out.pair.both DY.out KY.out fun _ => ⟨hrz, kz⟩) ((KY.out.sub (by intro b hb; simp; exact .inl hb) : Only (F ++ [q, b1, b2, b3]) _ _).and (kz.sub (by intro b hb; simp at hb ⊢; exact .inr hb))) (by simp; have h2 := B6.out.nr; simp at h2; exact ⟨B6.out.nf, h2⟩)), (BX6.out.only KY.out HBX.out.1).only kz HBX.out.2⟩; clear hrz kz))
  all_goals
    have B8 := Lib.hid B7.out.1
    have X8 := Lib.hid B7.out.2
    clear B7 RY DY KY BY B6 BX6 c1 c2
    go_wp2_with fail
    go_loopw [10, 11] (fun u v wr => ∃ i : Nat, i ≤ 128 ∧ u = .bool true ∧ v = .int .i64 i ∧ Hid (Buf W wr p F q b1 b2 b3 n R.2 g cap f i ∧ Row wr w.heap.size #[.int .i64 0, .int .i64 x, .int .i64 f, .bool true, .slice pa pl pc] 31)) (fun _ v _ => 128 - (intOf v).toNat)
    case atStart => exact ⟨0, by omega, rfl, rfl, Lib.hid ⟨B8.out, X8.out⟩⟩
    case round =>
      clear B8 X8
      obtain ⟨i, hi, rfl, rfl, HB⟩ := hrel
      have i0 : (0 : Int) ≤ (i : Int) := Int.natCast_nonneg _
      obtain ⟨cur, hr, hh1, hh2⟩ := HB.out.1.row
      have XR := Lib.hid HB.out.2
      by_cases hlt : i < 128
      · have e1 : decide ((i : Int) < 128) = true := decide_eq_true (by omega)
        have e1' : (i : Int) < 128 := by omega
        have l1 : wr.cell? ⟨g, i, none⟩ = some (.int .u8 ((f + (i : Int)) % 256)) := (hr.cell i).trans (hh1 i (Nat.le_refl _) hlt)
        have l2 : wr.cell? ⟨w.heap.size, 2, none⟩ = some (.int .i64 f) := XR.out.cell 2
        have bo := byteOf f i
        have f1 := hr.free i
        have HF := Lib.hid hr
        clear hr hh1 hh2
        go_wp2_with fail
        go_quiet (fail)
        have F2 : Hid (Buf W ((wr.drewN nq).setCell ⟨g, i, none⟩ (.int .u8 0)) p F q b1 b2 b3 n R.2 g cap f (i + 1) ∧ Row ((wr.drewN nq).setCell ⟨g, i, none⟩ (.int .u8 0)) w.heap.size #[.int .i64 0, .int .i64 x, .int .i64 f, .bool true, .slice pa pl pc] 31) := Lib.hid ⟨(HB.out.1.drewN nq).next hlt, (XR.out.only ((Only.refl [] wr).drewN nq) (by simp)).only ((Only.refl [g] (wr.drewN nq)).setCell (.inl (by simp)) (p := ⟨g, i, none⟩) _) (by simp; exact NEQ.out)⟩
        have l1' : (wr.drewN nq).cell? ⟨g, i, none⟩ = some (.int .u8 ((f + (i : Int)) % 256)) := l1
        have f1' : (wr.drewN nq).frozen? ⟨g, i, none⟩ = false := f1
        clear l1 l2 f1
        generalize wr.drewN nq = wz at *
        go_wp2_with fail
        go_roundw
        case rel => exact ⟨i + 1, by omega, rfl, by go_num, F2⟩
        case measure => simp [intOf]; omega
      · have e1 : decide ((i : Int) < 128) = false := decide_eq_false (by omega)
        have l1 : wr.cell? ⟨g, 128, none⟩ = some (.int .u8 77) := (hr.cell 128).trans hh2
        clear hr hh1 hh2
        go_wp2_with fail
        go_quiet (fail)
        go_wp2_with fail
        go_ret2
        exact ⟨p, F, rfl, by rw [HR.out]; exact (HB.out.1.drewN nq).pair⟩
set_option maxRecDepth 100000 in
set_option maxHeartbeats 8000000 in
theorem do_write_false {W w : World} {p : Nat} {F : List Nat} {q b1 b2 b3 n : Nat} {D : Dk} (h : Pair W w p F q b1 b2 b3 n D) (x f : Int) (pa : Option Addr) (pl pc : Nat) : Calls Try.prog 21 #[.pointer (some ⟨p, 0, none⟩), .pointer (some ⟨q, 0, none⟩), .agg #[.int .i64 0, .int .i64 x, .int .i64 f, .bool false, .slice pa pl pc]] w (DoPost W q b1 b2 b3 n (writeR D x 128 (secOf f)).2) := by
  obtain ⟨i0', hi0, hz0, hz1, hz2⟩ := info_parts infoByte
  have H := Lib.hid h
  clear h
  go_enter Try.func21, Try.ntmps21
  go_wp2_with fail
  have K1 : Only [] w (w.alloc (.cells #[.int .i64 0, .int .i64 x, .int .i64 f, .bool false, .slice pa pl pc] 31)) := (Only.refl [] w).alloc _
  have P1 := Lib.hid (H.out.none K1)
  have BX := Lib.hid (Row.made w #[.int .i64 0, .int .i64 x, .int .i64 f, .bool false, .slice pa pl pc] 31)
  have HBX : Hid (w.heap.size ∉ F ∧ w.heap.size ∉ [q, b1, b2, b3]) := Lib.hid ⟨fun hh => by have := H.out.lt _ (.inl hh); omega, fun hh => by have := H.out.lt _ (.inr hh); omega⟩

  generalize hw1 : w.alloc (.cells #[.int .i64 0, .int .i64 x, .int .i64 f, .bool false, .slice pa pl pc] 31) = w1 at *
  clear hw1 K1 H
  refine (sector_any f w1).mono ?_
  rintro _ w2 ⟨rfl, hr2, k2, hs2⟩
  have OW := Lib.hid (own_of_row (base := w1.heap.size) hr2 (by rw [bytesV_size, (secOf_is f).1]) (Nat.le_refl _) (by unfold maxLen; omega))
  have K2 := Lib.hid k2
  have hbw := BX.out.lt
  have BX2 := Lib.hid (BX.out.only k2 (by simp))
  have HS2 := Lib.hid hs2
  clear hr2 k2 BX hs2
  go_wp2_with (at_builtin; refine wpList_append_at rfl (.tmp 27) (.tmp 28) 23 rfl w1.heap.size 5 i0' (.int .u8 0) 1 1 Try.underlying23 hi0 hz0 hz1 hz2 rfl (by decide) (.slice (some ⟨w1.heap.size, 0, none⟩) 128 128) 128 (bytesV (secOf f)).toList rfl (OW.out.alloc _) ⟨w2.heap.size, 0, none⟩ 1 1 [.int .u8 77] rfl rfl (fun q u hq => by rcases q with _ | q <;> simp at hq <;> subst hq <;> simp [go_sem]) (by simp [Value.oneCell']) (by unfold maxLen; omega) (by omega) (by have := HS2.out; simp; omega) ?_)
  intro v5 w5 hown5 hg5 hf5
  have k5 : Only [w1.heap.size] w2 w5 := ((Only.refl _ w2).alloc _).grown hg5 (fun k hk => by simp [Value.ownBlock] at hk; exact .inl (by simp; omega))
  obtain ⟨g, cap, rfl, hcap, hcap2, hg1, hbuf⟩ := buf_made P1.out K2.out k5 (Nat.le_refl _) hown5
  have B5 := Lib.hid hbuf
  have hs2 := HS2.out
  have BX5 := Lib.hid (BX2.out.only k5 (by simp; omega))
  have NEQ : Hid (w.heap.size ≠ g) := Lib.hid (by omega)
  clear hown5 hg5 hf5 k5 hbuf OW K2 BX2 P1 hs2 HS2
  obtain ⟨R, hR⟩ : ∃ R, writeR D x 128 (secOf f) = R := ⟨_, rfl⟩
  have HR := Lib.hid hR
  clear hR
  have hcapA : (127 : Int) ≤ (cap : Int) := by omega
  have hcapB : (128 : Int) ≤ (cap : Int) := by omega
  have c3 : w5.cell? ⟨w.heap.size, 3, none⟩ = some (.bool false) := BX5.out.cell 3
  go_wp2_with fail
  have B6 : Hid (Buf W w5.drew p F q b1 b2 b3 n D g cap f 0) := Lib.hid (B5.out.drewN 1)
  have c1 : w5.drew.cell? ⟨w.heap.size, 1, none⟩ = some (.int .i64 x) := BX5.out.cell 1
  have BX6 : Hid (Row w5.drew w.heap.size #[.int .i64 0, .int .i64 x, .int .i64 f, .bool false, .slice pa pl pc] 31) := Lib.hid BX5.out
  clear B5 BX5 c3
  go_region_with (first
    | (go_at_call 10; refine (write_total B6.out.pair.dev x (secOf f) (by omega) (fun hx => ⟨B6.out.bytes, secOf_is f⟩) (by omega)).mono ?_; rw [HR.out]; rintro _ y ⟨rfl, hdy, ky⟩; have RY := Lib.hid (B6.out.pair.rf.onlyL ky B6.out.pair.dj); have DY := Lib.hid hdy; have KY := Lib.hid ky; have c2 : y.cell? ⟨w.heap.size, 1, none⟩ = some (.int .i64 x) := (ky.cell BX6.out.lt HBX.out.1).trans c1; have BY : Hid (Bytes y g 0 (secOf f)) := Lib.hid (B6.out.bytes.only ky B6.out.nf); clear hdy ky)
    | (go_at_call 34; refine (rwrite_at RY.out x g 0 128 cap (secOf f) (by omega) (fun hx => ⟨BY.out, secOf_is f⟩)).mono ?_; rw [HR.out]; rintro _ z ⟨rfl, hrz, kz⟩; have B7 : Hid (Buf W z p F q b1 b2 b3 n R.2 g cap f 0 ∧ Row z w.heap.size #[.int .i64 0, .int .i64 x, .int .i64 f, .bool false, .slice pa pl pc] 31) := Lib.hid ⟨(B6.out.both (B6.out.pair.both DY.out KY.out fun _ => ⟨hrz, kz⟩) ((KY.out.sub (by intro b hb; simp; exact .inl hb) : Only (F ++ [q, b1, b2, b3]) _ _).and (kz.sub (by intro b hb; simp at hb ⊢; exact .inr hb))) (by simp; have h2 := B6.out.nr; simp at h2; exact ⟨B6.out.nf, h2⟩)), (BX6.out.only KY.out HBX.out.1).only kz HBX.out.2⟩; clear hrz kz))
  all_goals
    have B8 := Lib.hid B7.out.1
    have X8 := Lib.hid B7.out.2
    clear B7 RY DY KY BY B6 BX6 c1 c2
    go_wp2_with fail
    go_loopw [10, 11] (fun u v wr => ∃ i : Nat, i ≤ 128 ∧ u = .bool true ∧ v = .int .i64 i ∧ Hid (Buf W wr p F q b1 b2 b3 n R.2 g cap f i ∧ Row wr w.heap.size #[.int .i64 0, .int .i64 x, .int .i64 f, .bool false, .slice pa pl pc] 31)) (fun _ v _ => 128 - (intOf v).toNat)
    case atStart => exact ⟨0, by omega, rfl, rfl, Lib.hid ⟨B8.out, X8.out⟩⟩
    case round =>
      clear B8 X8
      obtain ⟨i, hi, rfl, rfl, HB⟩ := hrel
      have i0 : (0 : Int) ≤ (i : Int) := Int.natCast_nonneg _
      obtain ⟨cur, hr, hh1, hh2⟩ := HB.out.1.row
      have XR := Lib.hid HB.out.2
      by_cases hlt : i < 128
      · have e1 : decide ((i : Int) < 128) = true := decide_eq_true (by omega)
        have e1' : (i : Int) < 128 := by omega
        have l1 : wr.cell? ⟨g, i, none⟩ = some (.int .u8 ((f + (i : Int)) % 256)) := (hr.cell i).trans (hh1 i (Nat.le_refl _) hlt)
        have l2 : wr.cell? ⟨w.heap.size, 2, none⟩ = some (.int .i64 f) := XR.out.cell 2
        have bo := byteOf f i
        have f1 := hr.free i
        have HF := Lib.hid hr
        clear hr hh1 hh2
        go_wp2_with fail
        go_quiet (fail)
        have F2 : Hid (Buf W ((wr.drewN nq).setCell ⟨g, i, none⟩ (.int .u8 0)) p F q b1 b2 b3 n R.2 g cap f (i + 1) ∧ Row ((wr.drewN nq).setCell ⟨g, i, none⟩ (.int .u8 0)) w.heap.size #[.int .i64 0, .int .i64 x, .int .i64 f, .bool false, .slice pa pl pc] 31) := Lib.hid ⟨(HB.out.1.drewN nq).next hlt, (XR.out.only ((Only.refl [] wr).drewN nq) (by simp)).only ((Only.refl [g] (wr.drewN nq)).setCell (.inl (by simp)) (p := ⟨g, i, none⟩) _) (by simp; exact NEQ.out)⟩
        have l1' : (wr.drewN nq).cell? ⟨g, i, none⟩ = some (.int .u8 ((f + (i : Int)) % 256)) := l1
        have f1' : (wr.drewN nq).frozen? ⟨g, i, none⟩ = false := f1
        clear l1 l2 f1
        generalize wr.drewN nq = wz at *
        go_wp2_with fail
        go_roundw
        case rel => exact ⟨i + 1, by omega, rfl, by go_num, F2⟩
        case measure => simp [intOf]; omega
      · have e1 : decide ((i : Int) < 128) = false := decide_eq_false (by omega)
        have l1 : wr.cell? ⟨g, 128, none⟩ = some (.int .u8 77) := (hr.cell 128).trans hh2
        clear hr hh1 hh2
        go_wp2_with fail
        go_quiet (fail)
        go_wp2_with fail
        go_ret2
        exact ⟨p, F, rfl, by rw [HR.out]; exact (HB.out.1.drewN nq).pair⟩
end Go.Proofs.Ytiheobbollpaaaa
