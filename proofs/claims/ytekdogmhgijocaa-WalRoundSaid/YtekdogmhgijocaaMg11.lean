/- code.put behind bytes that are there. -/
import Derived.Test.YtekdogmhgijocaaMg07
import Derived.Laws.CopyOwn
import Derived.Laws.BitsAllLaws
set_option linter.unusedSimpArgs false
namespace Go.Proofs.Ytekdogmhgijocaa
open Go.RowKit Go.ChangeShapes Go.WideShapes Go.ChangeAt
set_option linter.unusedVariables false

/-- A call that gives bytes of its own. -/
def Gives (zs : List Int) (w : World) (e : Ending) (w' : World) : Prop := ∃ v, e = .returned v ∧ w'.ownsRow w.heap.size 5 1 v zs.length (zs.map (Value.int .u8)) ∧ Below w.heap.size w w'
/-- .. in a row of just their length. -/
def GivesX (zs : List Int) (w : World) (e : Ending) (w' : World) : Prop := ∃ g, e = .returned (.slice (some ⟨g, 0, none⟩) zs.length zs.length) ∧ w'.ownsRow w.heap.size 5 1 (.slice (some ⟨g, 0, none⟩) zs.length zs.length) zs.length (zs.map (Value.int .u8)) ∧ Below w.heap.size w w'
theorem GivesX.gives {zs : List Int} {w : World} {e : Ending} {w' : World} (h : GivesX zs w e w') : Gives zs w e w' := by
  obtain ⟨g, h1, h2, h3⟩ := h
  exact ⟨_, h1, h2, h3⟩
/-- make([]byte, m, k). -/
theorem wpList_make_nk {P : Program} {w : World} {ops : Array Oper} {rest : List Oper} {o : Oper} {a : Act} {Q : Exit → Act → World → Prop} (hg : o.guard = none) (l c : Operand) (t : TypeId) (hop : o.op = Op.makeSlice t l c) (e : TypeId) (i : TypeInfo) (z : Value) (h1 : P.underlying t = some (.slice e)) (h2 : P.info? e = some i) (h3 : i.zero = some z) (h4 : i.size = 1) (hz : z.cells = #[z])
    (kl kc : IntKind) (m n : Nat) (hl : a.eval l = .int kl (m : Int)) (hc : a.eval c = .int kc (n : Int)) (hmn : m ≤ n) (b2 : i.bytes * n ≤ 281474976710656) (b3 : n ≤ maxLen)
    (hK : ∀ w', Row w' w.heap.size (List.replicate n z).toArray e → Only [] w w' → w'.heap.size = w.heap.size + 1 → wpList P ops Q rest (a.put o.dst (.slice (some ⟨w.heap.size, 0, none⟩) m n)) w') : wpList P ops Q (o :: rest) a w := by
  refine wpList_plain hg fun K hK' => ?_
  have hb' : (i.bytes : Int) * (n : Int) ≤ 281474976710656 := by
    have h : ((i.bytes * n : Nat) : Int) ≤ 281474976710656 := by omega
    rwa [Int.natCast_mul] at h
  have hr := run_make (P := P) w t e i z h1 h2 h3 kl kc m n (by omega) (by omega) hb' (by unfold maxLen at b3; omega)
  simp only [Int.toNat_natCast, h4, Nat.mul_one, hz, madeCells_one] at hr
  unfold Oper.wp
  simp [execOp, hop, hl, hc, hr, Result.andThen]
  refine hK' _ _ (hK _ ?_ ((Only.refl _ _).alloc _) (by simp))
  rw [List.toArray_replicate]
  exact Row.made _ _ _
theorem own_of_splice {w : World} {g base m k : Nat} {xs : List Int} (hx : xs.length = m) (hg : w.heap[g]? = some (.cells (splice (List.replicate (m + k) (Value.int .u8 0)) 0 (xs.map (Value.int .u8))).toArray 5 (0, 0))) (hb : base ≤ g) (hm : m + k ≤ maxLen) :
    w.ownsRow base 5 1 (.slice (some ⟨g, 0, none⟩) m (m + k)) m (xs.map (Value.int .u8)) := by
  refine ⟨by simp [hx], .inr ⟨g, m + k, _, rfl, hb, hg, by omega, hm, ?_, ?_⟩⟩
  · rw [List.size_toArray, length_splice _ _ _ (by simp [hx]), List.length_replicate]; omega
  · simp [splice, hx]
structure OInvP (n : Int) (xs : List Int) (w wr : World) (v : Value) (m i : Nat) : Prop where
  own : wr.ownsRow w.heap.size 5 1 v (m + i) ((xs ++ leB n i).map (Value.int .u8))
  bl : Below w.heap.size w wr
theorem OInvP.push {n : Int} {xs : List Int} {w wr w5 : World} {v v5 : Value} {m i : Nat} (h : OInvP n xs w wr v m i) (ho : w5.ownsRow w.heap.size 5 1 v5 (m + i + 1) ((xs ++ leB n i).map (Value.int .u8) ++ [.int .u8 (leAt n i)])) (k : Only v.ownBlock.toList wr w5) : OInvP n xs w w5 v5 m (i + 1) :=
  ⟨by rw [leB_succ, ← List.append_assoc, List.map_append]; exact ho, h.bl.trans (k.toBelow h.bl.size fun b hb => (h.own.lt b (by simpa using hb)).1)⟩
set_option maxRecDepth 100000 in
set_option maxHeartbeats 4000000 in
theorem put64_x (n : Int) (h0 : 0 ≤ n) (h1 : n < 18446744073709551616) (a : Option Addr) (m c : Nat) (xs : List Int) (w : World) (hx : xs.length = m) (hi : Ints .u8 w (.slice a m c) xs) (hm : m ≤ 100000) : Calls Try.prog 72 #[.slice a m c, .int .u64 n, .int .i64 8] w (GivesX (xs ++ leB n 8) w) := by
  obtain ⟨i0', hi0, hz0, hz1, hz2⟩ := info_parts infoBy
  have H1 := Lib.hid h1
  have HX := Lib.hid hx
  have HM := Lib.hid hm
  have em : IntKind.i64.wrap ((m : Int) + 8) = (m : Int) + 8 := IntWalk.i64_in _ (by omega)
  have HI := Lib.hid hi
  clear h1 hi hx hm
  go_enter Try.func72, Try.ntmps72
  go_wp2_with (first
    | (refine wpList_make_nk rfl _ _ _ rfl _ i0' _ Try.underlying32 hi0 hz0 hz1 rfl .i64 .i64 m (m + 8) rfl rfl (by omega) (by rw [hz2]; have := HM.out; omega) (by unfold maxLen; have := HM.out; omega) ?_; intro w1 hr1 ho1 hs1; have R1 := Lib.hid hr1; have O1 := Lib.hid ho1; clear hr1 ho1 hs1)
    | (refine wpList_copy_splice rfl (.tmp 16) (.tmp 17) 32 32 rfl 5 Try.underlying32 (by rw [hi0]; simp [hz1]) (some ⟨w.heap.size, 0, none⟩) a m (m + 8) m c rfl rfl w.heap.size 0 (List.replicate (m + 8) (.int .u8 0)) 5 R1.out (xs.map (Value.int .u8)) (by rw [List.length_map, HX.out]; exact (Nat.min_self m).symm) ?s1 ?s2 (one_u8 xs) w.heap.size w (O1.out.toBelow (Nat.le_refl _) (by simp)) (Nat.le_refl _) ?s3))
  case s1 =>
    intro hp
    rw [HX.out] at hp
    have h := HI.out
    obtain ⟨b', off', cap', hv, hc⟩ := h.shape (by rw [HX.out]; exact hp)
    simp only [Value.slice.injEq] at hv
    obtain ⟨rfl, _, rfl⟩ := hv
    refine ⟨⟨b', off', none⟩, rfl, fun j z hz => ?_⟩
    have hlt := (List.getElem?_eq_some_iff.1 hz).1
    have hcj := hc j hlt
    rw [hz] at hcj
    rw [add_plain]
    exact (O1.out.cell (World.block_lt_of_cell? w _ hcj) (by simp)).trans hcj
  case s2 => simp [HX.out]
  case s3 =>
    intro w2 hr2 hb2
    have I0 : Hid (OInvP n xs w w2 (.slice (some ⟨w.heap.size, 0, none⟩) m (m + 8)) m 0) := Lib.hid ⟨by
      have h := own_of_splice (base := w.heap.size) HX.out hr2.out (Nat.le_refl _) (by unfold maxLen; have := HM.out; omega)
      have e : xs ++ leB n 0 = xs := by simp [leB]
      rw [e]
      exact h, hb2⟩
    clear hr2 hb2 R1 O1
    go_wp2_with fail
    go_loopw [7, 8, 20] (fun v _ u wr => ∃ i : Nat, i ≤ 8 ∧ u = .int .i64 i ∧ v = .slice (some ⟨w.heap.size, 0, none⟩) (m + i) (m + 8) ∧ Hid (OInvP n xs w wr (.slice (some ⟨w.heap.size, 0, none⟩) (m + i) (m + 8)) m i)) (fun _ _ u _ => 8 - (intOf u).toNat)
    case atStart => exact ⟨0, by omega, rfl, rfl, I0⟩
    case round =>
      clear I0
      obtain ⟨i, hi, rfl, rfl, HJ⟩ := hrel
      have i0 : (0 : Int) ≤ (i : Int) := Int.natCast_nonneg _
      by_cases hlt : i < 8
      · have d1 : decide ((i : Int) < 8) = true := decide_eq_true (by omega)
        have i2 : (i : Int) < 8 := by omega
        go_wp2_with (at_builtin; refine wpList_append_fits _ rfl (.tmp 23) (.tmp 29) 32 rfl w.heap.size 5 i0' 1 Try.underlying32 hi0 hz1 w.heap.size (m + i) (m + 8) _ rfl (HJ.out.own.alloc _) ⟨wr.heap.size, 0, none⟩ 1 1 [.int .u8 (leAt n i)] rfl rfl (fun q u hq => by rcases q with _ | q <;> simp at hq <;> subst hq <;> simp [go_sem, leAt]) (by simp [Value.oneCell']) (by omega) ?_)
        intro w5 hown5 hg5
        have F2 : Hid (OInvP n xs w w5 (.slice (some ⟨w.heap.size, 0, none⟩) (m + (i + 1)) (m + 8)) m (i + 1)) := Lib.hid (HJ.out.push (by rw [List.map_append, List.append_assoc]; exact hown5) (((Only.refl _ wr).alloc _).grown hg5 (fun k hk => .inl (by simpa [Value.ownBlock] using hk.symm))))
        clear hown5 hg5
        go_wp2_with fail
        go_roundw
        case rel => exact ⟨i + 1, by omega, by go_num, by first | rfl | (rw [Nat.add_assoc]), F2⟩
        case measure => simp [intOf]; omega
      · have d1 : decide ((i : Int) < 8) = false := decide_eq_false (by omega)
        have E : Hid (i = 8) := Lib.hid (by omega)
        go_wp2_with fail
        go_ret
        have hh := HJ.out
        rw [E.out] at hh
        have hlen : (xs ++ leB n 8).length = m + 8 := by rw [List.length_append, HX.out, leB_len]
        refine ⟨w.heap.size, by rw [hlen, E.out]; rfl, ?_, hh.bl⟩
        rw [hlen]
        exact hh.own
theorem put64_on (n : Int) (h0 : 0 ≤ n) (h1 : n < 18446744073709551616) (a : Option Addr) (m c : Nat) (xs : List Int) (w : World) (hx : xs.length = m) (hi : Ints .u8 w (.slice a m c) xs) (hm : m ≤ 100000) : Calls Try.prog 72 #[.slice a m c, .int .u64 n, .int .i64 8] w (Gives (xs ++ leB n 8) w) :=
  (put64_x n h0 h1 a m c xs w hx hi hm).mono fun _ _ h => h.gives
set_option maxRecDepth 100000 in
set_option maxHeartbeats 4000000 in
theorem put32_x (n : Int) (h0 : 0 ≤ n) (h1 : n < 4294967296) (a : Option Addr) (m c : Nat) (xs : List Int) (w : World) (hx : xs.length = m) (hi : Ints .u8 w (.slice a m c) xs) (hm : m ≤ 100000) : Calls Try.prog 71 #[.slice a m c, .int .u32 n, .int .i64 4] w (GivesX (xs ++ leB n 4) w) := by
  obtain ⟨i0', hi0, hz0, hz1, hz2⟩ := info_parts infoBy
  have H1 := Lib.hid h1
  have HX := Lib.hid hx
  have HM := Lib.hid hm
  have em : IntKind.i64.wrap ((m : Int) + 4) = (m : Int) + 4 := IntWalk.i64_in _ (by omega)
  have HI := Lib.hid hi
  have wn : IntKind.u64.wrap n = n := by rw [show IntKind.u64.wrap n = n % 18446744073709551616 from rfl]; omega
  clear h1 hi hx hm
  go_enter Try.func71, Try.ntmps71
  go_wp2_with (first
    | (refine wpList_make_nk rfl _ _ _ rfl _ i0' _ Try.underlying32 hi0 hz0 hz1 rfl .i64 .i64 m (m + 4) rfl rfl (by omega) (by rw [hz2]; have := HM.out; omega) (by unfold maxLen; have := HM.out; omega) ?_; intro w1 hr1 ho1 hs1; have R1 := Lib.hid hr1; have O1 := Lib.hid ho1; clear hr1 ho1 hs1)
    | (refine wpList_copy_splice rfl (.tmp 16) (.tmp 17) 32 32 rfl 5 Try.underlying32 (by rw [hi0]; simp [hz1]) (some ⟨w.heap.size, 0, none⟩) a m (m + 4) m c rfl rfl w.heap.size 0 (List.replicate (m + 4) (.int .u8 0)) 5 R1.out (xs.map (Value.int .u8)) (by rw [List.length_map, HX.out]; exact (Nat.min_self m).symm) ?s1 ?s2 (one_u8 xs) w.heap.size w (O1.out.toBelow (Nat.le_refl _) (by simp)) (Nat.le_refl _) ?s3))
  case s1 =>
    intro hp
    rw [HX.out] at hp
    have h := HI.out
    obtain ⟨b', off', cap', hv, hc⟩ := h.shape (by rw [HX.out]; exact hp)
    simp only [Value.slice.injEq] at hv
    obtain ⟨rfl, _, rfl⟩ := hv
    refine ⟨⟨b', off', none⟩, rfl, fun j z hz => ?_⟩
    have hlt := (List.getElem?_eq_some_iff.1 hz).1
    have hcj := hc j hlt
    rw [hz] at hcj
    rw [add_plain]
    exact (O1.out.cell (World.block_lt_of_cell? w _ hcj) (by simp)).trans hcj
  case s2 => simp [HX.out]
  case s3 =>
    intro w2 hr2 hb2
    have I0 : Hid (OInvP n xs w w2 (.slice (some ⟨w.heap.size, 0, none⟩) m (m + 4)) m 0) := Lib.hid ⟨by
      have h := own_of_splice (base := w.heap.size) HX.out hr2.out (Nat.le_refl _) (by unfold maxLen; have := HM.out; omega)
      have e : xs ++ leB n 0 = xs := by simp [leB]
      rw [e]
      exact h, hb2⟩
    clear hr2 hb2 R1 O1
    go_wp2_with fail
    go_loopw [7, 8, 20] (fun v _ u wr => ∃ i : Nat, i ≤ 4 ∧ u = .int .i64 i ∧ v = .slice (some ⟨w.heap.size, 0, none⟩) (m + i) (m + 4) ∧ Hid (OInvP n xs w wr (.slice (some ⟨w.heap.size, 0, none⟩) (m + i) (m + 4)) m i)) (fun _ _ u _ => 4 - (intOf u).toNat)
    case atStart => exact ⟨0, by omega, rfl, rfl, I0⟩
    case round =>
      clear I0
      obtain ⟨i, hi, rfl, rfl, HJ⟩ := hrel
      have i0 : (0 : Int) ≤ (i : Int) := Int.natCast_nonneg _
      by_cases hlt : i < 4
      · have d1 : decide ((i : Int) < 4) = true := decide_eq_true (by omega)
        have i2 : (i : Int) < 4 := by omega
        go_wp2_with (at_builtin; refine wpList_append_fits _ rfl (.tmp 23) (.tmp 30) 32 rfl w.heap.size 5 i0' 1 Try.underlying32 hi0 hz1 w.heap.size (m + i) (m + 4) _ rfl (HJ.out.own.alloc _) ⟨wr.heap.size, 0, none⟩ 1 1 [.int .u8 (leAt n i)] rfl rfl (fun q u hq => by rcases q with _ | q <;> simp at hq <;> subst hq <;> simp [go_sem, leAt]) (by simp [Value.oneCell']) (by omega) ?_)
        intro w5 hown5 hg5
        have F2 : Hid (OInvP n xs w w5 (.slice (some ⟨w.heap.size, 0, none⟩) (m + (i + 1)) (m + 4)) m (i + 1)) := Lib.hid (HJ.out.push (by rw [List.map_append, List.append_assoc]; exact hown5) (((Only.refl _ wr).alloc _).grown hg5 (fun k hk => .inl (by simpa [Value.ownBlock] using hk.symm))))
        clear hown5 hg5
        go_wp2_with fail
        go_roundw
        case rel => exact ⟨i + 1, by omega, by go_num, by first | rfl | (rw [Nat.add_assoc]), F2⟩
        case measure => simp [intOf]; omega
      · have d1 : decide ((i : Int) < 4) = false := decide_eq_false (by omega)
        have E : Hid (i = 4) := Lib.hid (by omega)
        go_wp2_with fail
        go_ret
        have hh := HJ.out
        rw [E.out] at hh
        have hlen : (xs ++ leB n 4).length = m + 4 := by rw [List.length_append, HX.out, leB_len]
        refine ⟨w.heap.size, by rw [hlen, E.out]; rfl, ?_, hh.bl⟩
        rw [hlen]
        exact hh.own
theorem put32_on (n : Int) (h0 : 0 ≤ n) (h1 : n < 4294967296) (a : Option Addr) (m c : Nat) (xs : List Int) (w : World) (hx : xs.length = m) (hi : Ints .u8 w (.slice a m c) xs) (hm : m ≤ 100000) : Calls Try.prog 71 #[.slice a m c, .int .u32 n, .int .i64 4] w (Gives (xs ++ leB n 4) w) :=
  (put32_x n h0 h1 a m c xs w hx hi hm).mono fun _ _ h => h.gives
set_option maxRecDepth 100000 in
set_option maxHeartbeats 4000000 in
theorem put16_x (n : Int) (h0 : 0 ≤ n) (h1 : n < 65536) (a : Option Addr) (m c : Nat) (xs : List Int) (w : World) (hx : xs.length = m) (hi : Ints .u8 w (.slice a m c) xs) (hm : m ≤ 100000) : Calls Try.prog 77 #[.slice a m c, .int .u16 n, .int .i64 2] w (GivesX (xs ++ leB n 2) w) := by
  obtain ⟨i0', hi0, hz0, hz1, hz2⟩ := info_parts infoBy
  have H1 := Lib.hid h1
  have HX := Lib.hid hx
  have HM := Lib.hid hm
  have em : IntKind.i64.wrap ((m : Int) + 2) = (m : Int) + 2 := IntWalk.i64_in _ (by omega)
  have HI := Lib.hid hi
  have wn : IntKind.u64.wrap n = n := by rw [show IntKind.u64.wrap n = n % 18446744073709551616 from rfl]; omega
  clear h1 hi hx hm
  go_enter Try.func77, Try.ntmps77
  go_wp2_with (first
    | (refine wpList_make_nk rfl _ _ _ rfl _ i0' _ Try.underlying32 hi0 hz0 hz1 rfl .i64 .i64 m (m + 2) rfl rfl (by omega) (by rw [hz2]; have := HM.out; omega) (by unfold maxLen; have := HM.out; omega) ?_; intro w1 hr1 ho1 hs1; have R1 := Lib.hid hr1; have O1 := Lib.hid ho1; clear hr1 ho1 hs1)
    | (refine wpList_copy_splice rfl (.tmp 16) (.tmp 17) 32 32 rfl 5 Try.underlying32 (by rw [hi0]; simp [hz1]) (some ⟨w.heap.size, 0, none⟩) a m (m + 2) m c rfl rfl w.heap.size 0 (List.replicate (m + 2) (.int .u8 0)) 5 R1.out (xs.map (Value.int .u8)) (by rw [List.length_map, HX.out]; exact (Nat.min_self m).symm) ?s1 ?s2 (one_u8 xs) w.heap.size w (O1.out.toBelow (Nat.le_refl _) (by simp)) (Nat.le_refl _) ?s3))
  case s1 =>
    intro hp
    rw [HX.out] at hp
    have h := HI.out
    obtain ⟨b', off', cap', hv, hc⟩ := h.shape (by rw [HX.out]; exact hp)
    simp only [Value.slice.injEq] at hv
    obtain ⟨rfl, _, rfl⟩ := hv
    refine ⟨⟨b', off', none⟩, rfl, fun j z hz => ?_⟩
    have hlt := (List.getElem?_eq_some_iff.1 hz).1
    have hcj := hc j hlt
    rw [hz] at hcj
    rw [add_plain]
    exact (O1.out.cell (World.block_lt_of_cell? w _ hcj) (by simp)).trans hcj
  case s2 => simp [HX.out]
  case s3 =>
    intro w2 hr2 hb2
    have I0 : Hid (OInvP n xs w w2 (.slice (some ⟨w.heap.size, 0, none⟩) m (m + 2)) m 0) := Lib.hid ⟨by
      have h := own_of_splice (base := w.heap.size) HX.out hr2.out (Nat.le_refl _) (by unfold maxLen; have := HM.out; omega)
      have e : xs ++ leB n 0 = xs := by simp [leB]
      rw [e]
      exact h, hb2⟩
    clear hr2 hb2 R1 O1
    go_wp2_with fail
    go_loopw [7, 8, 20] (fun v _ u wr => ∃ i : Nat, i ≤ 2 ∧ u = .int .i64 i ∧ v = .slice (some ⟨w.heap.size, 0, none⟩) (m + i) (m + 2) ∧ Hid (OInvP n xs w wr (.slice (some ⟨w.heap.size, 0, none⟩) (m + i) (m + 2)) m i)) (fun _ _ u _ => 2 - (intOf u).toNat)
    case atStart => exact ⟨0, by omega, rfl, rfl, I0⟩
    case round =>
      clear I0
      obtain ⟨i, hi, rfl, rfl, HJ⟩ := hrel
      have i0 : (0 : Int) ≤ (i : Int) := Int.natCast_nonneg _
      by_cases hlt : i < 2
      · have d1 : decide ((i : Int) < 2) = true := decide_eq_true (by omega)
        have i2 : (i : Int) < 2 := by omega
        go_wp2_with (at_builtin; refine wpList_append_fits _ rfl (.tmp 23) (.tmp 30) 32 rfl w.heap.size 5 i0' 1 Try.underlying32 hi0 hz1 w.heap.size (m + i) (m + 2) _ rfl (HJ.out.own.alloc _) ⟨wr.heap.size, 0, none⟩ 1 1 [.int .u8 (leAt n i)] rfl rfl (fun q u hq => by rcases q with _ | q <;> simp at hq <;> subst hq <;> simp [go_sem, leAt]) (by simp [Value.oneCell']) (by omega) ?_)
        intro w5 hown5 hg5
        have F2 : Hid (OInvP n xs w w5 (.slice (some ⟨w.heap.size, 0, none⟩) (m + (i + 1)) (m + 2)) m (i + 1)) := Lib.hid (HJ.out.push (by rw [List.map_append, List.append_assoc]; exact hown5) (((Only.refl _ wr).alloc _).grown hg5 (fun k hk => .inl (by simpa [Value.ownBlock] using hk.symm))))
        clear hown5 hg5
        go_wp2_with fail
        go_roundw
        case rel => exact ⟨i + 1, by omega, by go_num, by first | rfl | (rw [Nat.add_assoc]), F2⟩
        case measure => simp [intOf]; omega
      · have d1 : decide ((i : Int) < 2) = false := decide_eq_false (by omega)
        have E : Hid (i = 2) := Lib.hid (by omega)
        go_wp2_with fail
        go_ret
        have hh := HJ.out
        rw [E.out] at hh
        have hlen : (xs ++ leB n 2).length = m + 2 := by rw [List.length_append, HX.out, leB_len]
        refine ⟨w.heap.size, by rw [hlen, E.out]; rfl, ?_, hh.bl⟩
        rw [hlen]
        exact hh.own
theorem put16_on (n : Int) (h0 : 0 ≤ n) (h1 : n < 65536) (a : Option Addr) (m c : Nat) (xs : List Int) (w : World) (hx : xs.length = m) (hi : Ints .u8 w (.slice a m c) xs) (hm : m ≤ 100000) : Calls Try.prog 77 #[.slice a m c, .int .u16 n, .int .i64 2] w (Gives (xs ++ leB n 2) w) :=
  (put16_x n h0 h1 a m c xs w hx hi hm).mono fun _ _ h => h.gives
end Go.Proofs.Ytekdogmhgijocaa

/- Put16, Put32, Put64, PutUv, PutText behind bytes that are there. -/
namespace Go.Proofs.Ytekdogmhgijocaa
open Go.RowKit Go.ChangeShapes Go.WideShapes Go.ChangeAt
set_option linter.unusedVariables false

theorem Put64_x (n : Int) (h0 : 0 ≤ n) (h1 : n < 18446744073709551616) (a : Option Addr) (m c : Nat) (xs : List Int) (w : World) (hx : xs.length = m) (hi : Ints .u8 w (.slice a m c) xs) (hm : m ≤ 100000) : Calls Try.prog 59 #[.slice a m c, .int .u64 n] w (GivesX (xs ++ leB n 8) w) := by
  have K := Lib.hid (put64_x n h0 h1 a m c xs w hx hi hm)
  clear h0 h1 hx hi hm
  go_enter Try.func59, Try.ntmps59
  go_wp2_with fail
  refine K.out.mono ?_
  rintro _ w2 ⟨g, rfl, hv, hb⟩
  obtain ⟨L, hL⟩ : ∃ L, (xs ++ leB n 8).length = L := ⟨_, rfl⟩
  rw [hL] at hv
  rw [hL]
  have HL := Lib.hid hL
  have OV := Lib.hid hv
  have B2 := Lib.hid hb
  clear hv hb hL
  go_wp2_with fail
  go_ret
  exact ⟨g, by rw [HL.out]; rfl, by rw [HL.out]; exact OV.out, B2.out⟩
theorem Put64_on (n : Int) (h0 : 0 ≤ n) (h1 : n < 18446744073709551616) (a : Option Addr) (m c : Nat) (xs : List Int) (w : World) (hx : xs.length = m) (hi : Ints .u8 w (.slice a m c) xs) (hm : m ≤ 100000) : Calls Try.prog 59 #[.slice a m c, .int .u64 n] w (Gives (xs ++ leB n 8) w) :=
  (Put64_x n h0 h1 a m c xs w hx hi hm).mono fun _ _ h => h.gives
theorem Put32_x (n : Int) (h0 : 0 ≤ n) (h1 : n < 4294967296) (a : Option Addr) (m c : Nat) (xs : List Int) (w : World) (hx : xs.length = m) (hi : Ints .u8 w (.slice a m c) xs) (hm : m ≤ 100000) : Calls Try.prog 58 #[.slice a m c, .int .u32 n] w (GivesX (xs ++ leB n 4) w) := by
  have K := Lib.hid (put32_x n h0 h1 a m c xs w hx hi hm)
  clear h0 h1 hx hi hm
  go_enter Try.func58, Try.ntmps58
  go_wp2_with fail
  refine K.out.mono ?_
  rintro _ w2 ⟨g, rfl, hv, hb⟩
  obtain ⟨L, hL⟩ : ∃ L, (xs ++ leB n 4).length = L := ⟨_, rfl⟩
  rw [hL] at hv
  rw [hL]
  have HL := Lib.hid hL
  have OV := Lib.hid hv
  have B2 := Lib.hid hb
  clear hv hb hL
  go_wp2_with fail
  go_ret
  exact ⟨g, by rw [HL.out]; rfl, by rw [HL.out]; exact OV.out, B2.out⟩
theorem Put32_on (n : Int) (h0 : 0 ≤ n) (h1 : n < 4294967296) (a : Option Addr) (m c : Nat) (xs : List Int) (w : World) (hx : xs.length = m) (hi : Ints .u8 w (.slice a m c) xs) (hm : m ≤ 100000) : Calls Try.prog 58 #[.slice a m c, .int .u32 n] w (Gives (xs ++ leB n 4) w) :=
  (Put32_x n h0 h1 a m c xs w hx hi hm).mono fun _ _ h => h.gives
theorem Put16_x (n : Int) (h0 : 0 ≤ n) (h1 : n < 65536) (a : Option Addr) (m c : Nat) (xs : List Int) (w : World) (hx : xs.length = m) (hi : Ints .u8 w (.slice a m c) xs) (hm : m ≤ 100000) : Calls Try.prog 65 #[.slice a m c, .int .u16 n] w (GivesX (xs ++ leB n 2) w) := by
  have K := Lib.hid (put16_x n h0 h1 a m c xs w hx hi hm)
  clear h0 h1 hx hi hm
  go_enter Try.func65, Try.ntmps65
  go_wp2_with fail
  refine K.out.mono ?_
  rintro _ w2 ⟨g, rfl, hv, hb⟩
  obtain ⟨L, hL⟩ : ∃ L, (xs ++ leB n 2).length = L := ⟨_, rfl⟩
  rw [hL] at hv
  rw [hL]
  have HL := Lib.hid hL
  have OV := Lib.hid hv
  have B2 := Lib.hid hb
  clear hv hb hL
  go_wp2_with fail
  go_ret
  exact ⟨g, by rw [HL.out]; rfl, by rw [HL.out]; exact OV.out, B2.out⟩
theorem Put16_on (n : Int) (h0 : 0 ≤ n) (h1 : n < 65536) (a : Option Addr) (m c : Nat) (xs : List Int) (w : World) (hx : xs.length = m) (hi : Ints .u8 w (.slice a m c) xs) (hm : m ≤ 100000) : Calls Try.prog 65 #[.slice a m c, .int .u16 n] w (Gives (xs ++ leB n 2) w) :=
  (Put16_x n h0 h1 a m c xs w hx hi hm).mono fun _ _ h => h.gives
/-- A count's bytes. -/
def uvF : Nat → Int → List Int
  | 0, n => [n]
  | k + 1, n => if n < 128 then [n] else (n % 128 + 128) :: uvF k (n / 128)
def uvB (n : Int) : List Int := uvF 10 n
theorem uvB_one {n : Int} (h : n < 128) : uvB n = [n] := by unfold uvB; rw [uvF, if_pos h]
theorem uvB_two {n : Int} (h : 128 ≤ n) (h2 : n < 16384) : uvB n = [n % 128 + 128, n / 128] := by
  unfold uvB
  rw [uvF, if_neg (by omega), uvF, if_pos (by omega)]
theorem or128 : ∀ x : Int, 0 ≤ x → x < 256 → bits .or .u8 x 128 = x % 128 + 128 := fun x h0 h1 => by
  have key : ∀ k : Fin 256, bits .or .u8 ((k.val : Nat) : Int) 128 = ((k.val : Nat) : Int) % 128 + 128 := by decide +kernel
  have := key ⟨x.toNat, by omega⟩
  simpa [Int.toNat_of_nonneg h0] using this
end Go.Proofs.Ytekdogmhgijocaa
