/- CRC: the walks of both. -/
import Derived.Test.YtekdogmhgijocaaArr
import Derived.Test.YtekdogmhgijocaaCrcB
set_option linter.unusedSimpArgs false
namespace Go.Proofs.Ytekdogmhgijocaa
open Go.RowKit Go.ChangeShapes Go.WideShapes Go.ChangeAt
set_option linter.unusedVariables false

def cIt : Nat → Nat → Nat
  | 0, x => x
  | i + 1, x => cBit (cIt i x)
theorem cIt_four (x : Nat) : cIt 4 x = cFour x := rfl
theorem cIt_eight (x : Nat) : cIt 8 x = cEight x := rfl
theorem cIt_lt {x : Nat} (h : x < 4294967296) : ∀ i, cIt i x < 4294967296
  | 0 => h
  | i + 1 => cBit_lt (cIt_lt h i)
set_option maxHeartbeats 1000000 in
theorem half_any (x : Nat) (hx : x < 4294967296) (w : World) : Calls Try.prog 78 #[.int .u32 x] w fun e w' => e = .returned (.int .u32 (cFour x : Nat)) ∧ w' = w := by
  go_enter Try.func78, Try.ntmps78
  go_wp2_with fail
  go_loopw [0, 3] (fun u v wr => ∃ i : Nat, i ≤ 4 ∧ u = .int .u32 (cIt i x : Nat) ∧ v = .int .i64 i ∧ Hid (wr = w)) (fun _ v _ => 4 - (intOf v).toNat)
  case atStart => exact ⟨0, by omega, rfl, rfl, Lib.hid rfl⟩
  case round =>
    obtain ⟨i, hi, rfl, rfl, HW⟩ := hrel
    obtain rfl := HW.out
    have i0 : (0 : Int) ≤ (i : Int) := Int.natCast_nonneg _
    by_cases hlt : i < 4
    · have d1 : decide ((i : Int) < 4) = true := decide_eq_true (by omega)
      have i2 : (i : Int) < 4 := by omega
      have hl := cIt_lt hx i
      have hs : cIt (i + 1) x = cBit (cIt i x) := rfl
      have HS := Lib.hid hs
      clear hs
      generalize cIt i x = y at *
      have h1 := and_one y hl
      have h2 := bit_mask y hl
      generalize y % 2 = m at h1 h2
      generalize cBit y = c at h2 HS
      clear hl
      go_wp2_with fail
      go_roundw
      case rel => exact ⟨i + 1, by omega, by rw [HS.out], by go_num, by first | exact Lib.hid trivial | exact Lib.hid rfl⟩
      case measure => simp [intOf]; omega
    · have d1 : decide ((i : Int) < 4) = false := decide_eq_false (by omega)
      have E : Hid (i = 4) := Lib.hid (by omega)
      go_wp2_with fail
      go_ret
      refine ⟨?_, rfl⟩
      rw [E.out]; rfl
/-! ### the table -/
def tabC (i : Nat) : Array Value := ((List.range 16).map fun (k : Nat) => if k < i then Value.int .u32 (cFour k : Nat) else .int .u32 0).toArray
theorem tabC_size (i : Nat) : (tabC i).size = 16 := by simp [tabC]
theorem tabC_get (i k : Nat) (hk : k < 16) : (tabC i)[k]? = some (if k < i then Value.int .u32 (cFour k : Nat) else .int .u32 0) := by simp [tabC, hk]
theorem tabC_next (i : Nat) : (tabC i).setIfInBounds i (.int .u32 (cFour i : Nat)) = tabC (i + 1) := by
  refine Array.ext_getElem? fun j => ?_
  rw [Array.getElem?_setIfInBounds, tabC_size]
  by_cases hj : j < 16
  · rw [tabC_get _ _ hj, tabC_get _ _ hj]
    by_cases e : i = j
    · subst e; rw [if_pos rfl, if_pos hj, if_pos (by omega)]
    · rw [if_neg e]
      by_cases h2 : j < i
      · rw [if_pos h2, if_pos (by omega)]
      · rw [if_neg h2, if_neg (by omega)]
  · rw [Array.getElem?_eq_none (by rw [tabC_size]; omega), Array.getElem?_eq_none (by rw [tabC_size]; omega)]
    by_cases e : i = j
    · rw [if_pos e, if_neg (by omega)]
    · rw [if_neg e]
theorem zeroTab : (Try.prog.info? 125).map (fun i => (i.zero, i.size)) = some (some (.agg (tabC 0)), 16) := by kernel_rfl
set_option maxHeartbeats 1000000 in
theorem more1_any (x t : Nat) (hx : x < 4294967296) (w : World) (h : Row w t (tabC 16) 125) : Calls Try.prog 79 #[.int .u32 x, .pointer (some ⟨t, 0, none⟩)] w fun e w' => e = .returned (.int .u32 (cFour x : Nat)) ∧ w' = w := by
  have h1 := and_15 x hx
  have h2 := four_table x hx
  have hm : x % 16 < 16 := Nat.mod_lt _ (by omega)
  have c1 : w.cell? ⟨t, x % 16, none⟩ = some (.int .u32 (cFour (x % 16) : Nat)) := (h.cell _).trans ((tabC_get 16 _ hm).trans (by rw [if_pos hm]))
  have hm' : ((x % 16 : Nat) : Int) < 16 := by omega
  have hm0 : (0 : Int) ≤ ((x % 16 : Nat) : Int) := Int.natCast_nonneg _
  generalize x % 16 = m at *
  generalize cFour m = d at *
  generalize cFour x = c at *
  clear h
  go_enter Try.func79, Try.ntmps79
  go_wp2_with fail
  go_ret
  exact ⟨rfl, rfl⟩
end Go.Proofs.Ytekdogmhgijocaa

/- CRC: More, Sum of both. -/
namespace Go.Proofs.Ytekdogmhgijocaa
open Go.RowKit Go.ChangeShapes Go.WideShapes Go.ChangeAt
set_option linter.unusedVariables false

def IsBy (xs : List Int) : Prop := ∀ x ∈ xs, 0 ≤ x ∧ x < 256
theorem cReg_lt (b : List Nat) : ∀ (x : Nat), x < 4294967296 → (∀ c ∈ b, c < 256) → cReg x b < 4294967296 := by
  induction b with
  | nil => intro x h _; rw [cReg_nil]; exact h
  | cons c b ih =>
    intro x h hb
    have hc : c < 256 := hb c (List.mem_cons_self ..)
    have h1 : x ^^^ c < 2 ^ 32 := Nat.xor_lt_two_pow (by omega) (by omega)
    have h2 : cEight (x ^^^ c) < 2 ^ 32 := cEight_lt h1
    rw [cReg_cons]
    generalize cEight (x ^^^ c) = y at *
    exact ih y (by omega) fun d hd => hb d (List.mem_cons_of_mem _ hd)
def nats (xs : List Int) : List Nat := xs.map Int.toNat
/-- The register behind the first i. -/
def regI (xs : List Int) (i : Nat) : Nat := cReg 4294967295 (nats (xs.take i))
def sumI (xs : List Int) : Nat := cSum (nats xs)
theorem sumI_lt (xs : List Int) : sumI xs < 4294967296 := by unfold sumI cSum; omega
theorem regI_lt {xs : List Int} (h : IsBy xs) (i : Nat) : regI xs i < 4294967296 := cReg_lt _ _ (by omega) fun c hc => by
  obtain ⟨x, hx, rfl⟩ := List.mem_map.1 hc
  have := h x (List.mem_of_mem_take hx)
  omega
theorem regI_succ {xs : List Int} (i : Nat) (c : Nat) (h : xs[i]? = some (c : Int)) : regI xs (i + 1) = cEight (regI xs i ^^^ c) := by
  obtain ⟨hi, hx⟩ := List.getElem?_eq_some_iff.1 h
  unfold regI nats
  rw [List.take_succ_eq_append_getElem hi, List.map_append, cReg_append, hx, List.map_cons, List.map_nil, cReg_cons, cReg_nil, Int.toNat_natCast]
theorem sumI_eq {xs : List Int} (h : IsBy xs) : ((sumI xs : Nat) : Int) = ((4294967295 - regI xs xs.length : Nat) : Int) := by
  unfold sumI regI cSum
  rw [List.take_length]
theorem byteAt {xs : List Int} (h : IsBy xs) {i : Nat} (hi : i < xs.length) : ∃ c : Nat, xs[i]? = some (c : Int) ∧ c < 256 := by
  have := h xs[i] (List.getElem_mem hi)
  exact ⟨xs[i].toNat, by rw [List.getElem?_eq_getElem hi]; congr 1; omega, by omega⟩
def SumPost (xs : List Int) (w : World) (e : Ending) (w' : World) : Prop := e = .returned (.int .u32 (sumI xs : Nat)) ∧ Below w.heap.size w w'
structure MInv (w wr : World) (t : Nat) : Prop where
  tab : Row wr t (tabC 16) 125
  bl : Below w.heap.size w wr
set_option maxHeartbeats 2000000 in
theorem more_any (a : Option Addr) (n c : Nat) (xs : List Int) (w : World) (hx : xs.length = n) (hi : Ints .u8 w (.slice a n c) xs) (hb : IsBy xs) (hn : n ≤ 9223372036854775807) :
    Calls Try.prog 69 #[.int .u32 0, .slice a n c] w (SumPost xs w) := by
  have HI := Lib.hid hi
  have HB := Lib.hid hb
  have HX := Lib.hid hx
  clear hi hb hx
  go_enter Try.func69, Try.ntmps69
  go_wp2_with (refine wpList_alloc_at rfl 125 rfl _ (zero_of_info zeroTab).1 ?_; intro w1 hr1 ho1 hs1)
  obtain ⟨t, ht⟩ : ∃ t, t = w.heap.size := ⟨_, rfl⟩
  rw [← ht] at hr1 ⊢
  have R1 := Lib.hid hr1
  have B1 := Lib.hid (ho1.toBelow (Nat.le_refl _) (by simp))
  have HT := Lib.hid ht
  clear hr1 ho1 hs1 ht
  go_loopw [6, 11] (fun _ u wr => ∃ i : Nat, i ≤ 16 ∧ u = .int .i64 i ∧ Hid (Row wr t (tabC i) 125 ∧ Below w.heap.size w wr)) (fun _ u _ => 16 - (intOf u).toNat)
  case atStart => exact ⟨0, by omega, rfl, Lib.hid ⟨R1.out, B1.out⟩⟩
  case round =>
    clear R1 B1
    obtain ⟨i, hi, rfl, HR⟩ := hrel
    have i0 : (0 : Int) ≤ (i : Int) := Int.natCast_nonneg _
    by_cases hlt : i < 16
    · have d1 : decide ((i : Int) < 16) = true := decide_eq_true (by omega)
      have i2 : (i : Int) < 16 := by omega
      have c1 : wr.cell? ⟨t, i, none⟩ = some _ := (HR.out.1.cell i).trans (tabC_get i i hlt)
      have f1 := HR.out.1.free i
      have F2 : Hid (Row (wr.setCell ⟨t, i, none⟩ (.int .u32 (cFour i : Nat))) t (tabC (i + 1)) 125 ∧ Below w.heap.size w (wr.setCell ⟨t, i, none⟩ (.int .u32 (cFour i : Nat)))) := Lib.hid ⟨by have := HR.out.1.set i (.int .u32 (cFour i : Nat)); rw [tabC_next] at this; exact this, HR.out.2.setCell (p := ⟨t, i, none⟩) (by show w.heap.size ≤ t; rw [HT.out]; exact Nat.le_refl _) _⟩
      go_wp2_with fail
      refine (half_any i (by omega) wr).mono ?_
      rintro _ w' ⟨rfl, hw'⟩
      subst w'
      generalize cFour i = d at *
      go_wp2_with fail
      go_roundw
      case rel => exact ⟨i + 1, by omega, by go_num, F2⟩
      case measure => simp [intOf]; omega
    · have d1 : decide ((i : Int) < 16) = false := decide_eq_false (by omega)
      have M1 : Hid (MInv w wr t) := Lib.hid (by
        have : i = 16 := by omega
        subst this
        exact ⟨HR.out.1, HR.out.2⟩)
      clear HR
      go_wp2_with fail
      go_loopw [8, 10, 25] (fun x _ u wq => ∃ k : Nat, k ≤ n ∧ u = .int .i64 k ∧ x = .int .u32 (regI xs k : Nat) ∧ Hid (MInv w wq t)) (fun _ _ u _ => n - (intOf u).toNat)
      case atStart => exact ⟨0, by omega, rfl, by first | rfl | (show Value.int _ _ = Value.int _ _; congr 1), M1⟩
      case round =>
        clear M1
        obtain ⟨k, hk, rfl, rfl, HM⟩ := hrel
        have k0 : (0 : Int) ≤ (k : Int) := Int.natCast_nonneg _
        have hl := regI_lt HB.out k
        by_cases hkn : k < n
        · have e1 : decide ((k : Int) < (n : Int)) = true := decide_eq_true (by omega)
          have e1' : (k : Int) < (n : Int) := by omega
          obtain ⟨cv, hc1, hc2⟩ := byteAt HB.out (show k < xs.length by rw [HX.out]; exact hkn)
          have HS := Lib.hid (regI_succ k cv hc1)
          obtain ⟨b, off, cap, hv, hcell⟩ := HI.out.shape (by rw [HX.out]; omega)
          rw [HX.out] at hv
          simp only [Value.slice.injEq] at hv
          obtain ⟨rfl, _, rfl⟩ := hv
          have l1 := hcell k (by rw [HX.out]; exact hkn)
          rw [hc1] at l1
          have l1' : wr.cell? ⟨b, off + k, none⟩ = some (.int .u8 (cv : Int)) := (HM.out.bl.cell (p := ⟨b, off + k, none⟩) (World.block_lt_of_cell? w _ l1)).trans l1
          have wv : (cv : Int) % 4294967296 = (cv : Int) := by omega
          generalize regI xs k = y at *
          have hxr := u32_xor_nat y cv hl (by omega)
          have hxl : y ^^^ cv < 4294967296 := Nat.xor_lt_two_pow (n := 32) (by omega) (by omega)
          have HS2 : Hid (regI xs (k + 1) = cFour (cFour (y ^^^ cv))) := Lib.hid HS.out
          generalize y ^^^ cv = z at *
          have hzl := cFour_lt hxl
          clear hcell l1 hc1 HS
          go_wp2_with fail
          refine (more1_any z t hxl wr HM.out.tab).mono ?_
          rintro _ w' ⟨rfl, hw'⟩
          subst w'
          go_wp2_with fail
          refine (more1_any (cFour z) t hzl wr HM.out.tab).mono ?_
          rintro _ w' ⟨rfl, hw'⟩
          subst w'
          go_wp2_with fail
          go_roundw
          case rel => exact ⟨k + 1, by omega, by go_num, by rw [HS2.out], HM⟩
          case measure => simp [intOf]; omega
        · have e1 : decide ((k : Int) < (n : Int)) = false := decide_eq_false (by omega)
          have hn2 := not_u32 _ hl
          have hn3 : bits .xor .u32 IntKind.u32.max ((regI xs k : Nat) : Int) = ((4294967295 - regI xs k : Nat) : Int) := hn2
          have hs := sumI_eq HB.out
          have E : Hid (k = xs.length) := Lib.hid (by rw [HX.out]; omega)
          have HSE : Hid (((4294967295 - regI xs k : Nat) : Int) = ((sumI xs : Nat) : Int)) := Lib.hid (by rw [E.out]; exact hs.symm)
          clear hs
          generalize regI xs k = y at *
          generalize hq : 4294967295 - y = q at *
          clear hq
          go_wp2_with fail
          go_ret
          exact ⟨by rw [← HSE.out]; rfl, HM.out.bl⟩
theorem sum_any (a : Option Addr) (n c : Nat) (xs : List Int) (w : World) (hx : xs.length = n) (hi : Ints .u8 w (.slice a n c) xs) (hb : IsBy xs) (hn : n ≤ 9223372036854775807) :
    Calls Try.prog 51 #[.slice a n c] w (SumPost xs w) := by
  have M := Lib.hid (more_any a n c xs w hx hi hb hn)
  clear hx hi hb
  go_enter Try.func51, Try.ntmps51
  go_wp2_with fail
  refine M.out.mono ?_
  rintro _ w' ⟨rfl, hb⟩
  have B := Lib.hid hb
  clear hb
  go_wp2_with fail
  go_ret
  exact ⟨rfl, B.out⟩
end Go.Proofs.Ytekdogmhgijocaa

/- The document's CRC; numbers as bytes. -/
namespace Go.Proofs.Ytekdogmhgijocaa
open Go.RowKit Go.ChangeShapes Go.WideShapes Go.ChangeAt
set_option linter.unusedVariables false

/-! ### numbers as bytes -/
theorem infoBy : (Try.prog.info? 5).map (fun i => (i.zero, i.size, i.bytes)) = some (some (.int .u8 0), 1, 1) := by kernel_rfl
def leAt (n : Int) (i : Nat) : Int := n / 2 ^ (8 * i) % 256
def leB (n : Int) (k : Nat) : List Int := (List.range k).map (leAt n)
theorem leB_succ (n : Int) (k : Nat) : leB n (k + 1) = leB n k ++ [leAt n k] := by simp [leB, List.range_succ]
theorem leB_len (n : Int) (k : Nat) : (leB n k).length = k := by simp [leB]
theorem leB_by (n : Int) (k : Nat) : IsBy (leB n k) := fun x hx => by
  obtain ⟨i, _, rfl⟩ := List.mem_map.1 hx
  unfold leAt; omega
theorem copy_none (x : World) (a : Option Addr) (c : Nat) : (Builtin.copy_ #[32, 32] 3 #[.slice a 0 c, .slice none 0 0]).run Try.prog x = .ok (.int .i64 0) x := by
  obtain ⟨i0', hi0, hz0, hz1, hz2⟩ := info_parts infoBy
  exact run_copy_none x 32 32 3 5 a none 0 c 0 0 Try.underlying32 (by rw [hi0]; simp [hz1]) rfl
/-- make([]byte, 0, k). -/
theorem wpList_make0 {P : Program} {w : World} {ops : Array Oper} {rest : List Oper} {o : Oper} {a : Act} {Q : Exit → Act → World → Prop} (hg : o.guard = none) (l c : Operand) (t : TypeId) (hop : o.op = Op.makeSlice t l c) (e : TypeId) (i : TypeInfo) (z : Value) (h1 : P.underlying t = some (.slice e)) (h2 : P.info? e = some i) (h3 : i.zero = some z) (h4 : i.size = 1) (hz : z.cells = #[z])
    (kl kc : IntKind) (n : Nat) (hl : a.eval l = .int kl 0) (hc : a.eval c = .int kc (n : Int)) (b2 : i.bytes * n ≤ 281474976710656) (b3 : n ≤ maxLen)
    (hK : ∀ w', w'.ownsRow w.heap.size e 1 (.slice (some ⟨w.heap.size, 0, none⟩) 0 n) 0 [] → Only [] w w' → w'.heap.size = w.heap.size + 1 → wpList P ops Q rest (a.put o.dst (.slice (some ⟨w.heap.size, 0, none⟩) 0 n)) w') : wpList P ops Q (o :: rest) a w := by
  refine wpList_plain hg fun K hK' => ?_
  have hb' : (i.bytes : Int) * (n : Int) ≤ 281474976710656 := by
    have h : ((i.bytes * n : Nat) : Int) ≤ 281474976710656 := by omega
    rwa [Int.natCast_mul] at h
  have hr := run_make (P := P) w t e i z h1 h2 h3 kl kc 0 n (Int.le_refl _) (by omega) hb' (by unfold maxLen at b3; omega)
  simp only [Int.toNat_natCast, h4, Nat.mul_one, hz, madeCells_one, Int.toNat_zero] at hr
  unfold Oper.wp
  simp [execOp, hop, hl, hc, hr, Result.andThen]
  refine hK' _ _ (hK _ ⟨rfl, .inr ⟨w.heap.size, n, Array.replicate n z, rfl, Nat.le_refl _, Row.made _ _ _, Nat.zero_le _, b3, by simp, by simp⟩⟩ ((Only.refl _ _).alloc _) (by simp))
def PutPost (n : Int) (k : Nat) (w : World) (e : Ending) (w' : World) : Prop := ∃ v, e = .returned v ∧ w'.ownsRow w.heap.size 5 1 v k ((leB n k).map (Value.int .u8)) ∧ Below w.heap.size w w'
structure PInv (n : Int) (w wr : World) (v : Value) (i : Nat) : Prop where
  own : wr.ownsRow w.heap.size 5 1 v i ((leB n i).map (Value.int .u8))
  bl : Below w.heap.size w wr
theorem PInv.push {n : Int} {w wr w5 : World} {v v5 : Value} {i : Nat} (h : PInv n w wr v i) (ho : w5.ownsRow w.heap.size 5 1 v5 (i + 1) ((leB n i).map (Value.int .u8) ++ [.int .u8 (leAt n i)])) (k : Only v.ownBlock.toList wr w5) : PInv n w w5 v5 (i + 1) :=
  ⟨by rw [leB_succ, List.map_append]; exact ho, h.bl.trans (k.toBelow h.bl.size fun b hb => (h.own.lt b (by simpa using hb)).1)⟩
set_option maxRecDepth 100000 in
set_option maxHeartbeats 2000000 in
theorem put64_any (n : Int) (h0 : 0 ≤ n) (h1 : n < 18446744073709551616) (w : World) : Calls Try.prog 72 #[.slice none 0 0, .int .u64 n, .int .i64 8] w (PutPost n 8 w) := by
  obtain ⟨i0', hi0, hz0, hz1, hz2⟩ := info_parts infoBy
  have H1 := Lib.hid h1
  have cp := copy_none
  clear h1
  go_enter Try.func72, Try.ntmps72
  go_wp2_with (refine wpList_make0 rfl _ _ _ rfl _ i0' _ Try.underlying32 hi0 hz0 hz1 rfl .i64 .i64 8 rfl rfl (by omega) (by unfold maxLen; omega) ?_; intro w1 hr1 ho1 hs1)
  have I0 : Hid (PInv n w w1 (.slice (some ⟨w.heap.size, 0, none⟩) 0 8) 0) := Lib.hid ⟨hr1, ho1.toBelow (Nat.le_refl _) (by simp)⟩
  clear hr1 ho1 hs1
  go_wp2_with fail
  go_loopw [7, 8, 20] (fun v _ u wr => ∃ i : Nat, i ≤ 8 ∧ u = .int .i64 i ∧ Hid (PInv n w wr v i)) (fun _ _ u _ => 8 - (intOf u).toNat)
  case atStart => exact ⟨0, by omega, rfl, I0⟩
  case round =>
    clear I0
    obtain ⟨i, hi, rfl, HI⟩ := hrel
    have i0 : (0 : Int) ≤ (i : Int) := Int.natCast_nonneg _
    by_cases hlt : i < 8
    · have d1 : decide ((i : Int) < 8) = true := decide_eq_true (by omega)
      have i2 : (i : Int) < 8 := by omega
      go_wp2_with (at_builtin; refine wpList_append_at rfl (.tmp 23) (.tmp 29) 32 rfl w.heap.size 5 i0' (.int .u8 0) 1 1 Try.underlying32 hi0 hz0 hz1 hz2 rfl (by decide) u7 i ((leB n i).map (Value.int .u8)) rfl (HI.out.own.alloc _) ⟨wr.heap.size, 0, none⟩ 1 1 [.int .u8 (leAt n i)] rfl rfl (fun q u hq => by rcases q with _ | q <;> simp at hq <;> subst hq <;> simp [go_sem, leAt]) (by simp [Value.oneCell']) (by unfold maxLen; omega) (by omega) (by have := HI.out.bl.size; simp; omega) ?_)
      intro v5 w5 hown5 hg5 hf5
      have F2 : Hid (PInv n w w5 v5 (i + 1)) := Lib.hid (HI.out.push hown5 (((Only.refl _ wr).alloc _).grown hg5 (fun k hk => .inl (by simp [hk]))))
      clear hown5 hg5 hf5
      go_wp2_with fail
      go_roundw
      case rel => exact ⟨i + 1, by omega, by go_num, F2⟩
      case measure => simp [intOf]; omega
    · have d1 : decide ((i : Int) < 8) = false := decide_eq_false (by omega)
      have E : Hid (i = 8) := Lib.hid (by omega)
      go_wp2_with fail
      go_ret
      have hh := HI.out
      rw [E.out] at hh
      exact ⟨_, rfl, hh.own, hh.bl⟩
set_option maxRecDepth 100000 in
set_option maxHeartbeats 2000000 in
theorem put32_any (n : Int) (h0 : 0 ≤ n) (h1 : n < 4294967296) (w : World) : Calls Try.prog 71 #[.slice none 0 0, .int .u32 n, .int .i64 4] w (PutPost n 4 w) := by
  obtain ⟨i0', hi0, hz0, hz1, hz2⟩ := info_parts infoBy
  have H1 := Lib.hid h1
  have cp := copy_none
  have wn : IntKind.u64.wrap n = n := by rw [show IntKind.u64.wrap n = n % 18446744073709551616 from rfl]; omega
  clear h1
  go_enter Try.func71, Try.ntmps71
  go_wp2_with (refine wpList_make0 rfl _ _ _ rfl _ i0' _ Try.underlying32 hi0 hz0 hz1 rfl .i64 .i64 4 rfl rfl (by omega) (by unfold maxLen; omega) ?_; intro w1 hr1 ho1 hs1)
  have I0 : Hid (PInv n w w1 (.slice (some ⟨w.heap.size, 0, none⟩) 0 4) 0) := Lib.hid ⟨hr1, ho1.toBelow (Nat.le_refl _) (by simp)⟩
  clear hr1 ho1 hs1
  go_wp2_with fail
  go_loopw [7, 8, 20] (fun v _ u wr => ∃ i : Nat, i ≤ 4 ∧ u = .int .i64 i ∧ Hid (PInv n w wr v i)) (fun _ _ u _ => 4 - (intOf u).toNat)
  case atStart => exact ⟨0, by omega, rfl, I0⟩
  case round =>
    clear I0
    obtain ⟨i, hi, rfl, HI⟩ := hrel
    have i0 : (0 : Int) ≤ (i : Int) := Int.natCast_nonneg _
    by_cases hlt : i < 4
    · have d1 : decide ((i : Int) < 4) = true := decide_eq_true (by omega)
      have i2 : (i : Int) < 4 := by omega
      go_wp2_with (at_builtin; refine wpList_append_at rfl (.tmp 23) (.tmp 30) 32 rfl w.heap.size 5 i0' (.int .u8 0) 1 1 Try.underlying32 hi0 hz0 hz1 hz2 rfl (by decide) u7 i ((leB n i).map (Value.int .u8)) rfl (HI.out.own.alloc _) ⟨wr.heap.size, 0, none⟩ 1 1 [.int .u8 (leAt n i)] rfl rfl (fun q u hq => by rcases q with _ | q <;> simp at hq <;> subst hq <;> simp [go_sem, leAt]) (by simp [Value.oneCell']) (by unfold maxLen; omega) (by omega) (by have := HI.out.bl.size; simp; omega) ?_)
      intro v5 w5 hown5 hg5 hf5
      have F2 : Hid (PInv n w w5 v5 (i + 1)) := Lib.hid (HI.out.push hown5 (((Only.refl _ wr).alloc _).grown hg5 (fun k hk => .inl (by simp [hk]))))
      clear hown5 hg5 hf5
      go_wp2_with fail
      go_roundw
      case rel => exact ⟨i + 1, by omega, by go_num, F2⟩
      case measure => simp [intOf]; omega
    · have d1 : decide ((i : Int) < 4) = false := decide_eq_false (by omega)
      have E : Hid (i = 4) := Lib.hid (by omega)
      go_wp2_with fail
      go_ret
      have hh := HI.out
      rw [E.out] at hh
      exact ⟨_, rfl, hh.own, hh.bl⟩
end Go.Proofs.Ytekdogmhgijocaa
