/- CRC: More, Sum of both. -/
import Derived.Test.YtjhomphbfkbaoaaPgA
namespace Go.Proofs.Ytjhomphbfkbaoaa
open Go.RowKit Go.ChangeShapes Go.WideShapes Go.ChangeAt
set_option linter.unusedVariables false

def IsBy (xs : List Int) : Prop := ∀ x ∈ xs, 0 ≤ x ∧ x < 256
theorem cReg_lt (b : List Nat) : ∀ (x : Nat), x < 4294967296 → (∀ c ∈ b, c < 256) → cReg x b < 4294967296 := by
  induction b with
  | nil => intro x h _; rw [cReg_nil]; exact h
  | cons c b ih =>
    intro x h hb
    have hc : c < 256 := hb c (List.mem_cons_self ..)
    have h1 : x ^^^ c < 2 ^ 32 := Nat.xor_lt_two_pow (by omega) (by omega)
    have h2 : cEight (x ^^^ c) < 2 ^ 32 := cEight_lt h1
    rw [cReg_cons]
    generalize cEight (x ^^^ c) = y at *
    exact ih y (by omega) fun d hd => hb d (List.mem_cons_of_mem _ hd)
def nats (xs : List Int) : List Nat := xs.map Int.toNat
/-- The register behind the first i. -/
def regI (xs : List Int) (i : Nat) : Nat := cReg 4294967295 (nats (xs.take i))
def sumI (xs : List Int) : Nat := cSum (nats xs)
theorem sumI_lt (xs : List Int) : sumI xs < 4294967296 := by unfold sumI cSum; omega
theorem regI_lt {xs : List Int} (h : IsBy xs) (i : Nat) : regI xs i < 4294967296 := cReg_lt _ _ (by omega) fun c hc => by
  obtain ⟨x, hx, rfl⟩ := List.mem_map.1 hc
  have := h x (List.mem_of_mem_take hx)
  omega
theorem regI_succ {xs : List Int} (i : Nat) (c : Nat) (h : xs[i]? = some (c : Int)) : regI xs (i + 1) = cEight (regI xs i ^^^ c) := by
  obtain ⟨hi, hx⟩ := List.getElem?_eq_some_iff.1 h
  unfold regI nats
  rw [List.take_succ_eq_append_getElem hi, List.map_append, cReg_append, hx, List.map_cons, List.map_nil, cReg_cons, cReg_nil, Int.toNat_natCast]
theorem sumI_eq {xs : List Int} (h : IsBy xs) : ((sumI xs : Nat) : Int) = ((4294967295 - regI xs xs.length : Nat) : Int) := by
  unfold sumI regI cSum
  rw [List.take_length]
theorem byteAt {xs : List Int} (h : IsBy xs) {i : Nat} (hi : i < xs.length) : ∃ c : Nat, xs[i]? = some (c : Int) ∧ c < 256 := by
  have := h xs[i] (List.getElem_mem hi)
  exact ⟨xs[i].toNat, by rw [List.getElem?_eq_getElem hi]; congr 1; omega, by omega⟩
def SumPost (xs : List Int) (w : World) (e : Ending) (w' : World) : Prop := e = .returned (.int .u32 (sumI xs : Nat)) ∧ Below w.heap.size w w'
structure MInv (w wr : World) (t : Nat) : Prop where
  tab : Row wr t (tabC 16) 125
  bl : Below w.heap.size w wr
set_option maxHeartbeats 2000000 in
theorem more_any (a : Option Addr) (n c : Nat) (xs : List Int) (w : World) (hx : xs.length = n) (hi : Ints .u8 w (.slice a n c) xs) (hb : IsBy xs) (hn : n ≤ 9223372036854775807) :
    Calls Try.prog 71 #[.int .u32 0, .slice a n c] w (SumPost xs w) := by
  have HI := Lib.hid hi
  have HB := Lib.hid hb
  have HX := Lib.hid hx
  clear hi hb hx
  go_enter Try.func71, Try.ntmps71
  go_wp2_with (refine wpList_alloc_at rfl 125 rfl _ (zero_of_info zeroTab).1 ?_; intro w1 hr1 ho1 hs1)
  obtain ⟨t, ht⟩ : ∃ t, t = w.heap.size := ⟨_, rfl⟩
  rw [← ht] at hr1 ⊢
  have R1 := Lib.hid hr1
  have B1 := Lib.hid (ho1.toBelow (Nat.le_refl _) (by simp))
  have HT := Lib.hid ht
  clear hr1 ho1 hs1 ht
  go_loopw [6, 11] (fun _ u wr => ∃ i : Nat, i ≤ 16 ∧ u = .int .i64 i ∧ Hid (Row wr t (tabC i) 125 ∧ Below w.heap.size w wr)) (fun _ u _ => 16 - (intOf u).toNat)
  case atStart => exact ⟨0, by omega, rfl, Lib.hid ⟨R1.out, B1.out⟩⟩
  case round =>
    clear R1 B1
    obtain ⟨i, hi, rfl, HR⟩ := hrel
    have i0 : (0 : Int) ≤ (i : Int) := Int.natCast_nonneg _
    by_cases hlt : i < 16
    · have d1 : decide ((i : Int) < 16) = true := decide_eq_true (by omega)
      have i2 : (i : Int) < 16 := by omega
      have c1 : wr.cell? ⟨t, i, none⟩ = some _ := (HR.out.1.cell i).trans (tabC_get i i hlt)
      have f1 := HR.out.1.free i
      have F2 : Hid (Row (wr.setCell ⟨t, i, none⟩ (.int .u32 (cFour i : Nat))) t (tabC (i + 1)) 125 ∧ Below w.heap.size w (wr.setCell ⟨t, i, none⟩ (.int .u32 (cFour i : Nat)))) := Lib.hid ⟨by have := HR.out.1.set i (.int .u32 (cFour i : Nat)); rw [tabC_next] at this; exact this, HR.out.2.setCell (p := ⟨t, i, none⟩) (by show w.heap.size ≤ t; rw [HT.out]; exact Nat.le_refl _) _⟩
      go_wp2_with fail
      refine (half_any i (by omega) wr).mono ?_
      rintro _ w' ⟨rfl, hw'⟩
      subst w'
      generalize cFour i = d at *
      go_wp2_with fail
      go_roundw
      case rel => exact ⟨i + 1, by omega, by go_num, F2⟩
      case measure => simp [intOf]; omega
    · have d1 : decide ((i : Int) < 16) = false := decide_eq_false (by omega)
      have M1 : Hid (MInv w wr t) := Lib.hid (by
        have : i = 16 := by omega
        subst this
        exact ⟨HR.out.1, HR.out.2⟩)
      clear HR
      go_wp2_with fail
      go_loopw [8, 10, 25] (fun x _ u wq => ∃ k : Nat, k ≤ n ∧ u = .int .i64 k ∧ x = .int .u32 (regI xs k : Nat) ∧ Hid (MInv w wq t)) (fun _ _ u _ => n - (intOf u).toNat)
      case atStart => exact ⟨0, by omega, rfl, by first | rfl | (show Value.int _ _ = Value.int _ _; congr 1), M1⟩
      case round =>
        clear M1
        obtain ⟨k, hk, rfl, rfl, HM⟩ := hrel
        have k0 : (0 : Int) ≤ (k : Int) := Int.natCast_nonneg _
        have hl := regI_lt HB.out k
        by_cases hkn : k < n
        · have e1 : decide ((k : Int) < (n : Int)) = true := decide_eq_true (by omega)
          have e1' : (k : Int) < (n : Int) := by omega
          obtain ⟨cv, hc1, hc2⟩ := byteAt HB.out (show k < xs.length by rw [HX.out]; exact hkn)
          have HS := Lib.hid (regI_succ k cv hc1)
          obtain ⟨b, off, cap, hv, hcell⟩ := HI.out.shape (by rw [HX.out]; omega)
          rw [HX.out] at hv
          simp only [Value.slice.injEq] at hv
          obtain ⟨rfl, _, rfl⟩ := hv
          have l1 := hcell k (by rw [HX.out]; exact hkn)
          rw [hc1] at l1
          have l1' : wr.cell? ⟨b, off + k, none⟩ = some (.int .u8 (cv : Int)) := (HM.out.bl.cell (p := ⟨b, off + k, none⟩) (World.block_lt_of_cell? w _ l1)).trans l1
          have wv : (cv : Int) % 4294967296 = (cv : Int) := by omega
          generalize regI xs k = y at *
          have hxr := u32_xor_nat y cv hl (by omega)
          have hxl : y ^^^ cv < 4294967296 := Nat.xor_lt_two_pow (n := 32) (by omega) (by omega)
          have HS2 : Hid (regI xs (k + 1) = cFour (cFour (y ^^^ cv))) := Lib.hid HS.out
          generalize y ^^^ cv = z at *
          have hzl := cFour_lt hxl
          clear hcell l1 hc1 HS
          go_wp2_with fail
          refine (more1_any z t hxl wr HM.out.tab).mono ?_
          rintro _ w' ⟨rfl, hw'⟩
          subst w'
          go_wp2_with fail
          refine (more1_any (cFour z) t hzl wr HM.out.tab).mono ?_
          rintro _ w' ⟨rfl, hw'⟩
          subst w'
          go_wp2_with fail
          go_roundw
          case rel => exact ⟨k + 1, by omega, by go_num, by rw [HS2.out], HM⟩
          case measure => simp [intOf]; omega
        · have e1 : decide ((k : Int) < (n : Int)) = false := decide_eq_false (by omega)
          have hn2 := not_u32 _ hl
          have hn3 : bits .xor .u32 IntKind.u32.max ((regI xs k : Nat) : Int) = ((4294967295 - regI xs k : Nat) : Int) := hn2
          have hs := sumI_eq HB.out
          have E : Hid (k = xs.length) := Lib.hid (by rw [HX.out]; omega)
          have HSE : Hid (((4294967295 - regI xs k : Nat) : Int) = ((sumI xs : Nat) : Int)) := Lib.hid (by rw [E.out]; exact hs.symm)
          clear hs
          generalize regI xs k = y at *
          generalize hq : 4294967295 - y = q at *
          clear hq
          go_wp2_with fail
          go_ret
          exact ⟨by rw [← HSE.out]; rfl, HM.out.bl⟩
theorem sum_any (a : Option Addr) (n c : Nat) (xs : List Int) (w : World) (hx : xs.length = n) (hi : Ints .u8 w (.slice a n c) xs) (hb : IsBy xs) (hn : n ≤ 9223372036854775807) :
    Calls Try.prog 54 #[.slice a n c] w (SumPost xs w) := by
  have M := Lib.hid (more_any a n c xs w hx hi hb hn)
  clear hx hi hb
  go_enter Try.func54, Try.ntmps54
  go_wp2_with fail
  refine M.out.mono ?_
  rintro _ w' ⟨rfl, hb⟩
  have B := Lib.hid hb
  clear hb
  go_wp2_with fail
  go_ret
  exact ⟨rfl, B.out⟩
end Go.Proofs.Ytjhomphbfkbaoaa
