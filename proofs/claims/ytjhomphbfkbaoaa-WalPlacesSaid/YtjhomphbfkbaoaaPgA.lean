/- CRC: the walks of both. -/
import Derived.Test.YtjhomphbfkbaoaaArr
import Derived.Test.YtjhomphbfkbaoaaCrcB
namespace Go.Proofs.Ytjhomphbfkbaoaa
open Go.RowKit Go.ChangeShapes Go.WideShapes Go.ChangeAt
set_option linter.unusedVariables false

def cIt : Nat → Nat → Nat
  | 0, x => x
  | i + 1, x => cBit (cIt i x)
theorem cIt_four (x : Nat) : cIt 4 x = cFour x := rfl
theorem cIt_eight (x : Nat) : cIt 8 x = cEight x := rfl
theorem cIt_lt {x : Nat} (h : x < 4294967296) : ∀ i, cIt i x < 4294967296
  | 0 => h
  | i + 1 => cBit_lt (cIt_lt h i)
set_option maxHeartbeats 1000000 in
theorem half_any (x : Nat) (hx : x < 4294967296) (w : World) : Calls Try.prog 78 #[.int .u32 x] w fun e w' => e = .returned (.int .u32 (cFour x : Nat)) ∧ w' = w := by
  go_enter Try.func78, Try.ntmps78
  go_wp2_with fail
  go_loopw [0, 3] (fun u v wr => ∃ i : Nat, i ≤ 4 ∧ u = .int .u32 (cIt i x : Nat) ∧ v = .int .i64 i ∧ Hid (wr = w)) (fun _ v _ => 4 - (intOf v).toNat)
  case atStart => exact ⟨0, by omega, rfl, rfl, Lib.hid rfl⟩
  case round =>
    obtain ⟨i, hi, rfl, rfl, HW⟩ := hrel
    obtain rfl := HW.out
    have i0 : (0 : Int) ≤ (i : Int) := Int.natCast_nonneg _
    by_cases hlt : i < 4
    · have d1 : decide ((i : Int) < 4) = true := decide_eq_true (by omega)
      have i2 : (i : Int) < 4 := by omega
      have hl := cIt_lt hx i
      have hs : cIt (i + 1) x = cBit (cIt i x) := rfl
      have HS := Lib.hid hs
      clear hs
      generalize cIt i x = y at *
      have h1 := and_one y hl
      have h2 := bit_mask y hl
      generalize y % 2 = m at h1 h2
      generalize cBit y = c at h2 HS
      clear hl
      go_wp2_with fail
      go_roundw
      case rel => exact ⟨i + 1, by omega, by rw [HS.out], by go_num, by first | exact Lib.hid trivial | exact Lib.hid rfl⟩
      case measure => simp [intOf]; omega
    · have d1 : decide ((i : Int) < 4) = false := decide_eq_false (by omega)
      have E : Hid (i = 4) := Lib.hid (by omega)
      go_wp2_with fail
      go_ret
      refine ⟨?_, rfl⟩
      rw [E.out]; rfl
/-! ### the table -/
def tabC (i : Nat) : Array Value := ((List.range 16).map fun (k : Nat) => if k < i then Value.int .u32 (cFour k : Nat) else .int .u32 0).toArray
theorem tabC_size (i : Nat) : (tabC i).size = 16 := by simp [tabC]
theorem tabC_get (i k : Nat) (hk : k < 16) : (tabC i)[k]? = some (if k < i then Value.int .u32 (cFour k : Nat) else .int .u32 0) := by simp [tabC, hk]
theorem tabC_next (i : Nat) : (tabC i).setIfInBounds i (.int .u32 (cFour i : Nat)) = tabC (i + 1) := by
  refine Array.ext_getElem? fun j => ?_
  rw [Array.getElem?_setIfInBounds, tabC_size]
  by_cases hj : j < 16
  · rw [tabC_get _ _ hj, tabC_get _ _ hj]
    by_cases e : i = j
    · subst e; rw [if_pos rfl, if_pos hj, if_pos (by omega)]
    · rw [if_neg e]
      by_cases h2 : j < i
      · rw [if_pos h2, if_pos (by omega)]
      · rw [if_neg h2, if_neg (by omega)]
  · rw [Array.getElem?_eq_none (by rw [tabC_size]; omega), Array.getElem?_eq_none (by rw [tabC_size]; omega)]
    by_cases e : i = j
    · rw [if_pos e, if_neg (by omega)]
    · rw [if_neg e]
theorem zeroTab : (Try.prog.info? 125).map (fun i => (i.zero, i.size)) = some (some (.agg (tabC 0)), 16) := by kernel_rfl
set_option maxHeartbeats 1000000 in
theorem more1_any (x t : Nat) (hx : x < 4294967296) (w : World) (h : Row w t (tabC 16) 125) : Calls Try.prog 79 #[.int .u32 x, .pointer (some ⟨t, 0, none⟩)] w fun e w' => e = .returned (.int .u32 (cFour x : Nat)) ∧ w' = w := by
  have h1 := and_15 x hx
  have h2 := four_table x hx
  have hm : x % 16 < 16 := Nat.mod_lt _ (by omega)
  have c1 : w.cell? ⟨t, x % 16, none⟩ = some (.int .u32 (cFour (x % 16) : Nat)) := (h.cell _).trans ((tabC_get 16 _ hm).trans (by rw [if_pos hm]))
  have hm' : ((x % 16 : Nat) : Int) < 16 := by omega
  have hm0 : (0 : Int) ≤ ((x % 16 : Nat) : Int) := Int.natCast_nonneg _
  generalize x % 16 = m at *
  generalize cFour m = d at *
  generalize cFour x = c at *
  clear h
  go_enter Try.func79, Try.ntmps79
  go_wp2_with fail
  go_ret
  exact ⟨rfl, rfl⟩
end Go.Proofs.Ytjhomphbfkbaoaa
