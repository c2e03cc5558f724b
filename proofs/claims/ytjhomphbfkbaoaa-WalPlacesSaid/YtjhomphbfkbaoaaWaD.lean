/- slices.Contains at kinds of records; none, May. -/
import Derived.Test.YtjhomphbfkbaoaaWaC
namespace Go.Proofs.Ytjhomphbfkbaoaa
open Go.RowKit Go.ChangeShapes Go.WideShapes Go.ChangeAt
set_option linter.unusedVariables false

def IndexPost (k : Int) (ks : List Int) (w : World) (e : Ending) (w' : World) : Prop := ∃ r : Int, e = .returned (.int .i64 r) ∧ (0 ≤ r ↔ k ∈ ks) ∧ w' = w
set_option maxHeartbeats 4000000 in
theorem index_any (k : Int) (ks : List Int) (b n c : Nat) (w : World) (hk : ks.length = n) (hc : ∀ i, i < n → w.cell? ⟨b, i, none⟩ = some (.int .i64 (ks[i]?.getD 0))) (hn : n ≤ 100) : Calls Try.prog 83 #[.slice (some ⟨b, 0, none⟩) n c, .int .i64 k] w (IndexPost k ks w) := by
  have HC := Lib.hid hc
  have HK := Lib.hid hk
  have HN := Lib.hid hn
  clear hc hk hn
  go_enter Try.func83, Try.ntmps83
  go_wp2_with fail
  go_loopw [8] (fun u wr => ∃ i : Nat, i ≤ n ∧ u = .int .i64 i ∧ wr = w ∧ Hid (∀ j, j < i → ks[j]? ≠ some k)) (fun u _ => n - (intOf u).toNat)
  case atStart => exact ⟨0, by omega, rfl, rfl, Lib.hid fun j hj => by omega⟩
  case round =>
    obtain ⟨i, hi, rfl, rfl, HJ⟩ := hrel
    have i0 : (0 : Int) ≤ (i : Int) := Int.natCast_nonneg _
    have ei : IntKind.i64.wrap ((i : Int) + 1) = (i : Int) + 1 := IntWalk.i64_in _ (by have := HN.out; omega)
    by_cases hlt : i < n
    · have d1 : decide ((i : Int) < (n : Int)) = true := decide_eq_true (by omega)
      have d2 : (i : Int) < (n : Int) := by omega
      have c0 := HC.out i hlt
      have e0 : ks[i]? = some (ks[i]?.getD 0) := by rw [List.getElem?_eq_getElem (by have := HK.out; omega)]; rfl
      obtain ⟨z, hz⟩ : ∃ z, ks[i]?.getD 0 = z := ⟨_, rfl⟩
      rw [hz] at c0 e0
      have E0 := Lib.hid e0
      have HLT := Lib.hid hlt
      clear e0 hz
      by_cases hkz : k = z
      · subst hkz
        have em : (k == k) = true := by simp
        have MEM : Hid (k ∈ ks) := Lib.hid (List.mem_of_getElem? E0.out)
        go_wp2_with fail
        go_ret
        first | exact ⟨(i : Int), rfl, ⟨fun _ => MEM.out, fun _ => Int.natCast_nonneg _⟩, rfl⟩ | exact ⟨(i : Int), rfl, ⟨fun _ => MEM.out, fun _ => Int.natCast_nonneg _⟩, trivial⟩
      · have em : (k == z) = false := by simpa using hkz
        have HJ' : Hid (∀ j, j < i + 1 → ks[j]? ≠ some k) := Lib.hid fun j hj e => by
          by_cases ej : j = i
          · subst ej
            rw [E0.out] at e
            simp at e
            exact hkz e.symm
          · exact HJ.out j (by omega) e
        clear hkz
        go_wp2_with fail
        go_roundw
        case rel => first | exact ⟨i + 1, HLT.out, by first | rfl | go_num, trivial, HJ'⟩ | exact ⟨i + 1, HLT.out, by first | rfl | go_num, rfl, HJ'⟩
        case measure =>
          have := HLT.out
          simp [intOf]
          omega
    · have d1 : decide ((i : Int) < (n : Int)) = false := decide_eq_false (by omega)
      have d2 : ¬ (i : Int) < (n : Int) := by omega
      have NOT : Hid (k ∉ ks) := Lib.hid fun hm => by
        obtain ⟨j, hj1, hj2⟩ := List.getElem_of_mem hm
        exact HJ.out j (by have := HK.out; omega) (by rw [List.getElem?_eq_getElem hj1, hj2])
      go_wp2_with fail
      go_ret
      exact ⟨-1, rfl, ⟨fun h => by omega, fun h => absurd h NOT.out⟩, rfl⟩
theorem contains_any (k : Int) (ks : List Int) (b n c : Nat) (o : Bool) (w : World) (hk : ks.length = n) (hc : ∀ i, i < n → w.cell? ⟨b, i, none⟩ = some (.int .i64 (ks[i]?.getD 0))) (hn : n ≤ 100) (ho : o = decide (k ∈ ks)) : Calls Try.prog 76 #[.slice (some ⟨b, 0, none⟩) n c, .int .i64 k] w fun e w' => e = .returned (.bool o) ∧ w' = w := by
  have K := Lib.hid (index_any k ks b n c w hk hc hn)
  have HO := Lib.hid ho
  clear hk hc hn ho
  go_enter Try.func76, Try.ntmps76
  go_wp2_with fail
  refine K.out.mono ?_
  rintro _ w2 ⟨r, rfl, hr, hw⟩
  subst hw
  have E : Hid (decide (0 ≤ r) = o) := Lib.hid (by rw [HO.out]; exact decide_eq_decide.2 hr)
  clear hr
  go_wp2_with fail
  go_ret
  exact ⟨by rw [← E.out]; rfl, rfl⟩
/-- A record's cells: its kind, its place, its epoch, whose it is; page, offset, what was there, what is there now. -/
def recR (kind lsn ep txn pg off : Int) (v1 v2 : Value) : Array Value := #[.int .i64 kind, .int .u64 lsn, .int .u32 ep, .int .u64 txn, .int .u32 pg, .int .u16 off, v1, v2, .slice none 0 0, .int .u64 0, .int .u64 0, .bool false, .int .u64 0, .slice none 0 0, .slice none 0 0]
set_option maxHeartbeats 4000000 in
theorem none_ww (lsn ep pg off : Int) (a1 a2 : Option Addr) (n1 c1 n2 c2 : Nat) (b : Nat) (w : World) (hc : w.cell? ⟨b, 0, none⟩ = some (.int .i64 1)) (hb : b < w.heap.size) : Calls Try.prog 63 #[.agg (recR 1 lsn ep 0 pg off (.slice a1 n1 c1) (.slice a2 n2 c2)), .slice (some ⟨b, 0, none⟩) 1 1] w fun e w' => e = .returned (.bool true) ∧ Below w.heap.size w w' := by
  have CK := Lib.hid fun (y : World) (k : Below w.heap.size w y) => contains_any 1 [1] b 1 1 true y rfl (fun i hi => by
    have e : y.cell? ⟨b, i, none⟩ = w.cell? ⟨b, i, none⟩ := k.cell (p := ⟨b, i, none⟩) hb
    rw [e]
    rcases (by omega : i = 0) with rfl
    · exact hc
    ) (by omega) (by decide)
  have c0 : w.cell? ⟨b, 0, none⟩ = some (.int .i64 1) := hc
  clear hc
  unfold recR
  go_enter Try.func63, Try.ntmps63
  go_wp2_with fail
  refine (CK.out _ ((Below.refl _ _).alloc (Nat.le_refl _) _)).mono ?_
  rintro _ w2 ⟨rfl, hw⟩
  subst hw
  go_wp2_with fail
  go_ret
  exact ⟨rfl, (Below.refl _ _).alloc (Nat.le_refl _) _⟩
set_option maxHeartbeats 4000000 in
theorem none_we (lsn ep pg off : Int) (a1 a2 : Option Addr) (n1 c1 n2 c2 : Nat) (b : Nat) (w : World) (hc : w.cell? ⟨b, 0, none⟩ = some (.int .i64 2)) (hb : b < w.heap.size) : Calls Try.prog 63 #[.agg (recR 1 lsn ep 0 pg off (.slice a1 n1 c1) (.slice a2 n2 c2)), .slice (some ⟨b, 0, none⟩) 1 1] w fun e w' => e = .returned (.bool true) ∧ Below w.heap.size w w' := by
  have CK := Lib.hid fun (y : World) (k : Below w.heap.size w y) => contains_any 1 [2] b 1 1 false y rfl (fun i hi => by
    have e : y.cell? ⟨b, i, none⟩ = w.cell? ⟨b, i, none⟩ := k.cell (p := ⟨b, i, none⟩) hb
    rw [e]
    rcases (by omega : i = 0) with rfl
    · exact hc
    ) (by omega) (by decide)
  have c0 : w.cell? ⟨b, 0, none⟩ = some (.int .i64 2) := hc
  clear hc
  unfold recR
  go_enter Try.func63, Try.ntmps63
  go_wp2_with fail
  refine (CK.out _ ((Below.refl _ _).alloc (Nat.le_refl _) _)).mono ?_
  rintro _ w2 ⟨rfl, hw⟩
  subst hw
  go_wp2_with fail
  go_ret
  exact ⟨rfl, (Below.refl _ _).alloc (Nat.le_refl _) _⟩
set_option maxHeartbeats 4000000 in
theorem none_wx (lsn ep pg off : Int) (a1 a2 : Option Addr) (n1 c1 n2 c2 : Nat) (b : Nat) (w : World) (hc : w.cell? ⟨b, 0, none⟩ = some (.int .i64 2) ∧ w.cell? ⟨b, 1, none⟩ = some (.int .i64 3) ∧ w.cell? ⟨b, 2, none⟩ = some (.int .i64 4)) (hb : b < w.heap.size) : Calls Try.prog 63 #[.agg (recR 1 lsn ep 0 pg off (.slice a1 n1 c1) (.slice a2 n2 c2)), .slice (some ⟨b, 0, none⟩) 3 3] w fun e w' => e = .returned (.bool true) ∧ Below w.heap.size w w' := by
  have CK := Lib.hid fun (y : World) (k : Below w.heap.size w y) => contains_any 1 [2, 3, 4] b 3 3 false y rfl (fun i hi => by
    have e : y.cell? ⟨b, i, none⟩ = w.cell? ⟨b, i, none⟩ := k.cell (p := ⟨b, i, none⟩) hb
    rw [e]
    rcases (by omega : i = 0 ∨ i = 1 ∨ i = 2) with rfl | rfl | rfl
    · exact hc.1
    · exact hc.2.1
    · exact hc.2.2
    ) (by omega) (by decide)
  have c0 : w.cell? ⟨b, 0, none⟩ = some (.int .i64 2) := hc.1
  clear hc
  unfold recR
  go_enter Try.func63, Try.ntmps63
  go_wp2_with fail
  refine (CK.out _ ((Below.refl _ _).alloc (Nat.le_refl _) _)).mono ?_
  rintro _ w2 ⟨rfl, hw⟩
  subst hw
  go_wp2_with fail
  go_ret
  exact ⟨rfl, (Below.refl _ _).alloc (Nat.le_refl _) _⟩
set_option maxHeartbeats 4000000 in
theorem none_wc (lsn ep pg off : Int) (a1 a2 : Option Addr) (n1 c1 n2 c2 : Nat) (b : Nat) (w : World) (hc : w.cell? ⟨b, 0, none⟩ = some (.int .i64 3)) (hb : b < w.heap.size) : Calls Try.prog 63 #[.agg (recR 1 lsn ep 0 pg off (.slice a1 n1 c1) (.slice a2 n2 c2)), .slice (some ⟨b, 0, none⟩) 1 1] w fun e w' => e = .returned (.bool true) ∧ Below w.heap.size w w' := by
  have CK := Lib.hid fun (y : World) (k : Below w.heap.size w y) => contains_any 1 [3] b 1 1 false y rfl (fun i hi => by
    have e : y.cell? ⟨b, i, none⟩ = w.cell? ⟨b, i, none⟩ := k.cell (p := ⟨b, i, none⟩) hb
    rw [e]
    rcases (by omega : i = 0) with rfl
    · exact hc
    ) (by omega) (by decide)
  have c0 : w.cell? ⟨b, 0, none⟩ = some (.int .i64 3) := hc
  clear hc
  unfold recR
  go_enter Try.func63, Try.ntmps63
  go_wp2_with fail
  refine (CK.out _ ((Below.refl _ _).alloc (Nat.le_refl _) _)).mono ?_
  rintro _ w2 ⟨rfl, hw⟩
  subst hw
  go_wp2_with fail
  go_ret
  exact ⟨rfl, (Below.refl _ _).alloc (Nat.le_refl _) _⟩
set_option maxHeartbeats 4000000 in
theorem none_wp (lsn ep pg off : Int) (a1 a2 : Option Addr) (n1 c1 n2 c2 : Nat) (b : Nat) (w : World) (hc : w.cell? ⟨b, 0, none⟩ = some (.int .i64 5)) (hb : b < w.heap.size) : Calls Try.prog 63 #[.agg (recR 1 lsn ep 0 pg off (.slice a1 n1 c1) (.slice a2 n2 c2)), .slice (some ⟨b, 0, none⟩) 1 1] w fun e w' => e = .returned (.bool true) ∧ Below w.heap.size w w' := by
  have CK := Lib.hid fun (y : World) (k : Below w.heap.size w y) => contains_any 1 [5] b 1 1 false y rfl (fun i hi => by
    have e : y.cell? ⟨b, i, none⟩ = w.cell? ⟨b, i, none⟩ := k.cell (p := ⟨b, i, none⟩) hb
    rw [e]
    rcases (by omega : i = 0) with rfl
    · exact hc
    ) (by omega) (by decide)
  have c0 : w.cell? ⟨b, 0, none⟩ = some (.int .i64 5) := hc
  clear hc
  unfold recR
  go_enter Try.func63, Try.ntmps63
  go_wp2_with fail
  refine (CK.out _ ((Below.refl _ _).alloc (Nat.le_refl _) _)).mono ?_
  rintro _ w2 ⟨rfl, hw⟩
  subst hw
  go_wp2_with fail
  go_ret
  exact ⟨rfl, (Below.refl _ _).alloc (Nat.le_refl _) _⟩
set_option maxHeartbeats 4000000 in
theorem none_dw (lsn ep txn : Int) (b : Nat) (w : World) (hc : w.cell? ⟨b, 0, none⟩ = some (.int .i64 1)) (hb : b < w.heap.size) : Calls Try.prog 63 #[.agg (recR 4 lsn ep txn 0 0 (.slice none 0 0) (.slice none 0 0)), .slice (some ⟨b, 0, none⟩) 1 1] w fun e w' => e = .returned (.bool true) ∧ Below w.heap.size w w' := by
  have CK := Lib.hid fun (y : World) (k : Below w.heap.size w y) => contains_any 4 [1] b 1 1 false y rfl (fun i hi => by
    have e : y.cell? ⟨b, i, none⟩ = w.cell? ⟨b, i, none⟩ := k.cell (p := ⟨b, i, none⟩) hb
    rw [e]
    rcases (by omega : i = 0) with rfl
    · exact hc
    ) (by omega) (by decide)
  have c0 : w.cell? ⟨b, 0, none⟩ = some (.int .i64 1) := hc
  clear hc
  unfold recR
  go_enter Try.func63, Try.ntmps63
  go_wp2_with fail
  refine (CK.out _ ((Below.refl _ _).alloc (Nat.le_refl _) _)).mono ?_
  rintro _ w2 ⟨rfl, hw⟩
  subst hw
  go_wp2_with fail
  go_ret
  exact ⟨rfl, (Below.refl _ _).alloc (Nat.le_refl _) _⟩
set_option maxHeartbeats 4000000 in
theorem none_de (lsn ep txn : Int) (b : Nat) (w : World) (hc : w.cell? ⟨b, 0, none⟩ = some (.int .i64 2)) (hb : b < w.heap.size) : Calls Try.prog 63 #[.agg (recR 4 lsn ep txn 0 0 (.slice none 0 0) (.slice none 0 0)), .slice (some ⟨b, 0, none⟩) 1 1] w fun e w' => e = .returned (.bool true) ∧ Below w.heap.size w w' := by
  have CK := Lib.hid fun (y : World) (k : Below w.heap.size w y) => contains_any 4 [2] b 1 1 false y rfl (fun i hi => by
    have e : y.cell? ⟨b, i, none⟩ = w.cell? ⟨b, i, none⟩ := k.cell (p := ⟨b, i, none⟩) hb
    rw [e]
    rcases (by omega : i = 0) with rfl
    · exact hc
    ) (by omega) (by decide)
  have c0 : w.cell? ⟨b, 0, none⟩ = some (.int .i64 2) := hc
  clear hc
  unfold recR
  go_enter Try.func63, Try.ntmps63
  go_wp2_with fail
  refine (CK.out _ ((Below.refl _ _).alloc (Nat.le_refl _) _)).mono ?_
  rintro _ w2 ⟨rfl, hw⟩
  subst hw
  go_wp2_with fail
  go_ret
  exact ⟨rfl, (Below.refl _ _).alloc (Nat.le_refl _) _⟩
set_option maxHeartbeats 4000000 in
theorem none_dx (lsn ep txn : Int) (b : Nat) (w : World) (hc : w.cell? ⟨b, 0, none⟩ = some (.int .i64 2) ∧ w.cell? ⟨b, 1, none⟩ = some (.int .i64 3) ∧ w.cell? ⟨b, 2, none⟩ = some (.int .i64 4)) (hb : b < w.heap.size) : Calls Try.prog 63 #[.agg (recR 4 lsn ep txn 0 0 (.slice none 0 0) (.slice none 0 0)), .slice (some ⟨b, 0, none⟩) 3 3] w fun e w' => e = .returned (.bool true) ∧ Below w.heap.size w w' := by
  have CK := Lib.hid fun (y : World) (k : Below w.heap.size w y) => contains_any 4 [2, 3, 4] b 3 3 true y rfl (fun i hi => by
    have e : y.cell? ⟨b, i, none⟩ = w.cell? ⟨b, i, none⟩ := k.cell (p := ⟨b, i, none⟩) hb
    rw [e]
    rcases (by omega : i = 0 ∨ i = 1 ∨ i = 2) with rfl | rfl | rfl
    · exact hc.1
    · exact hc.2.1
    · exact hc.2.2
    ) (by omega) (by decide)
  have c0 : w.cell? ⟨b, 0, none⟩ = some (.int .i64 2) := hc.1
  clear hc
  unfold recR
  go_enter Try.func63, Try.ntmps63
  go_wp2_with fail
  refine (CK.out _ ((Below.refl _ _).alloc (Nat.le_refl _) _)).mono ?_
  rintro _ w2 ⟨rfl, hw⟩
  subst hw
  go_wp2_with fail
  go_ret
  exact ⟨rfl, (Below.refl _ _).alloc (Nat.le_refl _) _⟩
set_option maxHeartbeats 4000000 in
theorem none_dc (lsn ep txn : Int) (b : Nat) (w : World) (hc : w.cell? ⟨b, 0, none⟩ = some (.int .i64 3)) (hb : b < w.heap.size) : Calls Try.prog 63 #[.agg (recR 4 lsn ep txn 0 0 (.slice none 0 0) (.slice none 0 0)), .slice (some ⟨b, 0, none⟩) 1 1] w fun e w' => e = .returned (.bool true) ∧ Below w.heap.size w w' := by
  have CK := Lib.hid fun (y : World) (k : Below w.heap.size w y) => contains_any 4 [3] b 1 1 false y rfl (fun i hi => by
    have e : y.cell? ⟨b, i, none⟩ = w.cell? ⟨b, i, none⟩ := k.cell (p := ⟨b, i, none⟩) hb
    rw [e]
    rcases (by omega : i = 0) with rfl
    · exact hc
    ) (by omega) (by decide)
  have c0 : w.cell? ⟨b, 0, none⟩ = some (.int .i64 3) := hc
  clear hc
  unfold recR
  go_enter Try.func63, Try.ntmps63
  go_wp2_with fail
  refine (CK.out _ ((Below.refl _ _).alloc (Nat.le_refl _) _)).mono ?_
  rintro _ w2 ⟨rfl, hw⟩
  subst hw
  go_wp2_with fail
  go_ret
  exact ⟨rfl, (Below.refl _ _).alloc (Nat.le_refl _) _⟩
set_option maxHeartbeats 4000000 in
theorem none_dp (lsn ep txn : Int) (b : Nat) (w : World) (hc : w.cell? ⟨b, 0, none⟩ = some (.int .i64 5)) (hb : b < w.heap.size) : Calls Try.prog 63 #[.agg (recR 4 lsn ep txn 0 0 (.slice none 0 0) (.slice none 0 0)), .slice (some ⟨b, 0, none⟩) 1 1] w fun e w' => e = .returned (.bool true) ∧ Below w.heap.size w w' := by
  have CK := Lib.hid fun (y : World) (k : Below w.heap.size w y) => contains_any 4 [5] b 1 1 false y rfl (fun i hi => by
    have e : y.cell? ⟨b, i, none⟩ = w.cell? ⟨b, i, none⟩ := k.cell (p := ⟨b, i, none⟩) hb
    rw [e]
    rcases (by omega : i = 0) with rfl
    · exact hc
    ) (by omega) (by decide)
  have c0 : w.cell? ⟨b, 0, none⟩ = some (.int .i64 5) := hc
  clear hc
  unfold recR
  go_enter Try.func63, Try.ntmps63
  go_wp2_with fail
  refine (CK.out _ ((Below.refl _ _).alloc (Nat.le_refl _) _)).mono ?_
  rintro _ w2 ⟨rfl, hw⟩
  subst hw
  go_wp2_with fail
  go_ret
  exact ⟨rfl, (Below.refl _ _).alloc (Nat.le_refl _) _⟩
end Go.Proofs.Ytjhomphbfkbaoaa
