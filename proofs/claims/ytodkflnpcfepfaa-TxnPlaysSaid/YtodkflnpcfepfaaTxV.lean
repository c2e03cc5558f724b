/- The document's manager: find, Open. -/
import Derived.Test.YtodkflnpcfepfaaTxU
import Derived.Maps.AppendAt
namespace Go.Proofs.Ytodkflnpcfepfaa
open Go.RowKit Go.ChangeShapes Go.WideShapes Go.ChangeAt
set_option linter.unusedVariables false
set_option linter.unusedSimpArgs false

def Hit (n : Int) (x : RT) : Prop := x.n = n ∧ x.op = true
def FoundAt (R : Rf) (n : Int) (i : Nat) : Prop := (∃ x, R.all[i]? = some x ∧ Hit n x) ∧ ∀ (j : Nat) (y : RT), j < i → R.all[j]? = some y → ¬ Hit n y
def NotFound (R : Rf) (n : Int) : Prop := ∀ (j : Nat) (y : RT), R.all[j]? = some y → ¬ Hit n y
theorem least_of (P : Nat → Prop) : ∀ i, P i → ∃ k, P k ∧ ∀ j, j < k → ¬ P j := by
  intro i
  induction i using Nat.strongRecOn with
  | ind i ih =>
    intro hi
    by_cases h : ∃ j, j < i ∧ P j
    · obtain ⟨j, hj, hp⟩ := h
      exact ih j hj hp
    · exact ⟨i, hi, fun j hj hp => h ⟨j, hj, hp⟩⟩
theorem found_or (R : Rf) (n : Int) : (∃ i, FoundAt R n i) ∨ NotFound R n := by
  by_cases h : ∃ (i : Nat) (x : RT), R.all[i]? = some x ∧ Hit n x
  · left
    obtain ⟨i, x, hx, hh⟩ := h
    obtain ⟨k, hk, hm⟩ := least_of (fun i => ∃ x, R.all[i]? = some x ∧ Hit n x) i ⟨x, hx, hh⟩
    exact ⟨k, hk, fun j y hj hy hh => hm j hj ⟨y, hy, hh⟩⟩
  · right
    intro j y hy hh
    exact h ⟨j, y, hy, hh⟩
set_option maxRecDepth 100000 in
set_option maxHeartbeats 2000000 in
theorem find_ref {w : World} {B p : Nat} {av : Value} {R : Rf} {n : Int} {i : Nat} (hf : FoundAt R n i) (h : RfAt w B p av R) :
    Calls Try.prog 37 #[.pointer (some ⟨p, 0, none⟩), .int .u64 n] w fun e w' => e = .returned (.int .i64 (i : Int)) ∧ w' = w := by
  have H := Lib.hid h
  have HF := Lib.hid hf
  obtain ⟨a, c, hav⟩ := h.av_shape
  have c1 : w.cell? ⟨p, 1, none⟩ = some (.slice a R.all.length c) := by rw [← hav]; exact h.row.cell 1
  have hlen := h.fine.len
  have HAV := Lib.hid hav
  obtain ⟨m, hm⟩ : ∃ m, R.all.length = m := ⟨_, rfl⟩
  have HM := Lib.hid hm
  rw [hm] at c1 hlen
  clear h hf hav hm
  go_enter Try.func37, Try.ntmps37
  go_wp2_with fail
  go_loopw [5] (fun u wr => ∃ j : Nat, j ≤ m ∧ u = .int .i64 j ∧ Hid (∀ k y, k < j → R.all[k]? = some y → ¬ Hit n y) ∧ Hid (wr = w)) (fun u _ => m - (intOf u).toNat)
  case atStart => exact ⟨0, by omega, rfl, Lib.hid (fun k y hk => by omega), Lib.hid rfl⟩
  case round =>
    obtain ⟨j, hj, rfl, HN, hw⟩ := hrel
    have hw2 := hw.out
    clear hw
    rename World => w3
    subst w3
    by_cases hlt : j < m
    · have d1 : decide ((j : Int) < (m : Int)) = true := decide_eq_true (by omega)
      have d1' : decide (j < m) = true := decide_eq_true hlt
      obtain ⟨x, hx⟩ : ∃ x, R.all[j]? = some x := ⟨_, List.getElem?_eq_getElem (by rw [HM.out]; exact hlt)⟩
      obtain ⟨g, cap, e1, hcap, hB, hR⟩ := H.out.at_ hx
      rw [HAV.out] at e1
      simp only [Value.slice.injEq] at e1
      obtain ⟨rfl, _, rfl⟩ := e1
      have r0 := hR.c0
      have r3 := hR.c3
      have HX := Lib.hid hx
      clear hR hx hB hcap
      by_cases hn : x.n = n
      · by_cases ho : x.op = true
        · rw [hn] at r0
          rw [ho] at r3
          have HH : Hid (Hit n x) := Lib.hid ⟨hn, ho⟩
          clear hn ho
          go_wp2_with fail
          go_ret
          have e : j = i := by
            obtain ⟨⟨y, hy, hyh⟩, hmin⟩ := HF.out
            rcases Nat.lt_trichotomy j i with h1 | h1 | h1
            · exact absurd HH.out (hmin j x h1 HX.out)
            · exact h1
            · exact absurd hyh (HN.out i y h1 hy)
          exact ⟨by subst e; rfl, rfl⟩
        · have ho2 : x.op = false := by simpa using ho
          rw [hn] at r0
          rw [ho2] at r3
          have HH : Hid (¬ Hit n x) := Lib.hid fun hh => ho hh.2
          clear hn ho ho2
          go_wp2_with fail
          go_roundw
          case rel => exact ⟨j + 1, by omega, by go_num, Lib.hid (fun k y hk hy => by
            by_cases e : k = j
            · subst e
              rw [HX.out] at hy
              cases hy
              exact HH.out
            · exact HN.out k y (by omega) hy), Lib.hid (by first | rfl | trivial)⟩
          case measure => simp [intOf]; omega
      · have f1 : (x.n == n) = false := by simpa using hn
        have f2 : decide (x.n = n) = false := decide_eq_false hn
        have HH : Hid (¬ Hit n x) := Lib.hid fun hh => hn hh.1
        generalize x.n = xn at r0 f1 f2
        clear hn
        go_wp2_with fail
        go_roundw
        case rel => exact ⟨j + 1, by omega, by go_num, Lib.hid (fun k y hk hy => by
          by_cases e : k = j
          · subst e
            rw [HX.out] at hy
            cases hy
            exact HH.out
          · exact HN.out k y (by omega) hy), Lib.hid (by first | rfl | trivial)⟩
        case measure => simp [intOf]; omega
    · have d1 : decide ((j : Int) < (m : Int)) = false := decide_eq_false (by omega)
      have d1' : decide (j < m) = false := decide_eq_false hlt
      have HL := Lib.hid hlt
      clear hlt
      go_wp2_with fail
      go_ret
      obtain ⟨⟨y, hy, hyh⟩, _⟩ := HF.out
      have h1 := (List.getElem?_eq_some_iff.1 hy).1
      have h2 := HL.out
      have h3 := HM.out
      exact absurd hyh (HN.out i y (by omega) hy)
set_option maxRecDepth 100000 in
set_option maxHeartbeats 2000000 in
theorem find_none {w : World} {B p : Nat} {av : Value} {R : Rf} {n : Int} (hf : NotFound R n) (h : RfAt w B p av R) :
    Calls Try.prog 37 #[.pointer (some ⟨p, 0, none⟩), .int .u64 n] w fun e w' => e = .returned (.int .i64 (-1)) ∧ w' = w := by
  have H := Lib.hid h
  have HF := Lib.hid hf
  obtain ⟨a, c, hav⟩ := h.av_shape
  have c1 : w.cell? ⟨p, 1, none⟩ = some (.slice a R.all.length c) := by rw [← hav]; exact h.row.cell 1
  have hlen := h.fine.len
  have HAV := Lib.hid hav
  obtain ⟨m, hm⟩ : ∃ m, R.all.length = m := ⟨_, rfl⟩
  have HM := Lib.hid hm
  rw [hm] at c1 hlen
  clear h hf hav hm
  go_enter Try.func37, Try.ntmps37
  go_wp2_with fail
  go_loopw [5] (fun u wr => ∃ j : Nat, j ≤ m ∧ u = .int .i64 j ∧ Hid (∀ k y, k < j → R.all[k]? = some y → ¬ Hit n y) ∧ Hid (wr = w)) (fun u _ => m - (intOf u).toNat)
  case atStart => exact ⟨0, by omega, rfl, Lib.hid (fun k y hk => by omega), Lib.hid rfl⟩
  case round =>
    obtain ⟨j, hj, rfl, HN, hw⟩ := hrel
    have hw2 := hw.out
    clear hw
    rename World => w3
    subst w3
    by_cases hlt : j < m
    · have d1 : decide ((j : Int) < (m : Int)) = true := decide_eq_true (by omega)
      have d1' : decide (j < m) = true := decide_eq_true hlt
      obtain ⟨x, hx⟩ : ∃ x, R.all[j]? = some x := ⟨_, List.getElem?_eq_getElem (by rw [HM.out]; exact hlt)⟩
      obtain ⟨g, cap, e1, hcap, hB, hR⟩ := H.out.at_ hx
      rw [HAV.out] at e1
      simp only [Value.slice.injEq] at e1
      obtain ⟨rfl, _, rfl⟩ := e1
      have r0 := hR.c0
      have r3 := hR.c3
      have HX := Lib.hid hx
      clear hR hx hB hcap
      by_cases hn : x.n = n
      · by_cases ho : x.op = true
        · rw [hn] at r0
          rw [ho] at r3
          have HH : Hid (Hit n x) := Lib.hid ⟨hn, ho⟩
          clear hn ho
          go_wp2_with fail
          go_ret
          exact absurd HH.out (HF.out j x HX.out)
        · have ho2 : x.op = false := by simpa using ho
          rw [hn] at r0
          rw [ho2] at r3
          have HH : Hid (¬ Hit n x) := Lib.hid fun hh => ho hh.2
          clear hn ho ho2
          go_wp2_with fail
          go_roundw
          case rel => exact ⟨j + 1, by omega, by go_num, Lib.hid (fun k y hk hy => by
            by_cases e : k = j
            · subst e
              rw [HX.out] at hy
              cases hy
              exact HH.out
            · exact HN.out k y (by omega) hy), Lib.hid (by first | rfl | trivial)⟩
          case measure => simp [intOf]; omega
      · have f1 : (x.n == n) = false := by simpa using hn
        have f2 : decide (x.n = n) = false := decide_eq_false hn
        have HH : Hid (¬ Hit n x) := Lib.hid fun hh => hn hh.1
        generalize x.n = xn at r0 f1 f2
        clear hn
        go_wp2_with fail
        go_roundw
        case rel => exact ⟨j + 1, by omega, by go_num, Lib.hid (fun k y hk hy => by
          by_cases e : k = j
          · subst e
            rw [HX.out] at hy
            cases hy
            exact HH.out
          · exact HN.out k y (by omega) hy), Lib.hid (by first | rfl | trivial)⟩
        case measure => simp [intOf]; omega
    · have d1 : decide ((j : Int) < (m : Int)) = false := decide_eq_false (by omega)
      have d1' : decide (j < m) = false := decide_eq_false hlt
      have HL := Lib.hid hlt
      clear hlt
      go_wp2_with fail
      go_ret
      exact ⟨rfl, rfl⟩
def openR (l : List RT) : List Int := (l.filter fun x => x.op).map (·.n)
def OpenRTo (ys : List Int) (w : World) (e : Ending) (w' : World) : Prop := ∃ a c, e = .returned (.slice a ys.length c) ∧ w'.ownsRow w.heap.size tU 1 (.slice a ys.length c) ys.length (ys.map (Value.int .u64)) ∧ Below w.heap.size w w'
structure OpInv (w wr : World) (v : Value) (ys : List Int) : Prop where
  own : wr.ownsRow w.heap.size tU 1 v ys.length (ys.map (Value.int .u64))
  bl : Below w.heap.size w wr
theorem own_len {w : World} {B n : Nat} {e : TypeId} {v : Value} {xs : List Value} {size : Nat} (h : w.ownsRow B e size v n xs) : ∃ a c, v = .slice a n c := by
  rcases h.2 with ⟨rfl, rfl⟩ | ⟨g, cap, cur, rfl, _⟩
  · exact ⟨_, _, rfl⟩
  · exact ⟨_, _, rfl⟩
theorem openR_take {l : List RT} {j : Nat} {x : RT} (h : l[j]? = some x) : openR (l.take (j + 1)) = openR (l.take j) ++ (if x.op then [x.n] else []) := by
  have hlt := (List.getElem?_eq_some_iff.1 h).1
  have e : l.take (j + 1) = l.take j ++ [x] := by
    rw [List.take_succ_eq_append_getElem hlt]
    have := (List.getElem?_eq_some_iff.1 h).2
    rw [this]
  rw [e]
  unfold openR
  rw [List.filter_append, List.map_append]
  cases ho : x.op <;> simp [ho]
theorem openR_le (l : List RT) (j : Nat) : (openR (l.take j)).length ≤ j := by
  unfold openR
  rw [List.length_map]
  refine Nat.le_trans (List.length_filter_le _ _) ?_
  rw [List.length_take]
  omega
set_option maxRecDepth 100000 in
set_option maxHeartbeats 4000000 in
theorem open_ref {w : World} {B p : Nat} {av : Value} {R : Rf} (h : RfAt w B p av R) :
    Calls Try.prog 31 #[.pointer (some ⟨p, 0, none⟩)] w (OpenRTo (openR R.all) w) := by
  have H := Lib.hid h
  obtain ⟨a, c, hav⟩ := h.av_shape
  have hlen := h.fine.len
  have HAV := Lib.hid hav
  obtain ⟨m, hm⟩ : ∃ m, R.all.length = m := ⟨_, rfl⟩
  have HM := Lib.hid hm
  rw [hm] at hlen
  have I0 : Hid (OpInv w w (.slice none 0 0) (openR (R.all.take 0))) := Lib.hid ⟨by simpa [openR] using World.ownsRow_nil w w.heap.size tU 1, Below.refl _ _⟩
  obtain ⟨i0, hi, hz0, hz1, hz2⟩ := info_parts infoU64
  clear h hav hm
  go_enter Try.func31, Try.ntmps31
  go_wp2_with fail
  go_loopw [3, 4] (fun v u wr => ∃ j : Nat, j ≤ m ∧ u = .int .i64 j ∧ Hid (OpInv w wr v (openR (R.all.take j)))) (fun _ u _ => m - (intOf u).toNat)
  case atStart => exact ⟨0, by omega, rfl, I0⟩
  case round =>
    obtain ⟨j, hj, rfl, HI⟩ := hrel
    rename_i v _
    have HW : Hid (RfAt wr B p av R) := Lib.hid (H.out.only ((Only.refl [] w).below HI.out.bl) (by simp))
    have c1 : wr.cell? ⟨p, 1, none⟩ = some (.slice a m c) := by
      have := HW.out.row.cell 1
      rw [HAV.out, HM.out] at this
      exact this
    by_cases hlt : j < m
    · have d1 : decide ((j : Int) < (m : Int)) = true := decide_eq_true (by omega)
      have d1' : decide (j < m) = true := decide_eq_true hlt
      obtain ⟨x, hx⟩ : ∃ x, R.all[j]? = some x := ⟨_, List.getElem?_eq_getElem (by rw [HM.out]; exact hlt)⟩
      have TK := Lib.hid (openR_take hx)
      obtain ⟨g, cap, e1, hcap, hB, hR⟩ := HW.out.at_ hx
      rw [HAV.out] at e1
      simp only [Value.slice.injEq] at e1
      obtain ⟨rfl, _, rfl⟩ := e1
      have r0 := hR.c0
      have r3 := hR.c3
      clear hR hx hB hcap
      by_cases ho : x.op = true
      · rw [ho] at r3
        have TK2 : Hid (openR (R.all.take (j + 1)) = openR (R.all.take j) ++ [x.n]) := Lib.hid (by rw [TK.out, if_pos ho])
        have LE := Lib.hid (openR_le R.all j)
        have BS : Hid (w.heap.size ≤ wr.heap.size) := Lib.hid HI.out.bl.size
        clear ho TK
        go_wp2_with (at_builtin; refine wpList_append_at rfl (.tmp 22) (.tmp 31) 28 rfl w.heap.size tU i0 (.int .u64 0) 1 8 Try.underlying28 hi hz0 hz1 hz2 rfl (by decide) _ _ _ rfl (HI.out.own.alloc _) ⟨wr.heap.size, 0, none⟩ 1 1 [.int .u64 x.n] rfl rfl (cell_one_new _ _ _) (by simp [Value.oneCell']) (by have := LE.out; unfold maxLen; omega) (by have := LE.out; omega) (by have := BS.out; simp; omega) ?_; intro v' w1 hown' hgrow _)
        have NX : Hid (OpInv w w1 v' (openR (R.all.take (j + 1)))) := Lib.hid (by
          have b1 : Below w.heap.size w (wr.alloc (.cells #[.int .u64 x.n] tU)) := HI.out.bl.alloc BS.out _
          refine ⟨?_, b1.grown hgrow (by simp; have := BS.out; omega) (fun k hk => ?_)⟩
          · rw [TK2.out]
            simpa using hown'
          · exact (HI.out.own.lt k (by simpa [Act.eval] using hk)).1)
        clear hown' hgrow
        go_roundw
        case rel => exact ⟨j + 1, by omega, by go_num, NX⟩
        case measure => simp [intOf]; omega
      · have ho2 : x.op = false := by simpa using ho
        rw [ho2] at r3
        have TK2 : Hid (openR (R.all.take (j + 1)) = openR (R.all.take j)) := Lib.hid (by rw [TK.out, if_neg ho, List.append_nil])
        clear ho ho2 TK
        go_wp2_with fail
        go_roundw
        case rel => exact ⟨j + 1, by omega, by go_num, by rw [TK2.out]; exact HI⟩
        case measure => simp [intOf]; omega
    · have d1 : decide ((j : Int) < (m : Int)) = false := decide_eq_false (by omega)
      have d1' : decide (j < m) = false := decide_eq_false hlt
      have HL := Lib.hid hlt
      clear hlt
      go_wp2_with fail
      go_ret
      have hown := HI.out.own
      have e : R.all.take j = R.all := List.take_of_length_le (by rw [HM.out]; have := HL.out; omega)
      rw [e] at hown
      obtain ⟨a9, c9, rfl⟩ := own_len hown
      exact ⟨a9, c9, rfl, hown, HI.out.bl⟩
end Go.Proofs.Ytodkflnpcfepfaa
