/- The document's manager: Forget. -/
import Derived.Test.YtodkflnpcfepfaaTxW
namespace Go.Proofs.Ytodkflnpcfepfaa
open Go.RowKit Go.ChangeShapes Go.WideShapes Go.ChangeAt
set_option linter.unusedVariables false
set_option linter.unusedSimpArgs false

def minL (last : Int) (l : List RT) : Int := l.foldl (fun m x => if x.op then min m x.start else m) last
def kept (least : Int) (x : RT) : Bool := x.op || decide (least < x.at_)
def cntL (least : Int) (l : List RT) : Int := l.foldl (fun n x => if kept least x then n + (x.keys.length : Int) else n) 0
def forgetL (R : Rf) : Int := cntL (minL R.last R.all) R.all
theorem take_snoc {l : List RT} {j : Nat} {x : RT} (h : l[j]? = some x) : l.take (j + 1) = l.take j ++ [x] := by
  have hlt := (List.getElem?_eq_some_iff.1 h).1
  rw [List.take_succ_eq_append_getElem hlt, (List.getElem?_eq_some_iff.1 h).2]
theorem minL_snoc (last : Int) (l : List RT) (x : RT) : minL last (l ++ [x]) = if x.op then min (minL last l) x.start else minL last l := by simp [minL, List.foldl_append]
theorem cntL_snoc (least : Int) (l : List RT) (x : RT) : cntL least (l ++ [x]) = if kept least x then cntL least l + (x.keys.length : Int) else cntL least l := by simp [cntL, List.foldl_append]
theorem cntL_le (least : Int) (l : List RT) (h : ∀ x ∈ l, x.keys.length ≤ 1000) : ∀ i : Nat, 0 ≤ cntL least (l.take i) ∧ cntL least (l.take i) ≤ (i : Int) * 1000 := by
  intro i
  induction i with
  | zero => simp [cntL]
  | succ i ih =>
    cases hx : l[i]? with
    | none =>
      have e : l.take (i + 1) = l.take i := by
        have hl := List.getElem?_eq_none_iff.1 hx
        rw [List.take_of_length_le (by omega), List.take_of_length_le hl]
      rw [e]
      omega
    | some x =>
      rw [take_snoc hx, cntL_snoc]
      have := h x (List.mem_of_getElem? hx)
      split <;> omega
set_option maxRecDepth 100000 in
set_option maxHeartbeats 4000000 in
theorem forget_ref {w : World} {B p : Nat} {av : Value} {R : Rf} (h : RfAt w B p av R) :
    Calls Try.prog 27 #[.pointer (some ⟨p, 0, none⟩)] w fun e w' => e = .returned (.int .i64 (forgetL R)) ∧ w' = w := by
  have H := Lib.hid h
  obtain ⟨a, c, hav⟩ := h.av_shape
  have c1 : w.cell? ⟨p, 1, none⟩ = some (.slice a R.all.length c) := by rw [← hav]; exact h.row.cell 1
  have c2 : w.cell? ⟨p, 2, none⟩ = some (.int .u64 R.last) := h.row.cell 2
  have hlen := h.fine.len
  have HAV := Lib.hid hav
  obtain ⟨m, hm⟩ : ∃ m, R.all.length = m := ⟨_, rfl⟩
  have HM := Lib.hid hm
  rw [hm] at c1 hlen
  obtain ⟨last, hl⟩ : ∃ last, R.last = last := ⟨_, rfl⟩
  rw [hl] at c2
  have HL := Lib.hid hl
  clear h hav hm hl
  go_enter Try.func27, Try.ntmps27
  go_wp2_with fail
  go_loopw [3, 4] (fun v u wr => ∃ (j : Nat) (k : Int), j ≤ m ∧ v = .int .u64 k ∧ u = .int .i64 j ∧ Hid (k = minL last (R.all.take j)) ∧ Hid (wr = w)) (fun _ u _ => m - (intOf u).toNat)
  case atStart => exact ⟨0, last, by omega, rfl, rfl, Lib.hid (by simp [minL]), Lib.hid rfl⟩
  case round =>
    obtain ⟨j, k, hj, rfl, rfl, HK, hw⟩ := hrel
    have hw2 := hw.out
    clear hw
    rename World => w3
    subst w3
    by_cases hlt : j < m
    · have d1 : decide ((j : Int) < (m : Int)) = true := decide_eq_true (by omega)
      have d1' : decide (j < m) = true := decide_eq_true hlt
      obtain ⟨x, hx⟩ : ∃ x, R.all[j]? = some x := ⟨_, List.getElem?_eq_getElem (by rw [HM.out]; exact hlt)⟩
      obtain ⟨g, cap, e1, hcap, hB, hR⟩ := H.out.at_ hx
      rw [HAV.out] at e1
      simp only [Value.slice.injEq] at e1
      obtain ⟨rfl, _, rfl⟩ := e1
      have r1 := hR.c1
      have r3 := hR.c3
      have TK := Lib.hid (minL_snoc last (R.all.take j) x)
      have TS := Lib.hid (take_snoc hx)
      clear hR hx hB hcap
      by_cases ho : x.op = true
      · rw [ho] at r3
        have HO := Lib.hid ho
        clear ho
        go_wp2_with fail
        go_roundw
        case rel => exact ⟨j + 1, _, by omega, rfl, by go_num, Lib.hid (by
          rw [TS.out, TK.out, if_pos HO.out, ← HK.out]
          split <;> omega), Lib.hid (by first | rfl | trivial)⟩
        case measure => simp [intOf]; omega
      · have ho2 : x.op = false := by simpa using ho
        rw [ho2] at r3
        have HO := Lib.hid ho
        clear ho ho2
        go_wp2_with fail
        go_roundw
        case rel => exact ⟨j + 1, _, by omega, rfl, by go_num, Lib.hid (by rw [TS.out, TK.out, if_neg HO.out]; exact HK.out), Lib.hid (by first | rfl | trivial)⟩
        case measure => simp [intOf]; omega
    · have d1 : decide ((j : Int) < (m : Int)) = false := decide_eq_false (by omega)
      have d1' : decide (j < m) = false := decide_eq_false hlt
      have KE : Hid (k = minL last R.all) := Lib.hid (by
        have := HK.out
        rw [List.take_of_length_le (by rw [HM.out]; omega)] at this
        exact this)
      clear hlt HK
      go_wp2_with fail
      go_loopw [5, 6] (fun v u wr => ∃ (i : Nat) (n : Int), i ≤ m ∧ v = .int .i64 n ∧ u = .int .i64 i ∧ 0 ≤ n ∧ n ≤ (i : Int) * 1000 ∧ Hid (n = cntL k (R.all.take i)) ∧ Hid (wr = w)) (fun _ u _ => m - (intOf u).toNat)
      case atStart => exact ⟨0, 0, by omega, rfl, rfl, by omega, by omega, Lib.hid (by simp [cntL]), Lib.hid rfl⟩
      case round =>
        obtain ⟨i, n, hi, rfl, rfl, hn0, hn1, HN, hw⟩ := hrel
        have hw2 := hw.out
        clear hw
        rename World => w4
        subst w4
        by_cases hlt : i < m
        · have d3 : decide ((i : Int) < (m : Int)) = true := decide_eq_true (by omega)
          have d3' : decide (i < m) = true := decide_eq_true hlt
          obtain ⟨x, hx⟩ : ∃ x, R.all[i]? = some x := ⟨_, List.getElem?_eq_getElem (by rw [HM.out]; exact hlt)⟩
          obtain ⟨g, cap, e1, hcap, hB, hR⟩ := H.out.at_ hx
          rw [HAV.out] at e1
          simp only [Value.slice.injEq] at e1
          obtain ⟨rfl, _, rfl⟩ := e1
          have r2 := hR.c2
          have r3 := hR.c3
          have r4 := hR.c4
          have hkl := (H.out.fine.each x (List.mem_of_getElem? hx)).2.2.2
          have TK := Lib.hid (cntL_snoc k (R.all.take i) x)
          have TS := Lib.hid (take_snoc hx)
          obtain ⟨kl, hkk⟩ : ∃ kl, x.keys.length = kl := ⟨_, rfl⟩
          rw [hkk] at r4 hkl
          have HKK := Lib.hid hkk
          clear hR hx hB hcap hkk
          by_cases ho : x.op = true
          · rw [ho] at r3
            have HO : Hid (kept k x = true) := Lib.hid (by simp [kept, ho])
            clear ho
            go_wp2_with fail
            go_roundw
            case rel => exact ⟨i + 1, _, by omega, rfl, by go_num, by omega, by omega, Lib.hid (by rw [TS.out, TK.out, if_pos HO.out, ← HN.out, HKK.out]), Lib.hid (by first | rfl | trivial)⟩
            case measure => simp [intOf]; omega
          · have ho2 : x.op = false := by simpa using ho
            rw [ho2] at r3
            by_cases hat : k < x.at_
            · have d4 : decide (k < x.at_) = true := decide_eq_true hat
              have HO : Hid (kept k x = true) := Lib.hid (by simp [kept, hat])
              generalize x.at_ = xa at r2 d4
              clear ho ho2 hat
              go_wp2_with fail
              go_roundw
              case rel => exact ⟨i + 1, _, by omega, rfl, by go_num, by omega, by omega, Lib.hid (by rw [TS.out, TK.out, if_pos HO.out, ← HN.out, HKK.out]), Lib.hid (by first | rfl | trivial)⟩
              case measure => simp [intOf]; omega
            · have d4 : decide (k < x.at_) = false := decide_eq_false hat
              have HO : Hid (¬ kept k x = true) := Lib.hid (by simp [kept, ho2]; omega)
              generalize x.at_ = xa at r2 d4
              clear ho ho2 hat
              go_wp2_with fail
              go_roundw
              case rel => exact ⟨i + 1, _, by omega, rfl, by go_num, by omega, by omega, Lib.hid (by rw [TS.out, TK.out, if_neg HO.out]; exact HN.out), Lib.hid (by first | rfl | trivial)⟩
              case measure => simp [intOf]; omega
        · have d3 : decide ((i : Int) < (m : Int)) = false := decide_eq_false (by omega)
          have d3' : decide (i < m) = false := decide_eq_false hlt
          have NE : Hid (n = forgetL R) := Lib.hid (by
            have := HN.out
            rw [List.take_of_length_le (by rw [HM.out]; omega), KE.out, ← HL.out] at this
            exact this)
          clear hlt HN hn0 hn1
          go_wp2_with fail
          go_ret
          exact ⟨by rw [NE.out]; rfl, rfl⟩
end Go.Proofs.Ytodkflnpcfepfaa
