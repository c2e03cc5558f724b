/- slices.Sort at uint64, of at most 12; Sorted of a map's keys; Open. -/
import Derived.Test.YtodkflnpcfepfaaTxL
import Derived.BigRegion
import Derived.Deep.QuietTactic
import Derived.BigQuiet
namespace Go.Proofs.Ytodkflnpcfepfaa
open Go.RowKit Go.ChangeShapes Go.WideShapes Go.ChangeAt
set_option linter.unusedVariables false
set_option linter.unusedSimpArgs false

/-! ### the plain part: an insertion -/
def at0 (ys : List Int) (k : Nat) : Int := ys[k]?.getD 0
/-- Up to i all stand in order, but for the one at j, which is less than those behind it. -/
structure Ins (xs ys : List Int) (i j : Nat) : Prop where
  perm : ys.Perm xs
  le : j ≤ i
  rest : ∀ a b, a < b → b ≤ i → a ≠ j → b ≠ j → at0 ys a ≤ at0 ys b
  here : ∀ b, j < b → b ≤ i → at0 ys j ≤ at0 ys b
def SortedTo (ys : List Int) (i : Nat) : Prop := ∀ a b, a < b → b < i → at0 ys a ≤ at0 ys b
theorem Ins.start {xs ys : List Int} {i : Nat} (hp : ys.Perm xs) (h : SortedTo ys i) : Ins xs ys i i :=
  ⟨hp, Nat.le_refl _, fun a b h1 h2 h3 h4 => h a b h1 (by omega), fun b h1 h2 => by omega⟩
theorem Ins.done {xs ys : List Int} {i j : Nat} (h : Ins xs ys i j) (hs : j = 0 ∨ at0 ys (j - 1) ≤ at0 ys j) : SortedTo ys (i + 1) := fun a b h1 h2 => by
  by_cases ea : a = j
  · subst ea; exact h.here b h1 (by omega)
  · by_cases eb : b = j
    · subst eb
      rcases hs with hs | hs
      · omega
      · by_cases e : a = b - 1
        · subst e; exact hs
        · exact Int.le_trans (h.rest a (b - 1) (by omega) (by have := h.le; omega) ea (by omega)) hs
    · exact h.rest a b h1 (by omega) ea eb
def swp (ys : List Int) (j : Nat) : List Int := (ys.set j (at0 ys (j - 1))).set (j - 1) (at0 ys j)
theorem swp_len (ys : List Int) (j : Nat) : (swp ys j).length = ys.length := by simp [swp]
theorem swp_at {ys : List Int} {j : Nat} (hj : j < ys.length) (h0 : 0 < j) (k : Nat) : at0 (swp ys j) k = if k = j then at0 ys (j - 1) else if k = j - 1 then at0 ys j else at0 ys k := by
  unfold swp
  generalize hu : at0 ys (j - 1) = u
  generalize hv : at0 ys j = v
  unfold at0
  rw [List.getElem?_set, List.getElem?_set]
  by_cases e1 : k = j
  · subst e1
    rw [if_neg (by omega), if_pos rfl, if_pos rfl, if_pos hj]; rfl
  · by_cases e2 : k = j - 1
    · subst e2
      rw [if_pos rfl, if_neg e1, if_pos rfl, if_pos (by simp; omega)]; rfl
    · rw [if_neg (by omega), if_neg (by omega), if_neg e1, if_neg e2]
theorem Ins.step {xs ys : List Int} {i j : Nat} (h : Ins xs ys i j) (h0 : 0 < j) (hi : i < ys.length) (hlt : at0 ys j < at0 ys (j - 1)) : Ins xs (swp ys j) i (j - 1) := by
  have hj : j < ys.length := by have := h.le; omega
  refine ⟨?_, by have := h.le; omega, fun a b h1 h2 h3 h4 => ?_, fun b h1 h2 => ?_⟩
  · refine List.Perm.trans ?_ h.perm
    have hh := @List.set_set_perm _ ys j (j - 1) hj (by omega)
    have e1 : at0 ys (j - 1) = ys[j - 1] := by unfold at0; rw [List.getElem?_eq_getElem (by omega)]; rfl
    have e2 : at0 ys j = ys[j] := by unfold at0; rw [List.getElem?_eq_getElem hj]; rfl
    unfold swp
    rw [e1, e2]
    exact hh
  · rw [swp_at hj h0, swp_at hj h0, if_neg h3, if_neg h4]
    by_cases ea : a = j
    · rw [if_pos ea, if_neg (by omega)]
      exact h.rest (j - 1) b (by omega) h2 (by omega) (by omega)
    · rw [if_neg ea]
      by_cases eb : b = j
      · rw [if_pos eb]
        by_cases e : a < j - 1
        · exact h.rest a (j - 1) e (by have := h.le; omega) ea (by omega)
        · omega
      · rw [if_neg eb]; exact h.rest a b h1 h2 ea eb
  · rw [swp_at hj h0, swp_at hj h0, if_neg (show ¬ j - 1 = j by omega), if_pos rfl]
    by_cases eb : b = j
    · rw [if_pos eb]; omega
    · rw [if_neg eb, if_neg (by omega)]
      exact h.here b (by omega) h2
/-! ### the walk -/
set_option maxHeartbeats 1000000 in
theorem isNaN_any (x : Int) (w : World) : Calls Try.prog 69 #[.int .u64 x] w fun e w' => e = .returned (.bool false) ∧ w' = w := by
  go_enter Try.func69, Try.ntmps69
  go_wp2
  go_ret
  exact ⟨rfl, rfl⟩
set_option maxHeartbeats 1000000 in
theorem less_any (x y : Int) (w : World) : Calls Try.prog 59 #[.int .u64 x, .int .u64 y] w fun e w' => e = .returned (.bool (decide (x < y))) ∧ w' = w := by
  go_enter Try.func59, Try.ntmps59
  go_wp2_with fail
  refine (isNaN_any _ _).mono ?_
  rintro _ w1 ⟨rfl, hw1⟩
  subst w1
  go_wp2_with fail
  go_ret
  exact ⟨rfl, rfl⟩
set_option maxRecDepth 100000 in
set_option maxHeartbeats 4000000 in
theorem len64_small (n : Nat) (hn : n ≤ 12) (w : World) : Calls Try.prog 63 #[.int .u64 (n : Int)] w fun e w' => (∃ z : Int, e = .returned (.int .i64 z)) ∧ w' = w := by
  rcases (show n = 0 ∨ n = 1 ∨ n = 2 ∨ n = 3 ∨ n = 4 ∨ n = 5 ∨ n = 6 ∨ n = 7 ∨ n = 8 ∨ n = 9 ∨ n = 10 ∨ n = 11 ∨ n = 12 by omega) with rfl | rfl | rfl | rfl | rfl | rfl | rfl | rfl | rfl | rfl | rfl | rfl | rfl
  all_goals
    go_enter Try.func63, Try.ntmps63
    go_wp2_with fail
    go_ret
    exact ⟨⟨_, rfl⟩, rfl⟩
set_option maxHeartbeats 1000000 in
theorem len_small (n : Nat) (hn : n ≤ 12) (w : World) : Calls Try.prog 52 #[.int .u64 (n : Int)] w fun e w' => (∃ z : Int, e = .returned (.int .i64 z)) ∧ w' = w := by
  have L := Lib.hid (len64_small n hn w)
  go_enter Try.func52, Try.ntmps52
  go_wp2_with fail
  refine L.out.mono ?_
  rintro _ w1 ⟨⟨z, rfl⟩, hw1⟩
  subst w1
  go_wp2_with fail
  go_ret
  exact ⟨⟨_, rfl⟩, rfl⟩
abbrev tU : TypeId := 29
/-- The row of numbers in a block of the call's own. -/
def URow (w : World) (B g cap : Nat) (ys : List Int) : Prop := w.ownsRow B tU 1 (.slice (some ⟨g, 0, none⟩) ys.length cap) ys.length (ys.map (Value.int .u64))
theorem URow.cellAt {w : World} {B g cap : Nat} {ys : List Int} (h : URow w B g cap ys) (k : Nat) (hk : k < ys.length) : w.cell? ⟨g, k, none⟩ = some (.int .u64 (at0 ys k)) := by
  rw [World.ownsRow.cellAt h k (by omega), List.getElem?_map]
  unfold at0
  rw [List.getElem?_eq_getElem hk]; rfl
theorem URow.put {w : World} {B g cap : Nat} {ys : List Int} (h : URow w B g cap ys) (k : Nat) (x : Int) : URow (w.setCell ⟨g, k, none⟩ (.int .u64 x)) B g cap (ys.set k x) ∧ Only [g] w (w.setCell ⟨g, k, none⟩ (.int .u64 x)) := by
  refine ⟨?_, (Only.refl [g] w).setCell (.inl (by simp)) _⟩
  have h1 := (World.ownsRow.stored h k (.int .u64 x)).1
  unfold URow
  rw [List.length_set, List.map_set]
  exact h1
theorem URow.only {w w' : World} {B g cap : Nat} {ys : List Int} {G : List Nat} (h : URow w B g cap ys) (k : Only G w w') (hg : g ∉ G) : URow w' B g cap ys :=
  own_keep h fun b hb => by
    simp [Value.ownBlock] at hb
    subst hb
    exact k.block _ (World.ownsRow.lt h _ rfl).2 hg
/-- Between two rounds. -/
structure InsAt (w wr : World) (B g cap : Nat) (xs : List Int) (ys : List Int) : Prop where
  row : URow wr B g cap ys
  only : Only [g] w wr
  perm : ys.Perm xs
structure InnAt' (w wr : World) (B g cap n : Nat) (xs : List Int) (i j : Nat) (ys : List Int) : Prop where
  row : URow wr B g cap ys
  only : Only [g] w wr
  ins : Ins xs ys i j
  len : ys.length = n
def InnAt (w wr : World) (B g cap n : Nat) (xs : List Int) (i j : Nat) : Prop := ∃ ys, InnAt' w wr B g cap n xs i j ys
set_option maxRecDepth 100000 in
set_option maxHeartbeats 4000000 in
theorem insertion_any (B g cap : Nat) (xs : List Int) (w : World) (h : URow w B g cap xs) (hn : xs.length ≤ 1000000) :
    Calls Try.prog 53 #[.slice (some ⟨g, 0, none⟩) xs.length cap, .int .i64 0, .int .i64 (xs.length : Int)] w fun e w' => e = .returned (.tuple #[]) ∧ ∃ ys, InsAt w w' B g cap xs ys ∧ SortedTo ys xs.length := by
  obtain ⟨n, hx⟩ : ∃ n, xs.length = n := ⟨_, rfl⟩
  have HX := Lib.hid hx
  have I0 : Hid (InsAt w w B g cap xs xs ∧ SortedTo xs 1) := Lib.hid ⟨⟨h, Only.refl _ _, List.Perm.refl _⟩, fun a b h1 h2 => by omega⟩
  rw [hx] at hn ⊢
  have HN := Lib.hid hn
  clear h hx hn
  go_enter Try.func53, Try.ntmps53
  go_wp2_with fail
  go_loopw [6] (fun u wr => ∃ i : Nat, u = .int .i64 i ∧ Hid (1 ≤ i ∧ (i ≤ n ∨ i = 1)) ∧ Hid (∃ ys, InsAt w wr B g cap xs ys ∧ SortedTo ys i)) (fun u _ => n + 1 - (intOf u).toNat)
  case atStart => exact ⟨1, rfl, Lib.hid (by omega), Lib.hid ⟨xs, I0.out⟩⟩
  case round =>
    obtain ⟨i, rfl, hi, hys⟩ := hrel
    obtain ⟨ys, hy, hs⟩ := hys.out
    have HY := Lib.hid hy
    have HS := Lib.hid hs
    have YL : Hid (ys.length = n) := Lib.hid (hy.perm.length_eq.trans HX.out)
    clear hy hs hys
    by_cases hlt : i < n
    · have d1 : decide (i < n) = true := decide_eq_true hlt
      have HL := Lib.hid hlt
      clear hlt
      have J0 : Hid (InnAt w wr B g cap n xs i i) := Lib.hid ⟨ys, HY.out.row, HY.out.only, Ins.start HY.out.perm HS.out, YL.out⟩
      have HN1 := HL.out
      have HN2 := HN.out
      go_wp2_with fail
      go_loopw [7] (fun u w2 => ∃ j : Nat, u = .int .i64 j ∧ Hid (InnAt w w2 B g cap n xs i j)) (fun u _ => (intOf u).toNat)
      case atStart => exact ⟨i, rfl, J0⟩
      case round =>
        obtain ⟨j, rfl, hj⟩ := hrel
        rename World => w2
        obtain ⟨zs, hr, ho, hins, hzl⟩ := hj.out
        have RW := Lib.hid hr
        have OW := Lib.hid ho
        have IW := Lib.hid hins
        have ZL := Lib.hid hzl
        clear hr ho hins hzl hj
        by_cases h0 : 0 < j
        · have d2 : decide (0 < j) = true := decide_eq_true h0
          have hjn : j < zs.length := by have := IW.out.le; have := HL.out; have := ZL.out; omega
          have hjn2 : j < n := by have := ZL.out; omega
          have c1 := RW.out.cellAt j hjn
          have c2 := RW.out.cellAt (j - 1) (by omega)
          have es : IntKind.i64.wrap ((j : Int) - 1) = ((j - 1 : Nat) : Int) := by rw [IntWalk.i64_in _ (by have := HN.out; omega)]; omega
          have es3 : 0 ≤ (j : Int) - 1 := by omega
          have q1 := World.ownsRow.frozenAt RW.out j
          have q2 := World.ownsRow.frozenAt RW.out (j - 1)
          generalize hxa : at0 zs j = xa at *
          generalize hxb : at0 zs (j - 1) = xb at *
          have HXA := Lib.hid hxa
          have HXB := Lib.hid hxb
          clear hxa hxb
          by_cases hl : xa < xb
          · have d3 : decide (xa < xb) = true := decide_eq_true hl
            have HLT := Lib.hid hl
            clear hl h0
            go_wp2_with fail
            go_quiet ((go_at_call 59; exact Calls.quiet_of_same (less_any _ _ _)))
            go_wp2_with fail
            generalize hy3 : w2.drewN nq = w3 at *
            have k3 : Only [] w2 w3 := by rw [← hy3]; exact (Only.refl [] w2).drewN nq
            have RW3 := Lib.hid (RW.out.only k3 (by simp))
            have OW3 := Lib.hid (OW.out.trans k3 (by simp))
            clear hy3 k3 c1 c2 q1 q2
            have c1 : w3.cell? ⟨g, j, none⟩ = some (.int .u64 xa) := by rw [← HXA.out]; exact RW3.out.cellAt j hjn
            have c2 : w3.cell? ⟨g, j - 1, none⟩ = some (.int .u64 xb) := by rw [← HXB.out]; exact RW3.out.cellAt (j - 1) (by omega)
            have q1 := World.ownsRow.frozenAt RW3.out j
            have q2 := World.ownsRow.frozenAt RW3.out (j - 1)
            have hne : ¬ j = j - 1 := by have := of_decide_eq_true d2; omega
            have hne2 : ¬ j - 1 = j := fun e => hne e.symm
            have P3 : Hid (InnAt w ((w3.setCell ⟨g, j, none⟩ (.int .u64 xb)).setCell ⟨g, j - 1, none⟩ (.int .u64 xa)).drew B g cap n xs i (j - 1)) := Lib.hid (by
              have hj0 := of_decide_eq_true d2
              obtain ⟨r1, o1⟩ := RW3.out.put j xb
              obtain ⟨r2, o2⟩ := r1.put (j - 1) xa
              refine ⟨swp zs j, ?_, ?_, ?_, by rw [swp_len]; exact ZL.out⟩
              · unfold swp
                rw [HXA.out, HXB.out]
                exact r2.only (Only.refl [] _).drew (by simp)
              · exact ((OW3.out.trans o1 (by simp)).trans o2 (by simp)).drew
              · exact IW.out.step hj0 (by have := HL.out; have := ZL.out; omega) (by rw [HXA.out, HXB.out]; exact HLT.out))
            clear RW RW3 OW OW3
            go_region
            go_wp2_with fail
            go_roundw
            case rel => exact ⟨j - 1, by first | rfl | go_num | (rw [show ((j : Int) - 1) = ((j - 1 : Nat) : Int) by have := of_decide_eq_true d2; omega]), P3⟩
            case measure => simp [intOf]; have := of_decide_eq_true d2; omega
          · have d3 : decide (xa < xb) = false := decide_eq_false hl
            have HLT := Lib.hid hl
            clear hl h0
            go_wp2_with fail
            go_quiet ((go_at_call 59; exact Calls.quiet_of_same (less_any _ _ _)))
            have O3 : Hid (InsAt w (w2.drewN nq) B g cap xs zs ∧ SortedTo zs (i + 1)) := Lib.hid ⟨⟨RW.out.only ((Only.refl [] w2).drewN nq) (by simp), OW.out.trans ((Only.refl [] w2).drewN nq) (by simp), IW.out.perm⟩, IW.out.done (.inr (by rw [HXA.out, HXB.out]; have := HLT.out; omega))⟩
            go_wp2_with fail
            go_roundw
            case rel => exact ⟨i + 1, by go_num, Lib.hid (by have := hi.out; have := HL.out; omega), Lib.hid ⟨zs, O3.out⟩⟩
            case measure => simp [intOf]; have := HL.out; omega
        · have d2 : decide (0 < j) = false := decide_eq_false h0
          have HJ := Lib.hid h0
          clear h0
          go_wp2_with fail
          go_quiet (fail)
          have O3 : Hid (InsAt w (w2.drewN nq) B g cap xs zs ∧ SortedTo zs (i + 1)) := Lib.hid ⟨⟨RW.out.only ((Only.refl [] w2).drewN nq) (by simp), OW.out.trans ((Only.refl [] w2).drewN nq) (by simp), IW.out.perm⟩, IW.out.done (.inl (by have := HJ.out; omega))⟩
          go_wp2_with fail
          go_roundw
          case rel => exact ⟨i + 1, by go_num, Lib.hid (by have := hi.out; have := HL.out; omega), Lib.hid ⟨zs, O3.out⟩⟩
          case measure => simp [intOf]; have := HL.out; omega
    · have d1 : decide (i < n) = false := decide_eq_false hlt
      have HL := Lib.hid hlt
      clear hlt
      go_wp2_with fail
      go_end0
      exact ⟨rfl, ys, HY.out, fun a b h1 h2 => HS.out a b h1 (by have := hi.out; have := HL.out; omega)⟩
def SortTo (B g cap : Nat) (xs : List Int) (w : World) (e : Ending) (w' : World) : Prop := e = .returned (.tuple #[]) ∧ ∃ ys, InsAt w w' B g cap xs ys ∧ SortedTo ys xs.length
set_option maxRecDepth 100000 in
set_option maxHeartbeats 4000000 in
theorem pdq_small (B g cap : Nat) (xs : List Int) (z : Int) (w : World) (h : URow w B g cap xs) (hn : xs.length ≤ 12) :
    Calls Try.prog 51 #[.slice (some ⟨g, 0, none⟩) xs.length cap, .int .i64 0, .int .i64 (xs.length : Int), .int .i64 z] w (SortTo B g cap xs w) := by
  have I := Lib.hid (insertion_any B g cap xs w h (by omega))
  have e1 : IntKind.i64.wrap ((xs.length : Int) - 0) = xs.length := by rw [Int.sub_zero]; exact IntWalk.i64_in _ (by omega)
  have d1 : decide ((xs.length : Int) ≤ 12) = true := decide_eq_true (by omega)
  unfold SortTo
  generalize xs.length = n at *
  clear h
  go_enter Try.func51, Try.ntmps51
  go_wp2_with fail
  go_loopw [1, 2, 3] (fun u1 u2 u3 wr => (u1 = .int .i64 0 ∧ u2 = .int .i64 (n : Int) ∧ u3 = .int .i64 z) ∧ Hid (wr = w)) (fun _ _ _ _ => 0)
  case atStart => exact ⟨⟨rfl, rfl, rfl⟩, Lib.hid rfl⟩
  case round =>
    obtain ⟨⟨rfl, rfl, rfl⟩, hr⟩ := hrel
    have hy9 := hr.out
    clear hr
    rename World => y9
    subst y9
    go_wp2_with fail
    refine I.out.mono ?_
    rintro _ w1 ⟨rfl, hp⟩
    have HP := Lib.hid hp
    clear hp I
    go_wp2_with fail
    refine bodyPost_ret (results_none rfl _ _ _) rfl ?_
    exact ⟨rfl, HP.out⟩
set_option maxRecDepth 100000 in
set_option maxHeartbeats 1000000 in
theorem sort_small (B g cap : Nat) (xs : List Int) (w : World) (h : URow w B g cap xs) (hn : xs.length ≤ 12) :
    Calls Try.prog 48 #[.slice (some ⟨g, 0, none⟩) xs.length cap] w (SortTo B g cap xs w) := by
  have I := Lib.hid (fun z => pdq_small B g cap xs z w h hn)
  have L := Lib.hid (len_small xs.length hn w)
  have hn2 := hn
  unfold SortTo at *
  generalize xs.length = n at *
  clear h hn
  go_enter Try.func48, Try.ntmps48
  go_wp2_with fail
  refine L.out.mono ?_
  rintro _ w1 ⟨⟨z, rfl⟩, hw1⟩
  subst w1
  go_wp2_with fail
  refine (I.out z).mono ?_
  rintro _ w1 ⟨rfl, hp⟩
  have HP := Lib.hid hp
  clear hp I
  go_wp2_with fail
  go_end0
  exact ⟨rfl, HP.out⟩
set_option maxHeartbeats 1000000 in
theorem insertion_nil (w : World) : Calls Try.prog 53 #[.slice none 0 0, .int .i64 0, .int .i64 0] w (fun e w' => e = .returned (.tuple #[]) ∧ w' = w) := by
  go_enter Try.func53, Try.ntmps53
  go_wp2_with fail
  go_loopw [6] (fun u wr => u = .int .i64 1 ∧ Hid (wr = w)) (fun _ _ => 0)
  case atStart => exact ⟨rfl, Lib.hid rfl⟩
  case round =>
    obtain ⟨rfl, hr⟩ := hrel
    have hy9 := hr.out
    clear hr
    rename World => y9
    subst y9
    go_wp2_with fail
    go_end0
    exact ⟨rfl, rfl⟩
set_option maxRecDepth 100000 in
set_option maxHeartbeats 4000000 in
theorem pdq_nil (z : Int) (w : World) : Calls Try.prog 51 #[.slice none 0 0, .int .i64 0, .int .i64 0, .int .i64 z] w (fun e w' => e = .returned (.tuple #[]) ∧ w' = w) := by
  go_enter Try.func51, Try.ntmps51
  go_wp2_with fail
  go_loopw [1, 2, 3] (fun u1 u2 u3 wr => (u1 = .int .i64 0 ∧ u2 = .int .i64 0 ∧ u3 = .int .i64 z) ∧ Hid (wr = w)) (fun _ _ _ _ => 0)
  case atStart => exact ⟨⟨rfl, rfl, rfl⟩, Lib.hid rfl⟩
  case round =>
    obtain ⟨⟨rfl, rfl, rfl⟩, hr⟩ := hrel
    have hy9 := hr.out
    clear hr
    rename World => y9
    subst y9
    go_wp2_with fail
    refine (insertion_nil _).mono ?_
    rintro _ w1 ⟨rfl, hw1⟩
    subst w1
    go_wp2_with fail
    refine bodyPost_ret (results_none rfl _ _ _) rfl ?_
    exact ⟨rfl, rfl⟩
theorem sort_nil (w : World) : Calls Try.prog 48 #[.slice none 0 0] w (fun e w' => e = .returned (.tuple #[]) ∧ w' = w) := by
  have L := Lib.hid (len_small 0 (by omega) w)
  go_enter Try.func48, Try.ntmps48
  go_wp2_with fail
  refine L.out.mono ?_
  rintro _ w1 ⟨⟨z, rfl⟩, hw1⟩
  subst w1
  go_wp2_with fail
  refine (pdq_nil _ _).mono ?_
  rintro _ w1 ⟨rfl, hw1⟩
  subst w1
  go_wp2_with fail
  go_end0
  exact ⟨rfl, rfl⟩
/-- The numbers of what is open, by rising numbers. -/
def RowTo (L : List (Int × Value)) (w : World) (e : Ending) (w' : World) : Prop := ∃ ys a c, e = .returned (.slice a ys.length c) ∧ ys.Perm (L.map (·.1)) ∧ SortedTo ys ys.length ∧ w'.ownsRow w.heap.size tU 1 (.slice a ys.length c) ys.length (ys.map (Value.int .u64)) ∧ Below w.heap.size w w'
set_option maxHeartbeats 2000000 in
theorem sorted_keys (Bm b : Nat) (L : List (Int × Value)) (w : World) (hBm : Bm < w.heap.size) (hm : w.cell? ⟨Bm, 0, none⟩ = some (.map (some b))) (hM : MapAt w b .u64 L) (hl : L.length ≤ 12) :
    Calls Try.prog 44 #[.func (.func 49) #[] #[.pointer (some ⟨Bm, 0, none⟩)]] w (RowTo L w) := by
  have C := Lib.hid (keys_collected Bm b L w hBm hm hM (by omega))
  have HL := Lib.hid hl
  unfold ColTo at C
  clear hm hM hl hBm
  go_enter Try.func44, Try.ntmps44
  go_wp2_with fail
  refine C.out.mono ?_
  rintro _ w1 ⟨xs, v, hp, rfl, ho, hb⟩
  have PX := Lib.hid hp
  have B1 := Lib.hid hb
  have XL : Hid (xs.length ≤ 12) := Lib.hid (by have := hp.length_eq; rw [List.length_map] at this; have := HL.out; omega)
  clear hp hb C
  rcases ho.2 with ⟨rfl, h0⟩ | ⟨g, cap, cur, rfl, hb, hgh, hnc, hcm, hcs, htake⟩
  · obtain rfl : xs = [] := by simpa using h0
    clear ho h0
    go_wp2_with fail
    refine (sort_nil _).mono ?_
    rintro _ w2 ⟨rfl, hw2⟩
    subst w2
    go_wp2_with fail
    go_ret
    exact ⟨[], none, 0, rfl, PX.out, fun a b h1 h2 => by simp at h2, World.ownsRow_nil _ _ _ _, B1.out⟩
  · have SR := Lib.hid (sort_small w.heap.size g cap xs w1 ho XL.out)
    have GB := Lib.hid hb
    unfold SortTo at SR
    obtain ⟨n, hn⟩ : ∃ n, xs.length = n := ⟨_, rfl⟩
    have HN := Lib.hid hn
    rw [hn] at SR ⊢
    clear ho hb hgh hnc hcm hcs htake hn
    go_wp2_with fail
    refine SR.out.mono ?_
    rintro _ w2 ⟨rfl, ys, hI, hS⟩
    have HI := Lib.hid hI
    have HS := Lib.hid hS
    clear hI hS SR
    go_wp2_with fail
    go_ret
    have hyl : ys.length = n := HI.out.perm.length_eq.trans HN.out
    have hrow := HI.out.row
    refine ⟨ys, some ⟨g, 0, none⟩, cap, by rw [hyl]; rfl, HI.out.perm.trans PX.out, by rw [hyl]; exact HS.out, ?_, B1.out.trans (HI.out.only.toBelow (B1.out.size) (by intro i hi; simp at hi; subst hi; exact GB.out))⟩
    exact hrow
set_option maxHeartbeats 2000000 in
theorem open_at {B p : Nat} {M : Mg} {F : List Nat} {w : World} (h : MgF w B p M F) (hl : M.os.length ≤ 12) :
    Calls Try.prog 30 #[.pointer (some ⟨p, 0, none⟩)] w (RowTo (osL M.os) w) := by
  obtain ⟨bo, bw, dv, h, rfl⟩ := h
  have N1 := Lib.hid (none_at B p bo bw dv M w h)
  have c3 := h.c3
  have A0 : Hid (MapAt (w.alloc (.cells #[.map (some bo)] 64)) bo .u64 (osL M.os)) := Lib.hid (h.om.only ((Only.refl [] w).alloc _) (by simp))
  have R0 : Hid (Row (w.alloc (.cells #[.map (some bo)] 64)) w.heap.size #[.map (some bo)] 64) := Lib.hid (Row.made _ _ _)
  have B0 : Hid (Below w.heap.size w (w.alloc (.cells #[.map (some bo)] 64))) := Lib.hid ((Below.refl _ _).alloc (Nat.le_refl _) _)
  have S0 : Hid (w.heap.size + 1 = (w.alloc (.cells #[.map (some bo)] 64)).heap.size) := Lib.hid (by simp)
  have HL : Hid ((osL M.os).length ≤ 12) := Lib.hid (by simpa [osL] using hl)
  clear h hl
  go_enter Try.func30, Try.ntmps30
  go_wp2_with fail
  refine N1.out.mono ?_
  rintro _ w1 ⟨rfl, hw1⟩
  subst w1
  go_wp2_with fail
  refine (keys_any _ _).mono ?_
  rintro _ w1 ⟨rfl, hw1⟩
  subst w1
  generalize w.alloc (.cells #[.map (some bo)] 64) = w1 at *
  have K1 := Lib.hid (sorted_keys w.heap.size bo (osL M.os) w1 (by have := S0.out; omega) (R0.out.cell 0) A0.out HL.out)
  unfold RowTo at K1
  clear N1 c3
  go_wp2_with fail
  refine K1.out.mono ?_
  rintro _ w2 ⟨ys, a, c, rfl, h1, h2, h3, h4⟩
  have P : Hid (ys.Perm ((osL M.os).map (·.1)) ∧ SortedTo ys ys.length ∧ w2.ownsRow w1.heap.size tU 1 (.slice a ys.length c) ys.length (ys.map (Value.int .u64)) ∧ Below w1.heap.size w1 w2) := Lib.hid ⟨h1, h2, h3, h4⟩
  clear h1 h2 h3 h4 K1
  go_wp2_with fail
  go_ret
  exact ⟨ys, a, c, rfl, P.out.1, P.out.2.1, own_base P.out.2.2.1 (by have := S0.out; omega), B0.out.trans (P.out.2.2.2.mono (by have := S0.out; omega))⟩
end Go.Proofs.Ytodkflnpcfepfaa
