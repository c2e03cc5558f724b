/- Plain, the document's side: Range. -/
import Derived.Test.YtmbmkfhdiljalaaGreatRfV
namespace Go.Proofs.YtmbmkfhdiljalaaGreat
open Go.RowKit Go.ChangeShapes Go.WideShapes Go.ChangeAt
set_option linter.unusedVariables false
set_option linter.unusedSimpArgs false

theorem range_r_no {w : World} {B p s : Nat} {D : RDB} (h : RdbAt w B p s D) {t : Int} (hf : findR D.op t = none) (a b c : Int) : Calls Tryz.prog 32 #[.pointer (some ⟨s, 0, none⟩), .int .u64 t, .int .u64 a, .int .u64 b, .int .i64 c] w (RefTo (.tuple #[.slice none 0 0, .int .i64 12]) w) := by
  have TH := Lib.hid (find_ref (t := t) h)
  rw [findV_none hf] at TH
  clear h hf
  go_enter Tryz.func32, Tryz.ntmps32
  go_wp2_with fail
  refine TH.out.mono ?_
  rintro _ w2 ⟨rfl, hw⟩
  subst w2
  go_wp2_with fail
  go_ret2
  exact ⟨rfl, Below.refl _ _⟩
def rangeC (l : List Rc) (lo hi most : Int) : List Rc := ((l.drop (placeC l lo)).takeWhile fun x => decide (x.1 ≤ hi)).take most.toNat
theorem take_while {α : Type} (q : α → Bool) : ∀ (l : List α) (j : Nat), j ≤ l.length → (∀ i x, i < j → l[i]? = some x → q x = true) → (j = l.length ∨ ∃ x, l[j]? = some x ∧ q x = false) → l.takeWhile q = l.take j := by
  intro l
  induction l with
  | nil => intro j _ _ _; simp
  | cons x l ih =>
    intro j hj h1 h2
    cases j with
    | zero =>
      rcases h2 with h2 | ⟨y, hy, hq⟩
      · simp at h2
      · simp at hy
        subst hy
        simp [hq]
    | succ j =>
      have hx := h1 0 x (by omega) (by simp)
      rw [List.takeWhile_cons, if_pos hx, List.take_succ_cons, ih j (by simpa using hj) (fun i y hi hy => h1 (i + 1) y (by omega) (by simpa using hy)) ?_]
      rcases h2 with h2 | ⟨y, hy, hq⟩
      · exact .inl (by simpa using h2)
      · exact .inr ⟨y, by simpa using hy, hq⟩
theorem take_most {α : Type} (q : α → Bool) (l : List α) (j n : Nat) (hj : j ≤ l.length) (h1 : ∀ i x, i < j → l[i]? = some x → q x = true) (hn : j = n) : (l.takeWhile q).take n = l.take j := by
  subst hn
  induction l generalizing j with
  | nil => simp
  | cons x l ih =>
    cases j with
    | zero => simp
    | succ j =>
      have hx := h1 0 x (by omega) (by simp)
      rw [List.takeWhile_cons, if_pos hx, List.take_succ_cons, List.take_succ_cons, ih j (by simpa using hj) (fun i y hi hy => h1 (i + 1) y (by omega) (by simpa using hy))]
theorem rangeC_end {l : List Rc} {lo hi most : Int} {j : Nat} (hj : placeC l lo + j ≤ l.length) (h1 : ∀ i x, i < j → l[placeC l lo + i]? = some x → x.1 ≤ hi) (hm : j ≤ most.toNat) (h2 : placeC l lo + j = l.length ∨ (∃ x, l[placeC l lo + j]? = some x ∧ hi < x.1) ∨ j = most.toNat) :
    rangeC l lo hi most = (l.drop (placeC l lo)).take j := by
  unfold rangeC
  have g1 : ∀ i x, i < j → (l.drop (placeC l lo))[i]? = some x → decide (x.1 ≤ hi) = true := fun i x hi hx => by
    rw [List.getElem?_drop] at hx
    exact decide_eq_true (h1 i x hi hx)
  have hl : j ≤ (l.drop (placeC l lo)).length := by simp; omega
  rcases h2 with h2 | ⟨x, hx, hq⟩ | h2
  · rw [take_while _ _ j hl g1 (.inl (by simp; omega)), List.take_take, Nat.min_eq_right hm]
  · rw [take_while _ _ j hl g1 (.inr ⟨x, by rw [List.getElem?_drop]; exact hx, by simp; omega⟩), List.take_take, Nat.min_eq_right hm]
  · exact take_most _ _ j _ hl g1 h2
/-- What Range tells. -/
def RangeRTo (cs : List Rc) (w : World) (e : Ending) (w' : World) : Prop := ∃ I : Its, e = .returned (.tuple #[I.v, .int .i64 0]) ∧ RsAt w' I ∧ I.cs = cs ∧ Below w.heap.size w w'
set_option maxRecDepth 100000 in
set_option maxHeartbeats 4000000 in
theorem range_r_at {w : World} {B p s : Nat} {D : RDB} (h : RdbAt w B p s D) {t : Int} {i : Nat} {o : RTx} (hf : findR D.op t = some i) (ho : D.op[i]? = some o) (lo hi most : Int) (hm1 : -9223372036854775808 ≤ most) (hm2 : most ≤ 9223372036854775807) :
    Calls Tryz.prog 32 #[.pointer (some ⟨s, 0, none⟩), .int .u64 t, .int .u64 lo, .int .u64 hi, .int .i64 most] w (RangeRTo (rangeC o.sees.cs lo hi most) w) := by
  obtain ⟨i0, hi0, hz0, hz1, hz2⟩ := info_parts infoIt
  have TH := Lib.hid (find_ref (t := t) h)
  rw [findV_some hf] at TH
  have HS := Lib.hid (h.sees o (List.mem_of_getElem? ho))
  have HLL : Hid (o.sees.l.length ≤ 100000) := Lib.hid (h.fine.ops o (List.mem_of_getElem? ho)).2.1
  have PL := Lib.hid (place_on (k := lo) HS.out (by have := HLL.out; omega))
  obtain ⟨g, eg, hcap, hc⟩ := h.at_ ho
  have x1 : w.cell? ⟨g, i * 4 + 1, none⟩ = some o.sees.v := hc 1 (by omega)
  have s2 : w.cell? ⟨s, 2, none⟩ = some (.slice (some ⟨g, 0, none⟩) D.op.length D.oc) := by
    have := h.srow.cell 2
    unfold RDB.ov at this
    rw [eg] at this
    exact this
  have il : i < D.op.length := (List.getElem?_eq_some_iff.1 ho).1
  have i2 : decide ((i : Int) < 0) = false := decide_eq_false (by omega)
  have i3 : (i : Int) < (D.op.length : Int) := by omega
  obtain ⟨a, ha⟩ : ∃ a, o.sees.a = a := ⟨_, rfl⟩
  have HA := Lib.hid ha
  obtain ⟨m, hm⟩ : ∃ m, o.sees.l.length = m := ⟨_, rfl⟩
  have HM := Lib.hid hm
  obtain ⟨q, hq⟩ : ∃ q, placeC o.sees.cs lo = q := ⟨_, rfl⟩
  have HQ := Lib.hid hq
  have QM : Hid (q ≤ m) := Lib.hid (by have := placeC_le o.sees.cs lo; rw [hq] at this; simp [Its.cs] at this; omega)
  unfold Its.v at PL x1
  rw [hm, ha] at PL x1
  rw [hq] at PL
  rw [hm] at HLL
  have CL : Hid (o.sees.cs.length = m) := Lib.hid (by simp [Its.cs, hm])
  have MB := Lib.hid (And.intro hm1 hm2)
  generalize o.sees.c = c at PL x1
  generalize D.oc = oc at s2 hcap
  generalize D.op.length = n at s2 hcap il i3
  clear h hf ho hc eg ha hm hq hm1 hm2
  go_enter Tryz.func32, Tryz.ntmps32
  go_wp2_with fail
  refine TH.out.mono ?_
  rintro _ w1 ⟨rfl, hw⟩
  subst w1
  go_wp2_with fail
  refine PL.out.mono ?_
  rintro _ w2 ⟨rfl, hw⟩
  subst w2
  clear i2 i3 il hcap x1 s2
  go_wp2_with fail
  go_loopw [13, 15] (fun u13 u15 wr => ∃ (j : Nat) (pv : Option Addr) (cv : Nat), (u13 = .slice pv j cv ∧ u15 = .int .i64 ((q + j : Nat) : Int)) ∧ Hid (q + j ≤ m) ∧ Hid ((j : Int) ≤ max most 0) ∧ Hid (wr.ownsRow w.heap.size tIt 3 (.slice pv j cv) j (itL ((o.sees.l.drop q).take j))) ∧ Hid (Below w.heap.size w wr) ∧ Hid (∀ k x, k < j → o.sees.cs[q + k]? = some x → x.1 ≤ hi)) (fun _ u _ => m - (intOf u).toNat)
  case atStart => exact ⟨0, none, 0, ⟨rfl, by simp⟩, Lib.hid (by have := QM.out; omega), Lib.hid (by omega), Lib.hid (World.ownsRow_nil _ _ _ _), Lib.hid (Below.refl _ _), Lib.hid (fun k x hk => by omega)⟩
  case round =>
    obtain ⟨j, pv, cv, ⟨rfl, rfl⟩, HJ, HMO, HO, HB, HF⟩ := hrel
    rename World => w3
    have e1 : IntKind.i64.wrap (((q + j : Nat) : Int) + 1) = ((q + (j + 1) : Nat) : Int) := by
      rw [show q + (j + 1) = q + j + 1 by omega]
      exact w_inc _ (by have := HLL.out; have := HJ.out; omega)
    have HS3 := Lib.hid (HS.out.below HB.out)
    have END : Hid ((q + j = m ∨ (∃ x, o.sees.cs[q + j]? = some x ∧ hi < x.1) ∨ j = most.toNat) → RangeRTo (rangeC o.sees.cs lo hi most) w (.returned (.tuple #[.slice pv j cv, .int .i64 0])) w3) := Lib.hid fun h2 => by
      have hl : ((o.sees.l.drop q).take j).length = j := by have := HM.out; have := HJ.out; simp; omega
      obtain ⟨I, e, hI, hR, _⟩ := RsAt.of_own HO.out hl (fun x hx => HS3.out.each x (List.mem_of_mem_drop (List.mem_of_mem_take hx)))
      refine ⟨I, by rw [← e], hR, ?_, HB.out⟩
      have he := rangeC_end (l := o.sees.cs) (lo := lo) (hi := hi) (most := most) (j := j) (by rw [HQ.out, CL.out]; exact HJ.out) (by rw [HQ.out]; exact HF.out) (by have := HMO.out; omega) (by rw [HQ.out, CL.out]; exact h2)
      rw [he, HQ.out]
      unfold Its.cs
      rw [hI, List.map_take, List.map_drop]
    have NXT : Hid (q + (j + 1) = q + j + 1) := Lib.hid (by omega)
    rw [NXT.out] at e1
    generalize hqj : q + j = qj at *
    have QJ := Lib.hid hqj
    clear hqj
    by_cases hlt : qj < m
    · have d1 : decide ((qj : Int) < (m : Int)) = true := decide_eq_true (by omega)
      have d1' : decide (qj < m) = true := decide_eq_true hlt
      have j3 : (qj : Int) < (m : Int) := by omega
      obtain ⟨x, hx⟩ : ∃ x, o.sees.l[qj]? = some x := ⟨_, List.getElem?_eq_getElem (by rw [HM.out]; exact hlt)⟩
      obtain ⟨g2, eg2, hc⟩ := HS3.out.cell hx
      have c0 : w3.cell? ⟨g2, qj * 3, none⟩ = some (.int .u64 x.key) := hc 0 (by omega)
      have c1 : w3.cell? ⟨g2, qj * 3 + 1, none⟩ = some (.slice x.vec.a x.vec.xs.length x.vec.c) := hc 1 (by omega)
      have c2 : w3.cell? ⟨g2, qj * 3 + 2, none⟩ = some (.slice x.tag.a x.tag.xs.length x.tag.c) := hc 2 (by omega)
      rw [HA.out] at eg2
      have EG2 := Lib.hid eg2
      have HX := Lib.hid hx
      have JM := Lib.hid hlt
      subst eg2
      clear hc hx hlt
      by_cases hk : x.key ≤ hi
      · have d2 : decide (x.key ≤ hi) = true := decide_eq_true hk
        have KH := Lib.hid hk
        clear hk
        by_cases hmo : (j : Int) < most
        · have d3 : decide ((j : Int) < most) = true := decide_eq_true hmo
          have MO := Lib.hid hmo
          clear hmo
          have CE : Hid (∀ k u, [Value.int .u64 x.key, .slice x.vec.a x.vec.xs.length x.vec.c, .slice x.tag.a x.tag.xs.length x.tag.c][k]? = some u → (w3.alloc (.cells #[.int .u64 x.key, .slice x.vec.a x.vec.xs.length x.vec.c, .slice x.tag.a x.tag.xs.length x.tag.c] tIt)).cell? ((⟨w3.heap.size, 0, none⟩ : Addr).add k) = some u) := Lib.hid fun k u hk => by
            rw [add_plain, Nat.zero_add]
            have R := Row.made w3 #[.int .u64 x.key, .slice x.vec.a x.vec.xs.length x.vec.c, .slice x.tag.a x.tag.xs.length x.tag.c] tIt
            have := R.cell k
            rw [this]
            simpa using hk
          have NB : Hid (w.heap.size ≤ w3.heap.size) := Lib.hid HB.out.size
          go_wp2_with (at_builtin; refine wpList_append_at rfl (.tmp 53) (.tmp 58) 44 rfl w.heap.size tIt i0 _ 3 56 Tryz.underlying44 hi0 hz0 hz1 hz2 rfl (by decide) (.slice pv j cv) j (itL ((o.sees.l.drop q).take j)) rfl (HO.out.alloc _) ⟨w3.heap.size, 0, none⟩ 1 1 [.int .u64 x.key, .slice x.vec.a x.vec.xs.length x.vec.c, .slice x.tag.a x.tag.xs.length x.tag.c] rfl rfl CE.out (by intro u hu; simp at hu; rcases hu with rfl | rfl | rfl <;> simp [Value.oneCell']) (by have := HLL.out; have := HJ.out; have := QJ.out; unfold maxLen; omega) (by have := HLL.out; have := HJ.out; have := QJ.out; omega) (by have := NB.out; simp; omega) ?more)
          case more =>
            intro v2 w5 hown' hgrow hfr
            have N5 : Hid (Below w.heap.size w w5) := Lib.hid ((HB.out.alloc HB.out.size _).grown hgrow (by have := NB.out; simp; omega) (fun b hb => (HO.out.lt b hb).1))
            obtain ⟨p2, cc2, rfl, _⟩ := own_shape hown'
            have O5 : Hid (w5.ownsRow w.heap.size tIt 3 (.slice p2 (j + 1) cc2) (j + 1) (itL ((o.sees.l.drop q).take (j + 1)))) := Lib.hid (by
              have e : (o.sees.l.drop q).take (j + 1) = (o.sees.l.drop q).take j ++ [x] := by
                rw [List.take_add_one, List.getElem?_drop, QJ.out, HX.out]; rfl
              rw [e, itL_append]
              exact hown')
            clear hown' hgrow hfr
            go_wp2_with fail
            go_roundw
            case rel => exact ⟨j + 1, p2, cc2, ⟨rfl, by rw [NXT.out]; first | done | go_num⟩, Lib.hid (by have := JM.out; have := QJ.out; omega), Lib.hid (by have := MO.out; omega), O5, N5, Lib.hid (fun k y hk hy => by
              by_cases e : k < j
              · exact HF.out k y e hy
              · obtain rfl : k = j := by omega
                rw [QJ.out, cs_get HX.out] at hy
                cases hy
                exact KH.out)⟩
            case measure => have := JM.out; have := QJ.out; simp [intOf]; omega
        · have d3 : decide ((j : Int) < most) = false := decide_eq_false hmo
          have N := Lib.hid (END.out (.inr (.inr (by have := HMO.out; omega))))
          clear hmo
          go_wp2_with fail
          go_ret2
          exact N.out
      · have d2 : decide (x.key ≤ hi) = false := decide_eq_false hk
        have N := Lib.hid (END.out (.inr (.inl ⟨x.c, cs_get HX.out, by show hi < x.key; omega⟩)))
        clear hk
        go_wp2_with fail
        go_ret2
        exact N.out
    · have d1 : decide ((qj : Int) < (m : Int)) = false := decide_eq_false (by omega)
      have d1' : decide (qj < m) = false := decide_eq_false hlt
      have N := Lib.hid (END.out (.inl (by have := HJ.out; omega)))
      clear hlt
      go_wp2_with fail
      go_ret2
      exact N.out
end Go.Proofs.YtmbmkfhdiljalaaGreat
