/- Plain: slices.Compact at uint64, of a sorted row of the call's own. -/
import Derived.Test.YtmbmkfhdiljalaaGreatSoK
import Derived.Lib.SliceRun
namespace Go.Proofs.YtmbmkfhdiljalaaGreat
open Go.RowKit Go.ChangeShapes Go.WideShapes Go.ChangeAt
set_option linter.unusedVariables false
set_option linter.unusedSimpArgs false

/-- Up to p all have been looked at; what stays stands ahead of i, strictly rising. -/
structure CpInv (d D : Array Int) (i p : Nat) : Prop where
  i0 : 1 ≤ i
  ip : i < p
  size : D.size = d.size
  asc : ∀ k l, k < l → l < i → D[k]! < D[l]!
  same : ∀ x : Int, (∃ k, k < i ∧ D[k]! = x) ↔ ∃ k, k < p ∧ d[k]! = x
  last : D[i - 1]! = d[p - 1]!
  rest : ∀ k, p - 1 ≤ k → D[k]! = d[k]!
theorem set_get (D : Array Int) (i k : Nat) (x : Int) (hi : i < D.size) : (D.setIfInBounds i x)[k]! = if k = i then x else D[k]! := by
  by_cases hk : k < D.size
  · rw [getElem!_pos _ k (by simpa using hk), getElem!_pos D k hk, Array.getElem_setIfInBounds]
    by_cases e : k = i
    · subst e; simp
    · rw [if_neg (fun h => e h.symm), if_neg e]
  · have e : k ≠ i := by omega
    rw [if_neg e, getElem!_neg _ k (by simpa using hk), getElem!_neg D k hk]
theorem CpInv.skip {d D : Array Int} {i p : Nat} (h : CpInv d D i p) (he : d[p]! = d[p - 1]!) : CpInv d D i (p + 1) := by
  refine ⟨h.i0, by have := h.ip; omega, h.size, h.asc, fun x => ?_, by rw [h.last, Nat.add_sub_cancel]; exact he.symm, fun k hk => h.rest k (by omega)⟩
  rw [h.same x]
  constructor
  · rintro ⟨k, h1, h2⟩; exact ⟨k, by omega, h2⟩
  · rintro ⟨k, h1, h2⟩
    by_cases e : k < p
    · exact ⟨k, e, h2⟩
    · obtain rfl : k = p := by omega
      exact ⟨k - 1, by have := h.ip; omega, by rw [← he]; exact h2⟩
theorem CpInv.take {d D : Array Int} {i p : Nat} (h : CpInv d D i p) (hp : p < d.size) (hs : d[p - 1]! < d[p]!) : CpInv d (D.setIfInBounds i D[p]!) (i + 1) (p + 1) := by
  have hi : i < D.size := by have := h.ip; have := h.size; omega
  have hDp : D[p]! = d[p]! := h.rest p (by omega)
  have hip := h.ip
  refine ⟨by omega, by omega, by simp [h.size], fun k l h1 h2 => ?_, fun x => ?_, ?_, fun k hk => ?_⟩
  · rw [set_get D i k _ hi, set_get D i l _ hi, if_neg (show ¬ k = i by omega)]
    by_cases e : l = i
    · rw [if_pos e, hDp]
      have h3 : D[k]! ≤ D[i - 1]! := by
        by_cases e2 : k = i - 1
        · rw [e2]; exact Int.le_refl _
        · exact Int.le_of_lt (h.asc k (i - 1) (by omega) (by omega))
      rw [h.last] at h3
      omega
    · rw [if_neg e]; exact h.asc k l h1 (by omega)
  · constructor
    · rintro ⟨k, h1, h2⟩
      rw [set_get D i k _ hi] at h2
      by_cases e : k = i
      · rw [if_pos e, hDp] at h2; exact ⟨p, by omega, h2⟩
      · rw [if_neg e] at h2
        obtain ⟨k', h3, h4⟩ := (h.same x).1 ⟨k, by omega, h2⟩
        exact ⟨k', by omega, h4⟩
    · rintro ⟨k, h1, h2⟩
      by_cases e : k < p
      · obtain ⟨k', h3, h4⟩ := (h.same x).2 ⟨k, e, h2⟩
        exact ⟨k', by omega, by rw [set_get D i k' _ hi, if_neg (by omega)]; exact h4⟩
      · obtain rfl : k = p := by omega
        exact ⟨i, by omega, by rw [set_get D i i _ hi, if_pos rfl, hDp]; exact h2⟩
  · rw [set_get D i _ _ hi, if_pos (by omega), hDp, Nat.add_sub_cancel]
  · rw [set_get D i k _ hi, if_neg (by omega)]
    exact h.rest k (by omega)
theorem only_setCells (g : Nat) : ∀ (vs : List Value) (o : Nat) {a w : World}, Only [g] a w → Only [g] a (w.setCells g o vs)
  | [], _, _, _, h => h
  | v :: r, o, a, w, h => only_setCells g r (o + 1) (h.setCell (.inl (by simp)) v)
def CompTo (B g n : Nat) (d : Array Int) (w : World) (e : Ending) (w' : World) : Prop := ∃ (m c : Nat) (ys : List Int), e = .returned (.slice (some ⟨g, 0, none⟩) m c) ∧ ys.length = m ∧ ys.Pairwise (· < ·) ∧ (∀ x, x ∈ ys ↔ ∃ k, k < n ∧ d[k]! = x) ∧ (∀ k, k < m → w'.cell? ⟨g, k, none⟩ = some (.int .u64 (ys[k]?.getD 0))) ∧ Only [g] w w' ∧ m ≤ n
theorem comp_list (D : Array Int) (m : Nat) (hm : m ≤ D.size) : (D.toList.take m).length = m ∧ ∀ k, k < m → (D.toList.take m)[k]?.getD 0 = D[k]! := by
  refine ⟨by simp; omega, fun k hk => ?_⟩
  rw [List.getElem?_take, if_pos hk, Array.getElem?_toList, getElem!_pos D k (by omega), Array.getElem?_eq_getElem (by omega)]
  rfl
theorem comp_done {D : Array Int} {m n : Nat} {d : Array Int} (hm : m ≤ D.size) (asc : ∀ k l, k < l → l < m → D[k]! < D[l]!) (same : ∀ x : Int, (∃ k, k < m ∧ D[k]! = x) ↔ ∃ k, k < n ∧ d[k]! = x) :
    (D.toList.take m).Pairwise (· < ·) ∧ ∀ x, x ∈ D.toList.take m ↔ ∃ k, k < n ∧ d[k]! = x := by
  obtain ⟨hl, hg⟩ := comp_list D m hm
  constructor
  · rw [List.pairwise_iff_getElem]
    intro i j hi hj hij
    have e1 := hg i (by omega)
    have e2 := hg j (by omega)
    rw [List.getElem?_eq_getElem hi] at e1
    rw [List.getElem?_eq_getElem hj] at e2
    simp only [Option.getD_some] at e1 e2
    rw [e1, e2]
    exact asc i j hij (by omega)
  · intro x
    rw [← same x, List.mem_iff_getElem]
    constructor
    · rintro ⟨k, hk, rfl⟩
      have e1 := hg k (by omega)
      rw [List.getElem?_eq_getElem hk] at e1
      exact ⟨k, by omega, e1.symm⟩
    · rintro ⟨k, hk, rfl⟩
      have hk' : k < (D.toList.take m).length := by omega
      have e1 := hg k hk
      rw [List.getElem?_eq_getElem hk'] at e1
      exact ⟨k, hk', e1⟩
set_option maxRecDepth 100000 in
set_option maxHeartbeats 8000000 in
theorem compact_arr {B g cap n : Nat} {d : Array Int} {w : World} (hn : n ≤ 1000000) (h : UA w B g cap n d) (hs : ∀ i j, i < j → j < n → d[i]! ≤ d[j]!) :
    Calls Tryz.prog 75 #[.slice (some ⟨g, 0, none⟩) n cap] w (CompTo B g n d w) := by
  have HU := Lib.hid (UT.refl h)
  have HSz : Hid (d.size = n) := Lib.hid h.size
  have HS := Lib.hid hs
  have HC := Lib.hid (And.intro h.cap hn)
  clear h hs hn
  by_cases h2 : n < 2
  · have d1 : decide ((n : Int) < 2) = true := decide_eq_true (by omega)
    have d1' : decide (n < 2) = true := decide_eq_true h2
    have H2 := Lib.hid h2
    clear h2
    go_enter Tryz.func75, Tryz.ntmps75
    go_wp2_with fail
    go_ret
    obtain ⟨q1, q2⟩ := comp_done (D := d) (m := n) (n := n) (d := d) (by rw [HSz.out]; exact Nat.le_refl _) (fun k l h1 h3 => by have := H2.out; omega) (fun x => Iff.rfl)
    obtain ⟨q3, q4⟩ := comp_list d n (by rw [HSz.out]; exact Nat.le_refl _)
    exact ⟨n, cap, _, rfl, q3, q1, q2, fun k hk => by rw [q4 k hk]; exact HU.out.row.cell k hk, Only.refl _ _, Nat.le_refl _⟩
  · have d1 : decide ((n : Int) < 2) = false := decide_eq_false (by omega)
    have d1' : decide (n < 2) = false := decide_eq_false h2
    have H2 := Lib.hid h2
    clear h2
    go_enter Tryz.func75, Tryz.ntmps75
    go_wp2_with fail
    go_loopw [3] (fun u wr => ∃ i : Nat, u = .int .i64 (i : Int) ∧ Hid (1 ≤ i ∧ i ≤ n) ∧ Hid (∀ k l, k < l → l < i → d[k]! < d[l]!) ∧ Hid (UT w wr B g cap n d)) (fun u _ => n - (intOf u).toNat)
    case atStart => exact ⟨1, rfl, Lib.hid (by have := H2.out; omega), Lib.hid (fun k l h1 h2 => by omega), HU⟩
    case round =>
      obtain ⟨i, rfl, HI, HA, HU⟩ := hrel
      by_cases hin : i < n
      · have d2 : decide ((i : Int) < (n : Int)) = true := decide_eq_true (by omega)
        have d2' : decide (i < n) = true := decide_eq_true hin
        have HN := Lib.hid hin
        have inn := hin
        obtain ⟨q, hq⟩ : ∃ q, i - 1 = q := ⟨_, rfl⟩
        have HQ := Lib.hid hq
        have e1 : IntKind.i64.wrap ((i : Int) - 1) = (q : Int) := by rw [w_dec _ (by have := HC.out; omega) HI.out.1, hq]
        have e2 : IntKind.i64.wrap ((i : Int) + 1) = ((i + 1 : Nat) : Int) := w_inc _ (by have := HC.out; omega)
        clear hq hin
        have qn : q < n := by have := HQ.out; omega
        have c1 := HU.out.row.cell i inn
        have c2 := HU.out.row.cell q qn
        generalize hx : d[i]! = x at c1
        generalize hy : d[q]! = y at c2
        have HX := Lib.hid hx
        have HY := Lib.hid hy
        clear hx hy
        by_cases hxy : x = y
        · have f1 : decide (x = y) = true := decide_eq_true hxy
          have f2 : (x == y) = true := by simpa using hxy
          have HE := Lib.hid hxy
          clear hxy
          go_upto_region 6 with fail
          go_quiet (fail)
          have HU := Lib.hid (HU.out.drewN nq)
          have ci : ¬ cap = i := by have := HC.out; omega
          have icap : i ≤ cap := by have := HC.out; omega
          have iz : (0 : Int) ≤ (i : Int) := by omega
          have in' : i ≤ n := by omega
          have J0 : Hid (CpInv d d i (i + 1)) := Lib.hid ⟨HI.out.1, by omega, rfl, HA.out, fun x => ⟨fun ⟨k, h1, h2⟩ => ⟨k, by omega, h2⟩, fun ⟨k, h1, h2⟩ => by
            by_cases e : k < i
            · exact ⟨k, e, h2⟩
            · obtain rfl : k = i := by omega
              exact ⟨k - 1, by have := HI.out; omega, by rw [← h2, HQ.out, HX.out, HY.out, HE.out]⟩⟩, by rw [Nat.add_sub_cancel, HQ.out, HX.out, HY.out, HE.out], fun k _ => rfl⟩
          go_upto_region 8 with fail
          clear c1 c2 f1 f2
          obtain ⟨r, hr⟩ : ∃ r, n - i = r := ⟨_, rfl⟩
          have HRR := Lib.hid hr
          have er : (n : Int) - (i : Int) = (r : Int) := by omega
          have er2 : n - i = r := hr
          clear hr
          clear e1 e2 HX HY HE HQ qn
          generalize wr.drewN nq = w2 at *
          go_wp2_with fail
          go_loopw [3, 5] (fun u v wr => ∃ (s k : Nat), (u = .int .i64 (s : Int) ∧ v = .int .i64 (k : Int)) ∧ Hid (1 ≤ k ∧ k ≤ r) ∧ Hid (∃ D, CpInv d D s (i + k) ∧ UT w wr B g cap n D)) (fun _ v _ => n - (intOf v).toNat)
          case atStart => exact ⟨i, 1, ⟨rfl, rfl⟩, Lib.hid (by have := HRR.out; have := HN.out; omega), Lib.hid ⟨d, J0.out, HU.out⟩⟩
          case round =>
            obtain ⟨s, k, ⟨rfl, rfl⟩, HK, hR⟩ := hrel
            clear HU J0
            obtain ⟨D, hd, hu⟩ := hR.out
            have HD := Lib.hid hd
            have HU := Lib.hid hu
            clear hd hu hR
            by_cases hkr : k < r
            · have g1 : decide ((k : Int) < (r : Int)) = true := decide_eq_true (by omega)
              have g1' : decide (k < r) = true := decide_eq_true hkr
              have HKR := Lib.hid hkr
              have krr := hkr
              obtain ⟨q, hq⟩ : ∃ q, k - 1 = q := ⟨_, rfl⟩
              have HQ := Lib.hid hq
              have e1 : IntKind.i64.wrap ((k : Int) - 1) = (q : Int) := by rw [w_dec _ (by have := HC.out; have := HRR.out; omega) HK.out.1, hq]
              have e2 : IntKind.i64.wrap ((k : Int) + 1) = ((k + 1 : Nat) : Int) := w_inc _ (by have := HC.out; have := HRR.out; omega)
              have qr : q < r := by omega
              clear hq hkr
              have c1 := HU.out.row.cell (i + k) (by have := HRR.out; have := HKR.out; omega)
              have c2 := HU.out.row.cell (i + q) (by have := HRR.out; have := HKR.out; have := HQ.out; omega)
              generalize hx : D[i + k]! = x at c1
              generalize hy : D[i + q]! = y at c2
              have HX : Hid (d[i + k]! = x) := Lib.hid (by rw [← hx, HD.out.rest (i + k) (by omega)])
              have HX0 := Lib.hid hx
              have HY : Hid (d[i + k - 1]! = y) := Lib.hid (by rw [← hy, show i + k - 1 = i + q by have := HQ.out; have := HK.out; omega, HD.out.rest (i + q) (by have := HQ.out; omega)])
              clear hx hy
              by_cases hxy : x = y
              · have f1 : decide (x = y) = true := decide_eq_true hxy
                have f2 : (x == y) = true := by simpa using hxy
                have f3 : (x != y) = false := by simpa using hxy
                have N : Hid (CpInv d D s (i + (k + 1))) := Lib.hid (HD.out.skip (by rw [HX.out, HY.out]; exact hxy))
                clear hxy
                go_upto_region 11 with fail
                go_quiet (fail)
                have HU := Lib.hid (HU.out.drewN nq)
                go_wp2_with fail
                go_roundw
                case rel => exact ⟨s, k + 1, ⟨rfl, by go_num⟩, Lib.hid (by have := HKR.out; omega), Lib.hid ⟨D, N.out, HU.out⟩⟩
                case measure => simp [intOf]; have := HKR.out; have := HRR.out; omega
              · have f1 : decide (x = y) = false := decide_eq_false hxy
                have f2 : (x == y) = false := by simpa using hxy
                have f3 : (x != y) = true := by simpa using hxy
                have hik : i + k < d.size := by rw [HSz.out]; have := HRR.out; have := HKR.out; omega
                have N : Hid (CpInv d (D.setIfInBounds s x) (s + 1) (i + (k + 1))) := Lib.hid (by
                  have h3 := HD.out.take hik (by
                    have := HS.out (i + k - 1) (i + k) (by have := HK.out; omega) (by rw [← HSz.out]; exact hik)
                    rw [HX.out, HY.out] at this ⊢
                    omega)
                  rw [HX0.out] at h3
                  exact h3)
                clear hxy hik
                have sn : s < n := by have := HD.out.ip; have := HRR.out; have := HKR.out; omega
                have es : IntKind.i64.wrap ((s : Int) + 1) = ((s + 1 : Nat) : Int) := w_inc _ (by have := HC.out; omega)
                go_upto_region 11 with fail
                go_quiet (fail)
                have HU := Lib.hid (HU.out.drewN nq)
                go_upto_region 12 with fail
                rename World => w3
                generalize w3.drewN nq = w4 at *
                clear c1 c2
                have c1 := HU.out.row.cell (i + k) (by have := HRR.out; have := HKR.out; omega)
                rw [HX0.out] at c1
                have c3 := HU.out.row.cell s sn
                have q3 := HU.out.row.free s
                have P : Hid (UT w (w4.setCell ⟨g, s, none⟩ (.int .u64 x)) B g cap n (D.setIfInBounds s x)) := Lib.hid ⟨(HU.out.row.put s x).1, HU.out.only.trans (HU.out.row.put s x).2 (by simp)⟩
                go_wp2_with fail
                go_roundw
                case rel => exact ⟨s + 1, k + 1, ⟨by go_num, by go_num⟩, Lib.hid (by have := HKR.out; omega), Lib.hid ⟨_, N.out, P.out⟩⟩
                case measure => simp [intOf]; have := HKR.out; have := HRR.out; omega
            · have g1 : decide ((k : Int) < (r : Int)) = false := decide_eq_false (by omega)
              have g1' : decide (k < r) = false := decide_eq_false hkr
              have HKR : Hid (i + k = n) := Lib.hid (by have := HK.out; have := HRR.out; have := HN.out; omega)
              have HDn : Hid (CpInv d D s n) := Lib.hid (by rw [← HKR.out]; exact HD.out)
              clear hkr
              have sn : s < n := HDn.out.ip
              have cs : ¬ cap = s := by have := HC.out; omega
              have scap : s ≤ cap := by have := HC.out; omega
              have sn' : s ≤ n := by omega
              obtain ⟨rr, hrr⟩ : ∃ rr, n - s = rr := ⟨_, rfl⟩
              have HR9 := Lib.hid hrr
              have hcl : ∀ ty, (Builtin.clear_ #[54] ty #[.slice (some ⟨g, s, none⟩) rr (cap - s)]).run Tryz.prog wr = .ok (.tuple #[]) (wr.setCells g s (List.replicate rr (.int .u64 0))) := fun ty =>
                Lib.run_clear_slice wr _ 30 ty _ Tryz.underlying54 (fun w => by kernel_rfl) rfl rfl g s rr _ (by omega) (fun j hj => by rw [HU.out.row.cell (s + j) (by omega)]; rfl) (fun j hj => HU.out.row.free _)
              have PO : Hid (Only [g] w (wr.setCells g s (List.replicate rr (.int .u64 0)))) := Lib.hid (only_setCells g _ s HU.out.only)
              have PC : Hid (∀ k, k < s → (wr.setCells g s (List.replicate rr (.int .u64 0))).cell? ⟨g, k, none⟩ = some (.int .u64 D[k]!)) := Lib.hid fun k hk => by
                rw [World.cell?_setCells_out g _ s wr ⟨g, k, none⟩ (fun _ _ => .inl hk)]
                exact HU.out.row.cell k (by omega)
              generalize wr.setCells g s (List.replicate rr (.int .u64 0)) = w5 at *
              go_wp2_with fail
              go_ret
              obtain ⟨q1, q2⟩ := comp_done (D := D) (m := s) (n := n) (d := d) (by rw [HDn.out.size, HSz.out]; omega) HDn.out.asc HDn.out.same
              obtain ⟨q3, q4⟩ := comp_list D s (by rw [HDn.out.size, HSz.out]; omega)
              exact ⟨s, cap, _, rfl, q3, q1, q2, fun k hk => by rw [q4 k hk]; exact PC.out k hk, PO.out, by omega⟩
        · have f1 : decide (x = y) = false := decide_eq_false hxy
          have f2 : (x == y) = false := by simpa using hxy
          have HE := Lib.hid hxy
          clear hxy
          go_upto_region 6 with fail
          go_quiet (fail)
          have HU := Lib.hid (HU.out.drewN nq)
          go_wp2_with fail
          go_roundw
          case rel => exact ⟨i + 1, by go_num, Lib.hid (by have := HI.out; have := HN.out; omega), Lib.hid (fun k l h1 h2 => by
            by_cases e : l < i
            · exact HA.out k l h1 e
            · obtain rfl : l = i := by omega
              have a1 := HS.out q l (by have := HQ.out; have := HI.out; omega) HN.out
              have a2 : d[k]! ≤ d[q]! := by
                by_cases e2 : k = q
                · rw [e2]; exact Int.le_refl _
                · exact HS.out k q (by have := HQ.out; omega) (by have := HQ.out; have := HN.out; omega)
              have a3 := HE.out
              rw [← HX.out, ← HY.out] at a3
              omega), HU⟩
          case measure => simp [intOf]; have := HN.out; omega
      · have d2 : decide ((i : Int) < (n : Int)) = false := decide_eq_false (by omega)
        have d2' : decide (i < n) = false := decide_eq_false hin
        have HN := Lib.hid hin
        clear hin
        go_wp2_with fail
        go_ret
        obtain ⟨q1, q2⟩ := comp_done (D := d) (m := n) (n := n) (d := d) (by rw [HSz.out]; exact Nat.le_refl _) (fun k l h1 h3 => HA.out k l h1 (by have := HN.out; omega)) (fun x => Iff.rfl)
        obtain ⟨q3, q4⟩ := comp_list d n (by rw [HSz.out]; exact Nat.le_refl _)
        exact ⟨n, cap, _, rfl, q3, q1, q2, fun k hk => by rw [q4 k hk]; exact HU.out.row.cell k hk, HU.out.only, Nat.le_refl _⟩
end Go.Proofs.YtmbmkfhdiljalaaGreat
