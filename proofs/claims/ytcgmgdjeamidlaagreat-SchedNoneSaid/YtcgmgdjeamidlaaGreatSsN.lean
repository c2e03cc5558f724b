/- Streams: Next. -/
import Derived.Test.YtcgmgdjeamidlaaGreatSsM
namespace Go.Proofs.YtcgmgdjeamidlaaGreat
open Go.RowKit Go.ChangeShapes Go.WideShapes Go.ChangeAt
set_option linter.unusedVariables false
set_option linter.unusedSimpArgs false

set_option maxRecDepth 100000 in
set_option maxHeartbeats 4000000 in
theorem next_none {s : Nat} {xs : List Int} {w : World} (h : StrmRd w s xs) (hb : IsBy xs) (hz : sizeF xs = (0, 7)) : Calls Tryz.prog 98 #[.pointer (some ⟨s, 0, none⟩)] w fun e w' => e = .returned (.tuple #[.slice none 0 0, .int .i64 7]) ∧ Below w.heap.size w w' := by
  obtain ⟨sl, hr, hs, rfl, _, _⟩ := h.at_
  have SZ := Lib.hid (size_on hs hb)
  rw [hz] at SZ
  have c0 : w.cell? ⟨s, 0, none⟩ = some (.int .i64 0) := hr.cell 0
  have c1 : w.cell? ⟨s, 1, none⟩ = some sl.v := hr.cell 1
  unfold Sl.v at c1 SZ
  clear h hr hs hb hz
  go_enter Tryz.func98, Tryz.ntmps98
  go_wp2_with fail
  refine SZ.out.mono ?_
  rintro _ w2 ⟨rfl, hb2⟩
  have B2 := Lib.hid hb2
  clear hb2 SZ c0 c1
  go_wp2_with fail
  go_ret2
  exact ⟨rfl, B2.out⟩
/-- One frame of n bytes. -/
def NextTo (s : Nat) (xs : List Int) (n : Nat) (w : World) (e : Ending) (w' : World) : Prop := ∃ p : Sl, e = .returned (.tuple #[p.v, .int .i64 0]) ∧ p.xs = (xs.drop 4).take n ∧ SlAt .u8 w' p ∧ (∀ b ∈ p.bs, w.heap.size ≤ b) ∧ StrmRd w' s (xs.drop (4 + n)) ∧ Only [s] w w'
theorem size_some {xs : List Int} {n : Nat} (h : sizeF xs = ((n : Int), 0)) : 4 + n ≤ xs.length ∧ n ≤ 20000 := by
  unfold sizeF at h
  split at h
  · simp at h
  · split at h
    · simp at h
    · split at h
      · simp at h
      · simp at h
        omega
set_option maxRecDepth 100000 in
set_option maxHeartbeats 8000000 in
theorem next_one {s n : Nat} {xs : List Int} {w : World} (h : StrmRd w s xs) (hb : IsBy xs) (hz : sizeF xs = ((n : Int), 0)) (h1 : 1 ≤ n) : Calls Tryz.prog 98 #[.pointer (some ⟨s, 0, none⟩)] w (NextTo s xs n w) := by
  obtain ⟨sl, hr, hs, rfl, hc, hne⟩ := h.at_
  obtain ⟨hl, hn⟩ := size_some hz
  have SZ := Lib.hid (size_on hs hb)
  rw [hz] at SZ
  obtain ⟨x0, e0⟩ : ∃ x, sl.xs[0]? = some x := ⟨_, List.getElem?_eq_getElem (by omega)⟩
  obtain ⟨b, o, ea, hcell⟩ := hs.at_ e0
  obtain ⟨m, hm⟩ : ∃ m, sl.xs.length = m := ⟨_, rfl⟩
  obtain ⟨c, hcc⟩ : ∃ c, sl.c = c := ⟨_, rfl⟩
  have ev : sl.v = .slice (some ⟨b, o, none⟩) m c := by unfold Sl.v; rw [ea, hm, hcc]
  rw [ev] at hr SZ
  have bs : sl.bs = [b] := by simp [Sl.bs, ea]
  have nx : sl.xs ≠ [] := fun e => by rw [e] at hl; simp at hl
  have HB : Hid (s ≠ b ∧ b < w.heap.size) := Lib.hid ⟨fun e => hne nx (by rw [bs, e]; simp), hs.lt nx b (by rw [bs]; simp)⟩
  have HM : Hid (sl.xs.length = m ∧ m ≤ c ∧ 4 + n ≤ m ∧ n ≤ 20000 ∧ m ≤ 1000000) := Lib.hid ⟨hm, by omega, by omega, hn, by have := hs.le; omega⟩
  have HC := Lib.hid hcell
  have HR := Lib.hid hr
  have c0 : w.cell? ⟨s, 0, none⟩ = some (.int .i64 0) := hr.cell 0
  have c1 : w.cell? ⟨s, 1, none⟩ = some (.slice (some ⟨b, o, none⟩) m c) := hr.cell 1
  have H1 := Lib.hid h1
  have en : IntKind.i64.wrap (4 + (n : Int)) = ((4 + n : Nat) : Int) := by rw [show 4 + (n : Int) = ((4 + n : Nat) : Int) by omega]; exact IntWalk.i64_in _ (by omega)
  obtain ⟨q, hq⟩ : ∃ q, 4 + n = q := ⟨_, rfl⟩
  have HQ := Lib.hid hq
  rw [hq] at en
  have i1 : (q : Int) ≤ (c : Int) := by omega
  have i2 : q ≤ c := by omega
  have i3 : (4 : Int) ≤ (q : Int) := by omega
  have i4 : 4 ≤ q := by omega
  have i5 : (q : Int) ≤ (m : Int) := by omega
  have i6 : q ≤ m := by omega
  have t1 : (c - 4 : Nat) ≠ 0 := by omega
  have t2 : q - 4 = n := by omega
  have t3 : c ≠ 4 := by omega
  have t4 : ¬ (4 = c) := by omega
  have P4 : Hid (∀ y, Only [] w y → SlRd .u8 y ⟨some ⟨b, o + 4, none⟩, c - 4, (sl.xs.drop 4).take n⟩) := Lib.hid fun y hy => by
    refine ⟨.inr ⟨b, o + 4, c - 4, by simp [Sl.v], fun i hi => ?_⟩, fun _ b' hb' => ?_, (fun h => by cases h), ?_⟩
    · have hi2 : 4 + i < sl.xs.length := by simp at hi; omega
      have h5 := HC.out (4 + i) _ (List.getElem?_eq_getElem hi2)
      rw [hy.cell HB.out.2 (by simp), show o + 4 + i = o + (4 + i) by omega, h5, List.getElem?_take_of_lt (by simp at hi; omega), List.getElem?_drop, List.getElem?_eq_getElem hi2]
      rfl
    · simp [Sl.bs] at hb'
      subst hb'
      exact Nat.lt_of_lt_of_le HB.out.2 hy.size
    · have := HM.out; simp; omega
  have CL := Lib.hid fun y hy => clone_u8 (P4.out y hy)
  have LL : Hid (((sl.xs.drop 4).take n).length = n) := Lib.hid (by have := HM.out; simp; omega)
  unfold Sl.v at CL
  simp only [LL.out] at CL
  clear h hr hs hb hz hc hne hcell e0 hm hcc ev bs nx hl hn hq h1 ea
  have RS : Hid (∀ (y : World) (g : Sl), g.xs = sl.xs.drop q → Only [] w y → g.bs = [b] → g.xs.length ≤ g.c → Ints .u8 w g.v g.xs → Only [s] w (y.setCell ⟨s, 1, none⟩ g.v) ∧ StrmRd (y.setCell ⟨s, 1, none⟩ g.v) s (sl.xs.drop q)) := Lib.hid fun y g hg hy hbs hgc hgi => by
    have k1 : Only [s] y (y.setCell ⟨s, 1, none⟩ g.v) := (Only.refl [s] y).setCell (.inl (by simp)) _
    have k2 : Only [s] w (y.setCell ⟨s, 1, none⟩ g.v) := (hy.mono (by simp)).trans k1 (by simp)
    have hrow := (HR.out.only hy (by simp)).set 1 g.v
    have hrd : SlRd .u8 w g := ⟨hgi, fun _ b' hb' => by rw [hbs] at hb'; simp at hb'; rw [hb']; exact HB.out.2, fun h => by
      have : g.bs = [] := by simp [Sl.bs, h]
      rw [hbs] at this; simp at this, by rw [hg]; have := HM.out; simp; omega⟩
    exact ⟨k2, ⟨g, by simpa using hrow, hrd.only k2 (by intro _ b' hb'; rw [hbs] at hb'; simp at hb'; rw [hb']; simp; exact fun e => HB.out.1 e.symm), hg, by rw [← hg]; exact hgc, fun _ => by rw [hbs]; simp; exact HB.out.1⟩⟩
  by_cases hcq : c = q
  · obtain rfl : m = c := by have := HM.out; omega
    subst hcq
    rw [t2] at CL
    have EV : Hid ((⟨some ⟨b, o, none⟩, 0, sl.xs.drop m⟩ : Sl).v = .slice (some ⟨b, o, none⟩) 0 0) := Lib.hid (by unfold Sl.v; simp; have := HM.out; omega)
    go_enter Tryz.func98, Tryz.ntmps98
    go_wp2_with fail
    refine SZ.out.mono ?_
    rintro _ w2 ⟨rfl, hb2⟩
    have O2 : Hid (Only [] w w2) := Lib.hid ((Only.refl [] w).below hb2)
    have d1 : w2.cell? ⟨s, 1, none⟩ = some (.slice (some ⟨b, o, none⟩) m m) := (HR.out.only O2.out (by simp)).cell 1
    clear hb2 SZ c0 c1
    go_wp2_with fail
    refine (CL.out w2 O2.out).mono ?_
    rintro _ w3 ⟨p, rfl, ep, hp, hpb, hb3⟩
    have O3 : Hid (Only [] w w3) := Lib.hid (O2.out.below hb3)
    have R3 := HR.out.only O3.out (by simp)
    have d1 : w3.cell? ⟨s, 1, none⟩ = some (.slice (some ⟨b, o, none⟩) m m) := R3.cell 1
    have f1 := R3.free 1
    have PP : Hid (p.xs = (sl.xs.drop 4).take n ∧ SlAt .u8 w3 p ∧ (∀ b ∈ p.bs, w.heap.size ≤ b)) := Lib.hid ⟨ep, hp, fun b hb => Nat.le_trans O2.out.size (hpb b hb)⟩
    have N3 := RS.out w3 ⟨some ⟨b, o, none⟩, 0, sl.xs.drop m⟩ rfl O3.out (by simp [Sl.bs]) (by have := HM.out; simp; omega) (.inl ⟨List.length_eq_zero_iff.1 (by have := HM.out; simp; omega), some ⟨b, o, none⟩, 0, EV.out⟩)
    have NN : Hid (Only [s] w (w3.setCell ⟨s, 1, none⟩ (.slice (some ⟨b, o, none⟩) 0 0)) ∧ StrmRd (w3.setCell ⟨s, 1, none⟩ (.slice (some ⟨b, o, none⟩) 0 0)) s (sl.xs.drop m) ∧ SlAt .u8 (w3.setCell ⟨s, 1, none⟩ (.slice (some ⟨b, o, none⟩) 0 0)) p) := Lib.hid ⟨by rw [← EV.out]; exact N3.1, by rw [← EV.out]; exact N3.2, hp.only ((Only.refl [s] w3).setCell (.inl (by simp)) _) (by
      intro b' hb' hm
      simp at hm
      have := hpb b' hb'
      have := O2.out.size
      have := HR.out.lt
      omega)⟩
    clear ep hp hpb hb3 R3 N3 CL RS
    unfold Sl.v
    go_wp2_with fail
    go_ret2
    exact ⟨p, rfl, PP.out.1, NN.out.2.2, PP.out.2.2, by rw [HQ.out]; exact NN.out.2.1, NN.out.1⟩
  · have t5 : (c - q : Nat) ≠ 0 := by omega
    have t6 : ¬ (q = c) := fun e => hcq e.symm
    have EV : Hid ((⟨some ⟨b, o + q, none⟩, c - q, sl.xs.drop q⟩ : Sl).v = .slice (some ⟨b, o + q, none⟩) (m - q) (c - q)) := Lib.hid (by unfold Sl.v; simp; have := HM.out; omega)
    go_enter Tryz.func98, Tryz.ntmps98
    go_wp2_with fail
    refine SZ.out.mono ?_
    rintro _ w2 ⟨rfl, hb2⟩
    have O2 : Hid (Only [] w w2) := Lib.hid ((Only.refl [] w).below hb2)
    have d1 : w2.cell? ⟨s, 1, none⟩ = some (.slice (some ⟨b, o, none⟩) m c) := (HR.out.only O2.out (by simp)).cell 1
    clear hb2 SZ c0 c1
    go_wp2_with fail
    refine (CL.out w2 O2.out).mono ?_
    rintro _ w3 ⟨p, rfl, ep, hp, hpb, hb3⟩
    have O3 : Hid (Only [] w w3) := Lib.hid (O2.out.below hb3)
    have R3 := HR.out.only O3.out (by simp)
    have d1 : w3.cell? ⟨s, 1, none⟩ = some (.slice (some ⟨b, o, none⟩) m c) := R3.cell 1
    have f1 := R3.free 1
    have PP : Hid (p.xs = (sl.xs.drop 4).take n ∧ SlAt .u8 w3 p ∧ (∀ b ∈ p.bs, w.heap.size ≤ b)) := Lib.hid ⟨ep, hp, fun b hb => Nat.le_trans O2.out.size (hpb b hb)⟩
    have N3 := RS.out w3 ⟨some ⟨b, o + q, none⟩, c - q, sl.xs.drop q⟩ rfl O3.out (by simp [Sl.bs]) (by have := HM.out; simp; omega) (.inr ⟨b, o + q, c - q, rfl, fun i hi => by
      have hi' : i < (sl.xs.drop q).length := hi
      have hi2 : q + i < sl.xs.length := by simp at hi'; omega
      have h5 := HC.out (q + i) _ (List.getElem?_eq_getElem hi2)
      rw [show o + q + i = o + (q + i) by omega, h5, List.getElem?_drop, List.getElem?_eq_getElem hi2]
      rfl⟩)
    have NN : Hid (Only [s] w (w3.setCell ⟨s, 1, none⟩ (.slice (some ⟨b, o + q, none⟩) (m - q) (c - q))) ∧ StrmRd (w3.setCell ⟨s, 1, none⟩ (.slice (some ⟨b, o + q, none⟩) (m - q) (c - q))) s (sl.xs.drop q) ∧ SlAt .u8 (w3.setCell ⟨s, 1, none⟩ (.slice (some ⟨b, o + q, none⟩) (m - q) (c - q))) p) := Lib.hid ⟨by rw [← EV.out]; exact N3.1, by rw [← EV.out]; exact N3.2, hp.only ((Only.refl [s] w3).setCell (.inl (by simp)) _) (by
      intro b' hb' hm
      simp at hm
      have := hpb b' hb'
      have := O2.out.size
      have := HR.out.lt
      omega)⟩
    clear ep hp hpb hb3 R3 N3 CL RS
    unfold Sl.v
    go_wp2_with fail
    go_ret2
    exact ⟨p, rfl, PP.out.1, NN.out.2.2, PP.out.2.2, by rw [HQ.out]; exact NN.out.2.1, NN.out.1⟩
end Go.Proofs.YtcgmgdjeamidlaaGreat
