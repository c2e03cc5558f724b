/- wal: piece. -/
import Derived.Test.YtjhomphbfkbaoaaWaV
import Derived.Test.YtjhomphbfkbaoaaWaT
namespace Go.Proofs.Ytjhomphbfkbaoaa
open Go.RowKit Go.ChangeShapes Go.WideShapes Go.ChangeAt
open Go.Proofs.Ytjhomphbfkbaoaa.dk (Dk Dev sectorD Bytes read_dev ReadTo sectorD_is IsSec)
set_option linter.unusedVariables false

/-- The 64 bytes of a piece's place. -/
def halfD (D : Dk) (L : Lg) (n : Int) : List Int := ((sectorD D (secL L n)).drop (64 * (n % 2)).toNat).take 64
theorem halfD_len {D : Dk} (h : D.Fine) (L : Lg) (n : Int) : (halfD D L n).length = 64 := by
  unfold halfD
  rw [List.length_take, List.length_drop, (sectorD_is h _).1]
  omega
theorem halfD_by {D : Dk} (h : D.Fine) (L : Lg) (n : Int) : IsBy (halfD D L n) := fun x hx => by
  have := (sectorD_is h (secL L n)).2 x (List.mem_of_mem_drop (List.mem_of_mem_take hx))
  omega
def PiecePost (D : Dk) (L : Lg) (n : Int) (w : World) (e : Ending) (w' : World) : Prop := ∃ g o cc : Nat, e = .returned (.tuple #[.agg #[.int .u64 (pieN (halfD D L n)), .int .u32 (pieE (halfD D L n)), .slice (some ⟨g, o, none⟩) (pieL (halfD D L n)) cc], .int .i64 0]) ∧ Ints .u8 w' (.slice (some ⟨g, o, none⟩) (pieL (halfD D L n)) cc) (pieB (halfD D L n)) ∧ pieL (halfD D L n) ≤ cc ∧ Only [] w w' ∧ w.heap.size ≤ g
theorem pie_ints {w : World} {g o c : Nat} {b : List Int} (hl : b.length = 64) (hi : Ints .u8 w (.slice (some ⟨g, o, none⟩) 64 c) b) : Ints .u8 w (.slice (some ⟨g, o + 12, none⟩) (pieL b) (c - 12)) (pieB b) ∧ (pieB b).length = pieL b := by
  have hlb : (pieB b).length = pieL b := by
    unfold pieB
    have : pieL b ≤ 52 := by unfold pieL; omega
    rw [List.length_take, List.length_drop]
    omega
  refine ⟨.inr ⟨g, o + 12, c - 12, by rw [hlb], fun i hi' => ?_⟩, hlb⟩
  obtain ⟨b', o', c', hv, hc⟩ := hi.shape (by omega)
  simp only [Value.slice.injEq, Option.some.injEq, Addr.mk.injEq] at hv
  obtain ⟨⟨rfl, rfl, _⟩, _, rfl⟩ := hv
  rw [hlb] at hi'
  have : pieL b ≤ 52 := by unfold pieL; omega
  rw [Nat.add_assoc, hc (12 + i) (by omega)]
  unfold pieB
  rw [List.getElem?_take, if_pos hi', List.getElem?_drop]
set_option maxRecDepth 100000 in
set_option maxHeartbeats 8000000 in
theorem piece_on {W w : World} {p q : Nat} {D : Dk} {F : List Nat} {L : Lg} {tail : Value} (h : LgAt W w p q D F L tail) (ho : D.off = false) (n : Int) (h0 : 0 ≤ n) (h1 : n < 1152921504606846976) (hc : 0 < L.count ∧ L.count ≤ 8192) (ha : 0 ≤ L.at_ ∧ L.at_ + 2 + L.count ≤ D.sectors) :
    Calls Try.prog 36 #[.pointer (some ⟨q, 0, none⟩), .int .u64 n] w (PiecePost D L n w) := by
  have S1 := h.dev.fine.s1
  have m1 := Int.emod_nonneg (n / 2) (show L.count ≠ 0 by omega)
  have m2 := Int.emod_lt_of_pos (n / 2) hc.1
  have FN := Lib.hid h.dev.fine
  have H := Lib.hid h
  have SK := Lib.hid fun (y : World) (k : Only [] w y) => sector_on (h.row.only k (by simp)) n h0 h1 hc (by omega)
  have RK := Lib.hid fun (y : World) (k : Only [] w y) => read_dev (k := secL L n) (h.dev.none k) ho (by unfold secL; omega) (by unfold secL; omega)
  unfold ReadTo at RK
  obtain ⟨K, hK⟩ : ∃ K, secL L n = K := ⟨_, rfl⟩
  have HK := Lib.hid hK
  rw [hK] at SK RK
  have par : n % 2 = 0 ∨ n % 2 = 1 := by omega
  have et : n.tmod 2 = n % 2 := Int.tmod_eq_emod_of_nonneg h0
  have QW : Hid (q < w.heap.size) := Lib.hid h.row.lt
  clear h S1 m1 m2 hc ha h0 h1 hK ho
  go_enter Try.func36, Try.ntmps36
  go_upto_region 1 with fail
  have R1 : Hid (Row (w.alloc (.cells #[.int .u64 0, .int .u32 0, .slice none 0 0] 73)) w.heap.size #[.int .u64 0, .int .u32 0, .slice none 0 0] 73) := Lib.hid (Row.made _ _ _)
  have K1 : Hid (Only [] w (w.alloc (.cells #[.int .u64 0, .int .u32 0, .slice none 0 0] 73)).drew) := Lib.hid ((Only.refl [] w).alloc _).drew
  have R1' : Hid (Row (w.alloc (.cells #[.int .u64 0, .int .u32 0, .slice none 0 0] 73)).drew w.heap.size #[.int .u64 0, .int .u32 0, .slice none 0 0] 73) := Lib.hid R1.out
  generalize w.alloc (.cells #[.int .u64 0, .int .u32 0, .slice none 0 0] 73) = w1 at *
  have SC : Hid (∀ y, Only [] w y → y.cell? ⟨q, 0, none⟩ = some (.pointer (some ⟨p, 0, none⟩))) := Lib.hid fun y k => (k.cell QW.out (by simp)).trans (H.out.row.cell 0)
  go_region_held3 (fun x => x.cell? ⟨q, 0, none⟩ = some (.pointer (some ⟨p, 0, none⟩))) (first | exact SC.out _ K4.out | exact SC.out _ K3.out | exact SC.out _ K1.out)
    (first
      | (go_at_call 30; refine (RK.out w3 K3.out).mono ?_; rintro _ w4 ⟨rfl, hb4, d4, k4, s4⟩; have B4 := Lib.hid hb4; have K4 := Lib.hid (K3.out.and k4); have R4 := Lib.hid (R3.out.only k4 (by simp)); clear hb4 d4 k4 s4)
      | (go_at_call 31; refine (SK.out _ K1.out).mono ?_; rintro _ w3 ⟨rfl, k3⟩; have K3 := Lib.hid (K1.out.and k3); have R3 := Lib.hid (R1'.out.only k3 (by simp)); clear k3))
  obtain ⟨g, hg⟩ : ∃ g, w3.heap.size = g := ⟨_, rfl⟩
  have GW : Hid (w.heap.size < g) := Lib.hid (by rw [← hg]; exact R3.out.lt)
  rw [hg] at B4
  rw [hg]
  have HI : Hid (∀ hh c : Nat, (64 * (n % 2)).toNat = hh → Ints .u8 w4 (.slice (some ⟨g, hh, none⟩) 64 c) (halfD D L n)) := Lib.hid fun hh c e => by
    have hl := halfD_len FN.out L n
    refine .inr ⟨g, hh, c, by rw [hl], fun i hi => ?_⟩
    have hlt : i < 64 := by rw [hl] at hi; exact hi
    have hs := (sectorD_is FN.out K).1
    have h2 := B4.out (hh + i) (.int .u8 ((halfD D L n)[i]?.getD 0)) (by
      unfold halfD
      rw [HK.out, e, List.getElem?_map, List.getElem?_take, if_pos hlt, List.getElem?_drop, List.getElem?_eq_getElem (by omega)]
      rfl)
    rw [Nat.zero_add] at h2
    exact h2
  rcases par with hp | hp
  ·
    have et0 : n.tmod 2 = 0 := by rw [et, hp]
    have OPK : Hid (Calls Try.prog 50 #[.slice (some ⟨g, 0, none⟩) 64 128] w4 (WOpenPost g 0 128 (halfD D L n) w4)) := Lib.hid (wopen_any g 0 128 (halfD D L n) w4 (halfD_len FN.out L n) (HI.out 0 128 (by rw [hp]; rfl)) (halfD_by FN.out L n) (by omega))
    have PI := Lib.hid (pie_ints (halfD_len FN.out L n) (HI.out 0 128 (by rw [hp]; rfl)))
    have PL : Hid (pieL (halfD D L n) ≤ 128 - 12) := Lib.hid (by unfold pieL; omega)
    unfold WOpenPost at OPK
    generalize hN : pieN (halfD D L n) = N at *
    generalize hE : pieE (halfD D L n) = E at *
    generalize hln : pieL (halfD D L n) = ln at *
    have NN : Hid (pieN (halfD D L n) = N ∧ pieE (halfD D L n) = E ∧ pieL (halfD D L n) = ln) := Lib.hid ⟨hN, hE, hln⟩
    clear hN hE hln
    clear et hp HI SK RK
    go_wp2_with fail
    refine OPK.out.mono ?_
    rintro _ w5 ⟨rfl, b5⟩
    have K5 : Hid (Only [] w w5) := Lib.hid (K4.out.below b5)
    have R5 := Lib.hid (R4.out.of_block (b5.block _ R4.out.lt))
    have I5 := Lib.hid (PI.out.1.below' b5)
    have f0 := R5.out.free 0
    have f1 := R5.out.free 1
    have f2 := R5.out.free 2
    have z0 : w5.cell? ⟨w.heap.size, 0, none⟩ = some (.int .u64 0) := R5.out.cell 0
    have z1 : w5.cell? ⟨w.heap.size, 1, none⟩ = some (.int .u32 0) := R5.out.cell 1
    have z2 : w5.cell? ⟨w.heap.size, 2, none⟩ = some (.slice none 0 0) := R5.out.cell 2
    clear b5 OPK
    go_wp2_with fail
    have kk : Only [w.heap.size] w5 (((w5.setCell ⟨w.heap.size, 0, none⟩ (.int .u64 N)).setCell ⟨w.heap.size, 1, none⟩ (.int .u32 E)).setCell ⟨w.heap.size, 2, none⟩ (.slice (some ⟨g, 0 + 12, none⟩) ln (128 - 12))) := (((Only.refl [w.heap.size] w5).setCell (.inl (by simp)) _).setCell (.inl (by simp)) _).setCell (.inl (by simp)) _
    refine bodyPost_ret (results_pie2 rfl _ _ w.heap.size #[.int .u64 N, .int .u32 E, .slice (some ⟨g, 0 + 12, none⟩) ln (128 - 12)] rfl rfl (by
      have h := ((R5.out.set 0 (.int .u64 N)).set 1 (.int .u32 E)).set 2 (.slice (some ⟨g, 0 + 12, none⟩) ln (128 - 12))
      simpa using h)) rfl ?_
    rw [PiecePost, NN.out.1, NN.out.2.1, NN.out.2.2]
    refine ⟨g, 0 + 12, 128 - 12, rfl, ?_, PL.out, (K5.out.mono (by simp)).trans kk fun i hi => .inr (by simp at hi; omega), Nat.le_of_lt GW.out⟩
    rcases I5.out with h | ⟨b', o', c', hv, hcc⟩
    · exact .inl h
    · refine .inr ⟨b', o', c', hv, fun i hi => ?_⟩
      have hb' : b' = g := by simp only [Value.slice.injEq, Option.some.injEq, Addr.mk.injEq] at hv; exact hv.1.1.symm
      have h2 := hcc i hi
      have h3 := World.block_lt_of_cell? w5 _ h2
      rw [kk.cell h3 (by simp; have := GW.out; omega)]
      exact h2
  ·
    have et0 : n.tmod 2 = 1 := by rw [et, hp]
    have OPK : Hid (Calls Try.prog 50 #[.slice (some ⟨g, 64, none⟩) 64 64] w4 (WOpenPost g 64 64 (halfD D L n) w4)) := Lib.hid (wopen_any g 64 64 (halfD D L n) w4 (halfD_len FN.out L n) (HI.out 64 64 (by rw [hp]; rfl)) (halfD_by FN.out L n) (by omega))
    have PI := Lib.hid (pie_ints (halfD_len FN.out L n) (HI.out 64 64 (by rw [hp]; rfl)))
    have PL : Hid (pieL (halfD D L n) ≤ 64 - 12) := Lib.hid (by unfold pieL; omega)
    unfold WOpenPost at OPK
    generalize hN : pieN (halfD D L n) = N at *
    generalize hE : pieE (halfD D L n) = E at *
    generalize hln : pieL (halfD D L n) = ln at *
    have NN : Hid (pieN (halfD D L n) = N ∧ pieE (halfD D L n) = E ∧ pieL (halfD D L n) = ln) := Lib.hid ⟨hN, hE, hln⟩
    clear hN hE hln
    clear et hp HI SK RK
    go_wp2_with fail
    refine OPK.out.mono ?_
    rintro _ w5 ⟨rfl, b5⟩
    have K5 : Hid (Only [] w w5) := Lib.hid (K4.out.below b5)
    have R5 := Lib.hid (R4.out.of_block (b5.block _ R4.out.lt))
    have I5 := Lib.hid (PI.out.1.below' b5)
    have f0 := R5.out.free 0
    have f1 := R5.out.free 1
    have f2 := R5.out.free 2
    have z0 : w5.cell? ⟨w.heap.size, 0, none⟩ = some (.int .u64 0) := R5.out.cell 0
    have z1 : w5.cell? ⟨w.heap.size, 1, none⟩ = some (.int .u32 0) := R5.out.cell 1
    have z2 : w5.cell? ⟨w.heap.size, 2, none⟩ = some (.slice none 0 0) := R5.out.cell 2
    clear b5 OPK
    go_wp2_with fail
    have kk : Only [w.heap.size] w5 (((w5.setCell ⟨w.heap.size, 0, none⟩ (.int .u64 N)).setCell ⟨w.heap.size, 1, none⟩ (.int .u32 E)).setCell ⟨w.heap.size, 2, none⟩ (.slice (some ⟨g, 64 + 12, none⟩) ln (64 - 12))) := (((Only.refl [w.heap.size] w5).setCell (.inl (by simp)) _).setCell (.inl (by simp)) _).setCell (.inl (by simp)) _
    refine bodyPost_ret (results_pie2 rfl _ _ w.heap.size #[.int .u64 N, .int .u32 E, .slice (some ⟨g, 64 + 12, none⟩) ln (64 - 12)] rfl rfl (by
      have h := ((R5.out.set 0 (.int .u64 N)).set 1 (.int .u32 E)).set 2 (.slice (some ⟨g, 64 + 12, none⟩) ln (64 - 12))
      simpa using h)) rfl ?_
    rw [PiecePost, NN.out.1, NN.out.2.1, NN.out.2.2]
    refine ⟨g, 64 + 12, 64 - 12, rfl, ?_, PL.out, (K5.out.mono (by simp)).trans kk fun i hi => .inr (by simp at hi; omega), Nat.le_of_lt GW.out⟩
    rcases I5.out with h | ⟨b', o', c', hv, hcc⟩
    · exact .inl h
    · refine .inr ⟨b', o', c', hv, fun i hi => ?_⟩
      have hb' : b' = g := by simp only [Value.slice.injEq, Option.some.injEq, Addr.mk.injEq] at hv; exact hv.1.1.symm
      have h2 := hcc i hi
      have h3 := World.block_lt_of_cell? w5 _ h2
      rw [kk.cell h3 (by simp; have := GW.out; omega)]
      exact h2
end Go.Proofs.Ytjhomphbfkbaoaa
