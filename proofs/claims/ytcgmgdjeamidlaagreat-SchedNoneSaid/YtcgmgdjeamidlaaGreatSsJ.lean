/- The reply 'done': its form. -/
import Derived.Test.YtcgmgdjeamidlaaGreatSsI
namespace Go.Proofs.YtcgmgdjeamidlaaGreat
open Go.RowKit Go.ChangeShapes Go.WideShapes Go.ChangeAt
set_option linter.unusedVariables false
set_option linter.unusedSimpArgs false

theorem infoWr : (Tryz.prog.info? 154).map (fun i => (i.zero, i.size, i.bytes)) = some (some .nilFunc, 1, 8) := by kernel_rfl
theorem src_fn (w : World) (fv : Value) : SrcOf (w.alloc (.cells #[fv] 154)) (.slice (some ⟨w.heap.size, 0, none⟩) 1 1) 1 1 [fv] := by
  refine .inr ⟨⟨w.heap.size, 0, none⟩, 1, rfl, rfl, fun j u hj => ?_⟩
  cases j with
  | succ j => simp at hj
  | zero =>
    rw [add_plain]
    simp at hj
    subst hj
    exact (Row.made w #[fv] 154).cell 0
/-- all, over a list of function values of the call's own. -/
theorem all_own {W : World} {B : Nat} {v : Value} (fs : List (Value × List Int)) (h : W.ownsRow B 154 1 v fs.length (fs.map (·.1))) (hw : ∀ p ∈ fs, ∃ K, Writes W p.1 p.2 K) (h0 : 0 < fs.length) (h1 : fs.length ≤ 1000) (hs : ∀ k, ((fs.take k).flatMap (·.2)).length ≤ 1000000) :
    Calls Tryz.prog 74 #[v] W (Gives (fs.flatMap (·.2)) W) := by
  have hh := h
  rcases hh.2 with ⟨rfl, h2⟩ | ⟨g, cap, cur, rfl, _, _, _, _⟩
  · omega
  · refine all_on g 0 fs.length cap fs W rfl (fun j p hp => ⟨?_, hw p (List.mem_of_getElem? hp)⟩) hs h1
    have hj := (List.getElem?_eq_some_iff.1 hp).1
    rw [Nat.zero_add, h.cellAt j (by omega), List.getElem?_map, hp]
    rfl
set_option maxRecDepth 100000 in
set_option maxHeartbeats 4000000 in
theorem tell_done (m : Int) (h0 : 0 ≤ m) (h1 : m ≤ 7) (w : World) : Calls Tryz.prog 35 #[.agg (doneCells m)] w (AskTo [1, m] w) := by
  obtain ⟨i0', hi0, hz0, hz1, hz2⟩ := info_parts infoWr
  have MA := Lib.hid fun y => maytell_done m h0 h1 y
  have U1 := Lib.hid fun y => u8_on 1 (by omega) (by omega) y
  have U2 := Lib.hid fun y => u8_on m (by omega) (by omega) y
  have R0 := Lib.hid (Row.made w (doneCells m) tRp)
  have W0 : Hid (Below w.heap.size w (w.alloc (.cells (doneCells m) tRp))) := Lib.hid ((Below.refl _ w).alloc (Nat.le_refl _) _)
  unfold doneCells at *
  go_enter Tryz.func35, Tryz.ntmps35
  go_wp2_with fail
  refine (MA.out _).mono ?_
  rintro _ w2 ⟨rfl, hb2⟩
  have R2 := Lib.hid (R0.out.only ((Only.refl [] _).below hb2) (by simp))
  have B2 : Hid (Below w.heap.size w w2) := Lib.hid (W0.out.trans (hb2.mono W0.out.size))
  have l0 : w2.cell? ⟨w.heap.size, 0, none⟩ = some (.int .i64 1) := R2.out.cell 0
  clear hb2 MA R0 W0 h0 h1
  go_wp2_with fail
  refine (U1.out _).mono ?_
  rintro _ w3 ⟨fv, K1, rfl, hw, _, hb3⟩
  obtain ⟨f1, cap1, rfl⟩ : ∃ f cap, fv = .func (.func f) #[] cap := by
    exact hw.shape
  have B3 : Hid (Below w.heap.size w w3) := Lib.hid (B2.out.trans (hb3.mono B2.out.size))
  have R3 := Lib.hid (R2.out.only ((Only.refl [] _).below hb3) (by simp))
  have B4 : Hid (Below w.heap.size w (w3.alloc (.cells #[.func (.func f1) #[] cap1] 154))) := Lib.hid (B3.out.alloc B3.out.size _)
  have KG : Hid (∀ b ∈ K1, b ≠ w3.heap.size) := Lib.hid fun b hb => Nat.ne_of_lt (hw.lt b hb)
  have WR1 := Lib.hid (hw.below ((Below.refl _ _).alloc (Nat.le_refl _) (.cells #[.func (.func f1) #[] cap1] 154)))
  have OW : Hid ((w3.alloc (.cells #[.func (.func f1) #[] cap1] 154)).ownsRow w3.heap.size 154 1 (.slice (some ⟨w3.heap.size, 0, none⟩) 1 1) 1 [.func (.func f1) #[] cap1]) := Lib.hid (World.ownsRow_lit w3 #[.func (.func f1) #[] cap1] 1 (Nat.le_refl _) (by decide) rfl)
  have R4 := Lib.hid (R3.out.only ((Only.refl [] _).alloc (.cells #[.func (.func f1) #[] cap1] 154)) (by simp))
  have l40 : (w3.alloc (.cells #[.func (.func f1) #[] cap1] 154)).cell? ⟨w.heap.size, 0, none⟩ = some (.int .i64 1) := R4.out.cell 0
  have l41 : (w3.alloc (.cells #[.func (.func f1) #[] cap1] 154)).cell? ⟨w.heap.size, 1, none⟩ = some (.int .i64 m) := R4.out.cell 1
  have S4 : Hid (w3.heap.size < (w3.alloc (.cells #[.func (.func f1) #[] cap1] 154)).heap.size) := Lib.hid (by simp)
  obtain ⟨g3, hg3⟩ : ∃ g3, w3.heap.size = g3 := ⟨_, rfl⟩
  rw [hg3] at OW S4 KG
  have G3 : Hid (w3.heap.size = g3) := Lib.hid hg3
  clear hb3 hw U1 l0 R2
  go_wp2_with fail
  clear hg3
  refine (U2.out _).mono ?_
  generalize w3.alloc (.cells #[.func (.func f1) #[] cap1] 154) = w4 at *
  rintro _ w5 ⟨fv, K2, rfl, hw, hk2, hb5⟩
  obtain ⟨f2, cap2, rfl⟩ : ∃ f cap, fv = .func (.func f) #[] cap := by
    exact hw.shape
  have B5 : Hid (Below w.heap.size w w5) := Lib.hid (B4.out.trans (hb5.mono B4.out.size))
  have WR5 : Hid (Writes w5 (.func (.func f1) #[] cap1) [1] K1 ∧ Writes w5 (.func (.func f2) #[] cap2) [m] K2 ∧ (∀ b ∈ K2, b ≠ g3)) := Lib.hid ⟨WR1.out.below hb5, hw, fun b hb => by have := hk2 b hb; have := S4.out; omega⟩
  have OW5 : Hid (w5.ownsRow g3 154 1 (.slice (some ⟨g3, 0, none⟩) 1 1) 1 [.func (.func f1) #[] cap1]) := Lib.hid (own_keep OW.out fun g hg => ((Only.refl [] w4).below hb5).block g (OW.out.lt g hg).2 (by simp))
  have S5 : Hid (g3 < w5.heap.size) := Lib.hid (Nat.lt_of_lt_of_le S4.out hb5.size)
  clear hb5 hw hk2 U2 l40 l41 WR1 OW
  go_wp2_with (at_builtin; refine wpList_append_src rfl (.tmp 22) (.tmp 26) 156 rfl g3 154 i0' .nilFunc 1 8 Tryz.underlying156 hi0 hz0 hz1 hz2 rfl (by decide) _ 1 [.func (.func f1) #[] cap1] rfl ?s0 _ 1 [.func (.func f2) #[] cap2] rfl ?s1 ?s2 ?s3 ?s4 ?s5 ?s6)
  case s0 => exact OW5.out.alloc _
  case s1 => exact src_fn w5 _
  case s2 => simp [Value.oneCell']
  case s3 => decide
  case s4 => decide
  case s5 => have := S5.out; simp; omega
  case s6 =>
    intro v1 w6 hown1 hg1
    have O56 : Only [g3] w5 w6 := ((Only.refl [g3] w5).alloc _).grown hg1 (by intro k hk; simp [Value.ownBlock] at hk; left; simp [hk])
    have AL := Lib.hid (all_own [(.func (.func f1) #[] cap1, [1]), (.func (.func f2) #[] cap2, [m])] hown1 (by
      intro p hp
      simp at hp
      rcases hp with rfl | rfl
      · exact ⟨K1, WR5.out.1.only O56 (by intro b hb; simp; exact KG.out b hb)⟩
      · exact ⟨K2, WR5.out.2.1.only O56 (by intro b hb; simp; exact WR5.out.2.2 b hb)⟩) (by simp) (by simp) (fun k => by rcases k with _ | _ | k <;> simp))
    have B6 : Hid (Below w.heap.size w w6) := Lib.hid (B5.out.trans (O56.toBelow B5.out.size (by intro i hi; simp at hi; have := B4.out.size; have := B3.out.size; have := G3.out; omega)))
    unfold Gives at AL
    clear hown1 hg1 O56
    go_wp2_with fail
    refine AL.out.mono ?_
    rintro _ w7 ⟨v, rfl, ho, hb7⟩
    have N7 : Hid (w7.ownsRow w.heap.size 5 1 v 2 [.int .u8 1, .int .u8 m] ∧ Below w.heap.size w w7) := Lib.hid ⟨own_mono ho B6.out.size, B6.out.trans (hb7.mono B6.out.size)⟩
    clear ho hb7 AL
    go_wp2_with fail
    go_ret2
    exact ⟨v, rfl, N7.out.1, N7.out.2⟩
end Go.Proofs.YtcgmgdjeamidlaaGreat
