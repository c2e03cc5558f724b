/- Sched: the iterator over a line's frames. -/
import Derived.Test.YtcgmgdjeamidlaaGreatScB
import Derived.Test.YtcgmgdjeamidlaaGreatRgw
namespace Go.Proofs.YtcgmgdjeamidlaaGreat
open Go.RowKit Go.Shelf Go.ChangeShapes Go.WideShapes Go.ChangeAt
set_option linter.unusedVariables false
set_option linter.unusedSimpArgs false

abbrev tLnp : TypeId := 140
abbrev tErp : TypeId := 148
theorem frames_any (a b : Option Addr) (w : World) : Calls Tryz.prog 58 #[.pointer a, .pointer b] w fun e w' => e = .returned (.func (.func 97) #[] #[.pointer (some ⟨w.heap.size, 0, none⟩), .pointer (some ⟨w.heap.size + 1, 0, none⟩)]) ∧ w' = (w.alloc (.cells #[.pointer a] tLnp)).alloc (.cells #[.pointer b] tErp) := by
  have hmf : ∀ (fn : Fn) (first cap : Array Value) (w : World), (Instr.makeFunc fn first cap).run Tryz.prog w = .ok (.func fn first cap) w := fun _ _ _ _ => rfl
  go_enter Tryz.func58, Tryz.ntmps58
  go_wp2_with fail
  go_ret
  exact ⟨rfl, rfl⟩
theorem size_ways (xs : List Int) (hb : IsBy xs) : (∃ n : Nat, sizeF xs = ((n : Int), 0)) ∨ sizeF xs = (0, 7) ∨ sizeF xs = (0, 3) := by
  unfold sizeF
  split
  · exact .inr (.inl rfl)
  · split
    · exact .inr (.inr rfl)
    · split
      · exact .inr (.inl rfl)
      · rename_i h _ _
        obtain ⟨x0, e0, l0⟩ := hb.at_ (i := 0) (by omega)
        obtain ⟨x1, e1, l1⟩ := hb.at_ (i := 1) (by omega)
        obtain ⟨x2, e2, l2⟩ := hb.at_ (i := 2) (by omega)
        obtain ⟨x3, e3, l3⟩ := hb.at_ (i := 3) (by omega)
        refine .inl ⟨(le4 xs).toNat, ?_⟩
        have : 0 ≤ le4 xs := by
          unfold le4
          rw [e0, e1, e2, e3]
          simp only [Option.getD_some]
          omega
        rw [Int.toNat_of_nonneg this]
def strmLen (s : Nat) (W : World) : Nat := lenV ((W.cell? ⟨s, 1, none⟩).getD undef)
theorem StrmF.len {w : World} {s : Nat} {xs : List Int} {e : Int} {F : List Nat} (h : StrmF w s xs e F) : strmLen s w = xs.length := by
  obtain ⟨sl, hr, hb, rfl, rfl⟩ := h
  unfold strmLen
  rw [hr.cell]
  rfl
set_option maxRecDepth 100000 in
set_option maxHeartbeats 4000000 in
theorem frames1_in (n : Nat) (hn : 1 ≤ n) (yl b1 b2 l o ge st : Nat) (J : List Int → World → Prop) (K : List Int → Nat → Value → World → Prop) (E : List Int → Int → World → Prop)
    (hJ : ∀ xs W, J xs W → IsBy xs ∧ (∃ F, StrmF W st xs 0 F) ∧ W.cell? ⟨b1, 0, none⟩ = some (.pointer (some ⟨l, o, none⟩)) ∧ W.cell? ⟨l, o + 1, none⟩ = some (.pointer (some ⟨st, 0, none⟩)))
    (hOne : ∀ xs W (k : Nat) F e W2, J xs W → StrmF W st xs 0 F → sizeF xs = ((k : Int), 0) → OneTo st xs k F W e W2 → ∃ a m c, e = .returned (.tuple #[.slice a m c, .int .i64 0]) ∧ W2.cell? ⟨b2, 0, none⟩ = some (.pointer (some ⟨ge, 0, none⟩)) ∧ (∃ v, W2.cell? ⟨ge, 0, none⟩ = some v) ∧ W2.frozen? ⟨ge, 0, none⟩ = false ∧ K xs k (.slice a m c) (W2.setCell ⟨ge, 0, none⟩ (.int .i64 0)))
    (hEnd : ∀ xs W F d xs' er e W2, J xs W → StrmF W st xs 0 F → sizeF xs = (0, d) → ((d = 7 ∧ xs' = xs ∧ er = 0) ∨ (d = 3 ∧ xs' = [] ∧ er = 3)) → NoneTo st xs' er F d W e W2 → W2.cell? ⟨b2, 0, none⟩ = some (.pointer (some ⟨ge, 0, none⟩)) ∧ (∃ v, W2.cell? ⟨ge, 0, none⟩ = some v) ∧ W2.frozen? ⟨ge, 0, none⟩ = false ∧ E xs d (W2.setCell ⟨ge, 0, none⟩ (.int .i64 d)))
    (hY : ∀ xs (k : Nat) p W1, sizeF xs = ((k : Int), 0) → K xs k p W1 → YieldAt Fence.wide (n - 1) Tryz.prog yl #[p] W1 fun e W' => e = .returned (.bool true) ∧ J (xs.drop (4 + k)) W')
    (xs0 : List Int) (W : World) (h0 : J xs0 W) :
    CallsIn Fence.wide n Tryz.prog 97 #[.func (.yield yl) #[] #[], .pointer (some ⟨b1, 0, none⟩), .pointer (some ⟨b2, 0, none⟩)] W fun e W' => (∃ v, e = .returned v) ∧ ∃ xs d, E xs d W' := by
  have hro : Fence.wide.round = none := rfl
  have HJ := Lib.hid hJ
  have HO := Lib.hid hOne
  have HE := Lib.hid hEnd
  have HY := Lib.hid hY
  have H0 := Lib.hid h0
  clear hJ hOne hEnd hY h0
  refine callsIn_of_wp Tryz.func97 rfl trivial ?_ hro
  simp only [Tryz.ntmps97, List.size_toArray, List.length_cons, List.length_nil, Nat.reduceAdd, Nat.reduceSub, Array.replicate_succ, Array.replicate_zero, List.push_toArray, List.append_toArray, List.nil_append, List.cons_append]
  gi_wp2_with fail
  gi_loopw [] (fun wr => ∃ xs, Hid (J xs wr)) (fun wr => strmLen st wr)
  case atStart => exact ⟨xs0, H0⟩
  case round =>
    obtain ⟨xs, HI⟩ := hrel
    obtain ⟨hb, ⟨F, hS⟩, c1, c2⟩ := HJ.out xs wr HI.out
    have SL : Hid (strmLen st wr = xs.length) := Lib.hid hS.len
    have HS := Lib.hid hS
    rcases size_ways xs hb with ⟨k, hk⟩ | hk | hk
    · have N1 := Lib.hid (strm_one hS hb hk)
      have HK := Lib.hid hk
      clear hb hS hk
      gi_wp2_with fail
      refine ⟨trivial, (callsIn_wide.2 N1.out).mono ?_⟩
      intro e W2 h2
      obtain ⟨a, m, c, rfl, d1, ⟨v, d2⟩, d3, hK⟩ := HO.out xs wr k F e W2 HI.out HS.out HK.out h2
      have KK := Lib.hid hK
      obtain ⟨fn, tmps, assign, body, hy, hR⟩ := HY.out xs k (.slice a m c) _ HK.out hK
      clear h2 hK N1 c1 c2
      gi_wp2_with fail
      refine hR.mono ?_
      rintro e W3 ⟨rfl, hJ3⟩
      have J3 := Lib.hid hJ3
      have LM : Hid (strmLen st W3 < strmLen st wr) := Lib.hid (by
        obtain ⟨_, ⟨F3, hS3⟩, _⟩ := HJ.out _ W3 hJ3
        have h1 := hS3.len
        have h2 := (size_some HK.out).1
        rw [List.length_drop] at h1
        have := SL.out
        omega)
      clear hJ3 hR hy d1 d2 d3
      gi_wp2_with fail
      go_roundw
      case rel => exact ⟨_, J3⟩
      case measure => exact LM.out
    · have N1 := Lib.hid (strm_none hS hb hk)
      have HK := Lib.hid hk
      clear hb hS hk
      gi_wp2_with fail
      refine ⟨trivial, (callsIn_wide.2 N1.out).mono ?_⟩
      intro e W2 h2
      obtain ⟨d1, ⟨v, d2⟩, d3, hE⟩ := HE.out xs wr F 7 xs 0 e W2 HI.out HS.out HK.out (.inl ⟨rfl, rfl, rfl⟩) h2
      obtain ⟨rfl, _⟩ := h2
      have EE := Lib.hid hE
      clear hE N1 c1 c2
      gi_wp2_with fail
      refine ⟨fun _ _ => trivial, ?_⟩
      gi_wp2_with fail
      refine bodyPost_ret (results_none rfl _ _ _) rfl ?_
      exact ⟨⟨_, rfl⟩, _, _, EE.out⟩
    · have N1 := Lib.hid (strm_long hS hb hk)
      have HK := Lib.hid hk
      clear hb hS hk
      gi_wp2_with fail
      refine ⟨trivial, (callsIn_wide.2 N1.out).mono ?_⟩
      intro e W2 h2
      obtain ⟨d1, ⟨v, d2⟩, d3, hE⟩ := HE.out xs wr F 3 [] 3 e W2 HI.out HS.out HK.out (.inr ⟨rfl, rfl, rfl⟩) h2
      obtain ⟨rfl, _⟩ := h2
      have EE := Lib.hid hE
      clear hE N1 c1 c2
      gi_wp2_with fail
      refine ⟨fun _ _ => trivial, ?_⟩
      gi_wp2_with fail
      refine bodyPost_ret (results_none rfl _ _ _) rfl ?_
      exact ⟨⟨_, rfl⟩, _, _, EE.out⟩
end Go.Proofs.YtcgmgdjeamidlaaGreat
