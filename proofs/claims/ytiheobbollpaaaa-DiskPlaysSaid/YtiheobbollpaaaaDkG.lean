/- Copy. -/
import Derived.Test.YtiheobbollpaaaaDkE
import Derived.Shelf.SlMaps.Clone
import Derived.Deep.Cut
import Derived.Deep.CutRange
namespace Go.Proofs.Ytiheobbollpaaaa
open Go.RowKit Go.ChangeShapes Go.WideShapes Go.ChangeAt
set_option linter.unusedVariables false

def ClonePost (es : Array MapEntry) (clock : Nat) (w : World) (e : Ending) (w' : World) : Prop := e = .returned (.map (some w.heap.size)) ∧ w' = w.alloc (.map es clock)
set_option maxRecDepth 100000 in
set_option maxHeartbeats 1000000 in
theorem clone_sec (b : Nat) (es : Array MapEntry) (clock : Nat) (w : World) (hb : w.heap[b]? = some (.map es clock)) :
    Calls Try.prog 31 #[.map (some b)] w (ClonePost es clock w) := by
  have hq := fun w => run_eql_map_nil (P := Try.prog) w _ _ _ (some b) Try.underlying54
  go_enter Try.func31, Try.ntmps31
  go_wp2
  rw [run_callFunc_extern Try.func42 (by kernel_rfl) (by kernel_rfl) (by kernel_rfl) (e := Extern.MapsClone.clone) (by kernel_rfl), run_maps_clone_sl w 54 hb]
  simp only [Result.andThen]
  rw [Oper.upon_value]
  go_wp2
  rw [run_typeAssert_map_sl _ 54 _ _ _ _ Try.underlying54]
  simp only [Result.andThen]
  rw [Oper.upon_value]
  go_wp2
  go_ret
  exact ⟨rfl, rfl⟩
set_option maxRecDepth 100000 in
set_option maxHeartbeats 1000000 in
theorem clone_bool (b : Nat) (es : Array MapEntry) (clock : Nat) (w : World) (hb : w.heap[b]? = some (.map es clock)) :
    Calls Try.prog 32 #[.map (some b)] w (ClonePost es clock w) := by
  have hq := fun w => run_eql_map_nil (P := Try.prog) w _ _ _ (some b) Try.underlying55
  go_enter Try.func32, Try.ntmps32
  go_wp2
  rw [run_callFunc_extern Try.func42 (by kernel_rfl) (by kernel_rfl) (by kernel_rfl) (e := Extern.MapsClone.clone) (by kernel_rfl), run_maps_clone_sl w 55 hb]
  simp only [Result.andThen]
  rw [Oper.upon_value]
  go_wp2
  rw [run_typeAssert_map_sl _ 55 _ _ _ _ Try.underlying55]
  simp only [Result.andThen]
  rw [Oper.upon_value]
  go_wp2
  go_ret
  exact ⟨rfl, rfl⟩
theorem sizeDk : (Try.prog.info? 57).map (·.size) = some 7 := by kernel_rfl
theorem zeroDk (w : World) : (zeroValue 57).run Try.prog w = .ok (.agg #[.map none, .map none, .map none, .int .i64 0, .int .i64 0, .int .i64 0, .bool false]) w := by kernel_rfl
theorem cells_one (D : Dk) (a b c : Nat) : (D.cells a b c).all (·.oneCell') = true := by simp [Dk.cells, Value.oneCell']
def CopyPost (D : Dk) (w : World) (e : Ending) (w' : World) : Prop := ∃ p bl bw bn, e = .returned (.pointer (some ⟨p, 0, none⟩)) ∧ DkAt w' p bl bw bn D ∧ Only [] w w' ∧ ∀ b ∈ [p, bl, bw, bn], w.heap.size ≤ b
theorem errOff_ne (b : Bool) : (errOff b == 1) = false := by cases b <;> rfl
set_option maxRecDepth 100000 in
set_option maxHeartbeats 4000000 in
theorem copy_at (w : World) (p bl bw bn : Nat) (D : Dk) (h : DkAt w p bl bw bn D) : Calls Try.prog 19 #[.pointer (some ⟨p, 0, none⟩)] w (CopyPost D w) := by
  have T := Lib.hid (there_at _ p bl bw bn _ h)
  have H := Lib.hid h
  have E1 := errOff_ne D.off
  clear h
  go_enter Try.func19, Try.ntmps19
  go_wp2_with fail
  refine T.out.mono ?_
  rintro _ w' ⟨rfl, hw'⟩
  subst hw'
  go_upto_region 4 with (first
    | (refine wpList_load_cells rfl 57 (.tmp 8) rfl p 0 rfl (D.cells bl bw bn).toList H.out.row.cells _ Try.underlying57 rfl (by rw [Array.length_toList]; exact sizeDk) ?_)
    | (refine wpList_alloc_at rfl 57 rfl _ zeroDk ?_; intro w1 hr1 ho1 hs1)
    | (refine wpList_store_at rfl 57 (.tmp 3) (.tmp 9) rfl w'.heap.size rfl (D.cells bl bw bn) (by simp [Act.eval, Act.put]) _ _ hr1 sizeDk rfl (cells_one D bl bw bn) ?_; intro w2 hr2 ho2 hs2))
  clear T
  have O2 : Hid (Only [] w' w2) := Lib.hid (ho1.trans ho2 (by simp))
  have R2 := Lib.hid hr2
  have S2 : w2.heap.size = w'.heap.size + 1 := by omega
  clear hr1 ho1 hs1 hr2 ho2 hs2
  have plt := H.out.lt p (by simp)
  have H2 : Hid (DkAt w2 p bl bw bn D) := Lib.hid (H.out.only O2.out (by simp) (by simp) (by simp) (by simp))
  obtain ⟨L, hL, hR⟩ := H2.out.lm
  obtain ⟨e1, k1, hb1, hst1, hkv1⟩ := hL
  obtain ⟨e2, k2, hb2, hst2, hkv2⟩ := H2.out.wm
  obtain ⟨e3, k3, hb3, hst3, hkv3⟩ := H2.out.nm
  obtain ⟨g, hg⟩ : ∃ g, g = w'.heap.size := ⟨_, rfl⟩
  rw [← hg] at R2 S2 ⊢
  have pg : p ≠ g := by omega
  have l1 := H2.out.lt bl (by simp)
  have l2 := H2.out.lt bw (by simp)
  have l3 := H2.out.lt bn (by simp)
  obtain ⟨W3, hW3⟩ : ∃ W3, W3 = w2.drew.alloc (.map e1 k1) := ⟨_, rfl⟩
  obtain ⟨W4, hW4⟩ : ∃ W4, W4 = W3.alloc (.map e2 k2) := ⟨_, rfl⟩
  obtain ⟨W5, hW5⟩ : ∃ W5, W5 = W4.alloc (.map e3 k3) := ⟨_, rfl⟩
  have z3 : W3.heap.size = g + 2 := by rw [hW3]; simp; omega
  have z4 : W4.heap.size = g + 3 := by rw [hW4]; simp; omega
  have K1 : Hid (Calls Try.prog 31 #[.map (some bl)] w2.drew (fun e w' => e = .returned (.map (some (g + 1))) ∧ w' = W3)) := Lib.hid ((clone_sec bl e1 k1 w2.drew hb1).mono fun e w' h => by
    rw [hW3, ← S2]; exact h)
  have K2 : Hid (Calls Try.prog 31 #[.map (some bw)] W3 (fun e w' => e = .returned (.map (some (g + 2))) ∧ w' = W4)) := Lib.hid ((clone_sec bw e2 k2 W3 (by rw [hW3, Below.heap_alloc _ _ _ (by exact l2)]; exact hb2)).mono fun e w' h => by
    rw [hW4, ← z3]; exact h)
  have K3 : Hid (Calls Try.prog 32 #[.map (some bn)] W4 (fun e w' => e = .returned (.map (some (g + 3))) ∧ w' = W5)) := Lib.hid ((clone_bool bn e3 k3 W4 (by rw [hW4, hW3, Below.heap_alloc _ _ _ (by simp; omega), Below.heap_alloc _ _ _ (by exact l3)]; exact hb3)).mono fun e w' h => by
    rw [hW5, ← z4]; exact h)
  have O3 : Only [] w2 W3 := by rw [hW3]; exact (Only.refl [] w2).drew.alloc _
  have O4 : Only [] w2 W4 := by rw [hW4]; exact O3.alloc _
  have O5 : Only [] w2 W5 := by rw [hW5]; exact O4.alloc _
  have R5 := R2.out.only O5 (by simp)
  have A1 : MapAt W5 (g + 1) .i64 L := by
    refine ⟨e1, k1, ?_, hst1, hkv1⟩
    rw [hW5, Below.heap_alloc _ _ _ (by omega), hW4, Below.heap_alloc _ _ _ (by omega), hW3, ← S2]
    exact heap_alloc_new w2.drew _
  have A2 : MapAt W5 (g + 2) .i64 (waL D.waits) := by
    refine ⟨e2, k2, ?_, hst2, hkv2⟩
    rw [hW5, Below.heap_alloc _ _ _ (by omega), hW4, ← z3]
    exact heap_alloc_new W3 (.map e2 k2)
  have A3 : MapAt W5 (g + 3) .i64 (seL D.seen) := by
    refine ⟨e3, k3, ?_, hst3, hkv3⟩
    rw [hW5, ← z4]
    exact heap_alloc_new W4 (.map e3 k3)
  have OG : Only [g] W5 (((W5.setCell ⟨g, 0, none⟩ (.map (some (g + 1)))).setCell ⟨g, 1, none⟩ (.map (some (g + 2)))).setCell ⟨g, 2, none⟩ (.map (some (g + 3)))) := (((Only.refl [g] W5).setCell (by simp) _).setCell (by simp) _).setCell (by simp) _
  have END : Hid (DkAt (((W5.setCell ⟨g, 0, none⟩ (.map (some (g + 1)))).setCell ⟨g, 1, none⟩ (.map (some (g + 2)))).setCell ⟨g, 2, none⟩ (.map (some (g + 3)))) g (g + 1) (g + 2) (g + 3) D ∧ Only [] w' (((W5.setCell ⟨g, 0, none⟩ (.map (some (g + 1)))).setCell ⟨g, 1, none⟩ (.map (some (g + 2)))).setCell ⟨g, 2, none⟩ (.map (some (g + 3))))) := by
    refine Lib.hid ⟨⟨?_, ⟨L, A1.only OG (by simp), hR⟩, A2.only OG (by simp), A3.only OG (by simp), by simp, H2.out.fine⟩, (O2.out.trans O5 (by simp)).trans OG (by simp; omega)⟩
    have := ((R5.set 0 (.map (some (g + 1)))).set 1 (.map (some (g + 2)))).set 2 (.map (some (g + 3)))
    simpa [Dk.cells] using this
  have SO : ∀ x, Only [g] w2 x → x.cell? ⟨p, 0, none⟩ = some (.map (some bl)) ∧ x.cell? ⟨p, 1, none⟩ = some (.map (some bw)) ∧ x.cell? ⟨p, 2, none⟩ = some (.map (some bn)) := fun x hx =>
    ⟨(hx.cell H2.out.row.lt (by simp; exact pg)).trans H2.out.c0, (hx.cell H2.out.row.lt (by simp; exact pg)).trans H2.out.c1, (hx.cell H2.out.row.lt (by simp; exact pg)).trans H2.out.c2⟩
  have P5 : Only [g] w2 W5 := O5.sub (by simp)
  have X2 := Lib.hid (SO w2.drew ((Only.refl [g] w2).drew))
  have X3 := Lib.hid (SO W3 (O3.sub (by simp)))
  have X4 := Lib.hid (SO W4 (O4.sub (by simp)))
  have X5 := Lib.hid (SO W5 P5)
  have X6 := Lib.hid (SO (W5.setCell ⟨g, 0, none⟩ (.map (some (g + 1)))) (P5.setCell (.inl (by simp)) _))
  have X7 := Lib.hid (SO ((W5.setCell ⟨g, 0, none⟩ (.map (some (g + 1)))).setCell ⟨g, 1, none⟩ (.map (some (g + 2)))) ((P5.setCell (.inl (by simp)) _).setCell (.inl (by simp)) _))
  have X8 := Lib.hid (SO (((W5.setCell ⟨g, 0, none⟩ (.map (some (g + 1)))).setCell ⟨g, 1, none⟩ (.map (some (g + 2)))).setCell ⟨g, 2, none⟩ (.map (some (g + 3)))) (((P5.setCell (.inl (by simp)) _).setCell (.inl (by simp)) _).setCell (.inl (by simp)) _))
  have g0 : W5.cell? ⟨g, 0, none⟩ = some (.map (some bl)) := R5.cell 0
  have g1 : W5.cell? ⟨g, 1, none⟩ = some (.map (some bw)) := R5.cell 1
  have g2 : W5.cell? ⟨g, 2, none⟩ = some (.map (some bn)) := R5.cell 2
  have f0 := R5.free 0
  have f1 := R5.free 1
  have f2 := R5.free 2
  clear hb1 hst1 hkv1 hb2 hst2 hkv2 hb3 hst3 hkv3 hR A1 A2 A3 OG R5 O3 O4 O5 hW3 hW4 hW5 z3 z4 P5 SO
  have e0 := H2.out.c0
  have ee1 := H2.out.c1
  have ee2 := H2.out.c2
  have HGq := Lib.hid hg
  clear H H2 R2 O2 hg
  go_region_held3 (fun x => x.cell? ⟨p, 0, none⟩ = some (.map (some bl)) ∧ x.cell? ⟨p, 1, none⟩ = some (.map (some bw)) ∧ x.cell? ⟨p, 2, none⟩ = some (.map (some bn)))
    (first | exact X2.out | exact X3.out | exact X4.out | exact X5.out | exact X6.out | exact X7.out | exact X8.out)
    (first
      | (go_at_call 31; refine K1.out.mono ?_; rintro _ x ⟨rfl, hx⟩; rw [hx])
      | (go_at_call 31; refine K2.out.mono ?_; rintro _ x ⟨rfl, hx⟩; rw [hx])
      | (go_at_call 32; refine K3.out.mono ?_; rintro _ x ⟨rfl, hx⟩; rw [hx]))
  all_goals
    go_wp2_with fail
    go_ret
    exact ⟨g, g + 1, g + 2, g + 3, rfl, END.out.1, END.out.2, by have := HGq.out; intro b hb; simp only [List.mem_cons, List.not_mem_nil, or_false] at hb; omega⟩
end Go.Proofs.Ytiheobbollpaaaa
