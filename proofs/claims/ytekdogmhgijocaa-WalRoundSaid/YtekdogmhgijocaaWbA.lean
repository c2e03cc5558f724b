/- Bytes: append of zeros to a row of the call's own, with room or without. -/
import Derived.Test.YtekdogmhgijocaaMg15
import Derived.Laws.AppendOwn
set_option linter.unusedSimpArgs false
namespace Go.Proofs.Ytekdogmhgijocaa
open Go.RowKit Go.ChangeShapes Go.WideShapes Go.ChangeAt
set_option linter.unusedVariables false

theorem zeros_any {w : World} {base n : Nat} {v : Value} {xs : List Int} (ho : w.ownsRow base 5 1 v n (xs.map (Value.int .u8))) (hn : 0 < n) (k : Nat) (hk : n + k ≤ 1000000) (hbase : base ≤ w.heap.size) :
    ∃ v' w', (Builtin.append_ #[32, 3] 32 #[v, .int .i64 (k : Int)]).run Try.prog w = .ok v' w' ∧ w'.ownsRow base 5 1 v' (n + k) ((xs ++ List.replicate k 0).map (Value.int .u8)) ∧ w.grownBy w' v.ownBlock ∧ (v'.ownBlock = v.ownBlock ∨ ∀ g, v'.ownBlock = some g → w.heap.size ≤ g) := by
  obtain ⟨i0', hi0, hz0, hz1, hz2⟩ := info_parts infoBy
  have hxl : xs.length = n := by have := ho.1; simpa using this
  have hzc : ∀ j, Builtin.zeroCells (Value.int .u8 0).cells j = Array.replicate j (.int .u8 0) := fun j => zero_cells _ rfl j
  rcases ho.2 with ⟨rfl, h0⟩ | ⟨g, cap, cur, rfl, hb, hgh, hnc, hcm, hcs, htake⟩
  · omega
  simp only [Nat.mul_one] at hcs htake
  have hw : IntKind.i64.wrap (k : Int) = k := by rw [IntKind.wrap_i64]; omega
  have ut := run_underlying (P := Try.prog) Try.underlying32
  have ui := run_underlying (P := Try.prog) Try.underlying3
  by_cases hroom : n + k ≤ cap
  · have hst := run_storeCells_at Try.prog g n 5 (List.replicate k (Value.int .u8 0)) 0 cur w hgh (by simp; omega) (fun u hu => by rw [(List.mem_replicate.1 hu).2]; rfl)
    simp only [Nat.add_zero] at hst
    have hneg : ¬ ((k : Int) < 0) := by omega
    have h48 : ¬ (281474976710656 < (k : Int)) := by omega
    refine ⟨.slice (some ⟨g, 0, none⟩) (n + k) cap, w.setRow g (cur.toList.take n ++ List.replicate k (Value.int .u8 0) ++ cur.toList.drop (n + k)).toArray, ?_, ?_, ⟨rfl, rfl, rfl, by simp, fun j _ hj => setRow_other w g j _ (fun e => hj (by simp [Value.ownBlock, e]))⟩, .inl rfl⟩
    · by_cases k0 : k = 0
      · subst k0
        have hst0 := hst
        have w0 : IntKind.i64.wrap 0 = 0 := rfl
        simp at hst0
        simp [w0, hnc, Builtin.append_, ut, ui, sizeOf, typeInfo, zeroValue, hi0, hz0, hz1, hz2, asInt, asIntOf, hw, hroom, Addr.add_lit, hst0]
      · have hp : ¬ k = 0 := k0
        simp [Builtin.append_, ut, ui, sizeOf, typeInfo, zeroValue, hi0, hz0, hz1, hz2, asInt, asIntOf, hw, hneg, h48, hp, hroom, Addr.add_lit, hzc, hst]
    · refine ⟨by simp [hxl], .inr ⟨g, cap, _, rfl, hb, setRow_heap w g cur _ 5 _ hgh, hroom, hcm, ?_, ?_⟩⟩
      · simp only [List.size_toArray, List.length_append, List.length_take, List.length_drop, Array.length_toList, List.length_replicate]
        omega
      · simp only [Nat.mul_one]
        rw [htake, List.map_append, List.map_replicate]
        rw [List.take_append_of_le_length (by simp [hxl]), List.take_of_length_le (by simp [hxl])]
  · have hr := Lib.run_append_grow_zeros (P := Try.prog) w 32 3 32 5 i0' (.int .u8 0) .i64 .i64 Try.underlying32 Try.underlying3 hi0 hz0 (some ⟨g, 0, none⟩) n cap (xs.map (Value.int .u8))
      (run_firstCells_some w.drew _ _ _ _ _ _ (by rw [hz1]; simp [hxl]) fun j u hj => by
        have hlt : j < n := by have := (List.getElem?_eq_some_iff.1 hj).1; simpa [hxl] using this
        rw [add_plain, Nat.zero_add]
        exact (ho.cellAt j (by omega)).trans hj) k (by omega) (by rw [hz1]; omega) (by omega) (by omega) (by rw [hz2]; omega) (growslice_fits (by omega) (by rw [hz2]; omega))
    have g1 := grownCap_ge w (n + k) cap 5
    have g2 := grownCap_le_maxLen w (n + k) cap 5 (by unfold maxLen; omega)
    refine ⟨_, _, hr, ⟨by simp [hxl], .inr ⟨w.heap.size, grownCap w (n + k) cap 5, _, rfl, hbase, heap_alloc_new w.drew _, g1, g2, ?_, ?_⟩⟩, ⟨rfl, rfl, rfl, by simp, fun j hj _ => heap_alloc_old w.drew _ hj⟩, .inr fun g1 e => Nat.le_of_eq (by simpa [Value.ownBlock] using e)⟩
    · rw [hzc, hzc]
      simp [hxl]
      omega
    · rw [hzc, hzc]
      simp only [Array.toList_append, Array.toList_replicate]
      rw [List.take_left' (by simp [hxl]), List.map_append, List.map_replicate]
theorem own_pos {w : World} {base n : Nat} {e : TypeId} {v : Value} {xs : List Value} (h : w.ownsRow base e 1 v n xs) (hp : 0 < n) : ∃ g c, v = .slice (some ⟨g, 0, none⟩) n c := by
  rcases h.2 with ⟨_, h0⟩ | ⟨g, cap, cur, hv, _⟩
  · omega
  · exact ⟨g, cap, hv⟩
end Go.Proofs.Ytekdogmhgijocaa
