/- Sets of keys: add, meets. -/
import Derived.Test.YtodkflnpcfepfaaTxA
namespace Go.Proofs.Ytodkflnpcfepfaa
open Go.RowKit
set_option linter.unusedVariables false
set_option linter.unusedSimpArgs false

def addK (k : Int) (ks : List Int) : List Int := if k ∈ ks then ks else ks ++ [k]
theorem mem_addK {k j : Int} {ks : List Int} : j ∈ addK k ks ↔ j = k ∨ j ∈ ks := by
  unfold addK
  by_cases h : k ∈ ks
  · rw [if_pos h]
    exact ⟨.inr, fun x => x.elim (fun e => e ▸ h) id⟩
  · rw [if_neg h]
    simp [or_comm]
theorem up_setL (k : Int) : ∀ (ks : List Int), up k (.agg #[]) (setL ks) = setL (addK k ks)
  | [] => rfl
  | j :: r => by
    have ih := up_setL k r
    unfold setL addK at ih ⊢
    simp only [List.map_cons, up]
    by_cases h : k = j
    · subst h; simp
    · rw [if_neg h, ih]
      by_cases g : k ∈ r
      · rw [if_pos g, if_pos (List.mem_cons_of_mem _ g)]; rfl
      · rw [if_neg g, if_neg (by simp [h, g])]; rfl
theorem lk_setL (k : Int) : ∀ (ks : List Int), lk k (setL ks) = if k ∈ ks then some (.agg #[]) else none
  | [] => rfl
  | j :: r => by
    have ih := lk_setL k r
    unfold setL at ih ⊢
    simp only [List.map_cons, lk]
    by_cases h : k = j
    · subst h; simp
    · rw [if_neg h, ih]; simp [h]
set_option maxHeartbeats 1000000 in
theorem add_any (bk : Nat) (ks : List Int) (k : Int) (w : World) (h : MapAt w bk .u64 (setL ks)) :
    Calls Try.prog 34 #[.map (some bk), .int .u64 k] w fun e w' => e = .returned (.tuple #[]) ∧ MapAt w' bk .u64 (setL (addK k ks)) ∧ Only [bk] w w' ∧ w'.heap.size = w.heap.size := by
  have H := Lib.hid h
  clear h
  go_enter Try.func34, Try.ntmps34
  go_wp2_with (at_mapUpdate; refine wpList_update_at _ rfl (.tmp 4) (.tmp 5) (.tmp 6) 73 rfl 29 93 .u64 Try.underlying73 Try.underlying29 bk (setL ks) rfl H.out k (.agg #[]) rfl rfl ?_)
  intro w1 h1 h2 h3
  rw [up_setL] at h1
  have H1 := Lib.hid h1
  have H2 := Lib.hid h2
  have H3 := Lib.hid h3
  clear h1 h2 h3
  go_wp2_with fail
  go_end0
  exact ⟨rfl, H1.out, H2.out, H3.out⟩

theorem Rng.left_eq {w : World} {b r : Nat} {q : IntKind} {L left : List (Int × Value)} (h : Rng w b r q L left) : w.rangeLeft b r = left.length := by
  obtain ⟨es, clock, since, seen, c0, hb, _, _, hr, _, _, _, hl⟩ := h
  simp only [World.rangeLeft, hb, hr]
  have := congrArg List.length hl
  simpa using this
theorem rm_lt {k : Int} {v : Value} : ∀ {L : List (Int × Value)}, (k, v) ∈ L → (rm k L).length < L.length := by
  intro L h
  unfold rm
  have h1 : (k, v) ∉ L.filter fun p => !decide (p.1 = k) := by simp
  rcases Nat.lt_or_ge (L.filter fun p => !decide (p.1 = k)).length L.length with g | g
  · exact g
  · have := List.filter_eq_self.1 ((List.filter_sublist (l := L) (p := fun p => !decide (p.1 = k))).eq_of_length_le g) (k, v) h
    simp at this
theorem mem_rm {k : Int} {L : List (Int × Value)} {p : Int × Value} : p ∈ rm k L ↔ p ∈ L ∧ p.1 ≠ k := by simp [rm]

def Meets (ks ls : List Int) : Prop := ∃ k ∈ ks, k ∈ ls
instance (ks ls : List Int) : Decidable (Meets ks ls) := inferInstanceAs (Decidable (∃ k ∈ ks, k ∈ ls))
def NotYet (ks ls : List Int) (left : List (Int × Value)) : Prop := ∀ k ∈ ks, (∀ p ∈ left, p.1 ≠ k) → k ∉ ls
set_option maxHeartbeats 1000000 in
theorem meets_any (bs bt : Nat) (ks ls : List Int) (w : World) (h1 : MapAt w bs .u64 (setL ks)) (h2 : MapAt w bt .u64 (setL ls)) :
    Calls Try.prog 39 #[.map (some bs), .map (some bt)] w fun e w' => e = .returned (.bool (decide (Meets ks ls))) ∧ Below w.heap.size w w' := by
  have H1 := Lib.hid h1
  have H2 := Lib.hid h2
  obtain ⟨R, hR⟩ : ∃ R, R = decide (Meets ks ls) := ⟨_, rfl⟩
  rw [← hR]
  have HR := Lib.hid hR
  clear h1 h2 hR
  go_enter Try.func39, Try.ntmps39
  go_wp2_with (at_range; refine wpList_range_at _ rfl (.tmp 8) 73 rfl 29 93 .u64 Try.underlying73 bs (setL ks) rfl H1.out ?_)
  intro w1 r1 o1 s1
  have b1 : Hid (Below w.heap.size w w1) := Lib.hid (o1.toBelow (Nat.le_refl _) (by simp))
  have R1 := Lib.hid r1
  have S1 := Lib.hid s1
  clear r1 o1 s1
  go_wp2_with fail
  go_loopw [5] (fun u wr => Hid (∃ left, Rng wr bs w.heap.size .u64 (setL ks) left ∧ NotYet ks ls left ∧ Below w.heap.size w wr)) (fun u wr => wr.rangeLeft bs w.heap.size)
  case atStart => exact Lib.hid ⟨_, R1.out, (fun k hk hn => absurd rfl (hn (k, .agg #[]) (List.mem_map.2 ⟨k, hk, rfl⟩))), b1.out⟩
  case round =>
    obtain ⟨left, hr, hy, hb⟩ := hrel.out
    have RG := Lib.hid hr
    have HY := Lib.hid hy
    have HB := Lib.hid hb
    clear hr hy hb hrel
    go_wp2_with (at_next; refine wpList_next_at _ rfl (.tmp 9) rfl bs w.heap.size .u64 (setL ks) left rfl RG.out ?_ ?_)
    · intro hnil
      have HN := Lib.hid hnil
      clear hnil
      go_wp2_with fail
      go_ret
      refine ⟨ret_bool ?_, HB.out⟩
      rw [HR.out]
      symm
      rw [decide_eq_false_iff_not]
      rintro ⟨k, hk, hl⟩
      have := HY.out
      rw [HN.out] at this
      exact this k hk (by simp) hl
    · intro k v w2 hmem hr2 ho2 hs2 hen
      have HM := Lib.hid hmem
      have R2 := Lib.hid hr2
      have B2 : Hid (Below w.heap.size w w2) := Lib.hid (HB.out.trans (ho2.toBelow (by exact HB.out.size) (by simp)))
      have M2 : Hid (MapAt w2 bt .u64 (setL ls)) := Lib.hid (H2.out.of_block (B2.out.block bt H2.out.lt))
      clear hmem hr2 ho2 hs2
      have hl := lk_setL k ls
      by_cases hk : k ∈ ls
      · rw [if_pos hk] at hl
        have HK := Lib.hid hk
        clear hk
        go_wp2_with (at_lookup; refine wpList_look_at _ rfl (.tmp 15) (.tmp 16) 73 true rfl 29 93 .u64 Try.underlying73 Try.underlying29 _ zeroUnit bt (setL ls) rfl M2.out k rfl ?_)
        go_ret
        refine ⟨ret_bool ?_, ?_⟩
        · rw [HR.out]
          symm
          rw [decide_eq_true_eq]
          obtain ⟨k', hk', he⟩ := List.mem_map.1 (RG.out.sub _ HM.out)
          simp only [Prod.mk.injEq] at he
          exact ⟨k, he.1 ▸ hk', HK.out⟩
        · exact B2.out.alloc B2.out.size _
      · rw [if_neg hk] at hl
        have HK := Lib.hid hk
        clear hk
        go_wp2_with (at_lookup; refine wpList_look_at _ rfl (.tmp 15) (.tmp 16) 73 true rfl 29 93 .u64 Try.underlying73 Try.underlying29 _ zeroUnit bt (setL ls) rfl M2.out k rfl ?_)
        go_roundw
        case rel =>
          refine Lib.hid ⟨rm k left, R2.out.only ((Only.refl [] w2).alloc _) (by simp) (by simp), fun k' hk' hn => ?_, B2.out.alloc B2.out.size _⟩
          by_cases e : k' = k
          · rw [e]; exact HK.out
          · exact HY.out k' hk' fun p hp e' => hn p (mem_rm.2 ⟨hp, fun h => e (e' ▸ h)⟩) e'
        case measure =>
          rw [(R2.out.only ((Only.refl [] w2).alloc _) (by simp) (by simp)).left_eq, RG.out.left_eq]
          exact rm_lt HM.out
end Go.Proofs.Ytodkflnpcfepfaa
