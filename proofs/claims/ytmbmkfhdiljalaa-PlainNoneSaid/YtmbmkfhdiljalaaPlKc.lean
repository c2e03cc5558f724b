/- Plain: a round of Commit. -/
import Derived.Test.YtmbmkfhdiljalaaPlKb
namespace Go.Proofs.Ytmbmkfhdiljalaa
open Go.RowKit Go.Shelf Go.ChangeShapes Go.WideShapes Go.ChangeAt
set_option linter.unusedVariables false
set_option linter.unusedSimpArgs false
theorem CmInv.step {w wr w8 wf : World} {B p ba bo r : Nat} {D : PDB} {o : PTx} {left : List (Int × Value)} {all' : List (Int × Vs)} {x : Int × Ver} {V' : Vs} (h0 : DbAt w B p ba bo D) (hB : B ≤ w.heap.size) (ho : o ∈ D.op) (hx : x ∈ o.wr) (hr : w.heap.size ≤ r)
    (h : CmInv w B p ba bo r D o left all' wr) (hm : (x.1, x.2.val) ∈ left) (k8 : Only [r] wr w8) (hR : Rng w8 o.bm r .u64 (wrL o.wr) (rm x.1 left))
    (hV : V'.vs = (vsOf all' x.1).vs ++ [newV D x.2]) (hVa : VsAt w8 V') (hVb : ∀ ad, V'.a = some ad → r < ad.block) (kf : Only [ba] w8 wf) (hS : MapAt wf ba .u64 (up x.1 V'.v (vsL all'))) :
    CmInv w B p ba bo r D o (rm x.1 left) (upS x.1 V' all') wf := by
  have hown : ∀ b, (b = p ∨ b = ba ∨ b = bo) → b ∈ D.own p ba bo := by rintro b (rfl | rfl | rfl) <;> simp [PDB.own]
  have hltr := h0.lt
  have hbs : ∀ b ∈ V'.bs, r < b ∨ b ∈ ({ shutP D o.n with last := D.last + 1, all := all' } : PDB).reads ∨ b ∈ x.2.bs := by
    intro b hb
    rcases List.mem_append.1 hb with hb | hb
    · cases ha : V'.a with
      | none => rw [ha] at hb; simp at hb
      | some ad => rw [ha] at hb; simp at hb; subst hb; exact .inl (hVb ad ha)
    · obtain ⟨v, hv, hb⟩ := List.mem_flatMap.1 hb
      rw [hV] at hv
      rcases List.mem_append.1 hv with hv | hv
      · refine .inr (.inl ?_)
        unfold vsOf at hv
        cases hf : all'.find? fun y => decide (y.1 = x.1) with
        | none => rw [hf] at hv; simp [Vs.no] at hv
        | some y =>
          rw [hf] at hv
          exact List.mem_append_left _ (List.mem_flatMap.2 ⟨y, List.mem_of_find?_eq_some hf, List.mem_append_right _ (List.mem_flatMap.2 ⟨v, hv, hb⟩)⟩)
      · simp only [List.mem_singleton] at hv
        subst hv
        exact .inr (.inr hb)
  have hxr : ∀ b ∈ x.2.bs, b ∈ D.reads := fun b hb => mem_reads2 ho hx hb
  have hro : r ∉ D.own p ba bo := fun hh => by have := hltr r hh; omega
  have hsub : ∀ b, b ∈ ({ shutP D o.n with last := D.last + 1, all := all' } : PDB).own p ba bo → b ∈ D.own p ba bo := by
    intro b hb
    simp only [PDB.own, List.mem_cons] at hb ⊢
    rcases hb with hb | hb | hb | hb
    · exact .inl hb
    · exact .inr (.inl hb)
    · exact .inr (.inr (.inl hb))
    · refine .inr (.inr (.inr ?_))
      obtain ⟨y, hy, hb⟩ := List.mem_flatMap.1 hb
      exact List.mem_flatMap.2 ⟨y, (List.mem_filter.1 hy).1, hb⟩
  have hap : ∀ b ∈ V'.bs, b ∉ D.own p ba bo ∧ B ≤ b ∧ b ≠ r ∧ (b ∈ D.reads ∨ w.heap.size ≤ b) := by
    intro b hb
    rcases hbs b hb with hb | hb | hb
    · exact ⟨fun hh => by have := hltr b hh; omega, by omega, by omega, .inr (by omega)⟩
    · refine ⟨fun hh => ?_, h.db.gr b hb, fun e => h.nr (e ▸ hb), h.kept b hb⟩
      rcases h.kept b hb with h1 | h1
      · exact h0.ap b hh h1
      · have := hltr b hh; omega
    · have h1 := hxr b hb
      exact ⟨fun hh => h0.ap b hh h1, h0.gr b h1, fun e => by have := h0.ltr b h1; omega, .inl h1⟩
  have d8 := h.db.only k8 (by intro b hb; simp at hb; subst hb; exact ⟨fun hh => hro (hsub _ hh), h.nr⟩)
  have hba := hown ba (.inr (.inl rfl))
  obtain ⟨l1, l2⟩ := d8.laid (key := x.1) (V := V') kf hS (hVa.only kf (by intro b hb; simp; rintro rfl; exact (hap b hb).1 hba)) (fun b hb => (hap b hb).2.1) (fun b hb hh => (hap b hb).1 (hsub _ hh))
  have obm : o.bm ≠ ba := ((own_apart h0.nd).2.2.2 _ (mem_pxB ho).2).2.1
  have wn : (o.wr.map (·.1)).Nodup := wr_nodup (h0.oa o ho).2
  refine ⟨hR.only kf (by simpa using obm) (by simp; rintro rfl; exact hro hba), l1, fun j => ?_, (h.only.trans k8 (by intro i hi; simp at hi; subst hi; exact .inr hr)).trans kf (by intro i hi; simp at hi; subst hi; exact .inl (by simp)), fun b hb => ?_, fun hb => ?_⟩
  · rw [vsOf_up, laidL_step wn hx]
    by_cases hj : j = x.1
    · subst hj
      rw [if_pos rfl, if_pos rfl, hV, h.at_, laidL_still hm]; simp
    · rw [if_neg hj, if_neg hj, h.at_]
  · rcases l2 b hb with hb | hb
    · exact h.kept b hb
    · exact (hap b hb).2.2.2
  · rcases l2 r hb with hb | hb
    · exact h.nr hb
    · exact (hap r hb).2.2.1 rfl
end Go.Proofs.Ytmbmkfhdiljalaa
