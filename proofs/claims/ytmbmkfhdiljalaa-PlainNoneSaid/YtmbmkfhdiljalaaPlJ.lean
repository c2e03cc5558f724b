/- Plain: a transaction shut, a version laid; Abort. -/
import Derived.Test.YtmbmkfhdiljalaaPlI
namespace Go.Proofs.Ytmbmkfhdiljalaa
open Go.RowKit Go.Shelf
set_option linter.unusedVariables false
set_option linter.unusedSimpArgs false

def shutP (D : PDB) (n : Int) : PDB := { D with op := D.op.filter fun o => !decide (o.n = n) }
theorem rm_pxL (n : Int) (l : List PTx) : rm n (pxL l) = pxL (l.filter fun o => !decide (o.n = n)) := by
  unfold rm pxL
  rw [List.filter_map]
  rfl
theorem DbAt.shut {w w' : World} {B p ba bo : Nat} {D : PDB} (h : DbAt w B p ba bo D) (n : Int) (k : Only [bo] w w') (hm : MapAt w' bo .u64 (rm n (pxL D.op))) :
    DbAt w' B p ba bo (shutP D n) ∧ (∀ b ∈ (shutP D n).own p ba bo, b ∈ D.own p ba bo) ∧ (∀ b ∈ (shutP D n).reads, b ∈ D.reads) := by
  obtain ⟨a1, a2, a3, a4⟩ := own_apart h.nd
  have hbo : bo ∈ D.own p ba bo := by simp [PDB.own]
  have k1 : ∀ b, b ∈ D.reads → b ∉ [bo] := fun b hb => by simp; rintro rfl; exact h.ap _ hbo hb
  have hsub : List.Sublist (shutP D n).op D.op := List.filter_sublist
  have hpx : List.Sublist (pxB (shutP D n).op) (pxB D.op) := by
    unfold pxB shutP
    simp only
    generalize D.op = l
    induction l with
    | nil => simp
    | cons x l ih =>
      rw [List.filter_cons]
      split
      · simp only [List.flatMap_cons]
        exact List.Sublist.append (List.Sublist.refl _) ih
      · simp only [List.flatMap_cons]
        exact ih.trans (List.sublist_append_right _ _)
  have hown : List.Sublist ((shutP D n).own p ba bo) (D.own p ba bo) := by
    unfold PDB.own
    exact ((hpx.cons_cons _).cons_cons _).cons_cons _
  have hrd : ∀ b ∈ (shutP D n).reads, b ∈ D.reads := by
    intro b hb
    rcases List.mem_append.1 hb with hb | hb
    · exact List.mem_append_left _ hb
    · obtain ⟨x, hx, hb⟩ := List.mem_flatMap.1 hb
      exact List.mem_append_right _ (List.mem_flatMap.2 ⟨x, hsub.subset hx, hb⟩)
  refine ⟨⟨h.row.only k (by simp; exact a2), h.am.only k (by simp; exact a3), by unfold shutP; simp only; rw [← rm_pxL]; exact hm, ?_, ?_, ?_, h.nd.sublist hown, fun b hb => h.ge b (hown.subset hb), fun b hb => h.gr b (hrd b hb), fun b hb hr => h.ap b (hown.subset hb) (hrd b hr), ⟨h.fine.dim, h.fine.begun, h.fine.last, fun o ho => h.fine.ops o (hsub.subset ho)⟩⟩, fun b hb => hown.subset hb, hrd⟩
  · intro x hx
    have hx := hsub.subset hx
    exact ⟨(h.oa x hx).1.only k (by simp; exact (a4 _ (mem_pxB hx).1).2.2), (h.oa x hx).2.only k (by simp; exact (a4 _ (mem_pxB hx).2).2.2)⟩
  · exact fun x (hx : x ∈ D.all) => (h.vsd x hx).only k fun b hb => k1 b (mem_reads1 hx hb)
  · intro x hx y hy
    have hx := hsub.subset hx
    exact (h.wrd x hx y hy).only k fun b hb => k1 b (mem_reads2 hx hy hb)
def upS (k : Int) (V : Vs) : List (Int × Vs) → List (Int × Vs)
  | [] => [(k, V)]
  | x :: l => if k = x.1 then (k, V) :: l else x :: upS k V l
theorem up_vsL (k : Int) (V : Vs) : ∀ l, up k V.v (vsL l) = vsL (upS k V l)
  | [] => rfl
  | x :: l => by
    have ih := up_vsL k V l
    unfold vsL at ih ⊢
    simp only [List.map_cons, up, upS]
    by_cases h : k = x.1
    · rw [if_pos h, if_pos h]; simp [h]
    · rw [if_neg h, if_neg h, ih]; rfl
theorem mem_upS {k : Int} {V : Vs} {y : Int × Vs} : ∀ {l}, y ∈ upS k V l → y = (k, V) ∨ y ∈ l
  | [], h => .inl (by simpa [upS] using h)
  | x :: l, h => by
    unfold upS at h
    split at h
    · rcases List.mem_cons.1 h with h | h
      · exact .inl h
      · exact .inr (List.mem_cons_of_mem _ h)
    · rcases List.mem_cons.1 h with h | h
      · exact .inr (by rw [h]; exact List.mem_cons_self ..)
      · rcases mem_upS h with h | h
        · exact .inl h
        · exact .inr (List.mem_cons_of_mem _ h)
theorem vsOf_cons (x : Int × Vs) (l : List (Int × Vs)) (j : Int) : vsOf (x :: l) j = if x.1 = j then x.2 else vsOf l j := by
  unfold vsOf
  rw [List.find?_cons]
  by_cases h : x.1 = j <;> simp [h]
theorem vsOf_up (k : Int) (V : Vs) (j : Int) : ∀ l, vsOf (upS k V l) j = if j = k then V else vsOf l j
  | [] => by
    unfold upS
    rw [vsOf_cons]
    by_cases h : j = k
    · simp [h]
    · rw [if_neg (fun e => h e.symm), if_neg h]
  | x :: l => by
    have ih := vsOf_up k V j l
    unfold upS
    by_cases hk : k = x.1
    · rw [if_pos hk, vsOf_cons, vsOf_cons]
      by_cases h : j = k
      · simp [h]
      · rw [if_neg h, if_neg (fun e => h e.symm), if_neg (fun e => h (by rw [hk, e]))]
    · rw [if_neg hk, vsOf_cons, vsOf_cons, ih]
      by_cases h : j = k
      · subst h
        rw [if_neg (fun e => hk e.symm), if_pos rfl, if_pos rfl]
      · rw [if_neg h, if_neg h]
def laidP (D : PDB) (k : Int) (V : Vs) : PDB := { D with all := upS k V D.all }
theorem DbAt.laid {w w' : World} {B p ba bo : Nat} {D : PDB} {key : Int} {V : Vs} (h : DbAt w B p ba bo D) (k : Only [ba] w w') (hm : MapAt w' ba .u64 (up key V.v (vsL D.all))) (hv : VsAt w' V) (hB : ∀ b ∈ V.bs, B ≤ b) (hap : ∀ b ∈ V.bs, b ∉ D.own p ba bo) :
    DbAt w' B p ba bo (laidP D key V) ∧ ∀ b ∈ (laidP D key V).reads, b ∈ D.reads ∨ b ∈ V.bs := by
  obtain ⟨a1, a2, a3, a4⟩ := own_apart h.nd
  have hba : ba ∈ D.own p ba bo := by simp [PDB.own]
  have k1 : ∀ b, b ∈ D.reads → b ∉ [ba] := fun b hb => by simp; rintro rfl; exact h.ap _ hba hb
  have hrd : ∀ b ∈ (laidP D key V).reads, b ∈ D.reads ∨ b ∈ V.bs := by
    intro b hb
    rcases List.mem_append.1 hb with hb | hb
    · obtain ⟨x, hx, hb⟩ := List.mem_flatMap.1 hb
      rcases mem_upS hx with rfl | hx
      · exact .inr hb
      · exact .inl (mem_reads1 hx hb)
    · exact .inl (List.mem_append_right _ hb)
  refine ⟨⟨h.row.only k (by simp; exact a1), by rw [up_vsL] at hm; exact hm, h.om.only k (by simp; exact fun e => a3 e.symm), ?_, ?_, ?_, h.nd, h.ge, ?_, ?_, ⟨h.fine.dim, h.fine.begun, h.fine.last, h.fine.ops⟩⟩, hrd⟩
  · intro x hx
    exact ⟨(h.oa x hx).1.only k (by simp; exact (a4 _ (mem_pxB hx).1).2.1), (h.oa x hx).2.only k (by simp; exact (a4 _ (mem_pxB hx).2).2.1)⟩
  · intro x hx
    rcases mem_upS hx with rfl | hx
    · exact hv
    · exact (h.vsd x hx).only k fun b hb => k1 b (mem_reads1 hx hb)
  · exact fun x (hx : x ∈ D.op) y hy => (h.wrd x hx y hy).only k fun b hb => k1 b (mem_reads2 hx hy hb)
  · intro b hb
    rcases hrd b hb with hb | hb
    · exact h.gr b hb
    · exact hB b hb
  · intro b hb hr
    rcases hrd b hr with hr | hr
    · exact h.ap b hb hr
    · exact hap b hr hb
end Go.Proofs.Ytmbmkfhdiljalaa
