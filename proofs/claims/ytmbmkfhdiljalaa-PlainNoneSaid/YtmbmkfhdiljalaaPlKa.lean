/- Plain: a version behind a full row. -/
import Derived.Test.YtmbmkfhdiljalaaPlJ
import Derived.ArgAppend
namespace Go.Proofs.Ytmbmkfhdiljalaa
open Go.RowKit Go.Shelf Go.ChangeShapes Go.WideShapes Go.ChangeAt
set_option linter.unusedVariables false
set_option linter.unusedSimpArgs false
def cut1 (V : Vs) : Value := .slice V.a V.vs.length V.vs.length
theorem clip_on {w : World} {V : Vs} (h : VsAt w V) (hl : V.vs.length ≤ 1000000) : Calls Try.prog 29 #[V.v] w fun e w' => e = .returned (cut1 V) ∧ w' = w := by
  have hc := h.cap
  have hs := h.src
  unfold Vs.v cut1 at *
  obtain ⟨m, hm⟩ : ∃ m, V.vs.length = m := ⟨_, rfl⟩
  rw [hm] at hc hl hs ⊢
  have HS := Lib.hid hs
  have HM := Lib.hid hm
  clear hs hm
  cases ha : V.a with
  | none =>
    go_enter Try.func29, Try.ntmps29
    go_wp2_with fail
    go_ret
    exact ⟨rfl, rfl⟩
  | some ad =>
    go_enter Try.func29, Try.ntmps29
    go_wp2_with fail
    go_ret
    exact ⟨rfl, rfl⟩
theorem Vs.of_own {w : World} {B n : Nat} {v : Value} {vs : List Ver} (h : w.ownsRow B tVr 5 v n (verL vs)) (hn : vs.length = n) (he : ∀ u ∈ vs, VerAt w u) : ∃ V : Vs, v = V.v ∧ V.vs = vs ∧ VsAt w V ∧ ∀ ad, V.a = some ad → B ≤ ad.block := by
  have hlt := h.lt
  rcases h.2 with ⟨rfl, h0⟩ | ⟨g, cap, cur, rfl, hb, hg, hnc, hcm, hcs, htake⟩
  · have hx : vs = [] := List.length_eq_zero_iff.1 (by omega)
    subst hx
    exact ⟨Vs.no, rfl, rfl, VsAt.no w, by simp [Vs.no]⟩
  · have hcell : ∀ j u, (verL vs)[j]? = some u → w.cell? ⟨g, 0 + j, none⟩ = some u := fun j u hj => by
      have hj' := (List.getElem?_eq_some_iff.1 hj).1
      rw [verL_len] at hj'
      rw [Nat.zero_add, h.cellAt j (by omega), hj]
    refine ⟨⟨some ⟨g, 0, none⟩, cap, vs⟩, by simp [Vs.v, hn], rfl, ⟨.inr ⟨⟨g, 0, none⟩, cap, rfl, by rw [verL_len], fun j u hj => by rw [add_plain]; exact hcell j u hj⟩, fun ad ha => ?_, he, ⟨by simp; omega, hcm⟩, fun ad ha => by cases ha; rfl⟩, fun ad ha => ?_⟩
    · cases ha; exact (hlt _ rfl).2
    · cases ha; exact (hlt _ rfl).1
theorem infoVer : (Try.prog.info? tVr).map (fun i => (i.zero, i.size, i.bytes)) = some (some (.agg #[.int .u64 0, .bool false, .int .u64 0, .slice none 0 0, .slice none 0 0]), 5, 72) := by kernel_rfl
theorem vs_append {w : World} {V : Vs} {u : Ver} {b : Nat} (h : VsAt w V) (hl : V.vs.length ≤ 1000000) (hu : VerAt w u) (hb : Row w b u.cells.toArray tVr) :
    ∃ (V' : Vs) (w' : World), (Builtin.append_ #[tVrs, tVrs] tVrs #[cut1 V, .slice (some ⟨b, 0, none⟩) 1 1]).run Try.prog w = .ok V'.v w' ∧ V'.vs = V.vs ++ [u] ∧ VsAt w' V' ∧ (∀ ad, V'.a = some ad → w.heap.size ≤ ad.block) ∧ Only [] w w' := by
  obtain ⟨i0, hi, hz0, hz1, hz2⟩ := info_parts infoVer
  have hnews : ∀ j x, u.cells[j]? = some x → w.cell? ((⟨b, 0, none⟩ : Addr).add j) = some x := fun j x hj => by
    rw [add_plain, Nat.zero_add, hb.cell j]
    simpa using hj
  have hnl : u.cells.length = 1 * 5 := by simp [Ver.cells]
  have fin : ∀ (v' : Value) (w' : World), w'.ownsRow w.heap.size tVr 5 v' (V.vs.length + 1) (verL V.vs ++ u.cells) → Only [] w w' → ∃ V' : Vs, v' = V'.v ∧ V'.vs = V.vs ++ [u] ∧ VsAt w' V' ∧ ∀ ad, V'.a = some ad → w.heap.size ≤ ad.block := fun v' w' ho k => by
    have e : verL V.vs ++ u.cells = verL (V.vs ++ [u]) := by rw [verL_append]; simp [verL]
    rw [e] at ho
    refine Vs.of_own ho (by simp) fun x hx => ?_
    rcases List.mem_append.1 hx with hx | hx
    · exact (h.each x hx).only k (by simp)
    · simp only [List.mem_singleton] at hx
      subst hx
      exact hu.only k (by simp)
  rcases h.src with h1 | ⟨ad, c, e, hlen, hc⟩
  · have hv : cut1 V = .slice none 0 0 := by
      obtain ⟨h1, h2, _⟩ := h1
      unfold Vs.v at h1
      unfold cut1
      simp only [Value.slice.injEq] at h1
      rw [h1.1, h1.2.1]
    have hvs : V.vs = [] := List.length_eq_zero_iff.1 (by have := h1.2.1; omega)
    obtain ⟨v', w', hrun, ho, hg, _⟩ := append_own_at (P := Try.prog) w w.heap.size tVrs tVrs tVr i0 _ 5 72 Try.underlying75 hi hz0 hz1 hz2 (by decide) (by omega) (.slice none 0 0) 0 [] (World.ownsRow_nil _ _ _ _) ⟨b, 0, none⟩ 1 1 u.cells hnl hnews (by simp [Ver.cells, Sl.v, Value.oneCell']) (by unfold maxLen; omega) (by omega) (Nat.le_refl _)
    have k : Only [] w w' := ⟨hg.os, hg.tape, hg.output, hg.size, fun i hi hn => hg.block i hi (by simp [Value.ownBlock])⟩
    obtain ⟨V', rfl, a1, a2, a3⟩ := fin v' w' (by rw [hvs]; exact ho) k
    exact ⟨V', w', by rw [hv]; exact hrun, a1, a2, a3, k⟩
  · have hv : cut1 V = .slice (some ad) V.vs.length V.vs.length := by
      unfold Vs.v at e
      unfold cut1
      simp only [Value.slice.injEq] at e
      rw [e.1]
    obtain ⟨v', w', hrun, ho, hg⟩ := run_append_arg_grows (P := Try.prog) w tVrs tVrs tVr i0 _ 5 72 Try.underlying75 hi hz0 hz1 hz2 (by decide) (by omega) ad V.vs.length V.vs.length (verL V.vs) (verL_len _) hc ⟨b, 0, none⟩ 1 1 u.cells hnl hnews (by omega) (by unfold maxLen; omega) (by omega)
    have k : Only [] w w' := ⟨hg.os, hg.tape, hg.output, hg.size, fun i hi hn => hg.block i hi (by simp)⟩
    obtain ⟨V', rfl, a1, a2, a3⟩ := fin v' w' ho k
    exact ⟨V', w', by rw [hv]; exact hrun, a1, a2, a3, k⟩
end Go.Proofs.Ytmbmkfhdiljalaa
