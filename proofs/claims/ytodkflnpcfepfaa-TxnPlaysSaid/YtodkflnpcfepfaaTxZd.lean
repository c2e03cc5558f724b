/- The document's manager: Commit's stores. -/
import Derived.Test.YtodkflnpcfepfaaTxZb
namespace Go.Proofs.Ytodkflnpcfepfaa
open Go.RowKit Go.ChangeShapes Go.WideShapes Go.ChangeAt
set_option linter.unusedVariables false
set_option linter.unusedSimpArgs false

theorem RfAt.lastUp {w : World} {B p : Nat} {av : Value} {R : Rf} (h : RfAt w B p av R) (hl : R.last < 1000) :
    RfAt (w.setCell ⟨p, 2, none⟩ (.int .u64 (R.last + 1))) B p av { R with last := R.last + 1 } ∧ Only [p] w (w.setCell ⟨p, 2, none⟩ (.int .u64 (R.last + 1))) := by
  have k : Only [p] w (w.setCell ⟨p, 2, none⟩ (.int .u64 (R.last + 1))) := (Only.refl _ _).setCell (by simp) _
  have hnd := h.nd
  simp only [Rf.blocks, List.nodup_cons, List.mem_append, not_or] at hnd
  obtain ⟨⟨n1, n2⟩, n3⟩ := hnd
  refine ⟨⟨?_, ?_, ?_, h.nd, h.ge, ?_⟩, k⟩
  · have := h.row.set 2 (.int .u64 (R.last + 1))
    simpa using this
  · exact own_keep h.own fun g hg => k.block g (h.own.lt g hg).2 (by simp only [List.mem_singleton]; rintro rfl; exact n1 (by simp [hg]))
  · intro y hy
    exact own_keep (h.keys y hy) fun g hg => k.block g ((h.keys y hy).lt g hg).2 (by simp only [List.mem_singleton]; rintro rfl; exact n2 (mem_keyB hy hg))
  · exact ⟨h.fine.ep0, ⟨by have := h.fine.last0; simp; omega, by simp; omega⟩, h.fine.len, fun y hy => by have := h.fine.each y hy; simp; omega⟩
end Go.Proofs.Ytodkflnpcfepfaa
