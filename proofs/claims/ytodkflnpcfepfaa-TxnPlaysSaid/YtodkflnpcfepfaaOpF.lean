/- A slice of structs that came in, its fields one cell each. -/
import Derived.Test.YtodkflnpcfepfaaGen
import Derived.Deep.Fields
import Derived.Deep.Slices
import Derived.OpenShut
namespace Go.Proofs.Ytodkflnpcfepfaa
open Go.RowKit Go.ChangeShapes Go.WideShapes Go.ChangeAt Go.Deep Go.Joins
set_option linter.unusedVariables false
set_option linter.unusedSimpArgs false

section
variable {H : Type} {enc : TypeId × Value → H} {P : Program} {w : World} {base : Nat} {spare : Nat → Bool} {held : Bool}
/-- A slice of structs of one-cell fields: what each field of each element holds. -/
theorem open_slice_fields {t e : TypeId} {fs : Array Field} {fuel : Nat} {cs : List Value} {x : DataW H × List MemPlace} (ht : P.underlying t = some (.slice e)) (he : P.underlying e = some (.struct fs))
    (hone : oneCellFields P fs = true) (ce : P.cellsOf e = fs.size) (h : DataW.trod enc P w base spare held fuel t cs = some x) :
    cs = [.slice none 0 0] ∨
    ∃ (a : Addr) (len cap m n : Nat) (V : Nat → Nat → Value), cs = [.slice (some a) len cap] ∧ len ≤ cap ∧ cap ≤ maxLen ∧ m = (if spare a.block then cap else len) ∧
      ∀ i, i < m → ∀ (j : Nat) (f : Field), fs[j]? = some f → w.cell? (a.add (i * fs.size + j)) = some (V i j) ∧ ∃ y, DataW.trod enc P w base spare held n f.type [V i j] = some y := by
  rcases open_slice ht h with ⟨h0, _⟩ | ⟨a, len, cap, m, n, D, Pl, rfl, hb, hl, hm, hmm, rfl, hx⟩
  · exact .inl h0
  right
  have each : ∀ i, i < m → ∃ v : Nat → Value, ∀ (j : Nat) (f : Field), fs[j]? = some f → w.cell? (a.add (i * fs.size + j)) = some (v j) ∧ ∃ y, DataW.trod enc P w base spare held (n - 1) f.type [v j] = some y := by
    intro i hi
    obtain ⟨cs', h1, h2⟩ := hx i hi
    rw [ce] at h1
    obtain ⟨_, hlen, hcell⟩ := World.cells?_some h1
    obtain ⟨xs, k, hk, hxy, _, hxl, hf⟩ := DataW.trod_struct he h2
    have hk' : k = n - 1 := by omega
    subst hk'
    refine ⟨fun j => cs'.getD j undef, fun j f hj => ?_⟩
    obtain ⟨ho, hc⟩ := hone_of hone j f hj
    have hlt : j < fs.size := (Array.getElem?_eq_some_iff.1 hj).1
    have g := hf j f hj
    rw [ho, hc, take1_drop _ _ undef (by omega)] at g
    have e := hcell j (by omega)
    rw [add_add] at e
    refine ⟨?_, xs[j]'(by omega), ?_⟩
    · show _ = some (cs'.getD j undef)
      rw [e, List.getD_eq_getElem?_getD, List.getElem?_eq_getElem (by omega)]; rfl
    · rw [g, List.getElem?_eq_getElem (by omega)]
  obtain ⟨q, hq⟩ := choose_lt each
  exact ⟨a, len, cap, m, n - 1, q, rfl, hl, hm, hmm, hq⟩
end

end Go.Proofs.Ytodkflnpcfepfaa
