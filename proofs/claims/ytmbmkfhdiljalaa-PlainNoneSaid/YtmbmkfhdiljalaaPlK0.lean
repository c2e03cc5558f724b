/- Plain: ranges over maps: what is left. -/
import Derived.Test.YtmbmkfhdiljalaaPlKc
namespace Go.Proofs.Ytmbmkfhdiljalaa
open Go.RowKit Go.Shelf Go.ChangeShapes Go.WideShapes Go.ChangeAt
set_option linter.unusedVariables false
set_option linter.unusedSimpArgs false

theorem wpList_look_to {P : Program} {w : World} {ops : Array Oper} {rest : List Oper} {o : Oper} {a : Act} {Q : Exit → Act → World → Prop} (hg : o.guard = none) (m x : Operand) (t : TypeId) (hop : o.op = Op.lookup t m x false) (kt et : TypeId) (q : IntKind) (ht : P.underlying t = some (.map kt et)) (hk : P.underlying kt = some (.int q)) (z : Value) (hz : ∀ w, (zeroValue et).run P w = .ok z w)
    (b : Nat) (L : List (Int × Value)) (hm : a.eval m = .map (some b)) (hown : MapAt w b q L) (key : Int) (hx : a.eval x = .int q key) (val : Value) (hv : (lk key L).getD z = val)
    (hK : wpList P ops Q rest (a.put o.dst val) w) : wpList P ops Q (o :: rest) a w :=
  wpList_look_at w hg m x t false hop kt et q ht hk z hz b L hm hown key hx (by rw [if_neg (by simp), hv]; exact hK)
theorem Rng.left_eq {w : World} {b r : Nat} {q : IntKind} {L left : List (Int × Value)} (h : Rng w b r q L left) : w.rangeLeft b r = left.length := by
  obtain ⟨es, clock, since, seen, c0, hb, _, _, hr, _, _, _, hl⟩ := h
  simp only [World.rangeLeft, hb, hr]
  have := congrArg List.length hl
  simpa using this
theorem mem_rm {k : Int} {L : List (Int × Value)} {p : Int × Value} : p ∈ rm k L ↔ p ∈ L ∧ p.1 ≠ k := by simp [rm]
theorem rm_lt {k : Int} {v : Value} : ∀ {L : List (Int × Value)}, (k, v) ∈ L → (rm k L).length < L.length := by
  intro L h
  unfold rm
  have h1 : (k, v) ∉ L.filter fun p => !decide (p.1 = k) := by simp
  rcases Nat.lt_or_ge (L.filter fun p => !decide (p.1 = k)).length L.length with g | g
  · exact g
  · have := List.filter_eq_self.1 ((List.filter_sublist (l := L) (p := fun p => !decide (p.1 = k))).eq_of_length_le g) (k, v) h
    simp at this
end Go.Proofs.Ytmbmkfhdiljalaa
