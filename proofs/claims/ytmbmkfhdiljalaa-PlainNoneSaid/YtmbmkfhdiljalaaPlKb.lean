/- Plain: Commit's words. -/
import Derived.Test.YtmbmkfhdiljalaaPlKa
namespace Go.Proofs.Ytmbmkfhdiljalaa
open Go.RowKit Go.Shelf Go.ChangeShapes Go.WideShapes Go.ChangeAt
set_option linter.unusedVariables false
set_option linter.unusedSimpArgs false

def ClashAt (V : Vs) (start : Int) : Prop := ∃ v, V.vs.getLast? = some v ∧ start < v.at_
def ClashP (D : PDB) (o : PTx) : Prop := ∃ y ∈ o.wr, ClashAt (vsOf D.all y.1) o.start
def ClearYet (D : PDB) (o : PTx) (left : List (Int × Value)) : Prop := ∀ y ∈ o.wr, (∀ q ∈ left, q.1 ≠ y.1) → ¬ ClashAt (vsOf D.all y.1) o.start
def newV (D : PDB) (v : Ver) : Ver := { v with at_ := D.last + 1 }
def laidL (D : PDB) (o : PTx) (left : List (Int × Value)) (j : Int) : List Ver := match lkV o.wr j with
  | some v => if left.any (fun q => decide (q.1 = j)) then [] else [newV D v]
  | none => []
structure CmInv (w : World) (B p ba bo r : Nat) (D : PDB) (o : PTx) (left : List (Int × Value)) (all' : List (Int × Vs)) (wr : World) : Prop where
  rng : Rng wr o.bm r .u64 (wrL o.wr) left
  db : DbAt wr B p ba bo { shutP D o.n with last := D.last + 1, all := all' }
  at_ : ∀ j, (vsOf all' j).vs = (vsOf D.all j).vs ++ laidL D o left j
  only : Only [p, ba, bo] w wr
  kept : Kept D.reads ({ shutP D o.n with last := D.last + 1, all := all' } : PDB).reads w
  nr : r ∉ ({ shutP D o.n with last := D.last + 1, all := all' } : PDB).reads
def CommitTo (B p : Nat) (D : PDB) (o : PTx) (F H : List Nat) (w : World) (e : Ending) (w' : World) : Prop := ∃ F' H', Only F w w' ∧ Kept F F' w ∧ Kept H H' w ∧
  ((ClashP D o ∧ e = .returned (.int .i64 11) ∧ DbF w' B p (shutP D o.n) F' H') ∨
  (¬ ClashP D o ∧ e = .returned (.int .i64 0) ∧ ∃ all', DbF w' B p { shutP D o.n with last := D.last + 1, all := all' } F' H' ∧ ∀ j, (vsOf all' j).vs = (vsOf D.all j).vs ++ (match lkV o.wr j with
    | some v => [{ v with at_ := D.last + 1 }]
    | none => [])))
theorem lkV_of_mem {l : List (Int × Ver)} {x : Int × Ver} (hn : (l.map (·.1)).Nodup) (hx : x ∈ l) : lkV l x.1 = some x.2 := by
  unfold lkV
  cases hf : l.find? fun y => decide (y.1 = x.1) with
  | none =>
    have := List.find?_eq_none.1 hf x hx
    simp at this
  | some y =>
    have hy := List.mem_of_find?_eq_some hf
    have hj : y.1 = x.1 := by simpa using List.find?_some hf
    have := eq_of_map hn hy hx hj
    simp [this]
theorem wr_nodup {w : World} {b : Nat} {l : List (Int × Ver)} (h : MapAt w b .u64 (wrL l)) : (l.map (·.1)).Nodup := by
  have := h.nodup
  unfold wrL at this
  rw [List.map_map] at this
  exact this
theorem laidL_still {D : PDB} {o : PTx} {left : List (Int × Value)} {k : Int} {u : Value} (h : (k, u) ∈ left) : laidL D o left k = [] := by
  unfold laidL
  cases lkV o.wr k with
  | none => rfl
  | some v =>
    have : left.any (fun q => decide (q.1 = k)) = true := List.any_eq_true.2 ⟨_, h, by simp⟩
    simp [this]
theorem laidL_step {D : PDB} {o : PTx} {left : List (Int × Value)} {x : Int × Ver} (hn : (o.wr.map (·.1)).Nodup) (hx : x ∈ o.wr) (j : Int) : laidL D o (rm x.1 left) j = if j = x.1 then [newV D x.2] else laidL D o left j := by
  by_cases hj : j = x.1
  · subst hj
    unfold laidL
    rw [lkV_of_mem hn hx]
    have : (rm x.1 left).any (fun q => decide (q.1 = x.1)) = false := by
      rw [Bool.eq_false_iff]
      intro h
      obtain ⟨q, hq, he⟩ := List.any_eq_true.1 h
      simp [rm] at hq
      simp at he
      exact hq.2 he
    simp [this]
  · rw [if_neg hj]
    unfold laidL
    have : (rm x.1 left).any (fun q => decide (q.1 = j)) = left.any (fun q => decide (q.1 = j)) := by
      rw [Bool.eq_iff_iff]
      simp only [List.any_eq_true, decide_eq_true_eq, rm, List.mem_filter, Bool.not_eq_true', decide_eq_false_iff_not]
      exact ⟨fun ⟨q, h, e⟩ => ⟨q, h.1, e⟩, fun ⟨q, h, e⟩ => ⟨q, ⟨h, fun e' => hj (e.symm.trans e')⟩, e⟩⟩
    rw [this]
theorem laidL_done (D : PDB) (o : PTx) (j : Int) : laidL D o [] j = match lkV o.wr j with
    | some v => [{ v with at_ := D.last + 1 }]
    | none => [] := by
  unfold laidL
  cases lkV o.wr j with
  | none => rfl
  | some v => simp [newV]
end Go.Proofs.Ytmbmkfhdiljalaa
