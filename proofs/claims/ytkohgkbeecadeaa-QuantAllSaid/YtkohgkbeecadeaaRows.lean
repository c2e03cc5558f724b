/-
  No cell of these rows narrows 'for every input' (looked for: loops, veiled, ifaces, maps, wideKeys, modest, calm, conditions, laid).
  DERIVED. THE GIVEN ROWS OF THIS SEAT. 6 by the template 'for every input the law returns true; each argument reads behind the call as it read before'; 0 by the template 'total and deterministic' (their statements: YtkohgkbeecadeaaTotals.lean).
  GIVEN WITH THE SEED: the statements are not yours to turn. If you find one false, say at which input.
  Laid BY PROGRAM, IN A SANDBOX (cutbox-rows.mjs): the forced cells as the released guide's own fill.sh prints them over the translation b2407b4bf09ef826… (all of the seat's roots in one cut). By AI agents, Wed Nov 11 2026. No macro, syntax, notation, axiom, sorry.
-/
import Derived.Test.YtkohgkbeecadeaaChecked
import GoSem.Claim
import GoSem.ClaimJoined
import GoSem.ClaimMapViews
import Derived.JoinedTies
import Derived.KernelRfl
namespace Go.Proofs.Ytkohgkbeecadeaa
/- THE CELL 'sum', in the pinned program and in every row, IS THE sha256 OF THE DUMP (.gsa) THAT YtkohgkbeecadeaaProg.lean LOADS. Nothing in Lean hashes anything: it is a label: what it is worth is what the hold of that sum in a sandbox is worth. -/
noncomputable def Try.pinned : Pinned := { name := "ytkohgkbeecadeaa", sum := "b2407b4bf09ef826f90e5e548c644831162fb690547e1215606c5c1701fd17ae", checked := Try.checked }
namespace Rows
def none {H : Type} : Left H := { results := [], args := [] }

/-- 'vicinagelaw03.QuantTells': WHATEVER THE INPUT: true; the input reads as it did. -/
def quantTellsSpec : ChangeSpec := { name := "quantTells", fn := fun _ => fun
  | [d1, d2] => { results := [.lit (.bool true)], args := [d1, d2] }
  | _ => none }
def quantTellsRow : OpenClaim := { program := "ytkohgkbeecadeaa", sum := "b2407b4bf09ef826f90e5e548c644831162fb690547e1215606c5c1701fd17ae", func := "vicinage/vicinagelaw03.QuantTells", spec := "quantTells", inPlace := ["math.Float64frombits", "math.Float64bits", "math.RoundToEven"], apart := false }
def QuantTellsSaid : Prop := quantTellsRow.holds Try.pinned (OpenSpec.ofChange quantTellsSpec)

/-- ITS FALSE NEIGHBOUR: 'it returns false'. Refute it at one input. -/
def quantTellsWrong : ChangeSpec := { name := "quantTells", fn := fun _ => fun
  | [d1, d2] => { results := [.lit (.bool false)], args := [d1, d2] }
  | _ => none }
def QuantTellsWrongFalsely : Prop := quantTellsRow.holds Try.pinned (OpenSpec.ofChange quantTellsWrong)

/-- 'vicinagelaw03.QuantBack': WHATEVER THE INPUT: true; the input reads as it did. -/
def quantBackSpec : ChangeSpec := { name := "quantBack", fn := fun _ => fun
  | [d1, d2] => { results := [.lit (.bool true)], args := [d1, d2] }
  | _ => none }
def quantBackRow : OpenClaim := { program := "ytkohgkbeecadeaa", sum := "b2407b4bf09ef826f90e5e548c644831162fb690547e1215606c5c1701fd17ae", func := "vicinage/vicinagelaw03.QuantBack", spec := "quantBack", inPlace := ["math.Float64bits", "math.Float64frombits", "math.RoundToEven"], apart := false }
def QuantBackSaid : Prop := quantBackRow.holds Try.pinned (OpenSpec.ofChange quantBackSpec)

/-- ITS FALSE NEIGHBOUR: 'it returns false'. Refute it at one input. -/
def quantBackWrong : ChangeSpec := { name := "quantBack", fn := fun _ => fun
  | [d1, d2] => { results := [.lit (.bool false)], args := [d1, d2] }
  | _ => none }
def QuantBackWrongFalsely : Prop := quantBackRow.holds Try.pinned (OpenSpec.ofChange quantBackWrong)

/-- 'vicinagelaw03.QuantSteps': WHATEVER THE INPUT: true; the input reads as it did. -/
def quantStepsSpec : ChangeSpec := { name := "quantSteps", fn := fun _ => fun
  | [d1, d2, d3] => { results := [.lit (.bool true)], args := [d1, d2, d3] }
  | _ => none }
def quantStepsRow : OpenClaim := { program := "ytkohgkbeecadeaa", sum := "b2407b4bf09ef826f90e5e548c644831162fb690547e1215606c5c1701fd17ae", func := "vicinage/vicinagelaw03.QuantSteps", spec := "quantSteps", inPlace := ["math.Float64bits", "math.Float64frombits", "math.RoundToEven"], apart := false }
def QuantStepsSaid : Prop := quantStepsRow.holds Try.pinned (OpenSpec.ofChange quantStepsSpec)

/-- ITS FALSE NEIGHBOUR: 'it returns false'. Refute it at one input. -/
def quantStepsWrong : ChangeSpec := { name := "quantSteps", fn := fun _ => fun
  | [d1, d2, d3] => { results := [.lit (.bool false)], args := [d1, d2, d3] }
  | _ => none }
def QuantStepsWrongFalsely : Prop := quantStepsRow.holds Try.pinned (OpenSpec.ofChange quantStepsWrong)

/-- 'vicinagelaw03.QuantAll': WHATEVER THE INPUT: true; the input reads as it did. -/
def quantAllSpec : ChangeSpec := { name := "quantAll", fn := fun _ => fun
  | [d1, d2] => { results := [.lit (.bool true)], args := [d1, d2] }
  | _ => none }
def quantAllRow : OpenClaim := { program := "ytkohgkbeecadeaa", sum := "b2407b4bf09ef826f90e5e548c644831162fb690547e1215606c5c1701fd17ae", func := "vicinage/vicinagelaw03.QuantAll", spec := "quantAll", inPlace := ["math.Float64frombits", "math.Float64bits", "math.RoundToEven"], apart := false }
def QuantAllSaid : Prop := quantAllRow.holds Try.pinned (OpenSpec.ofChange quantAllSpec)

/-- ITS FALSE NEIGHBOUR: 'it returns false'. Refute it at one input. -/
def quantAllWrong : ChangeSpec := { name := "quantAll", fn := fun _ => fun
  | [d1, d2] => { results := [.lit (.bool false)], args := [d1, d2] }
  | _ => none }
def QuantAllWrongFalsely : Prop := quantAllRow.holds Try.pinned (OpenSpec.ofChange quantAllWrong)

/-- 'vicinagelaw03.QuantRises': WHATEVER THE INPUT: true; the input reads as it did. -/
def quantRisesSpec : ChangeSpec := { name := "quantRises", fn := fun _ => fun
  | [d1, d2, d3] => { results := [.lit (.bool true)], args := [d1, d2, d3] }
  | _ => none }
def quantRisesRow : OpenClaim := { program := "ytkohgkbeecadeaa", sum := "b2407b4bf09ef826f90e5e548c644831162fb690547e1215606c5c1701fd17ae", func := "vicinage/vicinagelaw03.QuantRises", spec := "quantRises", inPlace := ["math.Float64frombits", "math.Float64bits", "math.RoundToEven"], apart := false }
def QuantRisesSaid : Prop := quantRisesRow.holds Try.pinned (OpenSpec.ofChange quantRisesSpec)

/-- ITS FALSE NEIGHBOUR: 'it returns false'. Refute it at one input. -/
def quantRisesWrong : ChangeSpec := { name := "quantRises", fn := fun _ => fun
  | [d1, d2, d3] => { results := [.lit (.bool false)], args := [d1, d2, d3] }
  | _ => none }
def QuantRisesWrongFalsely : Prop := quantRisesRow.holds Try.pinned (OpenSpec.ofChange quantRisesWrong)

/-- 'vicinagelaw03.QuantOrder': WHATEVER THE INPUT: true; the input reads as it did. -/
def quantOrderSpec : ChangeSpec := { name := "quantOrder", fn := fun _ => fun
  | [d1, d2, d3, d4] => { results := [.lit (.bool true)], args := [d1, d2, d3, d4] }
  | _ => none }
def quantOrderRow : OpenClaim := { program := "ytkohgkbeecadeaa", sum := "b2407b4bf09ef826f90e5e548c644831162fb690547e1215606c5c1701fd17ae", func := "vicinage/vicinagelaw03.QuantOrder", spec := "quantOrder", inPlace := ["math.Float64frombits", "math.Float64bits", "math.RoundToEven"], unfollowed := true, recurses := true, apart := false }
def QuantOrderSaid : Prop := quantOrderRow.holds Try.pinned (OpenSpec.ofChange quantOrderSpec)

/-- ITS FALSE NEIGHBOUR: 'it returns false'. Refute it at one input. -/
def quantOrderWrong : ChangeSpec := { name := "quantOrder", fn := fun _ => fun
  | [d1, d2, d3, d4] => { results := [.lit (.bool false)], args := [d1, d2, d3, d4] }
  | _ => none }
def QuantOrderWrongFalsely : Prop := quantOrderRow.holds Try.pinned (OpenSpec.ofChange quantOrderWrong)

/- THE SECOND FORM. 'bulk': how many values and letters a reading holds, each counted each time it is reached (what is shared counts as often as it is met; a slice's spare places count too). A statement '..UptoSaid' is the law's where the arguments, and the package variables that the reading takes, are together of bulk at most 1048576: NARROWER than '..Said'. Prove '..Said' where nothing that the law and all that it calls make is longer than what came in: it says more and counts as full. Else prove '..UptoSaid'. A law counts once. -/
mutual
def uptoBulk {H : Type} : DataW H → Nat
  | .lit (.string bytes) => bytes.length + 1
  | .lit _ => 1
  | .nil => 1
  | .ptr d => uptoBulk d + 1
  | .slice elems spare => uptoBulkAll elems + uptoBulkAll spare + 1
  | .agg parts => uptoBulkAll parts + 1
  | .iface _ d => uptoBulk d + 1
  | .map entries => uptoBulkEntries entries + 1
  | .held _ => 1
def uptoBulkAll {H : Type} : List (DataW H) → Nat
  | [] => 0
  | d :: r => uptoBulk d + uptoBulkAll r
def uptoBulkEntries {H : Type} : List (Lit × DataW H) → Nat
  | [] => 0
  | x :: r => uptoBulkEntry x + uptoBulkEntries r
def uptoBulkEntry {H : Type} : Lit × DataW H → Nat
  | (.string bytes, d) => bytes.length + uptoBulk d + 1
  | (_, d) => uptoBulk d + 1
 end
def uptoSmall : (H : Type) → List (DataW H) → Bool := fun _ ds => decide (uptoBulkAll ds ≤ 1048576)
def OpenSpec.upto (s : _root_.Go.ChangeSpec) : _root_.Go.OpenSpec := { _root_.Go.OpenSpec.ofChange s with cond := some uptoSmall }

/-- 'vicinagelaw03.QuantTells', WHERE WHAT IT READS IS OF BULK AT MOST 1048576: true; the input reads as it did. -/
def quantTellsUptoRow : OpenClaim := { program := "ytkohgkbeecadeaa", sum := "b2407b4bf09ef826f90e5e548c644831162fb690547e1215606c5c1701fd17ae", func := "vicinage/vicinagelaw03.QuantTells", spec := "quantTells", inPlace := ["math.Float64frombits", "math.Float64bits", "math.RoundToEven"], apart := false, narrowed := true }
def QuantTellsUptoSaid : Prop := quantTellsUptoRow.holds Try.pinned (OpenSpec.upto quantTellsSpec)

/-- 'vicinagelaw03.QuantBack', WHERE WHAT IT READS IS OF BULK AT MOST 1048576: true; the input reads as it did. -/
def quantBackUptoRow : OpenClaim := { program := "ytkohgkbeecadeaa", sum := "b2407b4bf09ef826f90e5e548c644831162fb690547e1215606c5c1701fd17ae", func := "vicinage/vicinagelaw03.QuantBack", spec := "quantBack", inPlace := ["math.Float64bits", "math.Float64frombits", "math.RoundToEven"], apart := false, narrowed := true }
def QuantBackUptoSaid : Prop := quantBackUptoRow.holds Try.pinned (OpenSpec.upto quantBackSpec)

/-- 'vicinagelaw03.QuantSteps', WHERE WHAT IT READS IS OF BULK AT MOST 1048576: true; the input reads as it did. -/
def quantStepsUptoRow : OpenClaim := { program := "ytkohgkbeecadeaa", sum := "b2407b4bf09ef826f90e5e548c644831162fb690547e1215606c5c1701fd17ae", func := "vicinage/vicinagelaw03.QuantSteps", spec := "quantSteps", inPlace := ["math.Float64bits", "math.Float64frombits", "math.RoundToEven"], apart := false, narrowed := true }
def QuantStepsUptoSaid : Prop := quantStepsUptoRow.holds Try.pinned (OpenSpec.upto quantStepsSpec)

/-- 'vicinagelaw03.QuantAll', WHERE WHAT IT READS IS OF BULK AT MOST 1048576: true; the input reads as it did. -/
def quantAllUptoRow : OpenClaim := { program := "ytkohgkbeecadeaa", sum := "b2407b4bf09ef826f90e5e548c644831162fb690547e1215606c5c1701fd17ae", func := "vicinage/vicinagelaw03.QuantAll", spec := "quantAll", inPlace := ["math.Float64frombits", "math.Float64bits", "math.RoundToEven"], apart := false, narrowed := true }
def QuantAllUptoSaid : Prop := quantAllUptoRow.holds Try.pinned (OpenSpec.upto quantAllSpec)

/-- 'vicinagelaw03.QuantRises', WHERE WHAT IT READS IS OF BULK AT MOST 1048576: true; the input reads as it did. -/
def quantRisesUptoRow : OpenClaim := { program := "ytkohgkbeecadeaa", sum := "b2407b4bf09ef826f90e5e548c644831162fb690547e1215606c5c1701fd17ae", func := "vicinage/vicinagelaw03.QuantRises", spec := "quantRises", inPlace := ["math.Float64frombits", "math.Float64bits", "math.RoundToEven"], apart := false, narrowed := true }
def QuantRisesUptoSaid : Prop := quantRisesUptoRow.holds Try.pinned (OpenSpec.upto quantRisesSpec)

/-- 'vicinagelaw03.QuantOrder', WHERE WHAT IT READS IS OF BULK AT MOST 1048576: true; the input reads as it did. -/
def quantOrderUptoRow : OpenClaim := { program := "ytkohgkbeecadeaa", sum := "b2407b4bf09ef826f90e5e548c644831162fb690547e1215606c5c1701fd17ae", func := "vicinage/vicinagelaw03.QuantOrder", spec := "quantOrder", inPlace := ["math.Float64frombits", "math.Float64bits", "math.RoundToEven"], unfollowed := true, recurses := true, apart := false, narrowed := true }
def QuantOrderUptoSaid : Prop := quantOrderUptoRow.holds Try.pinned (OpenSpec.upto quantOrderSpec)

end Rows
end Go.Proofs.Ytkohgkbeecadeaa
