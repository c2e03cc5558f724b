/-
  No cell of these rows narrows 'for every input' (looked for: loops, veiled, ifaces, maps, wideKeys, modest, calm, conditions, laid).
  DERIVED. THE GIVEN ROWS OF THIS SEAT. 7 by the template 'for every input the law returns true; each argument reads behind the call as it read before'; 0 by the template 'total and deterministic' (their statements: YteidlneohlllmaaTotals.lean).
  GIVEN WITH THE SEED: the statements are not yours to turn. If you find one false, say at which input.
  Laid BY PROGRAM, IN A SANDBOX (cutbox-rows.mjs): the forced cells as the released guide's own fill.sh prints them over the translation 79fd04bdbc0c0de5… (all of the seat's roots in one cut). By AI agents, Wed Nov 11 2026. No macro, syntax, notation, axiom, sorry.
-/
import Derived.Test.YteidlneohlllmaaChecked
import GoSem.Claim
import GoSem.ClaimJoined
import GoSem.ClaimMapViews
import Derived.JoinedTies
import Derived.KernelRfl
namespace Go.Proofs.Yteidlneohlllmaa
/- THE CELL 'sum', in the pinned program and in every row, IS THE sha256 OF THE DUMP (.gsa) THAT YteidlneohlllmaaProg.lean LOADS. Nothing in Lean hashes anything: it is a label: what it is worth is what the hold of that sum in a sandbox is worth. -/
noncomputable def Try.pinned : Pinned := { name := "yteidlneohlllmaa", sum := "79fd04bdbc0c0de5c41f500483be16de778e2a5b95d703703e295b9ba09ca4f1", checked := Try.checked }
namespace Rows
def none {H : Type} : Left H := { results := [], args := [] }

/-- 'vicinagelaw04.VectDist': WHATEVER THE INPUT: true; the input reads as it did. -/
def vectDistSpec : ChangeSpec := { name := "vectDist", fn := fun _ => fun
  | [d1, d2] => { results := [.lit (.bool true)], args := [d1, d2] }
  | _ => none }
def vectDistRow : OpenClaim := { program := "yteidlneohlllmaa", sum := "79fd04bdbc0c0de5c41f500483be16de778e2a5b95d703703e295b9ba09ca4f1", func := "vicinage/vicinagelaw04.VectDist", spec := "vectDist", apart := false }
def VectDistSaid : Prop := vectDistRow.holds Try.pinned (OpenSpec.ofChange vectDistSpec)

/-- ITS FALSE NEIGHBOUR: 'it returns false'. Refute it at one input. -/
def vectDistWrong : ChangeSpec := { name := "vectDist", fn := fun _ => fun
  | [d1, d2] => { results := [.lit (.bool false)], args := [d1, d2] }
  | _ => none }
def VectDistWrongFalsely : Prop := vectDistRow.holds Try.pinned (OpenSpec.ofChange vectDistWrong)

/-- 'vicinagelaw04.VectMetric': WHATEVER THE INPUT: true; the input reads as it did. -/
def vectMetricSpec : ChangeSpec := { name := "vectMetric", fn := fun _ => fun
  | [d1, d2, d3] => { results := [.lit (.bool true)], args := [d1, d2, d3] }
  | _ => none }
def vectMetricRow : OpenClaim := { program := "yteidlneohlllmaa", sum := "79fd04bdbc0c0de5c41f500483be16de778e2a5b95d703703e295b9ba09ca4f1", func := "vicinage/vicinagelaw04.VectMetric", spec := "vectMetric", apart := false }
def VectMetricSaid : Prop := vectMetricRow.holds Try.pinned (OpenSpec.ofChange vectMetricSpec)

/-- ITS FALSE NEIGHBOUR: 'it returns false'. Refute it at one input. -/
def vectMetricWrong : ChangeSpec := { name := "vectMetric", fn := fun _ => fun
  | [d1, d2, d3] => { results := [.lit (.bool false)], args := [d1, d2, d3] }
  | _ => none }
def VectMetricWrongFalsely : Prop := vectMetricRow.holds Try.pinned (OpenSpec.ofChange vectMetricWrong)

/-- 'vicinagelaw04.VectLow': WHATEVER THE INPUT: true; the input reads as it did. -/
def vectLowSpec : ChangeSpec := { name := "vectLow", fn := fun _ => fun
  | [d1, d2] => { results := [.lit (.bool true)], args := [d1, d2] }
  | _ => none }
def vectLowRow : OpenClaim := { program := "yteidlneohlllmaa", sum := "79fd04bdbc0c0de5c41f500483be16de778e2a5b95d703703e295b9ba09ca4f1", func := "vicinage/vicinagelaw04.VectLow", spec := "vectLow", apart := false }
def VectLowSaid : Prop := vectLowRow.holds Try.pinned (OpenSpec.ofChange vectLowSpec)

/-- ITS FALSE NEIGHBOUR: 'it returns false'. Refute it at one input. -/
def vectLowWrong : ChangeSpec := { name := "vectLow", fn := fun _ => fun
  | [d1, d2] => { results := [.lit (.bool false)], args := [d1, d2] }
  | _ => none }
def VectLowWrongFalsely : Prop := vectLowRow.holds Try.pinned (OpenSpec.ofChange vectLowWrong)

/-- 'vicinagelaw04.VectOrder': WHATEVER THE INPUT: true; the input reads as it did. -/
def vectOrderSpec : ChangeSpec := { name := "vectOrder", fn := fun _ => fun
  | [d1, d2, d3] => { results := [.lit (.bool true)], args := [d1, d2, d3] }
  | _ => none }
def vectOrderRow : OpenClaim := { program := "yteidlneohlllmaa", sum := "79fd04bdbc0c0de5c41f500483be16de778e2a5b95d703703e295b9ba09ca4f1", func := "vicinage/vicinagelaw04.VectOrder", spec := "vectOrder", apart := false }
def VectOrderSaid : Prop := vectOrderRow.holds Try.pinned (OpenSpec.ofChange vectOrderSpec)

/-- ITS FALSE NEIGHBOUR: 'it returns false'. Refute it at one input. -/
def vectOrderWrong : ChangeSpec := { name := "vectOrder", fn := fun _ => fun
  | [d1, d2, d3] => { results := [.lit (.bool false)], args := [d1, d2, d3] }
  | _ => none }
def VectOrderWrongFalsely : Prop := vectOrderRow.holds Try.pinned (OpenSpec.ofChange vectOrderWrong)

/-- 'vicinagelaw04.VectFirst': WHATEVER THE INPUT: true; the input reads as it did. -/
def vectFirstSpec : ChangeSpec := { name := "vectFirst", fn := fun _ => fun
  | [d1, d2, d3, d4] => { results := [.lit (.bool true)], args := [d1, d2, d3, d4] }
  | _ => none }
def vectFirstRow : OpenClaim := { program := "yteidlneohlllmaa", sum := "79fd04bdbc0c0de5c41f500483be16de778e2a5b95d703703e295b9ba09ca4f1", func := "vicinage/vicinagelaw04.VectFirst", spec := "vectFirst", unfollowed := true, recurses := true, apart := false }
def VectFirstSaid : Prop := vectFirstRow.holds Try.pinned (OpenSpec.ofChange vectFirstSpec)

/-- ITS FALSE NEIGHBOUR: 'it returns false'. Refute it at one input. -/
def vectFirstWrong : ChangeSpec := { name := "vectFirst", fn := fun _ => fun
  | [d1, d2, d3, d4] => { results := [.lit (.bool false)], args := [d1, d2, d3, d4] }
  | _ => none }
def VectFirstWrongFalsely : Prop := vectFirstRow.holds Try.pinned (OpenSpec.ofChange vectFirstWrong)

/-- 'vicinagelaw04.VectMerge': WHATEVER THE INPUT: true; the input reads as it did. -/
def vectMergeSpec : ChangeSpec := { name := "vectMerge", fn := fun _ => fun
  | [d1, d2, d3] => { results := [.lit (.bool true)], args := [d1, d2, d3] }
  | _ => none }
def vectMergeRow : OpenClaim := { program := "yteidlneohlllmaa", sum := "79fd04bdbc0c0de5c41f500483be16de778e2a5b95d703703e295b9ba09ca4f1", func := "vicinage/vicinagelaw04.VectMerge", spec := "vectMerge", unfollowed := true, recurses := true, apart := false }
def VectMergeSaid : Prop := vectMergeRow.holds Try.pinned (OpenSpec.ofChange vectMergeSpec)

/-- ITS FALSE NEIGHBOUR: 'it returns false'. Refute it at one input. -/
def vectMergeWrong : ChangeSpec := { name := "vectMerge", fn := fun _ => fun
  | [d1, d2, d3] => { results := [.lit (.bool false)], args := [d1, d2, d3] }
  | _ => none }
def VectMergeWrongFalsely : Prop := vectMergeRow.holds Try.pinned (OpenSpec.ofChange vectMergeWrong)

/-- 'vicinagelaw04.VectPrefix': WHATEVER THE INPUT: true; the input reads as it did. -/
def vectPrefixSpec : ChangeSpec := { name := "vectPrefix", fn := fun _ => fun
  | [d1, d2, d3] => { results := [.lit (.bool true)], args := [d1, d2, d3] }
  | _ => none }
def vectPrefixRow : OpenClaim := { program := "yteidlneohlllmaa", sum := "79fd04bdbc0c0de5c41f500483be16de778e2a5b95d703703e295b9ba09ca4f1", func := "vicinage/vicinagelaw04.VectPrefix", spec := "vectPrefix", unfollowed := true, recurses := true, apart := false }
def VectPrefixSaid : Prop := vectPrefixRow.holds Try.pinned (OpenSpec.ofChange vectPrefixSpec)

/-- ITS FALSE NEIGHBOUR: 'it returns false'. Refute it at one input. -/
def vectPrefixWrong : ChangeSpec := { name := "vectPrefix", fn := fun _ => fun
  | [d1, d2, d3] => { results := [.lit (.bool false)], args := [d1, d2, d3] }
  | _ => none }
def VectPrefixWrongFalsely : Prop := vectPrefixRow.holds Try.pinned (OpenSpec.ofChange vectPrefixWrong)

/- THE SECOND FORM. 'bulk': how many values and letters a reading holds, each counted each time it is reached (what is shared counts as often as it is met; a slice's spare places count too). A statement '..UptoSaid' is the law's where the arguments, and the package variables that the reading takes, are together of bulk at most 1048576: NARROWER than '..Said'. Prove '..Said' where nothing that the law and all that it calls make is longer than what came in: it says more and counts as full. Else prove '..UptoSaid'. A law counts once. -/
mutual
def uptoBulk {H : Type} : DataW H → Nat
  | .lit (.string bytes) => bytes.length + 1
  | .lit _ => 1
  | .nil => 1
  | .ptr d => uptoBulk d + 1
  | .slice elems spare => uptoBulkAll elems + uptoBulkAll spare + 1
  | .agg parts => uptoBulkAll parts + 1
  | .iface _ d => uptoBulk d + 1
  | .map entries => uptoBulkEntries entries + 1
  | .held _ => 1
def uptoBulkAll {H : Type} : List (DataW H) → Nat
  | [] => 0
  | d :: r => uptoBulk d + uptoBulkAll r
def uptoBulkEntries {H : Type} : List (Lit × DataW H) → Nat
  | [] => 0
  | x :: r => uptoBulkEntry x + uptoBulkEntries r
def uptoBulkEntry {H : Type} : Lit × DataW H → Nat
  | (.string bytes, d) => bytes.length + uptoBulk d + 1
  | (_, d) => uptoBulk d + 1
 end
def uptoSmall : (H : Type) → List (DataW H) → Bool := fun _ ds => decide (uptoBulkAll ds ≤ 1048576)
def OpenSpec.upto (s : _root_.Go.ChangeSpec) : _root_.Go.OpenSpec := { _root_.Go.OpenSpec.ofChange s with cond := some uptoSmall }

/-- 'vicinagelaw04.VectDist', WHERE WHAT IT READS IS OF BULK AT MOST 1048576: true; the input reads as it did. -/
def vectDistUptoRow : OpenClaim := { program := "yteidlneohlllmaa", sum := "79fd04bdbc0c0de5c41f500483be16de778e2a5b95d703703e295b9ba09ca4f1", func := "vicinage/vicinagelaw04.VectDist", spec := "vectDist", apart := false, narrowed := true }
def VectDistUptoSaid : Prop := vectDistUptoRow.holds Try.pinned (OpenSpec.upto vectDistSpec)

/-- 'vicinagelaw04.VectMetric', WHERE WHAT IT READS IS OF BULK AT MOST 1048576: true; the input reads as it did. -/
def vectMetricUptoRow : OpenClaim := { program := "yteidlneohlllmaa", sum := "79fd04bdbc0c0de5c41f500483be16de778e2a5b95d703703e295b9ba09ca4f1", func := "vicinage/vicinagelaw04.VectMetric", spec := "vectMetric", apart := false, narrowed := true }
def VectMetricUptoSaid : Prop := vectMetricUptoRow.holds Try.pinned (OpenSpec.upto vectMetricSpec)

/-- 'vicinagelaw04.VectLow', WHERE WHAT IT READS IS OF BULK AT MOST 1048576: true; the input reads as it did. -/
def vectLowUptoRow : OpenClaim := { program := "yteidlneohlllmaa", sum := "79fd04bdbc0c0de5c41f500483be16de778e2a5b95d703703e295b9ba09ca4f1", func := "vicinage/vicinagelaw04.VectLow", spec := "vectLow", apart := false, narrowed := true }
def VectLowUptoSaid : Prop := vectLowUptoRow.holds Try.pinned (OpenSpec.upto vectLowSpec)

/-- 'vicinagelaw04.VectOrder', WHERE WHAT IT READS IS OF BULK AT MOST 1048576: true; the input reads as it did. -/
def vectOrderUptoRow : OpenClaim := { program := "yteidlneohlllmaa", sum := "79fd04bdbc0c0de5c41f500483be16de778e2a5b95d703703e295b9ba09ca4f1", func := "vicinage/vicinagelaw04.VectOrder", spec := "vectOrder", apart := false, narrowed := true }
def VectOrderUptoSaid : Prop := vectOrderUptoRow.holds Try.pinned (OpenSpec.upto vectOrderSpec)

/-- 'vicinagelaw04.VectFirst', WHERE WHAT IT READS IS OF BULK AT MOST 1048576: true; the input reads as it did. -/
def vectFirstUptoRow : OpenClaim := { program := "yteidlneohlllmaa", sum := "79fd04bdbc0c0de5c41f500483be16de778e2a5b95d703703e295b9ba09ca4f1", func := "vicinage/vicinagelaw04.VectFirst", spec := "vectFirst", unfollowed := true, recurses := true, apart := false, narrowed := true }
def VectFirstUptoSaid : Prop := vectFirstUptoRow.holds Try.pinned (OpenSpec.upto vectFirstSpec)

/-- 'vicinagelaw04.VectMerge', WHERE WHAT IT READS IS OF BULK AT MOST 1048576: true; the input reads as it did. -/
def vectMergeUptoRow : OpenClaim := { program := "yteidlneohlllmaa", sum := "79fd04bdbc0c0de5c41f500483be16de778e2a5b95d703703e295b9ba09ca4f1", func := "vicinage/vicinagelaw04.VectMerge", spec := "vectMerge", unfollowed := true, recurses := true, apart := false, narrowed := true }
def VectMergeUptoSaid : Prop := vectMergeUptoRow.holds Try.pinned (OpenSpec.upto vectMergeSpec)

/-- 'vicinagelaw04.VectPrefix', WHERE WHAT IT READS IS OF BULK AT MOST 1048576: true; the input reads as it did. -/
def vectPrefixUptoRow : OpenClaim := { program := "yteidlneohlllmaa", sum := "79fd04bdbc0c0de5c41f500483be16de778e2a5b95d703703e295b9ba09ca4f1", func := "vicinage/vicinagelaw04.VectPrefix", spec := "vectPrefix", unfollowed := true, recurses := true, apart := false, narrowed := true }
def VectPrefixUptoSaid : Prop := vectPrefixUptoRow.holds Try.pinned (OpenSpec.upto vectPrefixSpec)

end Rows
end Go.Proofs.Yteidlneohlllmaa
