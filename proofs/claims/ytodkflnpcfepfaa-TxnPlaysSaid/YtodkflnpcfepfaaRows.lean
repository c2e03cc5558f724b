/-
  No cell of these rows narrows 'for every input' (looked for: loops, veiled, ifaces, maps, wideKeys, modest, calm, conditions, laid).
  DERIVED. THE GIVEN ROWS OF THIS SEAT. 4 by the template 'for every input the law returns true; each argument reads behind the call as it read before'; 0 by the template 'total and deterministic' (their statements: YtodkflnpcfepfaaTotals.lean).
  GIVEN WITH THE SEED: the statements are not yours to turn. If you find one false, say at which input.
  Laid BY PROGRAM, IN A SANDBOX (cutbox-rows.mjs): the forced cells as the released guide's own fill.sh prints them over the translation 451b5de86e4b0214… (all of the seat's roots in one cut). By AI agents, Wed Nov 11 2026. No macro, syntax, notation, axiom, sorry.
-/
import Derived.Test.YtodkflnpcfepfaaChecked
import GoSem.Claim
import GoSem.ClaimJoined
import GoSem.ClaimMapViews
import Derived.JoinedTies
import Derived.KernelRfl
namespace Go.Proofs.Ytodkflnpcfepfaa
/- THE CELL 'sum', in the pinned program and in every row, IS THE sha256 OF THE DUMP (.gsa) THAT YtodkflnpcfepfaaProg.lean LOADS. Nothing in Lean hashes anything: it is a label: what it is worth is what the hold of that sum in a sandbox is worth. -/
noncomputable def Try.pinned : Pinned := { name := "ytodkflnpcfepfaa", sum := "451b5de86e4b02143cb3d4a255fcfbc2bf1dd85158be708fb26d506e8e8fa1e9", checked := Try.checked }
namespace Rows
def none {H : Type} : Left H := { results := [], args := [] }

/-- 'vicinagelaw18.TxnFirst': WHATEVER THE INPUT: true; the input reads as it did. -/
def txnFirstSpec : ChangeSpec := { name := "txnFirst", fn := fun _ => fun
  | [d1, d2] => { results := [.lit (.bool true)], args := [d1, d2] }
  | _ => none }
def txnFirstRow : OpenClaim := { program := "ytodkflnpcfepfaa", sum := "451b5de86e4b02143cb3d4a255fcfbc2bf1dd85158be708fb26d506e8e8fa1e9", func := "vicinage/vicinagelaw18.TxnFirst", spec := "txnFirst", apart := false }
def TxnFirstSaid : Prop := txnFirstRow.holds Try.pinned (OpenSpec.ofChange txnFirstSpec)

/-- ITS FALSE NEIGHBOUR: 'it returns false'. Refute it at one input. -/
def txnFirstWrong : ChangeSpec := { name := "txnFirst", fn := fun _ => fun
  | [d1, d2] => { results := [.lit (.bool false)], args := [d1, d2] }
  | _ => none }
def TxnFirstWrongFalsely : Prop := txnFirstRow.holds Try.pinned (OpenSpec.ofChange txnFirstWrong)

/-- 'vicinagelaw18.TxnSteady': WHATEVER THE INPUT: true; the input reads as it did. -/
def txnSteadySpec : ChangeSpec := { name := "txnSteady", fn := fun _ => fun
  | [d1, d2, d3] => { results := [.lit (.bool true)], args := [d1, d2, d3] }
  | _ => none }
def txnSteadyRow : OpenClaim := { program := "ytodkflnpcfepfaa", sum := "451b5de86e4b02143cb3d4a255fcfbc2bf1dd85158be708fb26d506e8e8fa1e9", func := "vicinage/vicinagelaw18.TxnSteady", spec := "txnSteady", unfollowed := true, recurses := true, apart := false }
def TxnSteadySaid : Prop := txnSteadyRow.holds Try.pinned (OpenSpec.ofChange txnSteadySpec)

/-- ITS FALSE NEIGHBOUR: 'it returns false'. Refute it at one input. -/
def txnSteadyWrong : ChangeSpec := { name := "txnSteady", fn := fun _ => fun
  | [d1, d2, d3] => { results := [.lit (.bool false)], args := [d1, d2, d3] }
  | _ => none }
def TxnSteadyWrongFalsely : Prop := txnSteadyRow.holds Try.pinned (OpenSpec.ofChange txnSteadyWrong)

/-- 'vicinagelaw18.TxnPlays': WHATEVER THE INPUT: true; the input reads as it did. -/
def txnPlaysSpec : ChangeSpec := { name := "txnPlays", fn := fun _ => fun
  | [d1, d2] => { results := [.lit (.bool true)], args := [d1, d2] }
  | _ => none }
def txnPlaysRow : OpenClaim := { program := "ytodkflnpcfepfaa", sum := "451b5de86e4b02143cb3d4a255fcfbc2bf1dd85158be708fb26d506e8e8fa1e9", func := "vicinage/vicinagelaw18.TxnPlays", spec := "txnPlays", unfollowed := true, recurses := true, apart := false }
def TxnPlaysSaid : Prop := txnPlaysRow.holds Try.pinned (OpenSpec.ofChange txnPlaysSpec)

/-- ITS FALSE NEIGHBOUR: 'it returns false'. Refute it at one input. -/
def txnPlaysWrong : ChangeSpec := { name := "txnPlays", fn := fun _ => fun
  | [d1, d2] => { results := [.lit (.bool false)], args := [d1, d2] }
  | _ => none }
def TxnPlaysWrongFalsely : Prop := txnPlaysRow.holds Try.pinned (OpenSpec.ofChange txnPlaysWrong)

/-- 'vicinagelaw18.TxnNone': WHATEVER THE INPUT: true; the input reads as it did. -/
def txnNoneSpec : ChangeSpec := { name := "txnNone", fn := fun _ => fun
  | [d1, d2] => { results := [.lit (.bool true)], args := [d1, d2] }
  | _ => none }
def txnNoneRow : OpenClaim := { program := "ytodkflnpcfepfaa", sum := "451b5de86e4b02143cb3d4a255fcfbc2bf1dd85158be708fb26d506e8e8fa1e9", func := "vicinage/vicinagelaw18.TxnNone", spec := "txnNone", unfollowed := true, recurses := true, apart := false }
def TxnNoneSaid : Prop := txnNoneRow.holds Try.pinned (OpenSpec.ofChange txnNoneSpec)

/-- ITS FALSE NEIGHBOUR: 'it returns false'. Refute it at one input. -/
def txnNoneWrong : ChangeSpec := { name := "txnNone", fn := fun _ => fun
  | [d1, d2] => { results := [.lit (.bool false)], args := [d1, d2] }
  | _ => none }
def TxnNoneWrongFalsely : Prop := txnNoneRow.holds Try.pinned (OpenSpec.ofChange txnNoneWrong)

/- THE SECOND FORM. 'bulk': how many values and letters a reading holds, each counted each time it is reached (what is shared counts as often as it is met; a slice's spare places count too). A statement '..UptoSaid' is the law's where the arguments, and the package variables that the reading takes, are together of bulk at most 1048576: NARROWER than '..Said'. Prove '..Said' where nothing that the law and all that it calls make is longer than what came in: it says more and counts as full. Else prove '..UptoSaid'. A law counts once. -/
mutual
def uptoBulk {H : Type} : DataW H → Nat
  | .lit (.string bytes) => bytes.length + 1
  | .lit _ => 1
  | .nil => 1
  | .ptr d => uptoBulk d + 1
  | .slice elems spare => uptoBulkAll elems + uptoBulkAll spare + 1
  | .agg parts => uptoBulkAll parts + 1
  | .iface _ d => uptoBulk d + 1
  | .map entries => uptoBulkEntries entries + 1
  | .held _ => 1
def uptoBulkAll {H : Type} : List (DataW H) → Nat
  | [] => 0
  | d :: r => uptoBulk d + uptoBulkAll r
def uptoBulkEntries {H : Type} : List (Lit × DataW H) → Nat
  | [] => 0
  | x :: r => uptoBulkEntry x + uptoBulkEntries r
def uptoBulkEntry {H : Type} : Lit × DataW H → Nat
  | (.string bytes, d) => bytes.length + uptoBulk d + 1
  | (_, d) => uptoBulk d + 1
 end
def uptoSmall : (H : Type) → List (DataW H) → Bool := fun _ ds => decide (uptoBulkAll ds ≤ 1048576)
def OpenSpec.upto (s : _root_.Go.ChangeSpec) : _root_.Go.OpenSpec := { _root_.Go.OpenSpec.ofChange s with cond := some uptoSmall }

/-- 'vicinagelaw18.TxnFirst', WHERE WHAT IT READS IS OF BULK AT MOST 1048576: true; the input reads as it did. -/
def txnFirstUptoRow : OpenClaim := { program := "ytodkflnpcfepfaa", sum := "451b5de86e4b02143cb3d4a255fcfbc2bf1dd85158be708fb26d506e8e8fa1e9", func := "vicinage/vicinagelaw18.TxnFirst", spec := "txnFirst", apart := false, narrowed := true }
def TxnFirstUptoSaid : Prop := txnFirstUptoRow.holds Try.pinned (OpenSpec.upto txnFirstSpec)

/-- 'vicinagelaw18.TxnSteady', WHERE WHAT IT READS IS OF BULK AT MOST 1048576: true; the input reads as it did. -/
def txnSteadyUptoRow : OpenClaim := { program := "ytodkflnpcfepfaa", sum := "451b5de86e4b02143cb3d4a255fcfbc2bf1dd85158be708fb26d506e8e8fa1e9", func := "vicinage/vicinagelaw18.TxnSteady", spec := "txnSteady", unfollowed := true, recurses := true, apart := false, narrowed := true }
def TxnSteadyUptoSaid : Prop := txnSteadyUptoRow.holds Try.pinned (OpenSpec.upto txnSteadySpec)

/-- 'vicinagelaw18.TxnPlays', WHERE WHAT IT READS IS OF BULK AT MOST 1048576: true; the input reads as it did. -/
def txnPlaysUptoRow : OpenClaim := { program := "ytodkflnpcfepfaa", sum := "451b5de86e4b02143cb3d4a255fcfbc2bf1dd85158be708fb26d506e8e8fa1e9", func := "vicinage/vicinagelaw18.TxnPlays", spec := "txnPlays", unfollowed := true, recurses := true, apart := false, narrowed := true }
def TxnPlaysUptoSaid : Prop := txnPlaysUptoRow.holds Try.pinned (OpenSpec.upto txnPlaysSpec)

/-- 'vicinagelaw18.TxnNone', WHERE WHAT IT READS IS OF BULK AT MOST 1048576: true; the input reads as it did. -/
def txnNoneUptoRow : OpenClaim := { program := "ytodkflnpcfepfaa", sum := "451b5de86e4b02143cb3d4a255fcfbc2bf1dd85158be708fb26d506e8e8fa1e9", func := "vicinage/vicinagelaw18.TxnNone", spec := "txnNone", unfollowed := true, recurses := true, apart := false, narrowed := true }
def TxnNoneUptoSaid : Prop := txnNoneUptoRow.holds Try.pinned (OpenSpec.upto txnNoneSpec)

end Rows
end Go.Proofs.Ytodkflnpcfepfaa
