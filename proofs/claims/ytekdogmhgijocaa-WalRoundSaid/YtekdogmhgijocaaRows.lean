/-
  No cell of these rows narrows 'for every input' (looked for: loops, veiled, ifaces, maps, wideKeys, modest, calm, conditions, laid).
  DERIVED. THE GIVEN ROWS OF THIS SEAT. 4 by the template 'for every input the law returns true; each argument reads behind the call as it read before'; 0 by the template 'total and deterministic' (their statements: YtekdogmhgijocaaTotals.lean).
  GIVEN WITH THE SEED: the statements are not yours to turn. If you find one false, say at which input.
  Laid BY PROGRAM, IN A SANDBOX (cutbox-rows.mjs): the forced cells as the released guide's own fill.sh prints them over the translation 36163ba80bf20376… (all of the seat's roots in one cut). By AI agents, Wed Nov 11 2026. No macro, syntax, notation, axiom, sorry.
-/
import Derived.Test.YtekdogmhgijocaaChecked
import GoSem.Claim
import GoSem.ClaimJoined
import GoSem.ClaimMapViews
import Derived.JoinedTies
import Derived.KernelRfl
namespace Go.Proofs.Ytekdogmhgijocaa
/- THE CELL 'sum', in the pinned program and in every row, IS THE sha256 OF THE DUMP (.gsa) THAT YtekdogmhgijocaaProg.lean LOADS. Nothing in Lean hashes anything: it is a label: what it is worth is what the hold of that sum in a sandbox is worth. -/
noncomputable def Try.pinned : Pinned := { name := "ytekdogmhgijocaa", sum := "36163ba80bf2037622c9283a09e3c0dbfa9b93dd2bb1dc51541a51b09e0815a8", checked := Try.checked }
namespace Rows
def none {H : Type} : Left H := { results := [], args := [] }

/-- 'vicinagelaw10.WalRoom': WHATEVER THE INPUT: true; the input reads as it did. -/
def walRoomSpec : ChangeSpec := { name := "walRoom", fn := fun _ => fun
  | [d1, d2] => { results := [.lit (.bool true)], args := [d1, d2] }
  | _ => none }
def walRoomRow : OpenClaim := { program := "ytekdogmhgijocaa", sum := "36163ba80bf2037622c9283a09e3c0dbfa9b93dd2bb1dc51541a51b09e0815a8", func := "vicinage/vicinagelaw10.WalRoom", spec := "walRoom", unfollowed := true, recurses := true, apart := false }
def WalRoomSaid : Prop := walRoomRow.holds Try.pinned (OpenSpec.ofChange walRoomSpec)

/-- ITS FALSE NEIGHBOUR: 'it returns false'. Refute it at one input. -/
def walRoomWrong : ChangeSpec := { name := "walRoom", fn := fun _ => fun
  | [d1, d2] => { results := [.lit (.bool false)], args := [d1, d2] }
  | _ => none }
def WalRoomWrongFalsely : Prop := walRoomRow.holds Try.pinned (OpenSpec.ofChange walRoomWrong)

/-- 'vicinagelaw10.WalPlaces': WHATEVER THE INPUT: true; the input reads as it did. -/
def walPlacesSpec : ChangeSpec := { name := "walPlaces", fn := fun _ => fun
  | [d1, d2, d3] => { results := [.lit (.bool true)], args := [d1, d2, d3] }
  | _ => none }
def walPlacesRow : OpenClaim := { program := "ytekdogmhgijocaa", sum := "36163ba80bf2037622c9283a09e3c0dbfa9b93dd2bb1dc51541a51b09e0815a8", func := "vicinage/vicinagelaw10.WalPlaces", spec := "walPlaces", unfollowed := true, recurses := true, apart := false }
def WalPlacesSaid : Prop := walPlacesRow.holds Try.pinned (OpenSpec.ofChange walPlacesSpec)

/-- ITS FALSE NEIGHBOUR: 'it returns false'. Refute it at one input. -/
def walPlacesWrong : ChangeSpec := { name := "walPlaces", fn := fun _ => fun
  | [d1, d2, d3] => { results := [.lit (.bool false)], args := [d1, d2, d3] }
  | _ => none }
def WalPlacesWrongFalsely : Prop := walPlacesRow.holds Try.pinned (OpenSpec.ofChange walPlacesWrong)

/-- 'vicinagelaw10.WalRound': WHATEVER THE INPUT: true; the input reads as it did. -/
def walRoundSpec : ChangeSpec := { name := "walRound", fn := fun _ => fun
  | [d1, d2] => { results := [.lit (.bool true)], args := [d1, d2] }
  | _ => none }
def walRoundRow : OpenClaim := { program := "ytekdogmhgijocaa", sum := "36163ba80bf2037622c9283a09e3c0dbfa9b93dd2bb1dc51541a51b09e0815a8", func := "vicinage/vicinagelaw10.WalRound", spec := "walRound", unfollowed := true, recurses := true, apart := false }
def WalRoundSaid : Prop := walRoundRow.holds Try.pinned (OpenSpec.ofChange walRoundSpec)

/-- ITS FALSE NEIGHBOUR: 'it returns false'. Refute it at one input. -/
def walRoundWrong : ChangeSpec := { name := "walRound", fn := fun _ => fun
  | [d1, d2] => { results := [.lit (.bool false)], args := [d1, d2] }
  | _ => none }
def WalRoundWrongFalsely : Prop := walRoundRow.holds Try.pinned (OpenSpec.ofChange walRoundWrong)

/-- 'vicinagelaw10.WalGhosts': WHATEVER THE INPUT: true; the input reads as it did. -/
def walGhostsSpec : ChangeSpec := { name := "walGhosts", fn := fun _ => fun
  | [d1, d2, d3, d4] => { results := [.lit (.bool true)], args := [d1, d2, d3, d4] }
  | _ => none }
def walGhostsRow : OpenClaim := { program := "ytekdogmhgijocaa", sum := "36163ba80bf2037622c9283a09e3c0dbfa9b93dd2bb1dc51541a51b09e0815a8", func := "vicinage/vicinagelaw10.WalGhosts", spec := "walGhosts", unfollowed := true, recurses := true, apart := false }
def WalGhostsSaid : Prop := walGhostsRow.holds Try.pinned (OpenSpec.ofChange walGhostsSpec)

/-- ITS FALSE NEIGHBOUR: 'it returns false'. Refute it at one input. -/
def walGhostsWrong : ChangeSpec := { name := "walGhosts", fn := fun _ => fun
  | [d1, d2, d3, d4] => { results := [.lit (.bool false)], args := [d1, d2, d3, d4] }
  | _ => none }
def WalGhostsWrongFalsely : Prop := walGhostsRow.holds Try.pinned (OpenSpec.ofChange walGhostsWrong)

/- THE SECOND FORM. 'bulk': how many values and letters a reading holds, each counted each time it is reached (what is shared counts as often as it is met; a slice's spare places count too). A statement '..UptoSaid' is the law's where the arguments, and the package variables that the reading takes, are together of bulk at most 1048576: NARROWER than '..Said'. Prove '..Said' where nothing that the law and all that it calls make is longer than what came in: it says more and counts as full. Else prove '..UptoSaid'. A law counts once. -/
mutual
def uptoBulk {H : Type} : DataW H → Nat
  | .lit (.string bytes) => bytes.length + 1
  | .lit _ => 1
  | .nil => 1
  | .ptr d => uptoBulk d + 1
  | .slice elems spare => uptoBulkAll elems + uptoBulkAll spare + 1
  | .agg parts => uptoBulkAll parts + 1
  | .iface _ d => uptoBulk d + 1
  | .map entries => uptoBulkEntries entries + 1
  | .held _ => 1
def uptoBulkAll {H : Type} : List (DataW H) → Nat
  | [] => 0
  | d :: r => uptoBulk d + uptoBulkAll r
def uptoBulkEntries {H : Type} : List (Lit × DataW H) → Nat
  | [] => 0
  | x :: r => uptoBulkEntry x + uptoBulkEntries r
def uptoBulkEntry {H : Type} : Lit × DataW H → Nat
  | (.string bytes, d) => bytes.length + uptoBulk d + 1
  | (_, d) => uptoBulk d + 1
 end
def uptoSmall : (H : Type) → List (DataW H) → Bool := fun _ ds => decide (uptoBulkAll ds ≤ 1048576)
def OpenSpec.upto (s : _root_.Go.ChangeSpec) : _root_.Go.OpenSpec := { _root_.Go.OpenSpec.ofChange s with cond := some uptoSmall }

/-- 'vicinagelaw10.WalRoom', WHERE WHAT IT READS IS OF BULK AT MOST 1048576: true; the input reads as it did. -/
def walRoomUptoRow : OpenClaim := { program := "ytekdogmhgijocaa", sum := "36163ba80bf2037622c9283a09e3c0dbfa9b93dd2bb1dc51541a51b09e0815a8", func := "vicinage/vicinagelaw10.WalRoom", spec := "walRoom", unfollowed := true, recurses := true, apart := false, narrowed := true }
def WalRoomUptoSaid : Prop := walRoomUptoRow.holds Try.pinned (OpenSpec.upto walRoomSpec)

/-- 'vicinagelaw10.WalPlaces', WHERE WHAT IT READS IS OF BULK AT MOST 1048576: true; the input reads as it did. -/
def walPlacesUptoRow : OpenClaim := { program := "ytekdogmhgijocaa", sum := "36163ba80bf2037622c9283a09e3c0dbfa9b93dd2bb1dc51541a51b09e0815a8", func := "vicinage/vicinagelaw10.WalPlaces", spec := "walPlaces", unfollowed := true, recurses := true, apart := false, narrowed := true }
def WalPlacesUptoSaid : Prop := walPlacesUptoRow.holds Try.pinned (OpenSpec.upto walPlacesSpec)

/-- 'vicinagelaw10.WalRound', WHERE WHAT IT READS IS OF BULK AT MOST 1048576: true; the input reads as it did. -/
def walRoundUptoRow : OpenClaim := { program := "ytekdogmhgijocaa", sum := "36163ba80bf2037622c9283a09e3c0dbfa9b93dd2bb1dc51541a51b09e0815a8", func := "vicinage/vicinagelaw10.WalRound", spec := "walRound", unfollowed := true, recurses := true, apart := false, narrowed := true }
def WalRoundUptoSaid : Prop := walRoundUptoRow.holds Try.pinned (OpenSpec.upto walRoundSpec)

/-- 'vicinagelaw10.WalGhosts', WHERE WHAT IT READS IS OF BULK AT MOST 1048576: true; the input reads as it did. -/
def walGhostsUptoRow : OpenClaim := { program := "ytekdogmhgijocaa", sum := "36163ba80bf2037622c9283a09e3c0dbfa9b93dd2bb1dc51541a51b09e0815a8", func := "vicinage/vicinagelaw10.WalGhosts", spec := "walGhosts", unfollowed := true, recurses := true, apart := false, narrowed := true }
def WalGhostsUptoSaid : Prop := walGhostsUptoRow.holds Try.pinned (OpenSpec.upto walGhostsSpec)

end Rows
end Go.Proofs.Ytekdogmhgijocaa
