/-
  No cell of these rows narrows 'for every input' (looked for: loops, veiled, ifaces, maps, wideKeys, modest, calm, conditions, laid).
  DERIVED. THE GIVEN ROWS OF THIS SEAT. 8 by the template 'for every input the law returns true; each argument reads behind the call as it read before'; 0 by the template 'total and deterministic' (their statements: YtcgmgdjeamidlaaGreatTotals.lean).
  GIVEN WITH THE SEED: the statements are not yours to turn. If you find one false, say at which input.
  Laid BY PROGRAM, IN A SANDBOX (cutbox-rows.mjs): the forced cells as the released guide's own fill.sh prints them over the translation 0f139c3293638839… (all of the seat's roots in one cut). By AI agents, Wed Nov 11 2026. No macro, syntax, notation, axiom, sorry.
-/
import Derived.Test.YtcgmgdjeamidlaaGreatChecked
import GoSem.Claim
import GoSem.ClaimJoined
import GoSem.ClaimMapViews
import Derived.JoinedTies
import Derived.KernelRfl
namespace Go.Proofs.YtcgmgdjeamidlaaGreat
/- THE CELL 'sum', in the pinned program and in every row, IS THE sha256 OF THE DUMP (.gsa) THAT YtcgmgdjeamidlaaGreatProg.lean LOADS. Nothing in Lean hashes anything: it is a label: what it is worth is what the hold of that sum in a sandbox is worth. -/
noncomputable def Tryz.pinned : Pinned := { name := "ytcgmgdjeamidlaagreat", sum := "0f139c3293638839057d0cf75db8855b7b009f1b70452e17eee147b9653a8ef1", checked := Tryz.checked }
namespace Rows
def none {H : Type} : Left H := { results := [], args := [] }

/-- 'vicinagelaw23.SessionQuiet': WHATEVER THE INPUT: true; the input reads as it did. -/
def sessionQuietSpec : ChangeSpec := { name := "sessionQuiet", fn := fun _ => fun
  | [d] => { results := [.lit (.bool true)], args := [d] }
  | _ => none }
def sessionQuietRow : OpenClaim := { program := "ytcgmgdjeamidlaagreat", sum := "0f139c3293638839057d0cf75db8855b7b009f1b70452e17eee147b9653a8ef1", func := "vicinage/vicinagelaw23.SessionQuiet", spec := "sessionQuiet", inPlace := ["internal/bytealg.MakeNoZero", "math.Float64frombits", "math.Float64bits", "math.RoundToEven"], unfollowed := true, recurses := true, apart := false }
def SessionQuietSaid : Prop := sessionQuietRow.holds Tryz.pinned (OpenSpec.ofChange sessionQuietSpec)

/-- ITS FALSE NEIGHBOUR: 'it returns false'. Refute it at one input. -/
def sessionQuietWrong : ChangeSpec := { name := "sessionQuiet", fn := fun _ => fun
  | [d] => { results := [.lit (.bool false)], args := [d] }
  | _ => none }
def SessionQuietWrongFalsely : Prop := sessionQuietRow.holds Tryz.pinned (OpenSpec.ofChange sessionQuietWrong)

/-- 'vicinagelaw23.SessionFloats': WHATEVER THE INPUT: true; the input reads as it did. -/
def sessionFloatsSpec : ChangeSpec := { name := "sessionFloats", fn := fun _ => fun
  | [d1, d2] => { results := [.lit (.bool true)], args := [d1, d2] }
  | _ => none }
def sessionFloatsRow : OpenClaim := { program := "ytcgmgdjeamidlaagreat", sum := "0f139c3293638839057d0cf75db8855b7b009f1b70452e17eee147b9653a8ef1", func := "vicinage/vicinagelaw23.SessionFloats", spec := "sessionFloats", inPlace := ["internal/bytealg.MakeNoZero", "math.Float64frombits", "math.Float64bits", "math.RoundToEven"], unfollowed := true, recurses := true, apart := false }
def SessionFloatsSaid : Prop := sessionFloatsRow.holds Tryz.pinned (OpenSpec.ofChange sessionFloatsSpec)

/-- ITS FALSE NEIGHBOUR: 'it returns false'. Refute it at one input. -/
def sessionFloatsWrong : ChangeSpec := { name := "sessionFloats", fn := fun _ => fun
  | [d1, d2] => { results := [.lit (.bool false)], args := [d1, d2] }
  | _ => none }
def SessionFloatsWrongFalsely : Prop := sessionFloatsRow.holds Tryz.pinned (OpenSpec.ofChange sessionFloatsWrong)

/-- 'vicinagelaw23.SessionPlays': WHATEVER THE INPUT: true; the input reads as it did. -/
def sessionPlaysSpec : ChangeSpec := { name := "sessionPlays", fn := fun _ => fun
  | [d1, d2] => { results := [.lit (.bool true)], args := [d1, d2] }
  | _ => none }
def sessionPlaysRow : OpenClaim := { program := "ytcgmgdjeamidlaagreat", sum := "0f139c3293638839057d0cf75db8855b7b009f1b70452e17eee147b9653a8ef1", func := "vicinage/vicinagelaw23.SessionPlays", spec := "sessionPlays", inPlace := ["internal/bytealg.MakeNoZero", "math.Float64frombits", "math.Float64bits", "math.RoundToEven"], unfollowed := true, recurses := true, apart := false }
def SessionPlaysSaid : Prop := sessionPlaysRow.holds Tryz.pinned (OpenSpec.ofChange sessionPlaysSpec)

/-- ITS FALSE NEIGHBOUR: 'it returns false'. Refute it at one input. -/
def sessionPlaysWrong : ChangeSpec := { name := "sessionPlays", fn := fun _ => fun
  | [d1, d2] => { results := [.lit (.bool false)], args := [d1, d2] }
  | _ => none }
def SessionPlaysWrongFalsely : Prop := sessionPlaysRow.holds Tryz.pinned (OpenSpec.ofChange sessionPlaysWrong)

/-- 'vicinagelaw23.SessionNone': WHATEVER THE INPUT: true; the input reads as it did. -/
def sessionNoneSpec : ChangeSpec := { name := "sessionNone", fn := fun _ => fun
  | [d] => { results := [.lit (.bool true)], args := [d] }
  | _ => none }
def sessionNoneRow : OpenClaim := { program := "ytcgmgdjeamidlaagreat", sum := "0f139c3293638839057d0cf75db8855b7b009f1b70452e17eee147b9653a8ef1", func := "vicinage/vicinagelaw23.SessionNone", spec := "sessionNone", inPlace := ["internal/bytealg.MakeNoZero", "math.Float64frombits", "math.Float64bits", "math.RoundToEven"], unfollowed := true, recurses := true, apart := false }
def SessionNoneSaid : Prop := sessionNoneRow.holds Tryz.pinned (OpenSpec.ofChange sessionNoneSpec)

/-- ITS FALSE NEIGHBOUR: 'it returns false'. Refute it at one input. -/
def sessionNoneWrong : ChangeSpec := { name := "sessionNone", fn := fun _ => fun
  | [d] => { results := [.lit (.bool false)], args := [d] }
  | _ => none }
def SessionNoneWrongFalsely : Prop := sessionNoneRow.holds Tryz.pinned (OpenSpec.ofChange sessionNoneWrong)

/-- 'vicinagelaw24.SchedPlays': WHATEVER THE INPUT: true; the input reads as it did. -/
def schedPlaysSpec : ChangeSpec := { name := "schedPlays", fn := fun _ => fun
  | [d1, d2, d3] => { results := [.lit (.bool true)], args := [d1, d2, d3] }
  | _ => none }
def schedPlaysRow : OpenClaim := { program := "ytcgmgdjeamidlaagreat", sum := "0f139c3293638839057d0cf75db8855b7b009f1b70452e17eee147b9653a8ef1", func := "vicinage/vicinagelaw24.SchedPlays", spec := "schedPlays", inPlace := ["internal/bytealg.MakeNoZero", "math.Float64frombits", "math.Float64bits", "math.RoundToEven"], unfollowed := true, recurses := true, apart := false }
def SchedPlaysSaid : Prop := schedPlaysRow.holds Tryz.pinned (OpenSpec.ofChange schedPlaysSpec)

/-- ITS FALSE NEIGHBOUR: 'it returns false'. Refute it at one input. -/
def schedPlaysWrong : ChangeSpec := { name := "schedPlays", fn := fun _ => fun
  | [d1, d2, d3] => { results := [.lit (.bool false)], args := [d1, d2, d3] }
  | _ => none }
def SchedPlaysWrongFalsely : Prop := schedPlaysRow.holds Tryz.pinned (OpenSpec.ofChange schedPlaysWrong)

/-- 'vicinagelaw24.SchedPieces': WHATEVER THE INPUT: true; the input reads as it did. -/
def schedPiecesSpec : ChangeSpec := { name := "schedPieces", fn := fun _ => fun
  | [d1, d2] => { results := [.lit (.bool true)], args := [d1, d2] }
  | _ => none }
def schedPiecesRow : OpenClaim := { program := "ytcgmgdjeamidlaagreat", sum := "0f139c3293638839057d0cf75db8855b7b009f1b70452e17eee147b9653a8ef1", func := "vicinage/vicinagelaw24.SchedPieces", spec := "schedPieces", inPlace := ["internal/bytealg.MakeNoZero", "math.Float64frombits", "math.Float64bits", "math.RoundToEven"], unfollowed := true, recurses := true, apart := false }
def SchedPiecesSaid : Prop := schedPiecesRow.holds Tryz.pinned (OpenSpec.ofChange schedPiecesSpec)

/-- ITS FALSE NEIGHBOUR: 'it returns false'. Refute it at one input. -/
def schedPiecesWrong : ChangeSpec := { name := "schedPieces", fn := fun _ => fun
  | [d1, d2] => { results := [.lit (.bool false)], args := [d1, d2] }
  | _ => none }
def SchedPiecesWrongFalsely : Prop := schedPiecesRow.holds Tryz.pinned (OpenSpec.ofChange schedPiecesWrong)

/-- 'vicinagelaw24.SchedRuns': WHATEVER THE INPUT: true; the input reads as it did. -/
def schedRunsSpec : ChangeSpec := { name := "schedRuns", fn := fun _ => fun
  | [d] => { results := [.lit (.bool true)], args := [d] }
  | _ => none }
def schedRunsRow : OpenClaim := { program := "ytcgmgdjeamidlaagreat", sum := "0f139c3293638839057d0cf75db8855b7b009f1b70452e17eee147b9653a8ef1", func := "vicinage/vicinagelaw24.SchedRuns", spec := "schedRuns", inPlace := ["internal/bytealg.MakeNoZero", "math.Float64frombits", "math.Float64bits", "math.RoundToEven"], unfollowed := true, recurses := true, apart := false }
def SchedRunsSaid : Prop := schedRunsRow.holds Tryz.pinned (OpenSpec.ofChange schedRunsSpec)

/-- ITS FALSE NEIGHBOUR: 'it returns false'. Refute it at one input. -/
def schedRunsWrong : ChangeSpec := { name := "schedRuns", fn := fun _ => fun
  | [d] => { results := [.lit (.bool false)], args := [d] }
  | _ => none }
def SchedRunsWrongFalsely : Prop := schedRunsRow.holds Tryz.pinned (OpenSpec.ofChange schedRunsWrong)

/-- 'vicinagelaw24.SchedNone': WHATEVER THE INPUT: true; the input reads as it did. -/
def schedNoneSpec : ChangeSpec := { name := "schedNone", fn := fun _ => fun
  | [d] => { results := [.lit (.bool true)], args := [d] }
  | _ => none }
def schedNoneRow : OpenClaim := { program := "ytcgmgdjeamidlaagreat", sum := "0f139c3293638839057d0cf75db8855b7b009f1b70452e17eee147b9653a8ef1", func := "vicinage/vicinagelaw24.SchedNone", spec := "schedNone", inPlace := ["internal/bytealg.MakeNoZero", "math.Float64frombits", "math.Float64bits", "math.RoundToEven"], unfollowed := true, recurses := true, apart := false }
def SchedNoneSaid : Prop := schedNoneRow.holds Tryz.pinned (OpenSpec.ofChange schedNoneSpec)

/-- ITS FALSE NEIGHBOUR: 'it returns false'. Refute it at one input. -/
def schedNoneWrong : ChangeSpec := { name := "schedNone", fn := fun _ => fun
  | [d] => { results := [.lit (.bool false)], args := [d] }
  | _ => none }
def SchedNoneWrongFalsely : Prop := schedNoneRow.holds Tryz.pinned (OpenSpec.ofChange schedNoneWrong)

/- THE SECOND FORM. 'bulk': how many values and letters a reading holds, each counted each time it is reached (what is shared counts as often as it is met; a slice's spare places count too). A statement '..UptoSaid' is the law's where the arguments, and the package variables that the reading takes, are together of bulk at most 1048576: NARROWER than '..Said'. Prove '..Said' where nothing that the law and all that it calls make is longer than what came in: it says more and counts as full. Else prove '..UptoSaid'. A law counts once. -/
mutual
def uptoBulk {H : Type} : DataW H → Nat
  | .lit (.string bytes) => bytes.length + 1
  | .lit _ => 1
  | .nil => 1
  | .ptr d => uptoBulk d + 1
  | .slice elems spare => uptoBulkAll elems + uptoBulkAll spare + 1
  | .agg parts => uptoBulkAll parts + 1
  | .iface _ d => uptoBulk d + 1
  | .map entries => uptoBulkEntries entries + 1
  | .held _ => 1
def uptoBulkAll {H : Type} : List (DataW H) → Nat
  | [] => 0
  | d :: r => uptoBulk d + uptoBulkAll r
def uptoBulkEntries {H : Type} : List (Lit × DataW H) → Nat
  | [] => 0
  | x :: r => uptoBulkEntry x + uptoBulkEntries r
def uptoBulkEntry {H : Type} : Lit × DataW H → Nat
  | (.string bytes, d) => bytes.length + uptoBulk d + 1
  | (_, d) => uptoBulk d + 1
 end
def uptoSmall : (H : Type) → List (DataW H) → Bool := fun _ ds => decide (uptoBulkAll ds ≤ 1048576)
def OpenSpec.upto (s : _root_.Go.ChangeSpec) : _root_.Go.OpenSpec := { _root_.Go.OpenSpec.ofChange s with cond := some uptoSmall }

/-- 'vicinagelaw23.SessionQuiet', WHERE WHAT IT READS IS OF BULK AT MOST 1048576: true; the input reads as it did. -/
def sessionQuietUptoRow : OpenClaim := { program := "ytcgmgdjeamidlaagreat", sum := "0f139c3293638839057d0cf75db8855b7b009f1b70452e17eee147b9653a8ef1", func := "vicinage/vicinagelaw23.SessionQuiet", spec := "sessionQuiet", inPlace := ["internal/bytealg.MakeNoZero", "math.Float64frombits", "math.Float64bits", "math.RoundToEven"], unfollowed := true, recurses := true, apart := false, narrowed := true }
def SessionQuietUptoSaid : Prop := sessionQuietUptoRow.holds Tryz.pinned (OpenSpec.upto sessionQuietSpec)

/-- 'vicinagelaw23.SessionFloats', WHERE WHAT IT READS IS OF BULK AT MOST 1048576: true; the input reads as it did. -/
def sessionFloatsUptoRow : OpenClaim := { program := "ytcgmgdjeamidlaagreat", sum := "0f139c3293638839057d0cf75db8855b7b009f1b70452e17eee147b9653a8ef1", func := "vicinage/vicinagelaw23.SessionFloats", spec := "sessionFloats", inPlace := ["internal/bytealg.MakeNoZero", "math.Float64frombits", "math.Float64bits", "math.RoundToEven"], unfollowed := true, recurses := true, apart := false, narrowed := true }
def SessionFloatsUptoSaid : Prop := sessionFloatsUptoRow.holds Tryz.pinned (OpenSpec.upto sessionFloatsSpec)

/-- 'vicinagelaw23.SessionPlays', WHERE WHAT IT READS IS OF BULK AT MOST 1048576: true; the input reads as it did. -/
def sessionPlaysUptoRow : OpenClaim := { program := "ytcgmgdjeamidlaagreat", sum := "0f139c3293638839057d0cf75db8855b7b009f1b70452e17eee147b9653a8ef1", func := "vicinage/vicinagelaw23.SessionPlays", spec := "sessionPlays", inPlace := ["internal/bytealg.MakeNoZero", "math.Float64frombits", "math.Float64bits", "math.RoundToEven"], unfollowed := true, recurses := true, apart := false, narrowed := true }
def SessionPlaysUptoSaid : Prop := sessionPlaysUptoRow.holds Tryz.pinned (OpenSpec.upto sessionPlaysSpec)

/-- 'vicinagelaw23.SessionNone', WHERE WHAT IT READS IS OF BULK AT MOST 1048576: true; the input reads as it did. -/
def sessionNoneUptoRow : OpenClaim := { program := "ytcgmgdjeamidlaagreat", sum := "0f139c3293638839057d0cf75db8855b7b009f1b70452e17eee147b9653a8ef1", func := "vicinage/vicinagelaw23.SessionNone", spec := "sessionNone", inPlace := ["internal/bytealg.MakeNoZero", "math.Float64frombits", "math.Float64bits", "math.RoundToEven"], unfollowed := true, recurses := true, apart := false, narrowed := true }
def SessionNoneUptoSaid : Prop := sessionNoneUptoRow.holds Tryz.pinned (OpenSpec.upto sessionNoneSpec)

/-- 'vicinagelaw24.SchedPlays', WHERE WHAT IT READS IS OF BULK AT MOST 1048576: true; the input reads as it did. -/
def schedPlaysUptoRow : OpenClaim := { program := "ytcgmgdjeamidlaagreat", sum := "0f139c3293638839057d0cf75db8855b7b009f1b70452e17eee147b9653a8ef1", func := "vicinage/vicinagelaw24.SchedPlays", spec := "schedPlays", inPlace := ["internal/bytealg.MakeNoZero", "math.Float64frombits", "math.Float64bits", "math.RoundToEven"], unfollowed := true, recurses := true, apart := false, narrowed := true }
def SchedPlaysUptoSaid : Prop := schedPlaysUptoRow.holds Tryz.pinned (OpenSpec.upto schedPlaysSpec)

/-- 'vicinagelaw24.SchedPieces', WHERE WHAT IT READS IS OF BULK AT MOST 1048576: true; the input reads as it did. -/
def schedPiecesUptoRow : OpenClaim := { program := "ytcgmgdjeamidlaagreat", sum := "0f139c3293638839057d0cf75db8855b7b009f1b70452e17eee147b9653a8ef1", func := "vicinage/vicinagelaw24.SchedPieces", spec := "schedPieces", inPlace := ["internal/bytealg.MakeNoZero", "math.Float64frombits", "math.Float64bits", "math.RoundToEven"], unfollowed := true, recurses := true, apart := false, narrowed := true }
def SchedPiecesUptoSaid : Prop := schedPiecesUptoRow.holds Tryz.pinned (OpenSpec.upto schedPiecesSpec)

/-- 'vicinagelaw24.SchedRuns', WHERE WHAT IT READS IS OF BULK AT MOST 1048576: true; the input reads as it did. -/
def schedRunsUptoRow : OpenClaim := { program := "ytcgmgdjeamidlaagreat", sum := "0f139c3293638839057d0cf75db8855b7b009f1b70452e17eee147b9653a8ef1", func := "vicinage/vicinagelaw24.SchedRuns", spec := "schedRuns", inPlace := ["internal/bytealg.MakeNoZero", "math.Float64frombits", "math.Float64bits", "math.RoundToEven"], unfollowed := true, recurses := true, apart := false, narrowed := true }
def SchedRunsUptoSaid : Prop := schedRunsUptoRow.holds Tryz.pinned (OpenSpec.upto schedRunsSpec)

/-- 'vicinagelaw24.SchedNone', WHERE WHAT IT READS IS OF BULK AT MOST 1048576: true; the input reads as it did. -/
def schedNoneUptoRow : OpenClaim := { program := "ytcgmgdjeamidlaagreat", sum := "0f139c3293638839057d0cf75db8855b7b009f1b70452e17eee147b9653a8ef1", func := "vicinage/vicinagelaw24.SchedNone", spec := "schedNone", inPlace := ["internal/bytealg.MakeNoZero", "math.Float64frombits", "math.Float64bits", "math.RoundToEven"], unfollowed := true, recurses := true, apart := false, narrowed := true }
def SchedNoneUptoSaid : Prop := schedNoneUptoRow.holds Tryz.pinned (OpenSpec.upto schedNoneSpec)

end Rows
end Go.Proofs.YtcgmgdjeamidlaaGreat
