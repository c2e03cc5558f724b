/- TxnPlays: its switch. -/
import Derived.Test.YtodkflnpcfepfaaTxZk
import Derived.Deep.CutBlock
import Derived.BigQuiet
import Derived.Deep.QuietTactic
import Derived.Deep.RegionWith
namespace Go.Proofs.Ytodkflnpcfepfaa
open Go.RowKit Go.ChangeShapes Go.WideShapes Go.ChangeAt
set_option linter.unusedVariables false
set_option linter.unusedSimpArgs false

def findBlock (k : Nat) : Code → Option Code
  | .loop c => findBlock k c
  | .seq a b => match findBlock k a with
    | some c => some c
    | none => findBlock k b
  | .block j c => if j == k then some (.block j c) else findBlock k c
  | .cond _ a b => match findBlock k a with
    | some c => some c
    | none => findBlock k b
  | _ => none
theorem wp_calm {P : Program} {s : Code} {K : Act → World → Prop} {Q : Exit → Act → World → Prop} {a : Act} {w : World} (h : s.wp P (Exit.then K (fun _ _ _ => False)) a w) : s.wp P (Exit.then K Q) a w := by
  refine Code.wp_mono ?_ h
  intro e a' w' hq
  cases e with
  | normal => exact hq
  | exit id => exact hq.elim
  | goto l => exact hq.elim
  | ret => exact hq.elim
  | panic ch => exact hq.elim
  | outgrown => exact hq.elim
def findRegion (k : Nat) : Code → Option Code
  | .loop c => findRegion k c
  | .seq a b => match findRegion k a with
    | some c => some c
    | none => findRegion k b
  | .block _ c => findRegion k c
  | .cond _ a b => match findRegion k a with
    | some c => some c
    | none => findRegion k b
  | .region j ops d => if j == k then some (.region j ops d) else none
  | _ => none
noncomputable def rg52 : Code := ((Try.f5.body.bind (findRegion 52)).getD .skip)
noncomputable def blk1 : Code := ((Try.f5.body.bind (findBlock 1)).getD .skip)
noncomputable def blk2 : Code := ((Try.f5.body.bind (findBlock 2)).getD .skip)
end Go.Proofs.Ytodkflnpcfepfaa
