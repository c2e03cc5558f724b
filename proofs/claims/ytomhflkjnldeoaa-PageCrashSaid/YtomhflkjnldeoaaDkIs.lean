/- Calm devices synced. -/
import Derived.Test.YtomhflkjnldeoaaDkI
import Derived.Test.YtomhflkjnldeoaaDkHs
namespace Go.Proofs.Ytomhflkjnldeoaa.dk
open Go.RowKit Go.ChangeShapes Go.WideShapes Go.ChangeAt
set_option linter.unusedVariables false
def synD (D : Dk) : Dk := { D with last := fun k => (findS k D.waits).getD (D.last k), waits := [] }
theorem Calm.sync {D : Dk} (h : Calm D) : stepS D = synD D := by
  rw [stepS, if_neg (by rw [h.off]; simp), h.opD, if_neg (by rw [h.off]; simp), syncD, h.opD]; rfl
theorem Calm.synD {D : Dk} (h : Calm D) : Calm (synD D) := ⟨h.off, h.armed⟩
theorem calm_crash (D : Dk) (pk : List Int) : Calm (crashD D pk) := ⟨rfl, rfl⟩
end Go.Proofs.Ytomhflkjnldeoaa.dk
