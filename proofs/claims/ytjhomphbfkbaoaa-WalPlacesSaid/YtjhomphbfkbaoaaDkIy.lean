/- Calm devices synced. -/
import Derived.Test.YtjhomphbfkbaoaaDkI
import Derived.Test.YtjhomphbfkbaoaaDkHy
namespace Go.Proofs.Ytjhomphbfkbaoaa.dk
open Go.RowKit Go.ChangeShapes Go.WideShapes Go.ChangeAt
set_option linter.unusedVariables false
def synD (D : Dk) : Dk := { D with last := fun k => (findS k D.waits).getD (D.last k), waits := [] }
theorem Calm.sync {D : Dk} (h : Calm D) : stepS D = synD D := by
  rw [stepS, if_neg (by rw [h.off]; simp), h.opD, if_neg (by rw [h.off]; simp), syncD, h.opD]; rfl
theorem Calm.synD {D : Dk} (h : Calm D) : Calm (synD D) := ⟨h.off, h.armed⟩
end Go.Proofs.Ytjhomphbfkbaoaa.dk
