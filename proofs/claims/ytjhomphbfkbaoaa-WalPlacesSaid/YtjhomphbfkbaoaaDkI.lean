/- known. -/
import Derived.Test.YtjhomphbfkbaoaaDkH
namespace Go.Proofs.Ytjhomphbfkbaoaa.dk
open Go.RowKit Go.ChangeShapes Go.WideShapes Go.ChangeAt
set_option linter.unusedVariables false

theorem newD_sectors (s m : Int) : (newD s m).sectors = s := rfl
/-- Whether the power is on, no operation is armed. -/
structure Calm (D : Dk) : Prop where
  off : D.off = false
  armed : D.armed = 0
theorem Calm.opD {D : Dk} (h : Calm D) : opD D = D := by unfold Go.Proofs.Ytjhomphbfkbaoaa.dk.opD; rw [h.armed]; simp
theorem Calm.write {D : Dk} (h : Calm D) (k : Int) (s : List Int) : stepW D k s = putD D k s := by
  have h2 : Calm (putD D k s) := ⟨h.off, h.armed⟩
  rw [stepW, if_neg (by rw [h.off]; simp), writeD, h2.opD]
theorem Calm.putD {D : Dk} (h : Calm D) (k : Int) (s : List Int) : Calm (putD D k s) := ⟨h.off, h.armed⟩
theorem calm_new (s m : Int) : Calm (newD s m) := ⟨rfl, rfl⟩
/-- String s of a sector, at any world at which the cells stand. -/
def ConvAt (b : Nat) (s : List Int) (x : World) : Prop := Bytes x b 0 s ∧ (convert 32 9 (.slice (some ⟨b, 0, none⟩) 128 128)).run Try.prog x = .ok (.string (strOfNums s)) x
theorem ConvAt.of {b : Nat} {s : List Int} {x : World} (h : Bytes x b 0 s) (hl : s.length = 128) : ConvAt b s x := ⟨h, conv_bytes h hl⟩
theorem ConvAt.only {b : Nat} {s : List Int} {x y : World} (h : ConvAt b s x) (k : Only [] x y) (hl : s.length = 128) : ConvAt b s y := .of (h.1.only k (by simp)) hl
end Go.Proofs.Ytjhomphbfkbaoaa.dk
