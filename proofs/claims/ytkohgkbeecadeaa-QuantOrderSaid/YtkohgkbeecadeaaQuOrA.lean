/- QuantOrder: what its walks share. -/
import Derived.Test.YtkohgkbeecadeaaQuS
import Derived.Test.YtkohgkbeecadeaaQuK
namespace Go.Proofs.Ytkohgkbeecadeaa
open Go.ChangeShapes Go.WideShapes Go.ChangeAt Go.RowKit Go.Joins
open Go.Sort Go.Lib Go.Shelf
set_option linter.unusedVariables false
namespace quantOrder
def Goal (a : Option Addr) (n c : Nat) (x y z : Int) (w : World) : Prop := Calls Try.prog 8 #[.slice a n c, .int .u64 x, .int .u64 y, .int .u64 z] w fun e w' => e = .returned (.bool true) ∧ Below w.heap.size w w'
theorem tot_n {x y t : Int} (h : totF x y = t) (h0 : 0 ≤ x ∧ x < 18446744073709551616) (h1 : 0 ≤ y ∧ y < 18446744073709551616) (w : World) : Calls Try.prog 20 #[.int .u64 x, .int .u64 y] w fun e w' => e = .returned (.int .i64 t) ∧ w' = w := h ▸ total_any x y w h0.1 h0.2 h1.1 h1.2
theorem rtot_n {x y t : Int} (h : totF x y = t) (h0 : 0 ≤ x ∧ x < 18446744073709551616) (h1 : 0 ≤ y ∧ y < 18446744073709551616) (w : World) : Calls Try.prog 21 #[.int .u64 x, .int .u64 y] w fun e w' => e = .returned (.int .i64 t) ∧ w' = w := h ▸ rtotal_any x y w h0.1 h0.2 h1.1 h1.2
/-- What came in. -/
def NumsIn (w : World) (a : Option Addr) (n c : Nat) (l : List U64) : Prop := l.length = n ∧ n ≤ c ∧ c ≤ 9223372036854775807 ∧ SrcOf w (.slice a n c) n 1 ((nums l).map (Value.int .u64)) ∧ Ints .u64 w (.slice a n c) (nums l)
theorem totF_le {x y : Int} (h : placeF x ≤ placeF y) : totF x y ≤ 0 := by unfold totF cmpF; (repeat' split) <;> omega
theorem holds_cell {w : World} {g : Nat} {l : List U64} (h : Holds encU w g 0 l.toArray) {i : Nat} (hi : i < l.length) : w.cell? ⟨g, i, none⟩ = some (.int .u64 (l[i]).1) ∧ w.frozen? ⟨g, i, none⟩ = false := by
  have := h i (by simpa using hi)
  rw [Nat.zero_add] at this
  refine ⟨?_, this.2⟩
  rw [this.1]
  simp [encU, hi, getElem!_pos]
theorem holds_below {w w' : World} {g : Nat} {l : List U64} (h : Holds encU w g 0 l.toArray) (hg : g < w.heap.size) (hb : Below w.heap.size w w') : Holds encU w' g 0 l.toArray := fun j hj =>
  ⟨by rw [hb.cell (p := ⟨g, _, none⟩) hg]; exact (h j hj).1, by rw [hb.frozen (p := ⟨g, _, none⟩) hg]; exact (h j hj).2⟩
theorem ints_keep {w w' : World} {B : Nat} {v : Value} {xs : List Int} (h : Ints .u64 w v xs) (hB : w.heap.size ≤ B) (hb : Below B w w') : Ints .u64 w' v xs := h.below fun b o hlt => hb.cell (p := ⟨b, o, none⟩) (Nat.lt_of_lt_of_le hlt hB)
end quantOrder
end Go.Proofs.Ytkohgkbeecadeaa
