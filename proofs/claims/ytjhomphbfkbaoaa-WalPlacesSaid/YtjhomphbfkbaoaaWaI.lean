/- wal: a log in memory; find. -/
import Derived.Test.YtjhomphbfkbaoaaWaH
import Derived.Test.YtjhomphbfkbaoaaDkI
import Derived.Test.YtjhomphbfkbaoaaDkD
namespace Go.Proofs.Ytjhomphbfkbaoaa
open Go.RowKit Go.ChangeShapes Go.WideShapes Go.ChangeAt
open Go.Proofs.Ytjhomphbfkbaoaa.dk (Dk Dev sectors_at)
set_option linter.unusedVariables false

structure Lg where
  at_ : Int
  count : Int
  seq : Int
  ep : Int
  st : Int
  pt : Int
  ct : Int
  end_ : Int
  fl : Int
  last : Int
  down : Bool
def Lg.cells (L : Lg) (d tail : Value) : Array Value := #[d, .int .i64 L.at_, .int .i64 L.count, .int .u64 L.seq, .int .u32 L.ep, .int .u64 L.st, .int .u64 L.pt, .int .u64 L.ct, .int .u64 L.end_, .int .u64 L.fl, .int .u32 L.last, tail, .bool L.down]
def lg0 (at_ count : Int) : Lg := ⟨at_, count, 0, 0, 0, 0, 0, 0, 0, 0, false⟩
theorem sectors_dev {W w : World} {p : Nat} {D : Dk} {F : List Nat} (h : Dev W w p D F) : Calls Try.prog 42 #[.pointer (some ⟨p, 0, none⟩)] w fun e w' => e = .returned (.int .i64 D.sectors) ∧ w' = w := by
  obtain ⟨bl, bw, bn, hd, rfl, hB⟩ := h.dk
  exact sectors_at w p bl bw bn D hd
/-- Where a log may lie. -/
def LogAt (n at_ count : Int) : Prop := 16 ≤ count ∧ count ≤ 8192 ∧ 0 ≤ at_ ∧ at_ ≤ n ∧ count + 2 ≤ n - at_
def FindPost (p : Nat) (at_ count : Int) (w : World) (e : Ending) (w' : World) : Prop := e = .returned (.tuple #[.pointer (some ⟨w.heap.size, 0, none⟩), .int .i64 0]) ∧ w' = w.alloc (.cells ((lg0 at_ count).cells (.pointer (some ⟨p, 0, none⟩)) (.slice none 0 0)) 66)
set_option maxHeartbeats 4000000 in
theorem wfind_ok {W w : World} {p : Nat} {D : Dk} {F : List Nat} (h : Dev W w p D F) (at_ count : Int) (hl : LogAt D.sectors at_ count) :
    Calls Try.prog 24 #[.pointer (some ⟨p, 0, none⟩), .int .i64 at_, .int .i64 count] w (FindPost p at_ count w) := by
  obtain ⟨l0, l1, l2, l3, l4⟩ := hl
  have s1 := h.fine.s1
  have SD := Lib.hid (sectors_dev h)
  obtain ⟨s, hs⟩ : ∃ s, D.sectors = s := ⟨_, rfl⟩
  rw [hs] at SD s1 l3 l4
  clear hs h
  have d1 : decide (count < 16) = false := decide_eq_false (by omega)
  have d2 : decide (8192 < count) = false := decide_eq_false (by omega)
  have d3 : decide (at_ < 0) = false := decide_eq_false (by omega)
  have d4 : decide (s < at_) = false := decide_eq_false (by omega)
  have e0 : (s == 0) = false := by simp; omega
  have d0 : decide (s = 0) = false := decide_eq_false (by omega)
  have e1 : IntKind.i64.wrap (count + 2) = count + 2 := IntWalk.i64_in _ (by omega)
  have e2 : IntKind.i64.wrap (s - at_) = s - at_ := IntWalk.i64_in _ (by omega)
  have d5 : decide (s - at_ < count + 2) = false := decide_eq_false (by omega)
  clear l0 l1 l2 l3 l4 s1
  go_enter Try.func24, Try.ntmps24
  go_wp2_with fail
  refine SD.out.mono ?_
  rintro _ w1 ⟨rfl, hw1⟩
  subst hw1
  go_wp2_with fail
  go_ret2
  exact ⟨rfl, rfl⟩
theorem wfind_nil (at_ count : Int) (w : World) : Calls Try.prog 24 #[.pointer none, .int .i64 at_, .int .i64 count] w fun e w' => e = .returned (.tuple #[.pointer none, .int .i64 1]) ∧ w' = w := by
  have SN : Hid (∀ y, Calls Try.prog 42 #[.pointer none] y fun e w' => e = .returned (.int .i64 0) ∧ w' = y) := Lib.hid fun y => by
    go_enter Try.func42, Try.ntmps42
    go_wp2
    go_ret
    exact ⟨rfl, rfl⟩
  go_enter Try.func24, Try.ntmps24
  go_wp2_with fail
  refine (SN.out _).mono ?_
  rintro _ w1 ⟨rfl, hw1⟩
  subst hw1
  go_wp2_with fail
  go_ret2
  exact ⟨rfl, rfl⟩
end Go.Proofs.Ytjhomphbfkbaoaa
