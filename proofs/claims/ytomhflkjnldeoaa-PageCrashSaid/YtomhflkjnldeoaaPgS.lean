/- Writes and reads that are refused. -/
import Derived.Test.YtomhflkjnldeoaaPgR
namespace Go.Proofs.Ytomhflkjnldeoaa
open Go.RowKit Go.ChangeShapes Go.WideShapes Go.ChangeAt
open Go.Proofs.Ytomhflkjnldeoaa.dk (Dk Dev)
set_option linter.unusedVariables false

def Said (r : Int) (w : World) (e : Ending) (w' : World) : Prop := e = .returned (.int .i64 r) ∧ Only [] w w'
theorem write_found {w : World} {q : Value} {b n : Int} {r : Int} (N : Int) (a : Option Addr) (m c : Nat) (hr : (r == 0) = false) (hr2 : (r != 0) = true) (K : ∀ x, Only [] w x → Calls Try.prog 36 #[q, .int .i64 b, .int .i64 n] x (FoundPost (.pointer none) 0 r x)) :
    Calls Try.prog 18 #[q, .int .i64 b, .int .i64 n, .agg #[.int .u64 N, .slice a m c]] w (Said r w) := by
  have KK := Lib.hid K
  have d0 : decide (r = 0) = false := decide_eq_false (by simpa using hr)
  clear K
  go_enter Try.func18, Try.ntmps18
  go_wp2_with fail
  have O1 : Hid (Only [] w (w.alloc (.cells #[.int .u64 N, .slice a m c] 25))) := Lib.hid ((Only.refl [] w).alloc _)
  generalize w.alloc (.cells #[.int .u64 N, .slice a m c] 25) = w1 at *
  refine (KK.out w1 O1.out).mono ?_
  rintro _ w2 ⟨rfl, k2⟩
  have O2 : Hid (Only [] w (w2.alloc (.cells #[.pointer none, .int .i64 0] 73))) := Lib.hid ((O1.out.and k2).alloc _)
  clear k2 O1
  go_wp2_with fail
  go_ret
  exact ⟨rfl, O2.out⟩
theorem write_no {W w : World} {p : Nat} {D : Dk} {F : List Nat} (h : Dev W w p D F) (b n N : Int) (a : Option Addr) (m c : Nat) (hs1 : 1 ≤ D.sectors) (hb : -9223372036854775808 ≤ b ∧ b ≤ 9223372036854775807) (hl : ¬ Lies D.sectors b n) :
    Calls Try.prog 18 #[.pointer (some ⟨p, 0, none⟩), .int .i64 b, .int .i64 n, .agg #[.int .u64 N, .slice a m c]] w (Said 2 w) :=
  write_found N a m c rfl rfl fun x k => find_bad (h.none k) b n hs1 hb hl
theorem write_nil (b n N : Int) (a : Option Addr) (m c : Nat) (w : World) :
    Calls Try.prog 18 #[.pointer none, .int .i64 b, .int .i64 n, .agg #[.int .u64 N, .slice a m c]] w (Said 1 w) :=
  write_found N a m c rfl rfl fun x k => find_nil b n x
theorem write_short {W w : World} {p : Nat} {D : Dk} {F : List Nat} (h : Dev W w p D F) (b n N : Int) (a : Option Addr) (m c : Nat) (hl : Lies D.sectors b n) (hm : m ≠ 500) :
    Calls Try.prog 18 #[.pointer (some ⟨p, 0, none⟩), .int .i64 b, .int .i64 n, .agg #[.int .u64 N, .slice a m c]] w (Said 2 w) := by
  have KK := Lib.hid fun x (k : Only [] w x) => find_ok (h.none k) b n hl
  have BB := Lib.hid fun x => bytes_bad N a m c x hm
  clear h hl hm
  go_enter Try.func18, Try.ntmps18
  go_wp2_with fail
  have P1 : Hid (Row (w.alloc (.cells #[.int .u64 N, .slice a m c] 25)) w.heap.size #[.int .u64 N, .slice a m c] 25) := Lib.hid (Row.made _ _ _)
  have O1 : Hid (Only [] w (w.alloc (.cells #[.int .u64 N, .slice a m c] 25))) := Lib.hid ((Only.refl [] w).alloc _)
  generalize w.alloc (.cells #[.int .u64 N, .slice a m c] 25) = w1 at *
  refine (KK.out w1 O1.out).mono ?_
  rintro _ w2 ⟨rfl, k2⟩
  have P2 := Lib.hid (P1.out.only k2 (by simp))
  have c0 : w2.cell? ⟨w.heap.size, 0, none⟩ = some (.int .u64 N) := P2.out.cell 0
  have c1 : w2.cell? ⟨w.heap.size, 1, none⟩ = some (.slice a m c) := P2.out.cell 1
  have hq : w.heap.size < w2.heap.size := P2.out.lt
  have O2 : Hid (Only [] w (w2.alloc (.cells #[.pointer (some ⟨p, 0, none⟩), .int .i64 (b + 4 * n)] 73))) := Lib.hid ((O1.out.and k2).alloc _)
  clear k2 O1 P1 P2
  go_wp2_with fail
  clear c0 c1 hq
  generalize w2.alloc (.cells #[.pointer (some ⟨p, 0, none⟩), .int .i64 (b + 4 * n)] 73) = w3 at *
  refine (BB.out w3).mono ?_
  rintro _ w4 ⟨rfl, hb4⟩
  have O4 := Lib.hid (O2.out.below hb4)
  clear hb4 O2
  go_wp2_with fail
  go_ret
  exact ⟨rfl, O4.out⟩
def NoPage (w : World) (e : Ending) (w' : World) : Prop := e = .returned (.tuple #[.agg #[.int .u64 0, .slice none 0 0], .int .i64 2]) ∧ Only [] w w'
theorem read_no {W w : World} {p : Nat} {D : Dk} {F : List Nat} (h : Dev W w p D F) (b n : Int) (hs1 : 1 ≤ D.sectors) (hb : -9223372036854775808 ≤ b ∧ b ≤ 9223372036854775807) (hl : ¬ Lies D.sectors b n) :
    Calls Try.prog 20 #[.pointer (some ⟨p, 0, none⟩), .int .i64 b, .int .i64 n] w (NoPage w) := by
  have KK := Lib.hid fun x (k : Only [] w x) => find_bad (h.none k) b n hs1 hb hl
  clear h hl hb hs1
  go_enter Try.func20, Try.ntmps20
  go_wp2_with fail
  have R1 : Hid (Row (w.alloc (.cells #[.int .u64 0, .slice none 0 0] 25)) w.heap.size #[.int .u64 0, .slice none 0 0] 25) := Lib.hid (Row.made _ _ _)
  have O1 : Hid (Only [] w (w.alloc (.cells #[.int .u64 0, .slice none 0 0] 25))) := Lib.hid ((Only.refl [] w).alloc _)
  generalize w.alloc (.cells #[.int .u64 0, .slice none 0 0] 25) = w1 at *
  refine (KK.out w1 O1.out).mono ?_
  rintro _ w2 ⟨rfl, k2⟩
  have R2 : Hid (Row w2 w.heap.size #[.int .u64 0, .slice none 0 0] 25) := Lib.hid (R1.out.only k2 (by simp))
  have O2 : Hid (Only [] w w2) := Lib.hid (O1.out.and k2)
  have c0 : w2.cell? ⟨w.heap.size, 0, none⟩ = some (.int .u64 0) := R2.out.cell 0
  have c1 : w2.cell? ⟨w.heap.size, 1, none⟩ = some (.slice none 0 0) := R2.out.cell 1
  have f0 := R2.out.free 0
  have f1 := R2.out.free 1
  have hq : w.heap.size < w2.heap.size := R2.out.lt
  clear k2 O1 R1
  go_wp2_with fail
  refine bodyPost_ret (results_paper2 rfl _ _ w.heap.size (.int .u64 0) (.slice none 0 0) rfl ((stored_row R2.out).only ((Only.refl [] _).alloc _) (by simp))) rfl ?_
  exact ⟨rfl, ((O2.out.setCell (.inr (Nat.le_refl _)) _).setCell (.inr (Nat.le_refl _)) _).alloc _⟩
end Go.Proofs.Ytomhflkjnldeoaa
