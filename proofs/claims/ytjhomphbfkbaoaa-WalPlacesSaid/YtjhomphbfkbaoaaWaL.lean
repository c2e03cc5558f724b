/- wal: there, End, limit, Left. -/
import Derived.Test.YtjhomphbfkbaoaaWaK
import Derived.Deep.RegionWith
import Derived.BigQuiet
namespace Go.Proofs.Ytjhomphbfkbaoaa
open Go.RowKit Go.ChangeShapes Go.WideShapes Go.ChangeAt
open Go.Proofs.Ytjhomphbfkbaoaa.dk (Dk Dev)
set_option linter.unusedVariables false

abbrev LgRow (w : World) (q : Nat) (L : Lg) (p : Nat) (tail : Value) : Prop := Row w q (L.cells (.pointer (some ⟨p, 0, none⟩)) tail) 66
theorem there_on {w : World} {q p : Nat} {L : Lg} {tail : Value} (h : LgRow w q L p tail) (hd : L.down = false) : Calls Try.prog 28 #[.pointer (some ⟨q, 0, none⟩)] w fun e w' => e = .returned (.int .i64 0) ∧ w' = w := by
  have c0 : w.cell? ⟨q, 0, none⟩ = some (.pointer (some ⟨p, 0, none⟩)) := h.cell 0
  have c12 : w.cell? ⟨q, 12, none⟩ = some (.bool L.down) := h.cell 12
  rw [hd] at c12
  clear h hd
  go_enter Try.func28, Try.ntmps28
  go_wp2_with fail
  go_ret
  exact ⟨rfl, rfl⟩
theorem there_nil (w : World) : Calls Try.prog 28 #[.pointer none] w fun e w' => e = .returned (.int .i64 1) ∧ w' = w := by
  go_enter Try.func28, Try.ntmps28
  go_wp2_with fail
  go_ret
  exact ⟨rfl, rfl⟩
theorem end_on {w : World} {q p : Nat} {L : Lg} {tail : Value} (h : LgRow w q L p tail) : Calls Try.prog 11 #[.pointer (some ⟨q, 0, none⟩)] w fun e w' => e = .returned (.int .u64 L.end_) ∧ w' = w := by
  have c8 : w.cell? ⟨q, 8, none⟩ = some (.int .u64 L.end_) := h.cell 8
  clear h
  go_enter Try.func11, Try.ntmps11
  go_wp2_with fail
  go_ret
  exact ⟨rfl, rfl⟩
/-- The place that must not be reached; what is left. -/
def limL (L : Lg) : Int := (L.st / 52 + 2 * L.count) * 52
def leftL (L : Lg) : Int := limL L - L.end_
structure LgOk (L : Lg) : Prop where
  s0 : 0 ≤ L.st ∧ L.st ≤ 1125899906842624
  n0 : 0 ≤ L.count ∧ L.count ≤ 8192
  e0 : 0 ≤ L.end_ ∧ L.end_ ≤ limL L
  p0 : 0 ≤ L.ep ∧ L.ep < 4294967296
theorem limit_on {w : World} {q p : Nat} {L : Lg} {tail : Value} (h : LgRow w q L p tail) (ok : LgOk L) : Calls Try.prog 27 #[.pointer (some ⟨q, 0, none⟩)] w fun e w' => e = .returned (.int .u64 (limL L)) ∧ Only [] w w' := by
  have c2 : w.cell? ⟨q, 2, none⟩ = some (.int .i64 L.count) := h.cell 2
  have c5 : w.cell? ⟨q, 5, none⟩ = some (.int .u64 L.st) := h.cell 5
  obtain ⟨s0, s1⟩ := ok.s0
  obtain ⟨n0, n1⟩ := ok.n0
  have wr : ∀ x : Int, 0 ≤ x → x < 18446744073709551616 → IntKind.u64.wrap x = x := fun x h0 h1 => by rw [show IntKind.u64.wrap x = x % 18446744073709551616 from rfl]; omega
  have e0 : L.st.tdiv 52 = L.st / 52 := Int.tdiv_eq_ediv_of_nonneg s0
  have e1 : IntKind.u64.wrap (L.st / 52) = L.st / 52 := wr _ (by omega) (by omega)
  have e2 : IntKind.u64.wrap L.count = L.count := wr _ (by omega) (by omega)
  have e3 : IntKind.u64.wrap (2 * L.count) = 2 * L.count := wr _ (by omega) (by omega)
  have e4 : IntKind.u64.wrap (L.st / 52 + 2 * L.count) = L.st / 52 + 2 * L.count := wr _ (by omega) (by omega)
  have e5 : IntKind.u64.wrap ((L.st / 52 + 2 * L.count) * 52) = (L.st / 52 + 2 * L.count) * 52 := wr _ (by omega) (by omega)
  clear h ok s0 s1 n0 n1 wr
  go_enter Try.func27, Try.ntmps27
  go_upto_region 1 with fail
  go_quiet (fail)
  go_wp2_with fail
  go_ret
  exact ⟨rfl, (Only.refl [] w).drewN _⟩
theorem left_on {w : World} {q p : Nat} {L : Lg} {tail : Value} (h : LgRow w q L p tail) (ok : LgOk L) : Calls Try.prog 10 #[.pointer (some ⟨q, 0, none⟩)] w fun e w' => e = .returned (.int .i64 (leftL L)) ∧ Below w.heap.size w w' := by
  have c0 : w.cell? ⟨q, 0, none⟩ = some (.pointer (some ⟨p, 0, none⟩)) := h.cell 0
  have LM := Lib.hid fun v : After w.heap.size w => ((limit_on (h.of_block (v.2.block _ h.lt)) ok).mono fun e w' ⟨h1, h2⟩ => ⟨h1, h2.toBelow (Nat.le_refl _) (by simp)⟩ : Calls Try.prog 27 #[.pointer (some ⟨q, 0, none⟩)] v.1 fun e w' => e = .returned (.int .u64 (limL L)) ∧ Below v.1.heap.size v.1 w')
  have C8 : Hid (∀ v : After w.heap.size w, v.1.cell? ⟨q, 8, none⟩ = some (.int .u64 L.end_)) := Lib.hid fun v => (v.cell h.lt).trans (h.cell 8)
  obtain ⟨e0, e1⟩ := ok.e0
  have hl : limL L ≤ 1200000000000000 := by
    unfold limL
    have := ok.s0
    have := ok.n0
    omega
  have x1 : IntKind.u64.wrap (limL L - L.end_) = limL L - L.end_ := by rw [show IntKind.u64.wrap (limL L - L.end_) = (limL L - L.end_) % 18446744073709551616 from rfl]; omega
  have x2 : IntKind.i64.wrap (limL L - L.end_) = limL L - L.end_ := IntWalk.i64_in _ (by omega)
  clear h ok e0 e1 hl
  go_enter Try.func10, Try.ntmps10
  go_upto_region 3 with fail
  have c8 := C8.out
  refine region_quiet_in w.heap.size w (by kernel_rfl) (by kernel_rfl) (Below.refl _ _).drew ?_
  repeat (go_big_quiet_step ((go_at_call 27; exact Calls.in_after' (Nat.le_refl _) (LM.out _))))
  refine wpQuiet_nil ?_
  intro w8 hb8
  have B8 := Lib.hid hb8
  clear c8 hb8
  go_wp2_with fail
  go_ret
  exact ⟨rfl, B8.out⟩
end Go.Proofs.Ytjhomphbfkbaoaa
