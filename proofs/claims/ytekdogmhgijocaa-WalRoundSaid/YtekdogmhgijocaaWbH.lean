/- wal: place, and Master at a record's place (no point). -/
import Derived.Test.YtekdogmhgijocaaWbG
import Derived.Deep.Cut
import Derived.Deep.CutBlock
namespace Go.Proofs.Ytekdogmhgijocaa
open Go.RowKit Go.ChangeShapes Go.WideShapes Go.ChangeAt
open Go.Proofs.Ytekdogmhgijocaa.dk (Dk Dev sectorD)
set_option linter.unusedVariables false
set_option linter.unusedSimpArgs false

set_option maxRecDepth 100000 in
set_option maxHeartbeats 4000000 in
theorem place_on {w : World} {q : Nat} {l kind ep txn pg off nx : Int} (h : Calls Try.prog 15 #[.pointer (some ⟨q, 0, none⟩), .int .u64 l] w (LRead kind l ep txn pg off nx w)) :
    Calls Try.prog 39 #[.pointer (some ⟨q, 0, none⟩), .int .u64 l] w fun e w' => e = .returned (.bool true) ∧ Only [] w w' := by
  have H := Lib.hid h
  clear h
  go_enter Try.func39, Try.ntmps39
  go_wp2_with fail
  refine H.out.mono ?_
  rintro _ w2 ⟨a1, n1, d1, a2, n2, d2, he, k2⟩
  unfold recR at he
  subst he
  have K2 := Lib.hid k2
  clear k2
  go_wp2_with fail
  go_ret
  exact ⟨rfl, K2.out.alloc _⟩
set_option maxRecDepth 100000 in
set_option maxHeartbeats 8000000 in
theorem master_on {W w : World} {p q : Nat} {D : Dk} {F : List Nat} {L : Lg} {tail : Value} {l kind ep txn pg off nx : Int} (h : LgAt W w p q D F L tail) (hd : L.down = false) (hc : dk.Calm D) (hm : D.most = D.sectors) (h0 : 0 ≤ L.at_) (h1 : L.at_ + 2 ≤ D.sectors) (hs : 0 ≤ L.seq ∧ L.seq < 18446744073709551615) (hok : MasOk (L.seq + 1) L.ep l 0 L.ct)
    (hl : L.st ≤ l ∧ l ≤ L.fl ∧ l < L.end_)
    (hr : ∀ y, Only [] w y → Calls Try.prog 15 #[.pointer (some ⟨q, 0, none⟩), .int .u64 l] y (LRead kind l ep txn pg off nx y)) :
    Calls Try.prog 18 #[.pointer (some ⟨q, 0, none⟩), .int .u64 l, .int .u64 0] w (TellPost W p q D F L tail L.ep l 0 L.ct w) := by
  have H := Lib.hid h
  have HR := Lib.hid hr
  have HT := Lib.hid (And.intro hc (And.intro hm (And.intro h0 (And.intro h1 (And.intro hs hok)))))
  have TH := Lib.hid (there_on h.row hd)
  have d1 : decide (L.st ≤ l) = true := decide_eq_true hl.1
  have d2 : decide (l ≤ L.fl) = true := decide_eq_true hl.2.1
  have d3 : (l == L.end_) = false := by simp; omega
  have HL := Lib.hid hl
  clear h hr hc hm h0 h1 hs hok hl
  go_enter Try.func18, Try.ntmps18
  go_wp2_with fail
  refine TH.out.mono ?_
  rintro _ w2 ⟨rfl, hw2⟩
  subst hw2
  have k5 : w2.cell? ⟨q, 5, none⟩ = some (.int .u64 L.st) := H.out.row.cell 5
  have k8 : w2.cell? ⟨q, 8, none⟩ = some (.int .u64 L.end_) := H.out.row.cell 8
  have k9 : w2.cell? ⟨q, 9, none⟩ = some (.int .u64 L.fl) := H.out.row.cell 9
  have PL := Lib.hid fun y (k : Only [] w2 y) => place_on (HR.out y k)
  go_wp2_with fail
  refine (PL.out w2 (Only.refl _ _)).mono ?_
  rintro _ w3 ⟨rfl, k3⟩
  have K3 := Lib.hid k3
  have H3 := Lib.hid (H.out.only k3 (by simp))
  clear k3 k5 k8 k9 PL TH
  have n3 : w3.cell? ⟨q, 3, none⟩ = some (.int .u64 L.seq) := H3.out.row.cell 3
  have n4 : w3.cell? ⟨q, 4, none⟩ = some (.int .u32 L.ep) := H3.out.row.cell 4
  have n5 : w3.cell? ⟨q, 5, none⟩ = some (.int .u64 L.st) := H3.out.row.cell 5
  have n6 : w3.cell? ⟨q, 6, none⟩ = some (.int .u64 L.pt) := H3.out.row.cell 6
  have n7 : w3.cell? ⟨q, 7, none⟩ = some (.int .u64 L.ct) := H3.out.row.cell 7
  have n9 : w3.cell? ⟨q, 9, none⟩ = some (.int .u64 L.fl) := H3.out.row.cell 9
  have n12 : w3.cell? ⟨q, 12, none⟩ = some (.bool false) := by rw [← hd]; exact H3.out.row.cell 12
  go_wp2_with fail
  have K4 : Hid (Only [] w2 (w3.alloc (.cells #[.int .u64 L.seq, .int .u32 L.ep, .int .u64 l, .int .u64 0, .int .u64 L.ct] 64))) := Lib.hid (K3.out.alloc _)
  generalize w3.alloc (.cells #[.int .u64 L.seq, .int .u32 L.ep, .int .u64 l, .int .u64 0, .int .u64 L.ct] 64) = w4 at *
  have H4 := Lib.hid (H.out.only K4.out (by simp))
  have TE := Lib.hid (tell_on H4.out HT.out.1 HT.out.2.1 HT.out.2.2.1 HT.out.2.2.2.1 HT.out.2.2.2.2.1 L.seq L.ep l 0 L.ct HT.out.2.2.2.2.2)
  refine TE.out.mono ?_
  rintro _ w5 ⟨rfl, lg5, k5⟩
  have N := Lib.hid (show LgAt W w5 p q (toldD D L L.ep l 0 L.ct) F (toldL L L.ep l 0 L.ct) tail ∧ Only (q :: F) w2 w5 from ⟨lg5, (K4.out.mono (by simp)).trans k5 fun i hi => .inl hi⟩)
  clear lg5 k5 TE
  go_wp2_with fail
  refine (fails_ok q w5).mono ?_
  rintro _ w6 ⟨rfl, hw6⟩
  subst hw6
  go_wp2_with fail
  go_ret
  exact ⟨rfl, N.out.1, N.out.2⟩
end Go.Proofs.Ytekdogmhgijocaa
