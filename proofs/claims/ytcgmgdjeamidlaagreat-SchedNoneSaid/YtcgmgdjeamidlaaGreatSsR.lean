/- Sessions: Do of begin; Txn. -/
import Derived.Test.YtcgmgdjeamidlaaGreatSsQ
namespace Go.Proofs.YtcgmgdjeamidlaaGreat
open Go.RowKit Go.ChangeShapes Go.WideShapes Go.ChangeAt
set_option linter.unusedVariables false
set_option linter.unusedSimpArgs false

/-- What Do leaves behind begin: the bytes of the reply, the session, the DB. -/
def DoneTo (B p ss : Nat) (D : PDB) (F H : List Nat) (zs : List Int) (w : World) (e : Ending) (w' : World) : Prop := (∃ v, e = .returned v ∧ w'.ownsRow w.heap.size 5 1 v zs.length (zs.map (Value.int .u8))) ∧ Row w' ss #[baseV p, .int .u64 (D.begun + 1)] tSs ∧ ∃ bt bm F', DbF w' B p (beginP D bt bm) F' H ∧ Only (ss :: F) w w' ∧ Kept F F' w
set_option maxRecDepth 100000 in
set_option maxHeartbeats 4000000 in
theorem do_begin {s : Sl} {w : World} {B p ss : Nat} {D : PDB} {F H : List Nat} (h : DbF w B p D F H) (hB : B ≤ w.heap.size) (hl : D.op.length < 8) (hb : D.begun < 1000000) (hs : Row w ss #[baseV p, .int .u64 0] tSs) (ha : ss ∉ F ∧ ss ∉ H) (hr : SlRd .u8 w s) (hx : s.xs = [1]) :
    Calls Tryz.prog 14 #[.pointer (some ⟨ss, 0, none⟩), s.v] w (DoneTo B p ss D F H [1, 0] w) := by
  have RP := Lib.hid (sreply_on h hB hl hb hs ha hr hx)
  have TD := Lib.hid (tell_done 0 (by omega) (by omega))
  unfold BegunTo at RP
  unfold AskTo at TD
  unfold Sl.v at RP ⊢
  clear h hB hl hb hs ha hr hx
  go_enter Tryz.func14, Tryz.ntmps14
  go_wp2_with fail
  refine RP.out.mono ?_
  rintro _ w2 ⟨rfl, h2, h3⟩
  have H2 := Lib.hid (And.intro h2 h3)
  clear h2 h3 RP
  unfold doneCells at TD ⊢
  go_wp2_with fail
  refine (TD.out w2).mono ?_
  rintro _ w3 ⟨v, rfl, ho, hb3⟩
  have N : Hid (DoneTo B p ss D F H [1, 0] w (.returned v) w3) := Lib.hid (by
    obtain ⟨h2, bt, bm, F', h3, h4, h5⟩ := H2.out
    have k := (Only.refl [] w2).below hb3
    exact ⟨⟨v, rfl, own_mono ho h4.size⟩, h2.only k (by simp), bt, bm, F', h3.only k (by simp), h4.below hb3, h5⟩)
  clear ho hb3 TD
  go_wp2_with fail
  go_ret
  exact N.out
theorem txn_on {w : World} {ss : Nat} {b : Value} {t : Int} (h : Row w ss #[b, .int .u64 t] tSs) : Calls Tryz.prog 23 #[.pointer (some ⟨ss, 0, none⟩)] w fun e w' => e = .returned (.int .u64 t) ∧ w' = w := by
  have c1 : w.cell? ⟨ss, 1, none⟩ = some (.int .u64 t) := h.cell 1
  clear h
  go_enter Tryz.func23, Tryz.ntmps23
  go_wp2_with fail
  go_ret
  exact ⟨rfl, rfl⟩
end Go.Proofs.YtcgmgdjeamidlaaGreat
