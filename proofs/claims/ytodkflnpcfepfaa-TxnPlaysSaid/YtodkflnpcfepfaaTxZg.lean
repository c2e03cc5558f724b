/- The document's manager: Commit. -/
import Derived.Test.YtodkflnpcfepfaaTxZf
import Derived.BigRegion
namespace Go.Proofs.Ytodkflnpcfepfaa
open Go.RowKit Go.ChangeShapes Go.WideShapes Go.ChangeAt
set_option linter.unusedVariables false
set_option linter.unusedSimpArgs false

def doneT (x : RT) (t : Int) : RT := { x with at_ := t, op := false }
def commitR (R : Rf) (i : Nat) (x : RT) : Rf := { R with last := R.last + 1, all := R.all.set i (doneT x (R.last + 1)) }
theorem commit_refno {w : World} {B p : Nat} {av : Value} {R : Rf} {n : Int} (hf : NotFound R n) (h : RfAt w B p av R) :
    Calls Try.prog 20 #[.pointer (some ⟨p, 0, none⟩), .int .u64 n] w fun e w' => e = .returned (.tuple #[.int .u64 0, .int .i64 12]) ∧ w' = w := by
  have FI := Lib.hid (check_refno hf h)
  clear h hf
  go_enter Try.func20, Try.ntmps20
  go_wp2_with fail
  refine FI.out.mono ?_
  rintro _ w1 ⟨rfl, hw1⟩
  subst w1
  go_wp2_with fail
  go_ret2
  exact ⟨rfl, rfl⟩
theorem commit_refclash {w : World} {B p : Nat} {av : Value} {R : Rf} {n : Int} {i : Nat} {x : RT} (hf : FoundAt R n i) (hx : R.all[i]? = some x) (h : RfAt w B p av R) (hc : ClashR R x) :
    Calls Try.prog 20 #[.pointer (some ⟨p, 0, none⟩), .int .u64 n] w fun e w' => e = .returned (.tuple #[.int .u64 0, .int .i64 11]) ∧ Only [] w w' := by
  have FI := Lib.hid (check_ref hf hx h)
  rw [show chkR R x = 11 from if_pos hc] at FI
  clear h hf hc hx
  go_enter Try.func20, Try.ntmps20
  go_wp2_with fail
  refine FI.out.mono ?_
  rintro _ w1 ⟨rfl, hb⟩
  have HB := Lib.hid hb
  clear hb
  go_wp2_with fail
  go_ret2
  exact ⟨rfl, HB.out⟩
def CommitRTo (B p : Nat) (R : Rf) (i : Nat) (x : RT) (w : World) (F : List Nat) (e : Ending) (w' : World) : Prop := e = .returned (.tuple #[.int .u64 (R.last + 1), .int .i64 0]) ∧ ∃ F', RfF w' B p (commitR R i x) F' ∧ Only F w w' ∧ ∀ b ∈ F', b ∈ F ∨ w.heap.size ≤ b
set_option maxHeartbeats 4000000 in
theorem commit_ref {w : World} {B p : Nat} {av : Value} {R : Rf} {n : Int} {i : Nat} {x : RT} (hf : FoundAt R n i) (hx : R.all[i]? = some x) (h : RfAt w B p av R) (hc : ¬ ClashR R x) (hl : R.last < 1000) :
    Calls Try.prog 20 #[.pointer (some ⟨p, 0, none⟩), .int .u64 n] w (CommitRTo B p R i x w (R.blocks p av)) := by
  have CH := Lib.hid (check_ref hf hx h)
  rw [show chkR R x = 0 from if_neg hc] at CH
  have H := Lib.hid h
  have HF := Lib.hid hf
  have HX := Lib.hid hx
  have hll := h.fine.last0
  have hil := (List.getElem?_eq_some_iff.1 hx).1
  have hlen := h.fine.len
  have HFX := Lib.hid (h.fine.each x (List.mem_of_getElem? hx))
  obtain ⟨m, hm⟩ : ∃ m, R.all.length = m := ⟨_, rfl⟩
  rw [hm] at hil hlen
  have HM := Lib.hid hm
  obtain ⟨last, hlast⟩ : ∃ last, R.last = last := ⟨_, rfl⟩
  rw [hlast] at hl hll
  have HLS := Lib.hid hlast
  clear h hf hx hc hm hlast
  go_enter Try.func20, Try.ntmps20
  go_wp2_with fail
  refine CH.out.mono ?_
  rintro _ w1 ⟨rfl, hb⟩
  have HB := Lib.hid hb
  have H1 : Hid (RfAt w1 B p av R) := Lib.hid (H.out.only hb (by simp))
  clear hb CH
  have FI := Lib.hid (find_ref HF.out H1.out)
  have hls : w1.cell? ⟨p, 2, none⟩ = some (.int .u64 last) := by rw [← HLS.out]; exact H1.out.row.cell 2
  have fz2 := H1.out.row.free 2
  go_wp2_with fail
  refine FI.out.mono ?_
  rintro _ w2 ⟨rfl, hw2⟩
  subst w2
  clear FI
  go_upto_region 6 with fail
  have L1 := H1.out.lastUp (by rw [HLS.out]; exact hl)
  rw [HLS.out] at L1
  have RW := Lib.hid L1.1
  have KW := Lib.hid L1.2
  clear L1 hls fz2
  generalize w1.setCell ⟨p, 2, none⟩ (.int .u64 (last + 1)) = w2 at *
  have HX2 : Hid (({ R with last := last + 1 } : Rf).all[i]? = some x) := HX
  obtain ⟨g, c, hav, fz, hg, hR, hbl, hst, ko⟩ := RW.out.store (x' := { x with at_ := last + 1 }) (i := 2) (u := .int .u64 (last + 1)) HX2.out (by decide) rfl rfl rfl (by
    have := HFX.out
    refine ⟨this.1, this.2.1, ⟨?_, ?_⟩, this.2.2.2⟩ <;> simp <;> omega)
  have c1 : w2.cell? ⟨p, 1, none⟩ = some (.slice (some ⟨g, 0, none⟩) m c) := by
    have h0 := RW.out.row.cell 1
    have h1 := hav
    simp only [HM.out] at h1
    rw [h1] at h0
    exact h0
  have c2 : w2.cell? ⟨p, 2, none⟩ = some (.int .u64 (last + 1)) := RW.out.row.cell 2
  have plt := RW.out.row.lt
  have r2 := hR.c2
  have HAV := Lib.hid hav
  have HG := Lib.hid hg
  have BL := Lib.hid hbl
  have ST := Lib.hid hst
  have KO := Lib.hid ko
  clear hav hg hR hbl hst ko
  go_region
  all_goals
    clear c1 c2 fz r2
    have ST2 : Hid (RfAt (w2.setCell ⟨g, i * 6 + 2, none⟩ (.int .u64 (last + 1))).drew B p av _) := Lib.hid (ST.out.only (Only.refl [] _).drew (by simp))
    have KO2 : Hid (Only [g] w2 (w2.setCell ⟨g, i * 6 + 2, none⟩ (.int .u64 (last + 1))).drew) := Lib.hid (KO.out.drew)
    generalize (w2.setCell ⟨g, i * 6 + 2, none⟩ (.int .u64 (last + 1))).drew = w3 at *
    clear ST KO
    have hlen2 : i < R.all.length := by rw [HM.out]; exact hil
    have HX3 : Hid (({ R with last := last + 1, all := R.all.set i { x with at_ := last + 1 } } : Rf).all[i]? = some { x with at_ := last + 1 }) := Lib.hid (by simp [hlen2])
    obtain ⟨g', c', hav', fz, _, hR, hbl, hst, ko⟩ := ST2.out.store (x' := doneT x (last + 1)) (i := 3) (u := .bool false) HX3.out (by decide) rfl rfl rfl (by
      have := HFX.out
      refine ⟨this.1, this.2.1, ⟨?_, ?_⟩, this.2.2.2⟩ <;> simp [doneT] <;> omega)
    rw [HAV.out] at hav'
    simp only [Value.slice.injEq, Option.some.injEq, Addr.mk.injEq] at hav'
    obtain ⟨⟨rfl, _⟩, _⟩ := hav'
    have c1 : w3.cell? ⟨p, 1, none⟩ = some (.slice (some ⟨g, 0, none⟩) m c) := by
      have h0 := ST2.out.row.cell 1
      have h1 := HAV.out
      simp only [HM.out] at h1
      rw [h1] at h0
      exact h0
    have r3 := hR.c3
    have hss : (R.all.set i { x with at_ := last + 1 }).set i (doneT x (last + 1)) = R.all.set i (doneT x (last + 1)) := by simp
    simp only [hss] at hst hbl
    have c2 : (w3.setCell ⟨g, i * 6 + 3, none⟩ (.bool false)).cell? ⟨p, 2, none⟩ = some (.int .u64 (last + 1)) := hst.row.cell 2
    have FIN : Hid (RfAt (w3.setCell ⟨g, i * 6 + 3, none⟩ (.bool false)) B p av (commitR R i x)) := Lib.hid (by unfold commitR; rw [HLS.out]; exact hst)
    have KF : Hid (Only (R.blocks p av) w (w3.setCell ⟨g, i * 6 + 3, none⟩ (.bool false))) := Lib.hid (by
      have k1 : Only (R.blocks p av) w w2 := (HB.out.mono (by simp)).trans KW.out (by intro b hb; simp only [List.mem_singleton] at hb; subst hb; exact .inl (by simp [Rf.blocks]))
      have hg : g ∈ R.blocks p av := HG.out
      exact (k1.trans KO2.out (by intro b hb; simp only [List.mem_singleton] at hb; subst hb; exact .inl hg)).trans ko (by intro b hb; simp only [List.mem_singleton] at hb; subst hb; exact .inl hg))
    have BF : Hid ((commitR R i x).blocks p av = R.blocks p av) := Lib.hid (by
      unfold commitR
      simp only [Rf.blocks]
      rw [keyB_set R.all i x (doneT x (R.last + 1)) HX.out rfl])
    clear hst ko hss hbl hR HX3
    go_wp2_with fail
    go_ret2
    exact ⟨by rw [HLS.out]; rfl, _, ⟨av, FIN.out, rfl⟩, KF.out, fun b hb => .inl (by rw [← BF.out]; exact hb)⟩
end Go.Proofs.Ytodkflnpcfepfaa
