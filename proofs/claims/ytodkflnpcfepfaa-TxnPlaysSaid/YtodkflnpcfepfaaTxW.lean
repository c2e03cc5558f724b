/- The document's manager: stores; Abort, Forget. -/
import Derived.Test.YtodkflnpcfepfaaTxV
namespace Go.Proofs.Ytodkflnpcfepfaa
open Go.RowKit Go.ChangeShapes Go.WideShapes Go.ChangeAt
set_option linter.unusedVariables false
set_option linter.unusedSimpArgs false

theorem allL_set (l : List RT) : ∀ (j : Nat) (x x' : RT) (i : Nat) (u : Value), l[j]? = some x → i < 6 → x'.cells = x.cells.set i u → (allL l).set (j * 6 + i) u = allL (l.set j x') := by
  induction l with
  | nil => intro j x x' i u h; simp at h
  | cons y l ih =>
    intro j x x' i u h hi hc
    cases j with
    | zero =>
      simp only [List.getElem?_cons_zero, Option.some.injEq] at h
      subst h
      show (y.cells ++ allL l).set (0 * 6 + i) u = x'.cells ++ allL l
      rw [List.set_append, if_pos (by simp [RT.cells]; omega), hc]
      simp
    | succ j =>
      show (y.cells ++ allL l).set ((j + 1) * 6 + i) u = y.cells ++ allL (l.set j x')
      have e : (j + 1) * 6 + i - y.cells.length = j * 6 + i := by simp [RT.cells]; omega
      rw [List.set_append, if_neg (by simp [RT.cells]; omega), e, ih j x x' i u (by simpa using h) hi hc]
theorem keyB_set (l : List RT) : ∀ (j : Nat) (x x' : RT), l[j]? = some x → x'.kv = x.kv → keyB (l.set j x') = keyB l := by
  induction l with
  | nil => intro j x x' h; simp at h
  | cons y l ih =>
    intro j x x' h hk
    cases j with
    | zero =>
      simp only [List.getElem?_cons_zero, Option.some.injEq] at h
      subst h
      simp [keyB, hk]
    | succ j =>
      have := ih j x x' (by simpa using h) hk
      simp only [keyB] at this ⊢
      simp [this]
theorem mem_set_of {l : List RT} {j : Nat} {x' y : RT} (h : y ∈ l.set j x') : y = x' ∨ y ∈ l := by
  rcases List.mem_or_eq_of_mem_set h with h | h
  · exact .inr h
  · exact .inl h
/-- A store into a number, a stamp or the flag of the transaction at a place. -/
theorem RfAt.store {w : World} {B p : Nat} {av : Value} {R : Rf} (h : RfAt w B p av R) {j : Nat} {x x' : RT} (hx : R.all[j]? = some x) {i : Nat} {u : Value} (hi : i < 4) (hc : x'.cells = x.cells.set i u) (hk : x'.kv = x.kv) (hks : x'.keys = x.keys)
    (hf : (0 ≤ x'.n ∧ x'.n < 18446744073709551616) ∧ (0 ≤ x'.start ∧ x'.start ≤ 1000) ∧ (0 ≤ x'.at_ ∧ x'.at_ ≤ R.last) ∧ x'.keys.length ≤ 1000) :
    ∃ g c, av = .slice (some ⟨g, 0, none⟩) R.all.length c ∧ w.frozen? ⟨g, j * 6 + i, none⟩ = false ∧ g ∈ R.blocks p av ∧ RAt w g j x ∧ ({ R with all := R.all.set j x' } : Rf).blocks p av = R.blocks p av ∧ RfAt (w.setCell ⟨g, j * 6 + i, none⟩ u) B p av { R with all := R.all.set j x' } ∧ Only [g] w (w.setCell ⟨g, j * 6 + i, none⟩ u) := by
  obtain ⟨g, c, e, hcap, hB, hR⟩ := h.at_ hx
  have ho := h.own
  rw [e] at ho
  have k : Only [g] w (w.setCell ⟨g, j * 6 + i, none⟩ u) := (Only.refl _ _).setCell (by simp) _
  have hg : g ∈ R.blocks p av := by simp [Rf.blocks, e, Value.ownBlock]
  have hnd := h.nd
  rw [e] at hnd
  simp only [Rf.blocks, Value.ownBlock, Option.toList, List.cons_append, List.nil_append, List.nodup_cons, List.mem_cons, not_or] at hnd
  obtain ⟨⟨n1, n2⟩, n3, _⟩ := hnd
  have hbl : ({ R with all := R.all.set j x' } : Rf).blocks p av = R.blocks p av := by
    simp only [Rf.blocks, keyB_set R.all j x x' hx hk]
  refine ⟨g, c, e, ho.frozenAt _, hg, hR, hbl, ⟨?_, ?_, ?_, ?_, ?_, ?_⟩, k⟩
  · exact h.row.only k (by simp; exact n1)
  · have st := (ho.stored (j * 6 + i) u).1
    rw [allL_set R.all j x x' i u hx (by omega) hc] at st
    rw [e]
    simpa using st
  · intro y hy
    have key : ∀ z ∈ R.all, (w.setCell ⟨g, j * 6 + i, none⟩ u).ownsRow B tU 1 z.kv z.keys.length (z.keys.map (Value.int .u64)) := fun z hz =>
      own_keep (h.keys z hz) fun b hb => k.block b ((h.keys z hz).lt b hb).2 (by
        simp only [List.mem_singleton]
        rintro rfl
        exact n3 (mem_keyB hz hb))
    rcases mem_set_of hy with rfl | hy
    · rw [hk, hks]
      exact key x (List.mem_of_getElem? hx)
    · exact key y hy
  · rw [hbl]; exact h.nd
  · rw [hbl]; exact h.ge
  · refine ⟨h.fine.ep0, h.fine.last0, by simpa using h.fine.len, fun y hy => ?_⟩
    rcases mem_set_of hy with rfl | hy
    · exact hf
    · exact h.fine.each y hy
def shutT (x : RT) : RT := { x with op := false }
def abortR (R : Rf) (i : Nat) (x : RT) : Rf := { R with all := R.all.set i (shutT x) }
def RfTo (B p : Nat) (R R' : Rf) (v : Value) (w : World) (F : List Nat) (e : Ending) (w' : World) : Prop := e = .returned v ∧ ∃ F', RfF w' B p R' F' ∧ Only F w w' ∧ ∀ b ∈ F', b ∈ F ∨ w.heap.size ≤ b
set_option maxHeartbeats 2000000 in
theorem abort_ref {w : World} {B p : Nat} {R : Rf} {F : List Nat} {n : Int} {i : Nat} {x : RT} (hf : FoundAt R n i) (hx : R.all[i]? = some x) (h : RfF w B p R F) :
    Calls Try.prog 22 #[.pointer (some ⟨p, 0, none⟩), .int .u64 n] w (RfTo B p R (abortR R i x) (.int .i64 0) w F) := by
  obtain ⟨av, h, rfl⟩ := h
  have FI := Lib.hid (find_ref hf h)
  have fx := h.fine.each x (List.mem_of_getElem? hx)
  obtain ⟨g, c, hav, fz, hg, hR, hbl, hst, ko⟩ := h.store (x' := shutT x) (i := 3) (u := .bool false) hx (by decide) rfl rfl rfl fx
  have hil := (List.getElem?_eq_some_iff.1 hx).1
  have hlen := h.fine.len
  have c1 : w.cell? ⟨p, 1, none⟩ = some (.slice (some ⟨g, 0, none⟩) R.all.length c) := by rw [← hav]; exact h.row.cell 1
  have r3 := hR.c3
  have BL := Lib.hid hbl
  have ST := Lib.hid hst
  have KO := Lib.hid ko
  have HG := Lib.hid hg
  obtain ⟨m, hm⟩ : ∃ m, R.all.length = m := ⟨_, rfl⟩
  rw [hm] at c1 hil hlen
  have d0 : decide ((i : Int) < 0) = false := decide_eq_false (by omega)
  clear h hst ko hg hav hf hx fx hm hR hbl
  go_enter Try.func22, Try.ntmps22
  go_wp2_with fail
  refine FI.out.mono ?_
  rintro _ w1 ⟨rfl, rfl⟩
  go_wp2_with fail
  go_ret
  exact ⟨rfl, _, ⟨av, ST.out, rfl⟩, KO.out.mono (fun b hb => by simp only [List.mem_singleton] at hb; subst hb; exact .inl HG.out), fun b hb => .inl (by rw [← BL.out]; exact hb)⟩
end Go.Proofs.Ytodkflnpcfepfaa
