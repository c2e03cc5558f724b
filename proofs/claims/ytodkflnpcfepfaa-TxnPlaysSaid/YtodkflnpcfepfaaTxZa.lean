/- The document's manager: Look. -/
import Derived.Test.YtodkflnpcfepfaaTxZ
import Derived.Deep.Cut
namespace Go.Proofs.Ytodkflnpcfepfaa
open Go.RowKit Go.ChangeShapes Go.WideShapes Go.ChangeAt
set_option linter.unusedVariables false
set_option linter.unusedSimpArgs false

def LookRF (R : Rf) (n s : Int) (w : World) (e : Ending) (w' : World) : Prop := ∃ a c, e = .returned (.tuple #[.agg (lookR n s R.base (.slice a (doneL R).length c)), .int .i64 0]) ∧ w'.ownsRow w.heap.size tSt 2 (.slice a (doneL R).length c) (doneL R).length (dsL (doneL R)) ∧ Below w.heap.size w w'
theorem look_refno {B p : Nat} {av : Value} {R : Rf} {w : World} {n : Int} (h : RfAt w B p av R) (ho : NotFound R n) :
    Calls Try.prog 23 #[.pointer (some ⟨p, 0, none⟩), .int .u64 n] w (fun e w' => e = .returned (.tuple #[.agg (lookR 0 0 0 (.slice none 0 0)), .int .i64 12]) ∧ Below w.heap.size w w') := by
  have A0 : RfAt (w.alloc (.cells #[.int .u64 0, .int .u64 0, .int .u64 0, .slice none 0 0] tLk)) B p av R := h.only ((Only.refl [] _).alloc _) (by simp)
  have F1 := Lib.hid (find_none ho A0)
  clear h ho A0
  go_enter Try.func23, Try.ntmps23
  go_wp2_with fail
  refine F1.out.mono ?_
  rintro _ w1 ⟨rfl, hw1⟩
  subst w1
  have c0 := (Row.made w #[.int .u64 0, .int .u64 0, .int .u64 0, .slice none 0 0] tLk)
  generalize hw1 : w.alloc (.cells #[.int .u64 0, .int .u64 0, .int .u64 0, .slice none 0 0] tLk) = w1 at *
  have BL : Hid (Below w.heap.size w w1) := Lib.hid (by rw [← hw1]; exact (Below.refl _ _).alloc (Nat.le_refl _) _)
  have RW := Lib.hid c0
  have r0 : w1.cell? ⟨w.heap.size, 0, none⟩ = some (.int .u64 0) := c0.cell 0
  have r1 : w1.cell? ⟨w.heap.size, 1, none⟩ = some (.int .u64 0) := c0.cell 1
  have r2 : w1.cell? ⟨w.heap.size, 2, none⟩ = some (.int .u64 0) := c0.cell 2
  have r3 : w1.cell? ⟨w.heap.size, 3, none⟩ = some (.slice none 0 0) := c0.cell 3
  have q0 := c0.free 0
  have q1 := c0.free 1
  have q2 := c0.free 2
  have q3 := c0.free 3
  clear hw1 c0 F1
  go_wp2_with fail
  refine bodyPost_ret (results_look2 rfl _ _ w.heap.size (lookR 0 0 0 (.slice none 0 0)) rfl rfl ?_) rfl ?_
  · have h := (((RW.out.set 0 (.int .u64 0)).set 1 (.int .u64 0)).set 2 (.int .u64 0)).set 3 (.slice none 0 0)
    simpa [lookR] using h
  · exact ⟨rfl, (((BL.out.setCell (Nat.le_refl _) _).setCell (Nat.le_refl _) _).setCell (Nat.le_refl _) _).setCell (Nat.le_refl _) _⟩
set_option maxRecDepth 100000 in
set_option maxHeartbeats 4000000 in
theorem look_ref {B p : Nat} {av : Value} {R : Rf} {w : World} {n : Int} {i : Nat} {x : RT} (h : RfAt w B p av R) (ho : FoundAt R n i) (hx : R.all[i]? = some x) :
    Calls Try.prog 23 #[.pointer (some ⟨p, 0, none⟩), .int .u64 n] w (LookRF R n x.start w) := by
  have A0 : RfAt (w.alloc (.cells #[.int .u64 0, .int .u64 0, .int .u64 0, .slice none 0 0] tLk)) B p av R := h.only ((Only.refl [] _).alloc _) (by simp)
  have LT1 := h.lt
  clear h
  have F1 := Lib.hid (find_ref ho A0)
  have RW : Hid (Row (w.alloc (.cells #[.int .u64 0, .int .u64 0, .int .u64 0, .slice none 0 0] tLk)) w.heap.size #[.int .u64 0, .int .u64 0, .int .u64 0, .slice none 0 0] tLk) := Lib.hid (Row.made _ _ _)
  have BL : Hid (Below w.heap.size w (w.alloc (.cells #[.int .u64 0, .int .u64 0, .int .u64 0, .slice none 0 0] tLk))) := Lib.hid ((Below.refl _ _).alloc (Nat.le_refl _) _)
  have H := Lib.hid A0
  have HX := Lib.hid hx
  have LT := Lib.hid LT1
  obtain ⟨a, c, hav⟩ := A0.av_shape
  have HAV := Lib.hid hav
  have hil := (List.getElem?_eq_some_iff.1 hx).1
  have hlen := A0.fine.len
  obtain ⟨m, hm⟩ : ∃ m, R.all.length = m := ⟨_, rfl⟩
  rw [hm] at hil hlen
  have HM := Lib.hid hm
  have d0 : decide ((i : Int) < 0) = false := decide_eq_false (by omega)
  obtain ⟨g, c9, e9, _, _, _⟩ := A0.at_ hx
  rw [hav] at e9
  simp only [Value.slice.injEq] at e9
  obtain ⟨rfl, _, rfl⟩ := e9
  clear ho A0 LT1 hx hav hm
  go_enter Try.func23, Try.ntmps23
  go_wp2_with fail
  refine F1.out.mono ?_
  rintro _ w1 ⟨rfl, hw1⟩
  subst w1
  clear F1
  go_upto_region 4 with fail
  generalize w.alloc (.cells #[.int .u64 0, .int .u64 0, .int .u64 0, .slice none 0 0] tLk) = w1 at *
  have NB : Hid (w.heap.size ∉ R.blocks p av) := Lib.hid fun hb => by have := LT.out _ hb; omega
  have SO : Hid (∀ y, Only [w.heap.size] w1 y → (y.cell? ⟨p, 1, none⟩ = some (.slice (some ⟨g, 0, none⟩) m c) ∧ y.cell? ⟨g, i * 6 + 1, none⟩ = some (.int .u64 x.start))) := Lib.hid fun y k => by
    have hm : RfAt y B p av R := H.out.only k (by simpa using NB.out)
    obtain ⟨g2, c2, e2, _, _, hR⟩ := hm.at_ HX.out
    rw [HAV.out] at e2
    simp only [Value.slice.injEq, Option.some.injEq, Addr.mk.injEq] at e2
    obtain ⟨⟨rfl, _⟩, _⟩ := e2
    refine ⟨?_, hR.c1⟩
    have := hm.row.cell 1
    rw [HAV.out, HM.out] at this
    exact this
  have BA : Hid (∀ y, Only [] w1 y → Calls Try.prog 36 #[.pointer (some ⟨p, 0, none⟩)] y fun e w' => e = .returned (.int .u64 R.base) ∧ w' = y) := Lib.hid fun y k => base_ref (H.out.only k (by simp))
  have DA : Hid (∀ y, Only [] w1 y → Calls Try.prog 40 #[.pointer (some ⟨p, 0, none⟩)] y (StampsTo (doneL R) y)) := Lib.hid fun y k => done_ref (H.out.only k (by simp))
  generalize hdl : doneL R = dl at *
  generalize hbs : R.base = bs at *
  generalize hst : x.start = st at *
  have HDL := Lib.hid hdl
  have HBS := Lib.hid hbs
  have HST := Lib.hid hst
  clear hdl hbs hst
  go_region_held3 (fun y => (y.cell? ⟨p, 1, none⟩ = some (.slice (some ⟨g, 0, none⟩) m c) ∧ y.cell? ⟨g, i * 6 + 1, none⟩ = some (.int .u64 st)))
    (first
      | exact SO.out _ (((((X1.out.mono (by simp)).setCell (.inl (by simp)) _).setCell (.inl (by simp)) _).setCell (.inl (by simp)) _).setCell (.inl (by simp)) _)
      | exact SO.out _ (X1.out.mono (by simp))
      | exact SO.out _ (Only.refl _ w1).drew)
    (first
      | (go_at_call 36; refine (BA.out w1.drew (Only.refl [] w1).drew).mono ?_; rintro _ z ⟨rfl, hz⟩; subst z)
      | (go_at_call 40; refine (DA.out w1.drew (Only.refl [] w1).drew).mono ?_; rintro _ x1 ⟨a1, c1, rfl, o1, b1⟩; have X1 : Hid (Only [] w1 x1) := Lib.hid (((Only.refl [] w1).drew).below b1); have O1 := Lib.hid o1; have RX := Lib.hid (RW.out.only X1.out (by simp)); clear o1 b1; have r0 : x1.cell? ⟨w.heap.size, 0, none⟩ = some (.int .u64 0) := RX.out.cell 0; have r1 : x1.cell? ⟨w.heap.size, 1, none⟩ = some (.int .u64 0) := RX.out.cell 1; have r2 : x1.cell? ⟨w.heap.size, 2, none⟩ = some (.int .u64 0) := RX.out.cell 2; have r3 : x1.cell? ⟨w.heap.size, 3, none⟩ = some (.slice none 0 0) := RX.out.cell 3; have q0 := RX.out.free 0; have q1 := RX.out.free 1; have q2 := RX.out.free 2; have q3 := RX.out.free 3))
  go_wp2_with fail
  refine bodyPost_ret (results_look2 rfl _ _ w.heap.size (lookR n st bs (.slice a1 dl.length c1)) rfl rfl ?_) rfl ?_
  · have h := (((RX.out.set 0 (.int .u64 n)).set 1 (.int .u64 st)).set 2 (.int .u64 bs)).set 3 (.slice a1 dl.length c1)
    simpa [lookR] using h
  · have ko : Only [w.heap.size] x1 ((((x1.setCell ⟨w.heap.size, 0, none⟩ (.int .u64 n)).setCell ⟨w.heap.size, 1, none⟩ (.int .u64 st)).setCell ⟨w.heap.size, 2, none⟩ (.int .u64 bs)).setCell ⟨w.heap.size, 3, none⟩ (.slice a1 dl.length c1)) := ((((Only.refl [w.heap.size] x1).setCell (.inl (by simp)) _).setCell (.inl (by simp)) _).setCell (.inl (by simp)) _).setCell (.inl (by simp)) _
    have hs : w.heap.size < w1.heap.size := RW.out.lt
    unfold LookRF
    rw [HDL.out, HBS.out]
    refine ⟨a1, c1, rfl, ?_, ?_⟩
    · refine own_base (own_keep O1.out fun g hg => ko.block g (O1.out.lt g hg).2 (by have := (O1.out.lt g hg).1; simp at this ⊢; omega)) ?_
      show w.heap.size ≤ w1.heap.size
      omega
    · exact BL.out.trans ((X1.out.mono (G := [w.heap.size]) (by simp)).trans ko (by simp) |>.toBelow (by omega) (by simp))
end Go.Proofs.Ytodkflnpcfepfaa
