/- SchedNone: a sched that is not there, or was not made, refuses: for every input. -/
import Derived.Test.YtcgmgdjeamidlaaGreatScG
namespace Go.Proofs.YtcgmgdjeamidlaaGreat.schedNone
open Go.ChangeShapes Go.WideShapes Go.ChangeAt Go.RowKit Go.Joins
set_option linter.unusedVariables false
set_option linter.unusedSimpArgs false

def Goal (n : Int) (w : World) : Prop := Calls Tryz.prog 10 #[.int .i64 n] w fun e w' => e = .returned (.bool true) ∧ Below w.heap.size w w'
set_option maxRecDepth 100000 in
set_option maxHeartbeats 8000000 in
theorem walk (n : Int) (w : World) (wn : (Lit.int .i64 n).wf = true) : Goal n w := by
  unfold Goal
  have R1 : Hid (Row (w.alloc (.cells #[.slice none 0 0, .bool false] tSc)) w.heap.size #[.slice none 0 0, .bool false] tSc) := Lib.hid (Row.made w _ _)
  have B0 : Hid (Below w.heap.size w (w.alloc (.cells #[.slice none 0 0, .bool false] tSc))) := Lib.hid ((Below.refl _ w).alloc (Nat.le_refl _) _)
  have N1 := Lib.hid (new_on 1 (w.alloc (.cells #[.slice none 0 0, .bool false] tSc)) (by omega) (by omega))
  go_enter Tryz.func10, Tryz.ntmps10
  go_wp2_with fail
  refine N1.out.mono ?_
  generalize w.alloc (.cells #[.slice none 0 0, .bool false] tSc) = w0 at *
  rintro _ w1 ⟨p, F, H, rfl, hd, hb⟩
  have ZR : Hid (∀ y, Below w0.heap.size w0 y → NoSched y (.pointer (some ⟨w.heap.size, 0, none⟩))) := Lib.hid fun y hy => .inr ⟨_, rfl, R1.out.only ((Only.refl [] w0).below hy) (by simp)⟩
  have NR : Hid (∀ y, NoSched y (.pointer none)) := Lib.hid fun y => .inl rfl
  have B1 := Lib.hid hb
  clear hd hb N1 R1
  go_wp2_with fail
  refine (feed_no (NR.out w1) n (.slice none 0 0)).mono ?_
  rintro _ w2 ⟨rfl, hb⟩
  have B2 : Hid (Below w0.heap.size w0 w2) := Lib.hid (B1.out.trans (hb.mono B1.out.size))
  clear hb
  go_wp2_with fail
  refine (feed_no (ZR.out w2 B2.out) n (.slice none 0 0)).mono ?_
  rintro _ w3 ⟨rfl, hb⟩
  have B3 : Hid (Below w0.heap.size w0 w3) := Lib.hid (B2.out.trans (hb.mono B2.out.size))
  clear hb
  go_wp2_with fail
  refine (new_nil w3 1).mono ?_
  rintro _ w' ⟨rfl, hw'⟩
  subst w'
  go_wp2_with fail
  refine (run_no (NR.out w3) (.slice none 0 0)).mono ?_
  rintro _ w' ⟨rfl, hw'⟩
  subst w'
  go_wp2_with fail
  refine (reset_no (NR.out w3) _).mono ?_
  rintro _ w' ⟨rfl, hw'⟩
  subst w'
  go_wp2_with fail
  refine (reset_no (ZR.out w3 B3.out) _).mono ?_
  rintro _ w' ⟨rfl, hw'⟩
  subst w'
  go_wp2_with fail
  refine (sessions_no (NR.out w3)).mono ?_
  rintro _ w' ⟨rfl, hw'⟩
  subst w'
  go_wp2_with fail
  refine (sessions_no (ZR.out w3 B3.out)).mono ?_
  rintro _ w' ⟨rfl, hw'⟩
  subst w'
  go_wp2_with fail
  refine (closed_no (NR.out w3) n).mono ?_
  rintro _ w' ⟨rfl, hw'⟩
  subst w'
  go_wp2_with fail
  refine (closed_no (ZR.out w3 B3.out) n).mono ?_
  rintro _ w' ⟨rfl, hw'⟩
  subst w'
  go_wp2_with fail
  refine (txn_no (NR.out w3) n).mono ?_
  rintro _ w' ⟨rfl, hw'⟩
  subst w'
  go_wp2_with fail
  refine (txn_no (ZR.out w3 B3.out) n).mono ?_
  rintro _ w' ⟨rfl, hw'⟩
  subst w'
  go_wp2_with fail
  refine (known_on w3).mono ?_
  rintro _ w9 ⟨rfl, hb9⟩
  have H9 := Lib.hid hb9
  clear hb9
  go_wp2_with fail
  go_ret
  exact ⟨rfl, B0.out.trans ((B3.out.mono B0.out.size).trans (H9.out.mono (Nat.le_trans B0.out.size B3.out.size)))⟩

theorem own : ownKnob Tryz.prog.godebug = none := by kernel_rfl
theorem laidOut : laidOutB Tryz.prog = true := by kernel_rfl

set_option maxRecDepth 100000 in
theorem contract (H : Type) (enc : TypeId × Value → H) (W : World) (base : Nat) (args : Array Value) (ds gs : List (DataW H)) (before : List MemPlace)
    (hval0 : ∀ (j : Nat) t v, Tryz.f10.params[j]? = some t → args[j]? = some v → Value.okWide Tryz.prog W .any base t v)
    (hW : DataW.Whole enc Tryz.prog Tryz.f10.params.toList Rows.schedNoneSpec.vars false W args.toList ds gs before)
    (hsz0 : (DataW.weightsEach Tryz.prog (Tryz.f10.params.toList ++ Rows.schedNoneSpec.plain.varTypes Tryz.prog) (ds ++ gs)).all (· ≤ reachBytes) = true) :
    Calls Tryz.prog 10 args W fun e W' => ∃ v, e = .returned v ∧ Rows.schedNoneSpec.post enc Tryz.prog Tryz.f10 false true false false W args v W' := by
  have hval : ∀ (j : Nat) t v, Tryz.f10.params[j]? = some t → args[j]? = some v → Value.okWide Tryz.prog W .any base t v := hval0
  have hW' := hW
  obtain ⟨p, q, hA0, hV, rfl, hfz, hnd⟩ := hW
  have hA : DataW.TrodAll enc Tryz.prog W 0 (fun _ => true) true Tryz.f10.params.toList args.toList ds p := hA0
  have hsz : (DataW.weightsEach Tryz.prog (Tryz.f10.params.toList ++ Rows.schedNoneSpec.plain.varTypes Tryz.prog) (ds ++ gs)).all (· ≤ reachBytes) = true := hsz0
  rw [Tryz.params10] at hA hval hsz
  obtain ⟨v0, vs0, d0, ds0, p0, q0, hargs, rfl, rfl, h0, r0'⟩ := trodAll_cons hA
  obtain ⟨rfl, rfl, rfl⟩ := trodAll_nil r0'
  obtain rfl : args = #[v0] := by cases args; simp_all
  obtain ⟨rfl, rfl⟩ := trodVars_none hV
  have k0 := h0
  have lt0 : ∀ x ∈ p0, x.block < W.heap.size := by obtain ⟨m, hm⟩ := k0; exact DataW.trod_lt m _ _ _ hm
  obtain ⟨x0, rfl, hd0, hp0, w0⟩ := open_int Tryz.underlying3 (hval 0 3 v0 rfl rfl) h0
  clear hA0 hval0 hsz0
  refine (walk x0 W w0).mono fun e W' ⟨he, bel⟩ => ?_
  subst he
  exact ⟨_, rfl, _, _, _, [], _, [], hW', trodAll_mk1 (shut_bool Tryz.underlying4 _), (trodAll_cons_mk (Below.trod laidOut (by kernel_rfl) (of_decide_eq_true (by kernel_rfl)) k0 bel lt0) trodAll_mk0), rfl, bel.frame _, fun h => by cases h⟩

set_option maxRecDepth 100000 in
theorem lifted (os : Os) (started : os.Started) (H : Type) (enc : TypeId × Value → H) :
    ReturnsInHanded {} Tryz.checked os 10 .any (Rows.schedNoneSpec.pre6 enc Tryz.prog Tryz.f10 Rows.schedNoneRow.domain false) (Rows.schedNoneSpec.post enc Tryz.prog Tryz.f10 false true false false) := by
  refine returnsInHanded_of_change_sized (C := Tryz.checked) own started (by kernel_rfl) Tryz.func10
    (ChangeSpec.witness6 (enc := enc) (C := Tryz.checked) false ⟨#[], #[.int .i64 0], []⟩ 8 (by kernel_rfl) (by kernel_rfl) (by kernel_rfl) (by kernel_rfl)) ?_
  intro W base args ds gs before hval hW _ hsz _
  exact contract H enc W base args ds gs before hval hW hsz

theorem over : Rows.schedNoneRow.holds Tryz.pinned (OpenSpec.ofChange Rows.schedNoneSpec) :=
  OpenClaim.holds_of_wide 10 Tryz.f10 rfl rfl rfl rfl rfl rfl rfl ⟨rfl, rfl, rfl, rfl, rfl⟩ rfl rfl rfl rfl rfl (by kernel_rfl) Tryz.func10 (by kernel_rfl)
    (of_decide_eq_true (by kernel_rfl)) (by unfold Func.isWrapper; first | (rw [if_pos (by decide +kernel)]; kernel_rfl) | (rw [if_neg (by decide +kernel)]; exact ⟨rfl, rfl⟩))
    (fun os started H enc _ => lifted os started H enc)

theorem proved : Rows.SchedNoneSaid := over
#print axioms proved
end Go.Proofs.YtcgmgdjeamidlaaGreat.schedNone
