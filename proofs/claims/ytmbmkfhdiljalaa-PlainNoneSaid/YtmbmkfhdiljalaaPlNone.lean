/- PlainNone: a DB that is not there, or was not made, refuses: for every input. -/
import Derived.Test.YtmbmkfhdiljalaaPlN
import Derived.Test.YtmbmkfhdiljalaaPlO
namespace Go.Proofs.Ytmbmkfhdiljalaa.plainNone
open Go.ChangeShapes Go.WideShapes Go.ChangeAt Go.RowKit Go.Joins
set_option linter.unusedVariables false
set_option linter.unusedSimpArgs false

def Goal (n k : Int) (w : World) : Prop := Calls Try.prog 3 #[.int .u64 n, .int .u64 k] w fun e w' => e = .returned (.bool true) ∧ Below w.heap.size w w'
set_option maxRecDepth 100000 in
set_option maxHeartbeats 8000000 in
theorem walk (n k : Int) (w : World) (wn : (Lit.int .u64 n).wf = true) (wk : (Lit.int .u64 k).wf = true) : Goal n k w := by
  unfold Goal
  go_enter Try.func3, Try.ntmps3
  go_wp2_with fail
  have R1 : Hid (Row (w.alloc (.cells #[.int .i64 0, .int .u64 0, .int .u64 0, .map none, .map none] tDb (0, 0))) w.heap.size zeroDB tDb) := Lib.hid (Row.made w _ _)
  have R2 := Lib.hid (Row.made (w.alloc (.cells #[.int .i64 0, .int .u64 0, .int .u64 0, .map none, .map none] tDb (0, 0))) #[.pointer none, .pointer (some ⟨w.heap.size, 0, none⟩)] 27)
  have R3 := Lib.hid (R1.out.only ((Only.refl [] _).alloc (.cells #[.pointer none, .pointer (some ⟨w.heap.size, 0, none⟩)] 27 (0, 0))) (by simp))
  have B0 := Lib.hid (((Below.refl w.heap.size w).alloc (Nat.le_refl _) (.cells #[.int .i64 0, .int .u64 0, .int .u64 0, .map none, .map none] tDb (0, 0))).alloc (by simp) (.cells #[.pointer none, .pointer (some ⟨w.heap.size, 0, none⟩)] 27 (0, 0)))
  rw [show (w.alloc (.cells #[.int .i64 0, .int .u64 0, .int .u64 0, .map none, .map none] tDb (0, 0))).heap.size = w.heap.size + 1 by simp] at R2
  generalize ((w.alloc (.cells #[.int .i64 0, .int .u64 0, .int .u64 0, .map none, .map none] tDb (0, 0))).alloc (.cells #[.pointer none, .pointer (some ⟨w.heap.size, 0, none⟩)] 27 (0, 0))) = w0 at *
  clear R1
  go_loopw [7] (fun u wr => ∃ i : Nat, i ≤ 2 ∧ u = .int .i64 i ∧ Hid (Below w0.heap.size w0 wr)) (fun u _ => 2 - (intOf u).toNat)
  case atStart => exact ⟨0, by omega, rfl, Lib.hid (Below.refl _ _)⟩
  case round =>
    obtain ⟨i, hi, rfl, HB⟩ := hrel
    by_cases h2 : i = 2
    · subst h2
      go_wp2_with fail
      refine (known_on _).mono ?_
      rintro _ w9 ⟨rfl, hb9⟩
      have H9 := Lib.hid hb9
      clear hb9
      go_wp2_with fail
      go_ret
      exact ⟨rfl, B0.out.trans ((HB.out.mono B0.out.size).trans (H9.out.mono (Nat.le_trans B0.out.size HB.out.size)))⟩
    · obtain ⟨v, hN, hc⟩ : ∃ v, NoDb wr v ∧ wr.cell? ⟨w.heap.size + 1, i, none⟩ = some v := by
        have r2 := R2.out.of_block (HB.out.block _ R2.out.lt)
        have r3 := R3.out.of_block (HB.out.block _ R3.out.lt)
        obtain rfl | rfl : i = 0 ∨ i = 1 := by omega
        · exact ⟨.pointer none, .inl rfl, r2.cell 0⟩
        · exact ⟨.pointer (some ⟨w.heap.size, 0, none⟩), .inr ⟨_, rfl, r3⟩, r2.cell 1⟩
      obtain ⟨va, rfl⟩ := hN.ptr
      have NV := Lib.hid (fun w' (k : Below wr.heap.size wr w') => hN.below k)
      have hi2 : i < 2 := by omega
      clear hN h2
      go_wp2_with fail
      refine (begin_nob (NV.out _ (Below.refl wr.heap.size wr))).mono ?_
      rintro _ w' ⟨rfl, hw'⟩
      subst w'
      go_wp2_with fail
      refine (get_nob (NV.out _ (Below.refl wr.heap.size wr)) n k).mono ?_
      rintro _ x1 ⟨rfl, hb⟩
      have X1 : Hid (Below wr.heap.size wr x1) := Lib.hid ((Below.refl wr.heap.size wr).trans (hb.mono ((Below.refl wr.heap.size wr)).size))
      clear hb
      unfold itemV
      go_wp2_with fail
      have X2 : Hid (Below wr.heap.size wr (x1.alloc (.cells #[.int .u64 0, .slice none 0 0, .slice none 0 0] tIt (0, 0)))) := Lib.hid (X1.out.alloc X1.out.size _)
      generalize x1.alloc (.cells #[.int .u64 0, .slice none 0 0, .slice none 0 0] tIt (0, 0)) = x2 at *
      go_wp2_with fail
      refine (range_nob (NV.out _ X2.out) n k k 1).mono ?_
      rintro _ x3 ⟨rfl, hb⟩
      have X3 : Hid (Below wr.heap.size wr x3) := Lib.hid (X2.out.trans (hb.mono (X2.out).size))
      clear hb
      go_wp2_with fail
      refine (knn_nob (NV.out _ X3.out) n 1 _).mono ?_
      rintro _ w' ⟨rfl, hw'⟩
      subst w'
      go_wp2_with fail
      refine (put_nob (NV.out _ X3.out) n 0 _ _).mono ?_
      rintro _ x4 ⟨rfl, hb⟩
      have X4 : Hid (Below wr.heap.size wr x4) := Lib.hid (X3.out.trans (hb.mono (X3.out).size))
      clear hb
      go_wp2_with fail
      refine (delete_nob (NV.out _ X4.out) n k).mono ?_
      rintro _ w' ⟨rfl, hw'⟩
      subst w'
      go_wp2_with fail
      refine (commit_nob (NV.out _ X4.out) n).mono ?_
      rintro _ w' ⟨rfl, hw'⟩
      subst w'
      go_wp2_with fail
      refine (abort_nob (NV.out _ X4.out) n).mono ?_
      rintro _ w' ⟨rfl, hw'⟩
      subst w'
      go_wp2_with fail
      refine (vacuum_nob (NV.out _ X4.out)).mono ?_
      rintro _ w' ⟨rfl, hw'⟩
      subst w'
      go_wp2_with fail
      refine (crash_nob (NV.out _ X4.out)).mono ?_
      rintro _ w' ⟨rfl, hw'⟩
      subst w'
      go_wp2_with fail
      refine (dim_nob (NV.out _ X4.out)).mono ?_
      rintro _ w' ⟨rfl, hw'⟩
      subst w'
      go_wp2_with fail
      refine (txns_nob (NV.out _ X4.out)).mono ?_
      rintro _ x5 ⟨rfl, hb⟩
      have X5 : Hid (Below wr.heap.size wr x5) := Lib.hid (X4.out.trans (hb.mono (X4.out).size))
      clear hb
      go_wp2_with fail
      refine (all_nob (NV.out _ X5.out)).mono ?_
      rintro _ x6 ⟨rfl, hb⟩
      have X6 : Hid (Below wr.heap.size wr x6) := Lib.hid (X5.out.trans (hb.mono (X5.out).size))
      clear hb
      go_wp2_with fail
      refine (copy_nob (NV.out _ X6.out)).mono ?_
      rintro _ w' ⟨rfl, hw'⟩
      subst w'
      go_wp2_with fail
      go_roundw
      case rel => exact ⟨i + 1, by omega, by go_num, Lib.hid (HB.out.trans (X6.out.mono HB.out.size))⟩
      case measure => simp [intOf]; omega

theorem own : ownKnob Try.prog.godebug = none := by kernel_rfl
theorem laidOut : laidOutB Try.prog = true := by kernel_rfl

set_option maxRecDepth 100000 in
theorem contract (H : Type) (enc : TypeId × Value → H) (W : World) (base : Nat) (args : Array Value) (ds gs : List (DataW H)) (before : List MemPlace)
    (hval0 : ∀ (j : Nat) t v, Try.f3.params[j]? = some t → args[j]? = some v → Value.okWide Try.prog W .any base t v)
    (hW : DataW.Whole enc Try.prog Try.f3.params.toList Rows.plainNoneSpec.vars false W args.toList ds gs before)
    (hsz0 : (DataW.weightsEach Try.prog (Try.f3.params.toList ++ Rows.plainNoneSpec.plain.varTypes Try.prog) (ds ++ gs)).all (· ≤ reachBytes) = true) :
    Calls Try.prog 3 args W fun e W' => ∃ v, e = .returned v ∧ Rows.plainNoneSpec.post enc Try.prog Try.f3 false true false false W args v W' := by
  have hval : ∀ (j : Nat) t v, Try.f3.params[j]? = some t → args[j]? = some v → Value.okWide Try.prog W .any base t v := hval0
  have hW' := hW
  obtain ⟨p, q, hA0, hV, rfl, hfz, hnd⟩ := hW
  have hA : DataW.TrodAll enc Try.prog W 0 (fun _ => true) true Try.f3.params.toList args.toList ds p := hA0
  have hsz : (DataW.weightsEach Try.prog (Try.f3.params.toList ++ Rows.plainNoneSpec.plain.varTypes Try.prog) (ds ++ gs)).all (· ≤ reachBytes) = true := hsz0
  rw [Try.params3] at hA hval hsz
  obtain ⟨v0, vs0, d0, ds0, p0, q0, hargs, rfl, rfl, h0, r0'⟩ := trodAll_cons hA
  obtain ⟨v1, vs1, d1, ds1, p1, q1, rfl, rfl, rfl, h1, r1'⟩ := trodAll_cons r0'
  obtain ⟨rfl, rfl, rfl⟩ := trodAll_nil r1'
  obtain rfl : args = #[v0, v1] := by cases args; simp_all
  obtain ⟨rfl, rfl⟩ := trodVars_none hV
  have k0 := h0
  have lt0 : ∀ x ∈ p0, x.block < W.heap.size := by obtain ⟨m, hm⟩ := k0; exact DataW.trod_lt m _ _ _ hm
  have k1 := h1
  have lt1 : ∀ x ∈ p1, x.block < W.heap.size := by obtain ⟨m, hm⟩ := k1; exact DataW.trod_lt m _ _ _ hm
  obtain ⟨x0, rfl, hd0, hp0, w0⟩ := open_int Try.underlying22 (hval 0 22 v0 rfl rfl) h0
  obtain ⟨x1, rfl, hd1, hp1, w1⟩ := open_int Try.underlying22 (hval 1 22 v1 rfl rfl) h1
  clear hA0 hval0 hsz0
  refine (walk x0 x1 W w0 w1).mono fun e W' ⟨he, bel⟩ => ?_
  subst he
  exact ⟨_, rfl, _, _, _, [], _, [], hW', trodAll_mk1 (shut_bool Try.underlying4 _), (trodAll_cons_mk (Below.trod laidOut (by kernel_rfl) (of_decide_eq_true (by kernel_rfl)) k0 bel lt0) (trodAll_cons_mk (Below.trod laidOut (by kernel_rfl) (of_decide_eq_true (by kernel_rfl)) k1 bel lt1) trodAll_mk0)), rfl, bel.frame _, fun h => by cases h⟩

set_option maxRecDepth 100000 in
theorem lifted (os : Os) (started : os.Started) (H : Type) (enc : TypeId × Value → H) :
    ReturnsInHanded {} Try.checked os 3 .any (Rows.plainNoneSpec.pre6 enc Try.prog Try.f3 Rows.plainNoneRow.domain false) (Rows.plainNoneSpec.post enc Try.prog Try.f3 false true false false) := by
  refine returnsInHanded_of_change_sized (C := Try.checked) own started (by kernel_rfl) Try.func3
    (ChangeSpec.witness6 (enc := enc) (C := Try.checked) false ⟨#[], #[.int .u64 0, .int .u64 0], []⟩ 8 (by kernel_rfl) (by kernel_rfl) (by kernel_rfl) (by kernel_rfl)) ?_
  intro W base args ds gs before hval hW _ hsz _
  exact contract H enc W base args ds gs before hval hW hsz

theorem over : Rows.plainNoneRow.holds Try.pinned (OpenSpec.ofChange Rows.plainNoneSpec) :=
  OpenClaim.holds_of_wide 3 Try.f3 rfl rfl rfl rfl rfl rfl rfl ⟨rfl, rfl, rfl, rfl, rfl⟩ rfl rfl rfl rfl rfl (by kernel_rfl) Try.func3 (by kernel_rfl)
    (of_decide_eq_true (by kernel_rfl)) (by unfold Func.isWrapper; first | (rw [if_pos (by decide +kernel)]; kernel_rfl) | (rw [if_neg (by decide +kernel)]; exact ⟨rfl, rfl⟩))
    (fun os started H enc _ => lifted os started H enc)

theorem proved : Rows.PlainNoneSaid := over
#print axioms proved
end Go.Proofs.Ytmbmkfhdiljalaa.plainNone
