/- DiskNone: a device that is not there, or was not made, refuses every call. -/
import Derived.Test.YtiheobbollpaaaaDkK
import Derived.OpenShut
import Derived.OwnWalk
namespace Go.Proofs.Ytiheobbollpaaaa.diskNone
open Go.ChangeShapes Go.WideShapes Go.ChangeAt Go.RowKit Go.Joins
set_option linter.unusedVariables false

structure NoneInv (w wr : World) (b : Nat) : Prop where
  row : ∃ z, Row wr b #[.pointer none, .pointer (some ⟨z, 0, none⟩)] 24 ∧ Row wr z zCells tDk
  bl : Below w.heap.size w wr
theorem NoneInv.go {w wr w2 : World} {b : Nat} (h : NoneInv w wr b) (k : Below wr.heap.size wr w2) : NoneInv w w2 b := by
  obtain ⟨z, h1, h2⟩ := h.row
  exact ⟨⟨z, h1.of_block (k.block b h1.lt), h2.of_block (k.block z h2.lt)⟩, h.bl.trans (k.mono h.bl.size)⟩
theorem NoneInv.at {w wr : World} {b i : Nat} (h : NoneInv w wr b) (hi : i < 2) : ∃ v, wr.cell? ⟨b, i, none⟩ = some v ∧ ND v wr := by
  obtain ⟨z, h1, h2⟩ := h.row
  rcases (by omega : i = 0 ∨ i = 1) with rfl | rfl
  · exact ⟨_, h1.cell 0, .inl rfl⟩
  · exact ⟨_, h1.cell 1, .inr ⟨z, rfl, h2⟩⟩
set_option maxRecDepth 100000 in
set_option maxHeartbeats 4000000 in
theorem walk0 (w : World) : Calls Try.prog 8 #[] w fun e w' => e = .returned (.bool true) ∧ Below w.heap.size w w' := by
  go_enter Try.func8, Try.ntmps8
  go_wp2_with (refine wpList_alloc_at rfl 57 rfl _ zeroDk ?_; intro w1 hr1 ho1 hs1)
  have I1 : Hid (NoneInv w (w1.alloc (.cells #[.pointer none, .pointer (some ⟨w.heap.size, 0, none⟩)] 24)) (w.heap.size + 1)) := Lib.hid (by rw [← hs1]; exact ⟨⟨w.heap.size, Row.made _ _ _, hr1.only ((Only.refl [] _).alloc _) (by simp)⟩, ((ho1.alloc _)).toBelow (Nat.le_refl _) (by simp)⟩)
  clear hr1 ho1 hs1
  go_loopw [3, 4, 5, 6] (fun u _ _ _ wr => ∃ i : Nat, i ≤ 2 ∧ u = .int .i64 i ∧ Hid (NoneInv w wr (w.heap.size + 1))) (fun u _ _ _ _ => 2 - (intOf u).toNat)
  case atStart => exact ⟨0, by omega, rfl, I1⟩
  case round =>
    obtain ⟨i, hi, rfl, HI⟩ := hrel
    by_cases hlt : i < 2
    · have d1 : decide ((i : Int) < 2) = true := decide_eq_true (by omega)
      have i0 : (0 : Int) ≤ (i : Int) := Int.natCast_nonneg _
      have i2 : (i : Int) < 2 := by omega
      obtain ⟨v, hc, hv⟩ := HI.out.at hlt
      have NV := Lib.hid hv
      clear hv I1
      go_wp2_with fail
      refine (nd_read v 0 wr NV.out).mono ?_
      rintro _ w' ⟨rfl, hw'⟩
      subst w'
      go_wp2_with fail
      refine (sector_to 1 wr).mono ?_
      rintro _ w3 ⟨rfl, hr3, k3, hs3⟩
      have B3 := Lib.hid (k3.toBelow (Nat.le_refl _) (by simp))
      have N3 := Lib.hid (NV.out.below B3.out)
      clear hr3 k3 hs3
      go_wp2_with fail
      refine (nd_write v 0 _ w3 N3.out).mono ?_
      rintro _ w' ⟨rfl, hw'⟩
      subst w'
      go_wp2_with fail
      refine (nd_sync v w3 N3.out).mono ?_
      rintro _ w' ⟨rfl, hw'⟩
      subst w'
      go_wp2_with fail
      refine (nd_arm v 1 w3 N3.out).mono ?_
      rintro _ w' ⟨rfl, hw'⟩
      subst w'
      go_wp2_with fail
      refine (nd_crash v _ w3 N3.out).mono ?_
      rintro _ w' ⟨rfl, hw'⟩
      subst w'
      go_wp2_with fail
      refine (nd_sectors v w3 N3.out).mono ?_
      rintro _ w' ⟨rfl, hw'⟩
      subst w'
      go_wp2_with fail
      refine (nd_used v w3 N3.out).mono ?_
      rintro _ w' ⟨rfl, hw'⟩
      subst w'
      go_wp2_with fail
      refine (nd_waits v w3 N3.out).mono ?_
      rintro _ w4 ⟨q, c, rfl, hb4⟩
      have B4 := Lib.hid (B3.out.trans (hb4.mono B3.out.size))
      have N4 := Lib.hid (N3.out.below hb4)
      clear hb4
      go_wp2_with fail
      refine (nd_copy v w4 N4.out).mono ?_
      rintro _ w' ⟨rfl, hw'⟩
      subst w'
      go_wp2_with fail
      go_roundw
      case rel => exact ⟨i + 1, by omega, by go_num, Lib.hid (HI.out.go B4.out)⟩
      case measure => simp [intOf]; omega

    · have d1 : decide ((i : Int) < 2) = false := decide_eq_false (by omega)
      go_wp2_with fail
      refine (known_any wr).mono ?_
      rintro _ w6 ⟨rfl, hb6⟩
      have H6 := Lib.hid (HI.out.bl.trans (hb6.mono HI.out.bl.size))
      clear hb6
      go_wp2_with fail
      go_ret
      exact ⟨rfl, H6.out⟩
theorem walk (W : World) : Calls Try.prog 8 #[] W fun e w' => e = .returned (.bool true) ∧ Below W.heap.size W w' := walk0 W

theorem own : ownKnob Try.prog.godebug = none := by kernel_rfl
theorem laidOut : laidOutB Try.prog = true := by kernel_rfl

set_option maxRecDepth 100000 in
theorem contract (H : Type) (enc : TypeId × Value → H) (W : World) (base : Nat) (args : Array Value) (ds gs : List (DataW H)) (before : List MemPlace)
    (hval0 : ∀ (j : Nat) t v, Try.f8.params[j]? = some t → args[j]? = some v → Value.okWide Try.prog W .any base t v)
    (hW : DataW.Whole enc Try.prog Try.f8.params.toList Rows.diskNoneSpec.vars false W args.toList ds gs before)
    (hsz0 : (DataW.weightsEach Try.prog (Try.f8.params.toList ++ Rows.diskNoneSpec.plain.varTypes Try.prog) (ds ++ gs)).all (· ≤ reachBytes) = true) :
    Calls Try.prog 8 args W fun e W' => ∃ v, e = .returned v ∧ Rows.diskNoneSpec.post enc Try.prog Try.f8 false true false false W args v W' := by
  have hval : ∀ (j : Nat) t v, Try.f8.params[j]? = some t → args[j]? = some v → Value.okWide Try.prog W .any base t v := hval0
  have hW' := hW
  obtain ⟨p, q, hA0, hV, rfl, hfz, hnd⟩ := hW
  have hA : DataW.TrodAll enc Try.prog W 0 (fun _ => true) true Try.f8.params.toList args.toList ds p := hA0
  have hsz : (DataW.weightsEach Try.prog (Try.f8.params.toList ++ Rows.diskNoneSpec.plain.varTypes Try.prog) (ds ++ gs)).all (· ≤ reachBytes) = true := hsz0
  rw [Try.params8] at hA hval hsz
  obtain ⟨hargs, rfl, rfl⟩ := trodAll_nil hA
  obtain rfl : args = #[] := by cases args; simp_all
  obtain ⟨rfl, rfl⟩ := trodVars_none hV

  clear hA0 hval0 hsz0
  refine (walk  W ).mono fun e W' ⟨he, bel⟩ => ?_
  subst he
  exact ⟨_, rfl, _, _, _, [], _, [], hW', trodAll_mk1 (shut_bool Try.underlying4 _), trodAll_mk0, rfl, bel.frame _, fun h => by cases h⟩

set_option maxRecDepth 100000 in
theorem lifted (os : Os) (started : os.Started) (H : Type) (enc : TypeId × Value → H) :
    ReturnsInHanded {} Try.checked os 8 .any (Rows.diskNoneSpec.pre6 enc Try.prog Try.f8 Rows.diskNoneRow.domain false) (Rows.diskNoneSpec.post enc Try.prog Try.f8 false true false false) := by
  refine returnsInHanded_of_change_sized (C := Try.checked) own started (by kernel_rfl) Try.func8
    (ChangeSpec.witness6 (enc := enc) (C := Try.checked) false ⟨#[], #[], []⟩ 8 (by kernel_rfl) (by kernel_rfl) (by kernel_rfl) (by kernel_rfl)) ?_
  intro W base args ds gs before hval hW _ hsz _
  exact contract H enc W base args ds gs before hval hW hsz

theorem over : Rows.diskNoneRow.holds Try.pinned (OpenSpec.ofChange Rows.diskNoneSpec) :=
  OpenClaim.holds_of_wide 8 Try.f8 rfl rfl rfl rfl rfl rfl rfl ⟨rfl, rfl, rfl, rfl, rfl⟩ rfl rfl rfl rfl rfl (by kernel_rfl) Try.func8 (by kernel_rfl)
    (of_decide_eq_true (by kernel_rfl)) (by unfold Func.isWrapper; first | (rw [if_pos (by decide +kernel)]; kernel_rfl) | (rw [if_neg (by decide +kernel)]; exact ⟨rfl, rfl⟩))
    (fun os started H enc _ => lifted os started H enc)

theorem proved : Rows.DiskNoneSaid := over
#print axioms proved
end Go.Proofs.Ytiheobbollpaaaa.diskNone
