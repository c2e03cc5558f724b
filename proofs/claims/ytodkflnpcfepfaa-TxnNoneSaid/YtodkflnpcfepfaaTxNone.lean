/- TxnNone: a manager that is not there, or was not made, refuses: for every input. -/
import Derived.Test.YtodkflnpcfepfaaTxG
namespace Go.Proofs.Ytodkflnpcfepfaa.txnNone
open Go.ChangeShapes Go.WideShapes Go.ChangeAt Go.RowKit Go.Joins
set_option linter.unusedVariables false

/-- What the calls take for no manager, whatever has been laid besides. -/
def NoneAt (v : Value) (w : World) : Prop := ∀ w', Below w.heap.size w w' → Calls Try.prog 32 #[v] w' fun e w'' => e = .returned (.bool true) ∧ w'' = w'
theorem NoneAt.later {v : Value} {w w1 : World} (h : NoneAt v w) (k : Below w.heap.size w w1) : NoneAt v w1 := fun w' k' => h w' (k.trans (k'.mono k.size))
theorem none_nil (w : World) : NoneAt (.pointer none) w := by
  intro w' _
  go_enter Try.func32, Try.ntmps32
  go_wp2
  go_ret
  exact ⟨rfl, rfl⟩
theorem none_zero (z : Nat) (w : World) (h : w.cell? ⟨z, 3, none⟩ = some (.map none)) : NoneAt (.pointer (some ⟨z, 0, none⟩)) w := by
  intro w' k
  have c3 : w'.cell? ⟨z, 3, none⟩ = some (.map none) := by rw [k.cell (p := ⟨z, 3, none⟩) (World.block_lt_of_cell? w _ h)]; exact h
  have qT : ∀ (w : World) (r : Option Nat), (binOp .eql 64 (.map r) (.map none)).run Try.prog w = .ok (.bool r.isNone) w := fun w r => run_eql_map_nil w _ _ _ r Try.underlying64
  clear h k
  go_enter Try.func32, Try.ntmps32
  go_wp2
  go_ret
  exact ⟨rfl, rfl⟩

set_option maxHeartbeats 1000000 in
theorem find_none (v : Value) (n k : Int) (w : World) (h : NoneAt v w) : Calls Try.prog 33 #[v, .int .u64 n] w fun e w' => e = .returned (.tuple #[.pointer none, .int .i64 1]) ∧ w' = w := by
  have N := Lib.hid (h w (Below.refl _ _))
  clear h
  go_enter Try.func33, Try.ntmps33
  go_wp2_with fail
  refine N.out.mono ?_
  rintro _ w' ⟨rfl, rfl⟩
  go_wp2_with fail
  go_ret2
  exact ⟨rfl, rfl⟩

set_option maxHeartbeats 1000000 in
theorem begin_none (v : Value) (n k : Int) (w : World) (h : NoneAt v w) : Calls Try.prog 9 #[v] w fun e w' => e = .returned (.tuple #[.int .u64 0, .int .i64 1]) ∧ w' = w := by
  have N := Lib.hid (h w (Below.refl _ _))
  clear h
  go_enter Try.func9, Try.ntmps9
  go_wp2_with fail
  refine N.out.mono ?_
  rintro _ w' ⟨rfl, rfl⟩
  go_wp2_with fail
  go_ret2
  exact ⟨rfl, rfl⟩

set_option maxHeartbeats 1000000 in
theorem check_none (v : Value) (n k : Int) (w : World) (h : NoneAt v w) : Calls Try.prog 18 #[v, .int .u64 n] w fun e w' => e = .returned (.int .i64 1) ∧ w' = w := by
  have N := Lib.hid (find_none v n k w h)
  clear h
  go_enter Try.func18, Try.ntmps18
  go_wp2_with fail
  refine N.out.mono ?_
  rintro _ w' ⟨rfl, rfl⟩
  go_wp2_with fail
  go_ret
  exact ⟨rfl, rfl⟩

set_option maxHeartbeats 1000000 in
theorem commit_none (v : Value) (n k : Int) (w : World) (h : NoneAt v w) : Calls Try.prog 12 #[v, .int .u64 n] w fun e w' => e = .returned (.tuple #[.int .u64 0, .int .i64 1]) ∧ w' = w := by
  have N := Lib.hid (check_none v n k w h)
  clear h
  go_enter Try.func12, Try.ntmps12
  go_wp2_with fail
  refine N.out.mono ?_
  rintro _ w' ⟨rfl, rfl⟩
  go_wp2_with fail
  go_ret2
  exact ⟨rfl, rfl⟩

set_option maxHeartbeats 1000000 in
theorem wrote_none (v : Value) (n k : Int) (w : World) (h : NoneAt v w) : Calls Try.prog 10 #[v, .int .u64 n, .int .u64 k] w fun e w' => e = .returned (.int .i64 1) ∧ w' = w := by
  have N := Lib.hid (find_none v n k w h)
  clear h
  go_enter Try.func10, Try.ntmps10
  go_wp2_with fail
  refine N.out.mono ?_
  rintro _ w' ⟨rfl, rfl⟩
  go_wp2_with fail
  go_ret
  exact ⟨rfl, rfl⟩

set_option maxHeartbeats 1000000 in
theorem abort_none (v : Value) (n k : Int) (w : World) (h : NoneAt v w) : Calls Try.prog 21 #[v, .int .u64 n] w fun e w' => e = .returned (.int .i64 1) ∧ w' = w := by
  have N := Lib.hid (find_none v n k w h)
  clear h
  go_enter Try.func21, Try.ntmps21
  go_wp2_with fail
  refine N.out.mono ?_
  rintro _ w' ⟨rfl, rfl⟩
  go_wp2_with fail
  go_ret
  exact ⟨rfl, rfl⟩

set_option maxHeartbeats 1000000 in
theorem last_none (v : Value) (n k : Int) (w : World) (h : NoneAt v w) : Calls Try.prog 28 #[v] w fun e w' => e = .returned (.int .u64 0) ∧ w' = w := by
  have N := Lib.hid (h w (Below.refl _ _))
  clear h
  go_enter Try.func28, Try.ntmps28
  go_wp2_with fail
  refine N.out.mono ?_
  rintro _ w' ⟨rfl, rfl⟩
  go_wp2_with fail
  go_ret
  exact ⟨rfl, rfl⟩

set_option maxHeartbeats 1000000 in
theorem open_none (v : Value) (n k : Int) (w : World) (h : NoneAt v w) : Calls Try.prog 30 #[v] w fun e w' => e = .returned (.slice none 0 0) ∧ w' = w := by
  have N := Lib.hid (h w (Below.refl _ _))
  clear h
  go_enter Try.func30, Try.ntmps30
  go_wp2_with fail
  refine N.out.mono ?_
  rintro _ w' ⟨rfl, rfl⟩
  go_wp2_with fail
  go_ret
  exact ⟨rfl, rfl⟩

set_option maxHeartbeats 1000000 in
theorem forget_none (v : Value) (n k : Int) (w : World) (h : NoneAt v w) : Calls Try.prog 26 #[v] w fun e w' => e = .returned (.int .i64 0) ∧ w' = w := by
  have N := Lib.hid (h w (Below.refl _ _))
  clear h
  go_enter Try.func26, Try.ntmps26
  go_wp2_with fail
  refine N.out.mono ?_
  rintro _ w' ⟨rfl, rfl⟩
  go_wp2_with fail
  go_ret
  exact ⟨rfl, rfl⟩

set_option maxHeartbeats 1000000 in
theorem looks_none (v : Value) (w : World) (h : NoneAt v w) (hv : (∃ z, v = .pointer (some ⟨z, 0, none⟩)) ∨ v = .pointer none) : Calls Try.prog 24 #[v] w fun e w' => e = .returned (.slice none 0 0) ∧ Below w.heap.size w w' := by
  have N := Lib.hid (fun o => h (w.alloc o) ((Below.refl _ _).alloc (Nat.le_refl _) _))
  clear h
  rcases hv with ⟨z, rfl⟩ | rfl
  all_goals
    go_enter Try.func24, Try.ntmps24
    go_wp2_with fail
    refine (N.out _).mono ?_
    rintro _ w' ⟨rfl, rfl⟩
    go_wp2_with fail
    go_ret
    exact ⟨rfl, (Below.refl _ _).alloc (Nat.le_refl _) _⟩
set_option maxHeartbeats 1000000 in
theorem look_none (v : Value) (n k : Int) (w : World) (h : NoneAt v w) : Calls Try.prog 14 #[v, .int .u64 n] w fun e w' => e = .returned (.tuple #[.agg #[.int .u64 0, .int .u64 0, .int .u64 0, .slice none 0 0], .int .i64 1]) ∧ Below w.heap.size w w' := by
  have N := Lib.hid (fun o => find_none v n k (w.alloc o) (h.later ((Below.refl _ _).alloc (Nat.le_refl _) _)))
  clear h
  go_enter Try.func14, Try.ntmps14
  go_wp2_with fail
  refine (N.out _).mono ?_
  rintro _ w' ⟨rfl, rfl⟩
  go_wp2_with fail
  refine bodyPost_ret (v := .tuple #[.agg #[.int .u64 0, .int .u64 0, .int .u64 0, .slice none 0 0], .int .i64 1]) (by simp [results, Try.results14, go_sem]) rfl ⟨rfl, ?_⟩
  exact (Below.refl _ _).alloc (Nat.le_refl _) _

def Goal (n k : Int) (w : World) : Prop := Calls Try.prog 6 #[.int .u64 n, .int .u64 k] w fun e w' => e = .returned (.bool true) ∧ Below w.heap.size w w'
set_option maxRecDepth 100000 in
set_option maxHeartbeats 4000000 in
theorem walk (n k : Int) (w : World) (wn : (Lit.int .u64 n).wf = true) (wk : (Lit.int .u64 k).wf = true) : Goal n k w := by
  unfold Goal
  go_enter Try.func6, Try.ntmps6
  go_wp2_with fail
  have R1 : Hid (Row (w.alloc (.cells #[.int .u64 0, .int .u64 0, .int .u64 0, .map none, .slice none 0 0, .map none] tMg (0, 0))) w.heap.size #[.int .u64 0, .int .u64 0, .int .u64 0, .map none, .slice none 0 0, .map none] tMg) := Lib.hid (Row.made w _ _)
  have R2 := Lib.hid (Row.made (w.alloc (.cells #[.int .u64 0, .int .u64 0, .int .u64 0, .map none, .slice none 0 0, .map none] tMg (0, 0))) #[.pointer none, .pointer (some ⟨w.heap.size, 0, none⟩)] 25)
  have R3 := Lib.hid (R1.out.only ((Only.refl [] _).alloc (.cells #[.pointer none, .pointer (some ⟨w.heap.size, 0, none⟩)] 25 (0, 0))) (by simp))
  have B0 := Lib.hid (((Below.refl w.heap.size w).alloc (Nat.le_refl _) (.cells #[.int .u64 0, .int .u64 0, .int .u64 0, .map none, .slice none 0 0, .map none] tMg (0, 0))).alloc (by simp) (.cells #[.pointer none, .pointer (some ⟨w.heap.size, 0, none⟩)] 25 (0, 0)))
  rw [show (w.alloc (.cells #[.int .u64 0, .int .u64 0, .int .u64 0, .map none, .slice none 0 0, .map none] tMg (0, 0))).heap.size = w.heap.size + 1 by simp] at R2
  generalize ((w.alloc (.cells #[.int .u64 0, .int .u64 0, .int .u64 0, .map none, .slice none 0 0, .map none] tMg (0, 0))).alloc (.cells #[.pointer none, .pointer (some ⟨w.heap.size, 0, none⟩)] 25 (0, 0))) = w0 at *
  clear R1
  go_loopw [7] (fun u wr => ∃ i : Nat, i ≤ 2 ∧ u = .int .i64 i ∧ Hid (Below w0.heap.size w0 wr)) (fun u _ => 2 - (intOf u).toNat)
  case atStart => exact ⟨0, by omega, rfl, Lib.hid (Below.refl _ _)⟩
  case round =>
    obtain ⟨i, hi, rfl, HB⟩ := hrel
    by_cases h2 : i = 2
    · subst h2
      go_wp2_with fail
      refine (known_any _).mono ?_
      rintro _ w9 ⟨rfl, hb9⟩
      have H9 := Lib.hid hb9
      clear hb9
      go_wp2_with fail
      go_ret
      exact ⟨rfl, B0.out.trans ((HB.out.mono B0.out.size).trans (H9.out.mono (Nat.le_trans B0.out.size HB.out.size)))⟩
    · obtain ⟨v, hv, hN, hc⟩ : ∃ v, ((∃ z, v = .pointer (some ⟨z, 0, none⟩)) ∨ v = .pointer none) ∧ NoneAt v wr ∧ wr.cell? ⟨w.heap.size + 1, i, none⟩ = some v := by
        have r2 := R2.out.of_block (HB.out.block _ R2.out.lt)
        have r3 := R3.out.of_block (HB.out.block _ R3.out.lt)
        obtain rfl | rfl : i = 0 ∨ i = 1 := by omega
        · exact ⟨.pointer none, .inr rfl, none_nil wr, r2.cell 0⟩
        · exact ⟨.pointer (some ⟨w.heap.size, 0, none⟩), .inl ⟨_, rfl⟩, none_zero _ wr (r3.cell 3), r2.cell 1⟩
      have NV := Lib.hid (fun w' (k : Below wr.heap.size wr w') => hN.later k)
      have HV := Lib.hid hv
      have hi2 : i < 2 := by omega
      clear hN hv h2
      go_wp2_with fail
      refine (begin_none v n k _ (NV.out _ (Below.refl _ _))).mono ?_
      rintro _ w' ⟨rfl, hw'⟩
      subst w'
      go_wp2_with fail
      refine (commit_none v n k _ (NV.out _ (Below.refl _ _))).mono ?_
      rintro _ w' ⟨rfl, hw'⟩
      subst w'
      go_wp2_with fail
      refine (look_none v n k _ (NV.out _ (Below.refl _ _))).mono ?_
      rintro _ w3 ⟨rfl, hb3⟩
      have B3 := Lib.hid hb3
      clear hb3
      go_wp2_with fail
      have B4 : Hid (Below wr.heap.size wr (w3.alloc (.cells #[.int .u64 0, .int .u64 0, .int .u64 0, .slice none 0 0] 42 (0, 0)))) := Lib.hid (B3.out.alloc B3.out.size _)
      generalize w3.alloc (.cells #[.int .u64 0, .int .u64 0, .int .u64 0, .slice none 0 0] 42 (0, 0)) = w4 at *
      refine (wrote_none v n k _ (NV.out _ B4.out)).mono ?_
      rintro _ w' ⟨rfl, hw'⟩
      subst w'
      go_wp2_with fail
      refine (check_none v n k _ (NV.out _ B4.out)).mono ?_
      rintro _ w' ⟨rfl, hw'⟩
      subst w'
      go_wp2_with fail
      refine (abort_none v n k _ (NV.out _ B4.out)).mono ?_
      rintro _ w' ⟨rfl, hw'⟩
      subst w'
      go_wp2_with fail
      refine (looks_none v _ (NV.out _ B4.out) HV.out).mono ?_
      rintro _ w5 ⟨rfl, hb5⟩
      have B5 := Lib.hid (B4.out.trans (hb5.mono B4.out.size))
      clear hb5
      go_wp2_with fail
      refine (open_none v n k _ (NV.out _ B5.out)).mono ?_
      rintro _ w' ⟨rfl, hw'⟩
      subst w'
      go_wp2_with fail
      refine (last_none v n k _ (NV.out _ B5.out)).mono ?_
      rintro _ w' ⟨rfl, hw'⟩
      subst w'
      go_wp2_with fail
      refine (forget_none v n k _ (NV.out _ B5.out)).mono ?_
      rintro _ w' ⟨rfl, hw'⟩
      subst w'
      go_wp2_with fail
      go_roundw
      case rel => exact ⟨i + 1, by omega, by go_num, Lib.hid (HB.out.trans (B5.out.mono HB.out.size))⟩
      case measure => simp [intOf]; omega

theorem own : ownKnob Try.prog.godebug = none := by kernel_rfl
theorem laidOut : laidOutB Try.prog = true := by kernel_rfl

set_option maxRecDepth 100000 in
theorem contract (H : Type) (enc : TypeId × Value → H) (W : World) (base : Nat) (args : Array Value) (ds gs : List (DataW H)) (before : List MemPlace)
    (hval0 : ∀ (j : Nat) t v, Try.f6.params[j]? = some t → args[j]? = some v → Value.okWide Try.prog W .any base t v)
    (hW : DataW.Whole enc Try.prog Try.f6.params.toList Rows.txnNoneSpec.vars false W args.toList ds gs before)
    (hsz0 : (DataW.weightsEach Try.prog (Try.f6.params.toList ++ Rows.txnNoneSpec.plain.varTypes Try.prog) (ds ++ gs)).all (· ≤ reachBytes) = true) :
    Calls Try.prog 6 args W fun e W' => ∃ v, e = .returned v ∧ Rows.txnNoneSpec.post enc Try.prog Try.f6 false true false false W args v W' := by
  have hval : ∀ (j : Nat) t v, Try.f6.params[j]? = some t → args[j]? = some v → Value.okWide Try.prog W .any base t v := hval0
  have hW' := hW
  obtain ⟨p, q, hA0, hV, rfl, hfz, hnd⟩ := hW
  have hA : DataW.TrodAll enc Try.prog W 0 (fun _ => true) true Try.f6.params.toList args.toList ds p := hA0
  have hsz : (DataW.weightsEach Try.prog (Try.f6.params.toList ++ Rows.txnNoneSpec.plain.varTypes Try.prog) (ds ++ gs)).all (· ≤ reachBytes) = true := hsz0
  rw [Try.params6] at hA hval hsz
  obtain ⟨v0, vs0, d0, ds0, p0, q0, hargs, rfl, rfl, h0, r0'⟩ := trodAll_cons hA
  obtain ⟨v1, vs1, d1, ds1, p1, q1, rfl, rfl, rfl, h1, r1'⟩ := trodAll_cons r0'
  obtain ⟨rfl, rfl, rfl⟩ := trodAll_nil r1'
  obtain rfl : args = #[v0, v1] := by cases args; simp_all
  obtain ⟨rfl, rfl⟩ := trodVars_none hV
  have k0 := h0
  have lt0 : ∀ x ∈ p0, x.block < W.heap.size := by obtain ⟨m, hm⟩ := k0; exact DataW.trod_lt m _ _ _ hm
  have k1 := h1
  have lt1 : ∀ x ∈ p1, x.block < W.heap.size := by obtain ⟨m, hm⟩ := k1; exact DataW.trod_lt m _ _ _ hm
  obtain ⟨x0, rfl, hd0, hp0, w0⟩ := open_int Try.underlying29 (hval 0 29 v0 rfl rfl) h0
  obtain ⟨x1, rfl, hd1, hp1, w1⟩ := open_int Try.underlying29 (hval 1 29 v1 rfl rfl) h1
  clear hA0 hval0 hsz0
  refine (walk x0 x1 W w0 w1).mono fun e W' ⟨he, bel⟩ => ?_
  subst he
  exact ⟨_, rfl, _, _, _, [], _, [], hW', trodAll_mk1 (shut_bool Try.underlying4 _), (trodAll_cons_mk (Below.trod laidOut (by kernel_rfl) (of_decide_eq_true (by kernel_rfl)) k0 bel lt0) (trodAll_cons_mk (Below.trod laidOut (by kernel_rfl) (of_decide_eq_true (by kernel_rfl)) k1 bel lt1) trodAll_mk0)), rfl, bel.frame _, fun h => by cases h⟩

set_option maxRecDepth 100000 in
theorem lifted (os : Os) (started : os.Started) (H : Type) (enc : TypeId × Value → H) :
    ReturnsInHanded {} Try.checked os 6 .any (Rows.txnNoneSpec.pre6 enc Try.prog Try.f6 Rows.txnNoneRow.domain false) (Rows.txnNoneSpec.post enc Try.prog Try.f6 false true false false) := by
  refine returnsInHanded_of_change_sized (C := Try.checked) own started (by kernel_rfl) Try.func6
    (ChangeSpec.witness6 (enc := enc) (C := Try.checked) false ⟨#[], #[.int .u64 0, .int .u64 0], []⟩ 8 (by kernel_rfl) (by kernel_rfl) (by kernel_rfl) (by kernel_rfl)) ?_
  intro W base args ds gs before hval hW _ hsz _
  exact contract H enc W base args ds gs before hval hW hsz

theorem over : Rows.txnNoneRow.holds Try.pinned (OpenSpec.ofChange Rows.txnNoneSpec) :=
  OpenClaim.holds_of_wide 6 Try.f6 rfl rfl rfl rfl rfl rfl rfl ⟨rfl, rfl, rfl, rfl, rfl⟩ rfl rfl rfl rfl rfl (by kernel_rfl) Try.func6 (by kernel_rfl)
    (of_decide_eq_true (by kernel_rfl)) (by unfold Func.isWrapper; first | (rw [if_pos (by decide +kernel)]; kernel_rfl) | (rw [if_neg (by decide +kernel)]; exact ⟨rfl, rfl⟩))
    (fun os started H enc _ => lifted os started H enc)

theorem proved : Rows.TxnNoneSaid := over
#print axioms proved
end Go.Proofs.Ytodkflnpcfepfaa.txnNone
