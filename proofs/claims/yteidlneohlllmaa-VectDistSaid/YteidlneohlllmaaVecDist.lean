/- VectDist: whatever two lists come in, the program's distance or refusal is the reference's; they stay. -/
import Derived.Test.YteidlneohlllmaaVecD
namespace Go.Proofs.Yteidlneohlllmaa.vectDist
open Go.ChangeShapes Go.WideShapes Go.ChangeAt Go.RowKit
set_option linter.unusedVariables false

theorem info32 : (Try.prog.info? 21).map (fun i => (i.zero, i.size, i.bytes)) = some (some (.int .i32 0), 1, 4) := by kernel_rfl

set_option maxHeartbeats 1000000 in
theorem walk0 (a0 a1 : Value) (n0 n1 : Nat) (c0 c1 : Nat) (p0 p1 : Option Addr) (xs ys : List Int) (w : World) (e0 : a0 = .slice p0 n0 c0) (e1 : a1 = .slice p1 n1 c1)
    (l0 : xs.length = n0) (l1 : ys.length = n1) (m0 : n0 * 4 ≤ 140737488351232) (m1 : n1 * 4 ≤ 140737488351232)
    (i0 : Ints .i32 w a0 xs) (i1 : Ints .i32 w a1 ys) (s0 : SrcOf w a0 n0 1 (xs.map (Value.int .i32))) (s1 : SrcOf w a1 n1 1 (ys.map (Value.int .i32))) (hx : In32 xs) (hy : In32 ys) :
    Calls Try.prog 3 #[.slice p0 n0 c0, .slice p1 n1 c1] w fun e w' => e = .returned (.bool true) ∧ Below w.heap.size w w' := by
  subst e0 e1
  have L0 := Lib.hid l0
  have L1 := Lib.hid l1
  have I0 := Lib.hid i0
  have I1 := Lib.hid i1
  have S0 := Lib.hid s0
  have S1 := Lib.hid s1
  have HX := Lib.hid hx
  have HY := Lib.hid hy
  clear l0 l1 i0 i1 s0 s1 hx hy
  obtain ⟨i0, hi, hz0, hz1, hz2⟩ := info_parts info32
  go_enter Try.func3, Try.ntmps3
  go_wp2_with (at_builtin; refine wpList_append_src rfl (.tmp 11) (.tmp 12) 22 rfl w.heap.size 21 i0 (.int .i32 0) 1 4 Try.underlying22 hi hz0 hz1 hz2 rfl (by decide) _ 0 [] rfl (World.ownsRow_made w #[] 0 (Nat.le_refl _) (by decide) rfl) _ n0 (xs.map (Value.int .i32)) rfl ?s1 ?s2 ?s3 ?s4 ?s5 ?s6)
  case s1 => exact S0.out.below ((Below.refl _ _).alloc (Nat.le_refl _) _)
  case s2 => simp [Value.oneCell']
  case s3 => unfold maxLen; omega
  case s4 => omega
  case s5 => simp
  case s6 =>
    intro v1 w1 hown1 hg1
    have b1 : Below w.heap.size w w1 := ((Below.refl _ _).alloc (Nat.le_refl _) _).grown hg1 (by simp) (by simp [Value.ownBlock])
    have z1 := b1.size
    have G1 := Lib.hid hg1
    have O1 := Lib.hid hown1
    have B1 := Lib.hid b1
    clear hg1 hown1 b1
    go_wp2_with (at_builtin; refine wpList_append_src rfl (.tmp 13) (.tmp 14) 22 rfl w.heap.size 21 i0 (.int .i32 0) 1 4 Try.underlying22 hi hz0 hz1 hz2 rfl (by decide) _ n0 (xs.map (Value.int .i32)) rfl (O1.out.alloc _) _ 1 [.int .i32 77] rfl ?s1 ?s2 ?s3 ?s4 ?s5 ?s6)
    case s1 => exact .inr ⟨_, _, rfl, rfl, cell_one_new _ _ _⟩
    case s2 => simp [Value.oneCell']
    case s3 => unfold maxLen; omega
    case s4 => omega
    case s5 => simp; omega
    case s6 =>
      intro v2 w2 hown2 hg2
      obtain ⟨g1, q1, rfl, gb1, gl1, gc1, gm1, gi1, gt1⟩ := ints_of_own hown2 L0.out (by omega)
      have b2 : Below w.heap.size w w2 := (B1.out.alloc (by omega) _).grown hg2 (by simp; omega) (fun k hk => (O1.out.lt k hk).1)
      have t1 := gt1 0 (by simp)
      have GI1 := Lib.hid gi1
      have B2 := Lib.hid b2
      have z2 := b2.size
      have g77 : w2.cell? ⟨g1, n0, none⟩ = some (.int .i32 77) := by simpa using t1
      clear gi1 b2 hown2 hg2 gt1 t1 O1 G1 B1
      unfold maxLen at gm1
      go_wp2_with (at_builtin; refine wpList_append_src rfl (.tmp 19) (.tmp 20) 22 rfl w2.heap.size 21 i0 (.int .i32 0) 1 4 Try.underlying22 hi hz0 hz1 hz2 rfl (by decide) _ 0 [] rfl (World.ownsRow_made w2 #[] 0 (Nat.le_refl _) (by decide) rfl) _ n1 (ys.map (Value.int .i32)) rfl ?s1 ?s2 ?s3 ?s4 ?s5 ?s6)
      case s1 => exact S1.out.below (B2.out.alloc (by omega) _)
      case s2 => simp [Value.oneCell']
      case s3 => unfold maxLen; omega
      case s4 => omega
      case s5 => simp
      case s6 =>
        intro v3 w3 hown3 hg3
        have b3 : Below w2.heap.size w2 w3 := ((Below.refl _ _).alloc (Nat.le_refl _) _).grown hg3 (by simp) (by simp [Value.ownBlock])
        have z3 := b3.size
        have O3 := Lib.hid hown3
        have B3 := Lib.hid b3
        clear hg3 hown3 b3
        go_wp2_with (at_builtin; refine wpList_append_src rfl (.tmp 21) (.tmp 22) 22 rfl w2.heap.size 21 i0 (.int .i32 0) 1 4 Try.underlying22 hi hz0 hz1 hz2 rfl (by decide) _ n1 (ys.map (Value.int .i32)) rfl (O3.out.alloc _) _ 1 [.int .i32 78] rfl ?s1 ?s2 ?s3 ?s4 ?s5 ?s6)
        case s1 => exact .inr ⟨_, _, rfl, rfl, cell_one_new _ _ _⟩
        case s2 => simp [Value.oneCell']
        case s3 => unfold maxLen; omega
        case s4 => omega
        case s5 => simp; omega
        case s6 =>
          intro v4 w4 hown4 hg4
          obtain ⟨g2, q2, rfl, gb2, gl2, gc2, gm2, gi2, gt2⟩ := ints_of_own hown4 L1.out (by omega)
          have b4 : Below w2.heap.size w2 w4 := (B3.out.alloc (by omega) _).grown hg4 (by simp; omega) (fun k hk => (O3.out.lt k hk).1)
          have t1 := gt2 0 (by simp)
          have GI2 := Lib.hid gi2
          have g78 : w4.cell? ⟨g2, n1, none⟩ = some (.int .i32 78) := by simpa using t1
          have g77' : w4.cell? ⟨g1, n0, none⟩ = some (.int .i32 77) := by rw [b4.cell (p := ⟨g1, n0, none⟩) gl1]; exact g77
          have GI1' := Lib.hid (GI1.out.below' b4)
          have B4 := Lib.hid (B2.out.trans (b4.mono z2))
          have z4 := b4.size
          clear gi2 b4 hown4 hg4 gt2 t1 O3 B3 GI1 g77 B2
          unfold maxLen at gm2
          have ML0 : n0 ≤ 9223372036854775807 := by omega
          have ML1 : n1 ≤ 9223372036854775807 := by omega
          have hs0 := sameB_refl xs
          have hs1 := sameB_refl ys
          go_wp2_with fail
          refine (dist_any _ _ xs ys _ GI1'.out GI2.out HX.out HY.out (by rw [L0.out]; exact ML0) (by rw [L1.out]; exact ML1)).mono ?_
          rintro e w' ⟨rfl, rfl⟩
          go_wp2_with fail
          refine (rdist_any _ _ xs ys _ (I0.out.below' B4.out) (I1.out.below' B4.out) HX.out HY.out (by rw [L0.out]; exact ML0) (by rw [L1.out]; exact ML1)).mono ?_
          rintro e w' ⟨rfl, r1, rfl⟩
          go_wp2_with fail
          refine (same_any _ _ xs xs _ (GI1'.out.drewN _) ((I0.out.below' B4.out).drewN _) (by rw [L0.out]; exact ML0) (by rw [L0.out]; exact ML0)).mono ?_
          rintro e w' ⟨rfl, r2, rfl⟩
          go_wp2_with fail
          refine (same_any _ _ ys ys _ (GI2.out.drewN _) ((I1.out.below' B4.out).drewN _) (by rw [L1.out]; exact ML1) (by rw [L1.out]; exact ML1)).mono ?_
          rintro e w' ⟨rfl, r3, rfl⟩
          go_wp2_with (go_at_call 13; refine (known_any _).mono ?_; rintro e w' ⟨rfl, hb2⟩)
          go_ret
          exact ⟨rfl, (below_drewN B4.out _).trans (hb2.mono (by simp; omega))⟩

/-- THE FRAME -/
theorem walk (a0 : Option Addr) (n0 c0 : Nat) (z0 : List Int) (a1 : Option Addr) (n1 c1 : Nat) (z1 : List Int) (w : World) (w0 : IsRow .i32 w a0 n0 c0 z0) (r0 : c0 * 4 ≤ 140737488351232) (w1 : IsRow .i32 w a1 n1 c1 z1) (r1 : c1 * 4 ≤ 140737488351232) :
    Calls Try.prog 3 #[.slice a0 n0 c0, .slice a1 n1 c1] w fun e w' => e = .returned (.bool true) ∧ Below w.heap.size w w' :=
  walk0 _ _ n0 n1 c0 c1 a0 a1 (z0.take n0) (z1.take n1) w rfl rfl w0.length w1.length (by have := w0.lec; omega) (by have := w1.lec; omega) w0.ints w1.ints w0.src w1.src (in32_of_wf w0.wf) (in32_of_wf w1.wf)

theorem own : ownKnob Try.prog.godebug = none := by kernel_rfl
theorem laidOut : laidOutB Try.prog = true := by kernel_rfl

set_option maxRecDepth 100000 in
theorem contract (H : Type) (enc : TypeId × Value → H) (W : World) (base : Nat) (args : Array Value) (ds gs : List (DataW H)) (before : List MemPlace)
    (hval0 : ∀ (j : Nat) t v, Try.f3.params[j]? = some t → args[j]? = some v → Value.okWide Try.prog W .any base t v)
    (hW : DataW.Whole enc Try.prog Try.f3.params.toList Rows.vectDistSpec.vars false W args.toList ds gs before)
    (hsz0 : (DataW.weightsEach Try.prog (Try.f3.params.toList ++ Rows.vectDistSpec.plain.varTypes Try.prog) (ds ++ gs)).all (· ≤ reachBytes) = true) :
    Calls Try.prog 3 args W fun e W' => ∃ v, e = .returned v ∧ Rows.vectDistSpec.post enc Try.prog Try.f3 false true false false W args v W' := by
  have hval : ∀ (j : Nat) t v, Try.f3.params[j]? = some t → args[j]? = some v → Value.okWide Try.prog W .any base t v := hval0
  have hW' := hW
  obtain ⟨p, q, hA0, hV, rfl, hfz, hnd⟩ := hW
  have hA : DataW.TrodAll enc Try.prog W 0 (fun _ => true) true Try.f3.params.toList args.toList ds p := hA0
  have hsz : (DataW.weightsEach Try.prog (Try.f3.params.toList ++ Rows.vectDistSpec.plain.varTypes Try.prog) (ds ++ gs)).all (· ≤ reachBytes) = true := hsz0
  rw [Try.params3] at hA hval hsz
  obtain ⟨v0, vs0, d0, ds0, p0, q0, hargs, rfl, rfl, h0, r0'⟩ := trodAll_cons hA
  obtain ⟨v1, vs1, d1, ds1, p1, q1, rfl, rfl, rfl, h1, r1'⟩ := trodAll_cons r0'
  obtain ⟨rfl, rfl, rfl⟩ := trodAll_nil r1'
  obtain rfl : args = #[v0, v1] := by cases args; simp_all
  obtain ⟨rfl, rfl⟩ := trodVars_none hV
  have k0 := h0
  have lt0 : ∀ x ∈ p0, x.block < W.heap.size := by obtain ⟨m, hm⟩ := k0; exact DataW.trod_lt m _ _ _ hm
  have k1 := h1
  have lt1 : ∀ x ∈ p1, x.block < W.heap.size := by obtain ⟨m, hm⟩ := k1; exact DataW.trod_lt m _ _ _ hm
  obtain ⟨a0, n0, c0, rfl⟩ := okWide_slice Try.underlying22 (hval 0 22 v0 rfl rfl)
  obtain ⟨z0, w0, r0⟩ : ∃ zs, IsRow .i32 W a0 n0 c0 zs ∧ c0 * 4 ≤ 140737488351232 := by
    obtain ⟨fuel, hf⟩ := h0
    rcases open_ints Try.underlying22 Try.underlying21 (by kernel_rfl) hf with ⟨hcs, _⟩ | ⟨x, l, c, zs, hcs, _, hl, hm, hz, hx, hcell, hwz⟩
    · simp [Value.cells] at hcs
      obtain ⟨rfl, rfl, rfl⟩ := hcs
      exact ⟨[], .inl ⟨rfl, rfl, rfl, rfl⟩, by omega⟩
    · simp [Value.cells] at hcs
      obtain ⟨rfl, rfl, rfl⟩ := hcs
      simp only [Prod.mk.injEq] at hx
      have hz' : zs.length = c0 := by simpa using hz
      have hs := sized_slice hsz (j := 0) (t := 22) rfl (congrArg some hx.1) Try.underlying22
      rw [show Try.prog.bytesOf 21 = 4 from by kernel_rfl] at hs
      simp only [lits, List.length_map, List.length_take, List.length_drop, reachBytes] at hs
      exact ⟨zs, .inr ⟨_, rfl, hl, hm, hz', hcell, hwz⟩, by omega⟩
  obtain ⟨a1, n1, c1, rfl⟩ := okWide_slice Try.underlying22 (hval 1 22 v1 rfl rfl)
  obtain ⟨z1, w1, r1⟩ : ∃ zs, IsRow .i32 W a1 n1 c1 zs ∧ c1 * 4 ≤ 140737488351232 := by
    obtain ⟨fuel, hf⟩ := h1
    rcases open_ints Try.underlying22 Try.underlying21 (by kernel_rfl) hf with ⟨hcs, _⟩ | ⟨x, l, c, zs, hcs, _, hl, hm, hz, hx, hcell, hwz⟩
    · simp [Value.cells] at hcs
      obtain ⟨rfl, rfl, rfl⟩ := hcs
      exact ⟨[], .inl ⟨rfl, rfl, rfl, rfl⟩, by omega⟩
    · simp [Value.cells] at hcs
      obtain ⟨rfl, rfl, rfl⟩ := hcs
      simp only [Prod.mk.injEq] at hx
      have hz' : zs.length = c1 := by simpa using hz
      have hs := sized_slice hsz (j := 1) (t := 22) rfl (congrArg some hx.1) Try.underlying22
      rw [show Try.prog.bytesOf 21 = 4 from by kernel_rfl] at hs
      simp only [lits, List.length_map, List.length_take, List.length_drop, reachBytes] at hs
      exact ⟨zs, .inr ⟨_, rfl, hl, hm, hz', hcell, hwz⟩, by omega⟩
  clear hA0 hval0 hsz0
  refine (walk a0 n0 c0 z0 a1 n1 c1 z1 W w0 r0 w1 r1).mono fun e W' ⟨he, bel⟩ => ?_
  subst he
  exact ⟨_, rfl, _, _, _, [], _, [], hW', trodAll_mk1 (shut_bool Try.underlying4 _), (trodAll_cons_mk (Below.trod laidOut (by kernel_rfl) (of_decide_eq_true (by kernel_rfl)) k0 bel lt0) (trodAll_cons_mk (Below.trod laidOut (by kernel_rfl) (of_decide_eq_true (by kernel_rfl)) k1 bel lt1) trodAll_mk0)), rfl, bel.frame _, fun h => by cases h⟩

set_option maxRecDepth 100000 in
theorem lifted (os : Os) (started : os.Started) (H : Type) (enc : TypeId × Value → H) :
    ReturnsInHanded {} Try.checked os 3 .any (Rows.vectDistSpec.pre6 enc Try.prog Try.f3 Rows.vectDistRow.domain false) (Rows.vectDistSpec.post enc Try.prog Try.f3 false true false false) := by
  refine returnsInHanded_of_change_sized (C := Try.checked) own started (by kernel_rfl) Try.func3
    (ChangeSpec.witness6 (enc := enc) (C := Try.checked) false ⟨#[], #[.slice none 0 0, .slice none 0 0], []⟩ 8 (by kernel_rfl) (by kernel_rfl) (by kernel_rfl) (by kernel_rfl)) ?_
  intro W base args ds gs before hval hW _ hsz _
  exact contract H enc W base args ds gs before hval hW hsz

theorem over : Rows.vectDistRow.holds Try.pinned (OpenSpec.ofChange Rows.vectDistSpec) :=
  OpenClaim.holds_of_wide 3 Try.f3 rfl rfl rfl rfl rfl rfl rfl ⟨rfl, rfl, rfl, rfl, rfl⟩ rfl rfl rfl rfl rfl (by kernel_rfl) Try.func3 (by kernel_rfl)
    (of_decide_eq_true (by kernel_rfl)) (by unfold Func.isWrapper; first | (rw [if_pos (by decide +kernel)]; kernel_rfl) | (rw [if_neg (by decide +kernel)]; exact ⟨rfl, rfl⟩))
    (fun os started H enc _ => lifted os started H enc)

theorem proved : Rows.VectDistSaid := over
#print axioms proved
end Go.Proofs.Yteidlneohlllmaa.vectDist
