/- VectMerge: the first hits of two lists together; asked of the first hits of each it is the same. -/
import Derived.Test.YteidlneohlllmaaVecL
import Derived.ProofKit
import Derived.OpenShut
import Derived.Lib.SmallJoins
namespace Go.Proofs.Yteidlneohlllmaa.vectMerge
open Go.ChangeShapes Go.WideShapes Go.ChangeAt Go.RowKit Go.Joins
set_option linter.unusedVariables false

def Goal (a : Option Addr) (n c : Nat) (b : Option Addr) (m d : Nat) (k : Int) (w : World) : Prop := Calls Try.prog 8 #[.slice a n c, .slice b m d, .int .i64 k] w fun e w' => e = .returned (.bool true) ∧ Below w.heap.size w w'

set_option maxHeartbeats 1000000 in
theorem walk_bad (a : Option Addr) (n c : Nat) (b : Option Addr) (m d : Nat) (k : Int) (w : World) (m0 : n ≤ c) (m1 : c ≤ 9223372036854775807) (m2 : m ≤ d) (m3 : d ≤ 9223372036854775807)
    (h : 700 < n ∨ (n ≤ 700 ∧ 700 < m)) : Goal a n c b m d k w := by
  unfold Goal
  rcases h with h1 | ⟨h1, h2⟩
  all_goals
    go_enter Try.func8, Try.ntmps8
    go_wp2_with (go_at_call 13; refine (known_any _).mono ?_; rintro e w' ⟨rfl, hb2⟩)
    go_ret
    exact ⟨rfl, hb2⟩

set_option maxRecDepth 100000 in
set_option maxHeartbeats 4000000 in
theorem walk_good (a : Option Addr) (n c : Nat) (xs : List (Int × Int)) (b : Option Addr) (m d : Nat) (ys : List (Int × Int)) (k : Int) (w : World) (hi : HitsIn w a n c xs) (hj : HitsIn w b m d ys)
    (k1 : -9223372036854775808 ≤ k) (k2 : k ≤ 9223372036854775807) (g1 : n ≤ 700) (g2 : m ≤ 700) : Goal a n c b m d k w := by
  unfold Goal
  obtain ⟨hl, m0, m1, hsrc, hat⟩ := hi
  obtain ⟨hl', m0', m1', hsrc', hat'⟩ := hj
  have F1 := Lib.hid (merge_any n m xs ys w a b c d k k1 k2 hl hl' hsrc hsrc' (by omega))
  have F2 := Lib.hid (fun W (hb : Below w.heap.size w W) => first_any n xs W a c k k1 k2 hl (hsrc.below hb) (by omega))
  have F3 := Lib.hid (fun W (hb : Below w.heap.size w W) => first_any m ys W b d k k1 k2 hl' (hsrc'.below hb) (by omega))
  have HL := Lib.hid hl
  have HL' := Lib.hid hl'
  have S1 := Lib.hid hsrc
  have S2 := Lib.hid hsrc'
  clear hl hl' hsrc hsrc' hat hat'
  obtain ⟨i0, hi, hz0, hz1, hz2⟩ := info_parts infoHit
  go_enter Try.func8, Try.ntmps8
  go_wp2_with fail
  refine F1.out.mono ?_
  rintro e w1 ⟨v1, rfl, hown1, hb1⟩
  have O1 := Lib.hid hown1
  have B1 := Lib.hid hb1
  clear hown1 hb1 F1
  go_wp2_with fail
  refine (F2.out _ B1.out).mono ?_
  rintro e w2 ⟨v2, rfl, hown2, hb2⟩
  obtain ⟨p2, q2, rfl, u3, u4⟩ := own_shape hown2
  have O2 := Lib.hid hown2
  have B2 := Lib.hid (B1.out.trans (hb2.mono B1.out.size))
  have D2 := Lib.hid hb2
  clear hown2 hb2 F2
  go_wp2_with fail
  refine (F3.out _ B2.out).mono ?_
  rintro e w3 ⟨v3, rfl, hown3, hb3⟩
  obtain ⟨p3, q3, rfl, u5, u6⟩ := own_shape hown3
  have O3 := Lib.hid hown3
  have B3 := Lib.hid (B2.out.trans (hb3.mono B2.out.size))
  have D3 := Lib.hid hb3
  have F4 := Lib.hid (merge_any (askN n k) (askN m k) (firstF xs k) (firstF ys k) w3 p2 p3 q2 q3 k k1 k2 (by rw [firstF_len, HL.out]) (by rw [firstF_len, HL'.out]) ((src_of_own O2.out).below hb3) (src_of_own hown3) (by unfold askN; omega))
  clear hown3 hb3 F3
  go_wp2_with fail
  refine F4.out.mono ?_
  rintro e w4 ⟨v4, rfl, hown4, hb4⟩
  have O4 := Lib.hid hown4
  have B4 := Lib.hid (B3.out.trans (hb4.mono B3.out.size))
  have D4 := Lib.hid hb4
  clear hown4 hb4 F4
  go_wp2_with (at_builtin; refine wpList_append_src rfl (.tmp 31) (.tmp 32) 38 rfl w4.heap.size 35 i0 (.agg #[.int .u64 0, .int .i64 0]) 2 16 Try.underlying38 hi hz0 hz1 hz2 rfl (by decide) _ 0 [] rfl (World.ownsRow_made w4 #[] 0 (Nat.le_refl _) (by decide) rfl) _ n (hc xs) rfl ?s1 ?s2 ?s3 ?s4 ?s5 ?s6)
  case s1 => exact S1.out.below (B4.out.alloc B4.out.size _)
  case s2 => exact hc_one xs
  case s3 => unfold maxLen; omega
  case s4 => omega
  case s5 => simp
  case s6 =>
    intro v5 w5 hown5 hg5
    have b5 : Below w4.heap.size w4 w5 := ((Below.refl _ _).alloc (Nat.le_refl _) _).grown hg5 (by simp) (by simp [Value.ownBlock])
    have O5 := Lib.hid hown5
    have B5 := Lib.hid b5
    clear hown5 hg5 b5
    go_wp2_with (at_builtin; refine wpList_append_src rfl (.tmp 33) (.tmp 34) 38 rfl w4.heap.size 35 i0 (.agg #[.int .u64 0, .int .i64 0]) 2 16 Try.underlying38 hi hz0 hz1 hz2 rfl (by decide) _ n (hc xs) rfl O5.out _ m (hc ys) rfl ?s1 ?s2 ?s3 ?s4 ?s5 ?s6)
    case s1 => exact S2.out.below (B4.out.trans (B5.out.mono B4.out.size))
    case s2 => exact hc_one ys
    case s3 => unfold maxLen; omega
    case s4 => omega
    case s5 => have := B5.out.size; omega
    case s6 =>
      intro v6 w6 hown6 hg6
      rw [← hc_append] at hown6
      have b6 : Below w4.heap.size w4 w6 := B5.out.grown hg6 B5.out.size (fun k hk => (O5.out.lt k hk).1)
      obtain ⟨p6, q6, rfl, u7, u8⟩ := own_shape hown6
      have B6 := Lib.hid b6
      have F5 := Lib.hid (rfirst_any (n + m) (xs ++ ys) w6 p6 q6 k (by rw [List.length_append, HL.out, HL'.out]) (src_of_own hown6) (by omega))
      clear hown6 hg6 b6
      go_wp2_with fail
      refine F5.out.mono ?_
      rintro e w7 ⟨v7, rfl, hown7, hb7⟩
      have h1 : HitsAt w7 v1 ((sortH (xs ++ ys)).take (askN (n + m) k)) := ((((hits_of_own O1.out).below D2.out).keeps (fun b o hb => D3.out.cell (p := ⟨b, o, none⟩) (by have := D2.out.size; omega))).keeps (fun b o hb => D4.out.cell (p := ⟨b, o, none⟩) (by have := D3.out.size; omega)) |>.below B6.out).keeps (fun b o hb => hb7.cell (p := ⟨b, o, none⟩) (by have := B6.out.size; omega))
      have lm : ((sortH (xs ++ ys)).take (askN (n + m) k)).length ≤ 9223372036854775807 := by rw [List.length_take]; unfold askN; omega
      have e1 : firstF (xs ++ ys) k = (sortH (xs ++ ys)).take (askN (n + m) k) := by rw [firstF, List.length_append, HL.out, HL'.out]
      rw [e1] at hown7
      have X1 := rsame_any v1 v7 _ _ w7 h1 (hits_of_own hown7) lm lm
      rw [sameH_refl] at X1
      have h2 : HitsAt w7 v4 ((sortH (xs ++ ys)).take (askN (n + m) k)) := by
        have e := merge_law xs ys k
        rw [HL.out, HL'.out] at e
        rw [← e]
        exact ((hits_of_own O4.out).below B6.out).keeps (fun b o hb => hb7.cell (p := ⟨b, o, none⟩) (by have := B6.out.size; omega))
      have X2 := fun q => rsame_any v1 v4 _ _ (w7.drewN q) (h1.drewN q) (h2.drewN q) lm lm
      rw [sameH_refl] at X2
      have H1 := Lib.hid X1
      have H2 := Lib.hid X2
      have B7 := Lib.hid ((B4.out.trans (B6.out.mono B4.out.size)).trans (hb7.mono (by have := B4.out.size; have := B6.out.size; omega)))
      clear X1 X2 h1 h2 lm e1 hown7 hb7
      go_wp2_with fail
      refine H1.out.mono ?_
      rintro e w' ⟨rfl, q, rfl⟩
      go_wp2_with fail
      refine (H2.out _).mono ?_
      rintro e w' ⟨rfl, q', rfl⟩
      go_wp2_with (go_at_call 13; refine (known_any _).mono ?_; rintro e w' ⟨rfl, hb2⟩)
      go_ret
      exact ⟨rfl, (below_drewN B7.out _).trans (hb2.mono (by have := B7.out.size; simpa using this))⟩

theorem walk (a : Option Addr) (n c : Nat) (xs : List (Int × Int)) (b : Option Addr) (m d : Nat) (ys : List (Int × Int)) (k : Int) (w : World) (hi : HitsIn w a n c xs) (hj : HitsIn w b m d ys) (w1 : (Lit.int .i64 k).wf = true) : Goal a n c b m d k w := by
  have ⟨k1, k2⟩ : -9223372036854775808 ≤ k ∧ k ≤ 9223372036854775807 := by simpa [Lit.wf, IntKind.min, IntKind.max, IntKind.signed, IntKind.bits] using w1
  by_cases hg : n ≤ 700 ∧ m ≤ 700
  · exact walk_good a n c xs b m d ys k w hi hj k1 k2 hg.1 hg.2
  · exact walk_bad a n c b m d k w hi.2.1 hi.2.2.1 hj.2.1 hj.2.2.1 (by omega)

theorem own : ownKnob Try.prog.godebug = none := by kernel_rfl
theorem laidOut : laidOutB Try.prog = true := by kernel_rfl

set_option maxRecDepth 100000 in
theorem contract (H : Type) (enc : TypeId × Value → H) (W : World) (base : Nat) (args : Array Value) (ds gs : List (DataW H)) (before : List MemPlace)
    (hval0 : ∀ (j : Nat) t v, Try.f8.params[j]? = some t → args[j]? = some v → Value.okWide Try.prog W .any base t v)
    (hW : DataW.Whole enc Try.prog Try.f8.params.toList Rows.vectMergeSpec.vars false W args.toList ds gs before)
    (hsz0 : (DataW.weightsEach Try.prog (Try.f8.params.toList ++ Rows.vectMergeSpec.plain.varTypes Try.prog) (ds ++ gs)).all (· ≤ reachBytes) = true) :
    Calls Try.prog 8 args W fun e W' => ∃ v, e = .returned v ∧ Rows.vectMergeSpec.post enc Try.prog Try.f8 false true false false W args v W' := by
  have hval : ∀ (j : Nat) t v, Try.f8.params[j]? = some t → args[j]? = some v → Value.okWide Try.prog W .any base t v := hval0
  have hW' := hW
  obtain ⟨p, q, hA0, hV, rfl, hfz, hnd⟩ := hW
  have hA : DataW.TrodAll enc Try.prog W 0 (fun _ => true) true Try.f8.params.toList args.toList ds p := hA0
  have hsz : (DataW.weightsEach Try.prog (Try.f8.params.toList ++ Rows.vectMergeSpec.plain.varTypes Try.prog) (ds ++ gs)).all (· ≤ reachBytes) = true := hsz0
  rw [Try.params8] at hA hval hsz
  obtain ⟨v0, vs0, d0, ds0, p0, q0, hargs, rfl, rfl, h0, r0'⟩ := trodAll_cons hA
  obtain ⟨v1, vs1, d1, ds1, p1, q1, rfl, rfl, rfl, h1, r1'⟩ := trodAll_cons r0'
  obtain ⟨v2, vs2, d2, ds2, p2, q2, rfl, rfl, rfl, h2, r2'⟩ := trodAll_cons r1'
  obtain ⟨rfl, rfl, rfl⟩ := trodAll_nil r2'
  obtain rfl : args = #[v0, v1, v2] := by cases args; simp_all
  obtain ⟨rfl, rfl⟩ := trodVars_none hV
  have k0 := h0
  have lt0 : ∀ x ∈ p0, x.block < W.heap.size := by obtain ⟨m, hm⟩ := k0; exact DataW.trod_lt m _ _ _ hm
  have k1 := h1
  have lt1 : ∀ x ∈ p1, x.block < W.heap.size := by obtain ⟨m, hm⟩ := k1; exact DataW.trod_lt m _ _ _ hm
  have k2 := h2
  have lt2 : ∀ x ∈ p2, x.block < W.heap.size := by obtain ⟨m, hm⟩ := k2; exact DataW.trod_lt m _ _ _ hm
  obtain ⟨a0, n0, c0, rfl⟩ := okWide_slice Try.underlying38 (hval 0 38 v0 rfl rfl)
  obtain ⟨z0, w0⟩ : ∃ zs, HitsIn W a0 n0 c0 zs := by
    obtain ⟨fuel, hf⟩ := h0
    simp [Value.cells] at hf
    exact hits_in hf
  obtain ⟨a1, n1, c1, rfl⟩ := okWide_slice Try.underlying38 (hval 1 38 v1 rfl rfl)
  obtain ⟨z1, w1⟩ : ∃ zs, HitsIn W a1 n1 c1 zs := by
    obtain ⟨fuel, hf⟩ := h1
    simp [Value.cells] at hf
    exact hits_in hf
  obtain ⟨x2, rfl, hd2, hp2, w2⟩ := open_int Try.underlying3 (hval 2 3 v2 rfl rfl) h2
  clear hA0 hval0 hsz0
  refine (walk a0 n0 c0 z0 a1 n1 c1 z1 x2 W w0 w1 w2).mono fun e W' ⟨he, bel⟩ => ?_
  subst he
  exact ⟨_, rfl, _, _, _, [], _, [], hW', trodAll_mk1 (shut_bool Try.underlying4 _), (trodAll_cons_mk (Below.trod laidOut (by kernel_rfl) (of_decide_eq_true (by kernel_rfl)) k0 bel lt0) (trodAll_cons_mk (Below.trod laidOut (by kernel_rfl) (of_decide_eq_true (by kernel_rfl)) k1 bel lt1) (trodAll_cons_mk (Below.trod laidOut (by kernel_rfl) (of_decide_eq_true (by kernel_rfl)) k2 bel lt2) trodAll_mk0))), rfl, bel.frame _, fun h => by cases h⟩

set_option maxRecDepth 100000 in
theorem lifted (os : Os) (started : os.Started) (H : Type) (enc : TypeId × Value → H) :
    ReturnsInHanded {} Try.checked os 8 .any (Rows.vectMergeSpec.pre6 enc Try.prog Try.f8 Rows.vectMergeRow.domain false) (Rows.vectMergeSpec.post enc Try.prog Try.f8 false true false false) := by
  refine returnsInHanded_of_change_sized (C := Try.checked) own started (by kernel_rfl) Try.func8
    (ChangeSpec.witness6 (enc := enc) (C := Try.checked) false ⟨#[], #[.slice none 0 0, .slice none 0 0, .int .i64 0], []⟩ 8 (by kernel_rfl) (by kernel_rfl) (by kernel_rfl) (by kernel_rfl)) ?_
  intro W base args ds gs before hval hW _ hsz _
  exact contract H enc W base args ds gs before hval hW hsz

theorem over : Rows.vectMergeRow.holds Try.pinned (OpenSpec.ofChange Rows.vectMergeSpec) :=
  OpenClaim.holds_of_wide 8 Try.f8 rfl rfl rfl rfl rfl rfl rfl ⟨rfl, rfl, rfl, rfl, rfl⟩ rfl rfl rfl rfl rfl (by kernel_rfl) Try.func8 (by kernel_rfl)
    (of_decide_eq_true (by kernel_rfl)) (by unfold Func.isWrapper; first | (rw [if_pos (by decide +kernel)]; kernel_rfl) | (rw [if_neg (by decide +kernel)]; exact ⟨rfl, rfl⟩))
    (fun os started H enc _ => lifted os started H enc)

theorem proved : Rows.VectMergeSaid := over
#print axioms proved
end Go.Proofs.Yteidlneohlllmaa.vectMerge
