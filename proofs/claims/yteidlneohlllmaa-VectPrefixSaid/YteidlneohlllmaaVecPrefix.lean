/- VectPrefix: the first hits of a list are the beginning of more first hits of it. -/
import Derived.Test.YteidlneohlllmaaVecI
import Derived.ProofKit
import Derived.OpenShut
import Derived.Lib.SmallJoins
namespace Go.Proofs.Yteidlneohlllmaa.vectPrefix
open Go.ChangeShapes Go.WideShapes Go.ChangeAt Go.RowKit Go.Joins
set_option linter.unusedVariables false

def Goal (a : Option Addr) (n c : Nat) (k more : Int) (w : World) : Prop := Calls Try.prog 9 #[.slice a n c, .int .i64 k, .int .i64 more] w fun e w' => e = .returned (.bool true) ∧ Below w.heap.size w w'

set_option maxHeartbeats 1000000 in
theorem walk_bad (a : Option Addr) (n c : Nat) (k more : Int) (w : World) (m0 : n ≤ c) (m1 : c ≤ 9223372036854775807) (k1 : -9223372036854775808 ≤ k) (k2 : k ≤ 9223372036854775807) (k3 : -9223372036854775808 ≤ more) (k4 : more ≤ 9223372036854775807)
    (h : 1500 < n ∨ (n ≤ 1500 ∧ (k < 0 ∨ (0 ≤ k ∧ (more < 0 ∨ (0 ≤ more ∧ (2000 < k ∨ (k ≤ 2000 ∧ 2000 < more)))))))) : Goal a n c k more w := by
  unfold Goal
  rcases h with h1 | ⟨h1, h2 | ⟨h2, h3 | ⟨h3, h4 | ⟨h4, h5⟩⟩⟩⟩
  all_goals
    go_enter Try.func9, Try.ntmps9
    go_wp2_with (go_at_call 13; refine (known_any _).mono ?_; rintro e w' ⟨rfl, hb2⟩)
    go_ret
    exact ⟨rfl, hb2⟩

theorem plain_same (xs : List (Int × Int)) (k more : Int) (h1 : 0 ≤ k) (h2 : 0 ≤ more) : sameH (firstF xs k) ((firstF xs (k + more)).take (firstF xs k).length) = true := by
  have : firstF xs k = (firstF xs (k + more)).take (firstF xs k).length := by
    rw [firstF_len, firstF, firstF, List.take_take, Nat.min_eq_left]
    unfold askN; omega
  rw [← this]; exact sameH_refl _
theorem rev_take (xs : List (Int × Int)) (n j : Nat) (hl : xs.length = n) (hj : j < n) : xs.reverse.take (j + 1) = xs.reverse.take j ++ [xs[n - 1 - j]?.getD (0, 0)] := by
  subst hl
  rw [List.take_add_one, List.getElem?_reverse hj]
  rw [List.getElem?_eq_getElem (by omega)]
  rfl
theorem plain_back (xs : List (Int × Int)) (k : Int) : sameH (firstF xs k) (firstF xs.reverse k) = true := by
  have : firstF xs.reverse k = firstF xs k := by
    rw [firstF, firstF, List.length_reverse, sortH_congr (List.reverse_perm xs)]
  rw [this]; exact sameH_refl _

set_option maxRecDepth 100000 in
set_option maxHeartbeats 4000000 in
theorem walk_good (a : Option Addr) (n c : Nat) (k more : Int) (xs : List (Int × Int)) (w : World) (hi : HitsIn w a n c xs)
    (g1 : n ≤ 1500) (g2 : 0 ≤ k) (g3 : 0 ≤ more) (g4 : k ≤ 2000) (g5 : more ≤ 2000) : Goal a n c k more w := by
  unfold Goal
  obtain ⟨hl, m0, m1, hsrc, hat⟩ := hi
  have F1 := Lib.hid (first_any n xs w a c k (by omega) (by omega) hl hsrc (by omega))
  have F2 := Lib.hid (fun W (hb : Below w.heap.size w W) => first_any n xs W a c (k + more) (by omega) (by omega) hl (hsrc.below hb) (by omega))
  have HL := Lib.hid hl
  have HAT := Lib.hid hat
  clear hl hsrc hat
  go_enter Try.func9, Try.ntmps9
  go_wp2_with fail
  refine F1.out.mono ?_
  rintro e w1 ⟨v1, rfl, hown1, hb1⟩
  obtain ⟨p1, q1, rfl, u1, u2⟩ := own_shape hown1
  have O1 := Lib.hid hown1
  have B1 := Lib.hid hb1
  clear hown1 hb1 F1
  go_wp2_with fail
  refine (F2.out _ B1.out).mono ?_
  rintro e w2 ⟨v2, rfl, hown2, hb2⟩
  obtain ⟨p2, q2, rfl, u3, u4⟩ := own_shape hown2
  have a1 : ((askN n k : Nat) : Int) = min k n := by unfold askN; omega
  have a2 : ((askN n (k + more) : Nat) : Int) = min (k + more) n := by unfold askN; omega
  have a3 : askN n k ≤ askN n (k + more) := by unfold askN; omega
  have O2 := Lib.hid hown2
  have B2 := Lib.hid hb2
  clear hown2 hb2 F2
  go_wp2_with fail
  have b0 : Below w.heap.size w w2 := B1.out.trans (B2.out.mono B1.out.size)
  have B0 := Lib.hid b0
  have SRC := Lib.hid ((HAT.out).below b0)
  have FIN := Lib.hid (fun W (hb : Below w2.heap.size w2 W) v (hw : W.ownsRow w2.heap.size 35 2 v n (hc xs.reverse)) => show True from trivial)
  clear b0
  obtain ⟨i0, hi, hz0, hz1, hz2⟩ := info_parts infoHit
  go_loopw [9, 10] (fun s i wr => ∃ j : Nat, j ≤ n ∧ i = .int .i64 ((n : Int) - 1 - j) ∧ Hid (wr.ownsRow w2.heap.size 35 2 s j (hc (xs.reverse.take j))) ∧ Hid (Below w2.heap.size w2 wr)) (fun _ i _ => (intOf i + 1).toNat)
  case atStart => exact ⟨0, Nat.zero_le _, by simp, Lib.hid (World.ownsRow_nil _ _ _ _), Lib.hid (Below.refl _ _)⟩
  case round =>
    obtain ⟨j, hj, rfl, OWN, BB⟩ := hrel
    by_cases hlt : j < n
    · obtain ⟨b, off, cp, hv, hcell⟩ := (SRC.out.below BB.out).shape (by have := HL.out; omega)
      have hv2 := hv
      simp only [Value.slice.injEq] at hv2
      obtain ⟨rfl, -, rfl⟩ := hv2
      have hx := hcell (n - 1 - j) (by have := HL.out; omega)
      have HT := Lib.hid (rev_take xs n j HL.out hlt)
      obtain ⟨x1, x2⟩ := hx
      generalize xs[n - 1 - j]?.getD (0, 0) = y at *
      obtain ⟨y1, y2⟩ := y
      dsimp only at x1 x2
      rw [show off + (n - 1 - j) * 2 = off + (n - 1 - j) * 2 from rfl] at x1
      have e1 : ((n : Int) - 1 - (j : Int)) = ((n - 1 - j : Nat) : Int) := by omega
      rw [e1]
      have hk : n - 1 - j < n := by omega
      generalize n - 1 - j = kk at *
      clear hcell hv
      go_wp2_with (at_builtin; refine wpList_append_src rfl (.tmp 46) (.tmp 51) 38 rfl w2.heap.size 35 i0 (.agg #[.int .u64 0, .int .i64 0]) 2 16 Try.underlying38 hi hz0 hz1 hz2 rfl (by decide) _ j (hc (xs.reverse.take j)) rfl (OWN.out.alloc _) _ 1 [.int .u64 y1, .int .i64 y2] rfl ?s1 ?s2 ?s3 ?s4 ?s5 ?s6)
      case s1 => exact .inr ⟨_, _, rfl, rfl, fun q u hq => by rcases q with _ | _ | q <;> simp at hq <;> subst hq <;> simp [go_sem]⟩
      case s2 => simp [Value.oneCell']
      case s3 => unfold maxLen; omega
      case s4 => omega
      case s5 => have := BB.out.size; simp; omega
      case s6 =>
        intro v' w' hown' hgr'
        have bb := (BB.out.alloc BB.out.size _).grown hgr' (by have := BB.out.size; simp; omega) (fun k hk => (OWN.out.lt k hk).1)
        have OWN' := Lib.hid hown'
        have BB' := Lib.hid bb
        clear hown' hgr' bb
        go_wp2
        go_roundw
        case rel => exact ⟨j + 1, by omega, by go_num, Lib.hid (by rw [HT.out, hc_append]; exact OWN'.out), BB'⟩
        case measure => simp [intOf]
    · obtain rfl : n = j := by omega
      obtain ⟨p3, q3, rfl, u5, u6⟩ := own_shape OWN.out
      have hrl : (xs.reverse).length = n := by rw [List.length_reverse]; exact HL.out
      have own3 := OWN.out
      rw [List.take_of_length_le (by omega)] at own3
      have BW := Lib.hid (B0.out.trans (BB.out.mono B0.out.size))
      have X1 := rsame_any (.slice p1 (askN n k) q1) (.slice p2 (askN n k) q2) (firstF xs k) ((firstF xs (k + more)).take (askN n k)) wr
        (((hits_of_own O1.out).below B2.out).keeps fun b o hb => BB.out.cell (p := ⟨b, o, none⟩) (by have := B2.out.size; omega)) ((((hits_of_own O2.out).below (BB.out)).cut (by rw [firstF_len, HL.out]; omega))) (by rw [firstF_len, HL.out]; omega) (by rw [List.length_take, firstF_len, HL.out]; omega)
      have hs := plain_same xs k more g2 g3
      rw [firstF_len, HL.out] at hs
      rw [hs] at X1
      have HX1 := Lib.hid X1
      have HX2 := Lib.hid (fun W hb => first_any n xs.reverse W p3 q3 (k + more) (by omega) (by omega) hrl ((src_of_own own3).below (w' := W) hb) (by omega))
      clear X1 hs own3 hrl
      go_wp2_with fail
      rw [show (min k (n : Int)).toNat = askN n k by omega]
      refine HX1.out.mono ?_
      rintro e w' ⟨rfl, q, rfl⟩
      go_wp2_with fail
      refine (HX2.out _ (below_drewN (Below.refl _ _) _)).mono ?_
      rintro e w3 ⟨v3, rfl, hown3, hb3⟩
      have O3 := Lib.hid hown3
      have B3 := Lib.hid hb3
      have X3 := rsame_any (.slice p2 (askN n (k + more)) q2) v3 (firstF xs (k + more)) (firstF xs.reverse (k + more)) w3 ((((hits_of_own O2.out).below BB.out).drewN _).below B3.out) (hits_of_own hown3) (by rw [firstF_len, HL.out]; omega) (by rw [firstF_len, List.length_reverse, HL.out]; omega)
      rw [plain_back] at X3
      have HX3 := Lib.hid X3
      clear X3 hown3 hb3
      go_wp2_with fail
      refine HX3.out.mono ?_
      rintro e w' ⟨rfl, q', rfl⟩
      go_wp2_with (go_at_call 13; refine (known_any _).mono ?_; rintro e w' ⟨rfl, hb2⟩)
      go_ret
      have bA := (below_drewN BW.out _).trans (B3.out.mono (by have := BW.out.size; simpa using this))
      exact ⟨rfl, (below_drewN bA _).trans (hb2.mono (by have := bA.size; simpa using this))⟩

theorem walk (a : Option Addr) (n c : Nat) (xs : List (Int × Int)) (k more : Int) (w : World) (hi : HitsIn w a n c xs) (w1 : (Lit.int .i64 k).wf = true) (w2 : (Lit.int .i64 more).wf = true) : Goal a n c k more w := by
  have ⟨k1, k2⟩ : -9223372036854775808 ≤ k ∧ k ≤ 9223372036854775807 := by simpa [Lit.wf, IntKind.min, IntKind.max, IntKind.signed, IntKind.bits] using w1
  have ⟨k3, k4⟩ : -9223372036854775808 ≤ more ∧ more ≤ 9223372036854775807 := by simpa [Lit.wf, IntKind.min, IntKind.max, IntKind.signed, IntKind.bits] using w2
  by_cases hg : n ≤ 1500 ∧ 0 ≤ k ∧ 0 ≤ more ∧ k ≤ 2000 ∧ more ≤ 2000
  · exact walk_good a n c k more xs w hi hg.1 hg.2.1 hg.2.2.1 hg.2.2.2.1 hg.2.2.2.2
  · exact walk_bad a n c k more w hi.2.1 hi.2.2.1 k1 k2 k3 k4 (by omega)

theorem own : ownKnob Try.prog.godebug = none := by kernel_rfl
theorem laidOut : laidOutB Try.prog = true := by kernel_rfl

set_option maxRecDepth 100000 in
theorem contract (H : Type) (enc : TypeId × Value → H) (W : World) (base : Nat) (args : Array Value) (ds gs : List (DataW H)) (before : List MemPlace)
    (hval0 : ∀ (j : Nat) t v, Try.f9.params[j]? = some t → args[j]? = some v → Value.okWide Try.prog W .any base t v)
    (hW : DataW.Whole enc Try.prog Try.f9.params.toList Rows.vectPrefixSpec.vars false W args.toList ds gs before)
    (hsz0 : (DataW.weightsEach Try.prog (Try.f9.params.toList ++ Rows.vectPrefixSpec.plain.varTypes Try.prog) (ds ++ gs)).all (· ≤ reachBytes) = true) :
    Calls Try.prog 9 args W fun e W' => ∃ v, e = .returned v ∧ Rows.vectPrefixSpec.post enc Try.prog Try.f9 false true false false W args v W' := by
  have hval : ∀ (j : Nat) t v, Try.f9.params[j]? = some t → args[j]? = some v → Value.okWide Try.prog W .any base t v := hval0
  have hW' := hW
  obtain ⟨p, q, hA0, hV, rfl, hfz, hnd⟩ := hW
  have hA : DataW.TrodAll enc Try.prog W 0 (fun _ => true) true Try.f9.params.toList args.toList ds p := hA0
  have hsz : (DataW.weightsEach Try.prog (Try.f9.params.toList ++ Rows.vectPrefixSpec.plain.varTypes Try.prog) (ds ++ gs)).all (· ≤ reachBytes) = true := hsz0
  rw [Try.params9] at hA hval hsz
  obtain ⟨v0, vs0, d0, ds0, p0, q0, hargs, rfl, rfl, h0, r0'⟩ := trodAll_cons hA
  obtain ⟨v1, vs1, d1, ds1, p1, q1, rfl, rfl, rfl, h1, r1'⟩ := trodAll_cons r0'
  obtain ⟨v2, vs2, d2, ds2, p2, q2, rfl, rfl, rfl, h2, r2'⟩ := trodAll_cons r1'
  obtain ⟨rfl, rfl, rfl⟩ := trodAll_nil r2'
  obtain rfl : args = #[v0, v1, v2] := by cases args; simp_all
  obtain ⟨rfl, rfl⟩ := trodVars_none hV
  have k0 := h0
  have lt0 : ∀ x ∈ p0, x.block < W.heap.size := by obtain ⟨m, hm⟩ := k0; exact DataW.trod_lt m _ _ _ hm
  have k1 := h1
  have lt1 : ∀ x ∈ p1, x.block < W.heap.size := by obtain ⟨m, hm⟩ := k1; exact DataW.trod_lt m _ _ _ hm
  have k2 := h2
  have lt2 : ∀ x ∈ p2, x.block < W.heap.size := by obtain ⟨m, hm⟩ := k2; exact DataW.trod_lt m _ _ _ hm
  obtain ⟨a0, n0, c0, rfl⟩ := okWide_slice Try.underlying38 (hval 0 38 v0 rfl rfl)
  obtain ⟨z0, w0⟩ : ∃ zs, HitsIn W a0 n0 c0 zs := by
    obtain ⟨fuel, hf⟩ := h0
    simp [Value.cells] at hf
    exact hits_in hf
  obtain ⟨x1, rfl, hd1, hp1, w1⟩ := open_int Try.underlying3 (hval 1 3 v1 rfl rfl) h1
  obtain ⟨x2, rfl, hd2, hp2, w2⟩ := open_int Try.underlying3 (hval 2 3 v2 rfl rfl) h2
  clear hA0 hval0 hsz0
  refine (walk a0 n0 c0 z0 x1 x2 W w0 w1 w2).mono fun e W' ⟨he, bel⟩ => ?_
  subst he
  exact ⟨_, rfl, _, _, _, [], _, [], hW', trodAll_mk1 (shut_bool Try.underlying4 _), (trodAll_cons_mk (Below.trod laidOut (by kernel_rfl) (of_decide_eq_true (by kernel_rfl)) k0 bel lt0) (trodAll_cons_mk (Below.trod laidOut (by kernel_rfl) (of_decide_eq_true (by kernel_rfl)) k1 bel lt1) (trodAll_cons_mk (Below.trod laidOut (by kernel_rfl) (of_decide_eq_true (by kernel_rfl)) k2 bel lt2) trodAll_mk0))), rfl, bel.frame _, fun h => by cases h⟩

set_option maxRecDepth 100000 in
theorem lifted (os : Os) (started : os.Started) (H : Type) (enc : TypeId × Value → H) :
    ReturnsInHanded {} Try.checked os 9 .any (Rows.vectPrefixSpec.pre6 enc Try.prog Try.f9 Rows.vectPrefixRow.domain false) (Rows.vectPrefixSpec.post enc Try.prog Try.f9 false true false false) := by
  refine returnsInHanded_of_change_sized (C := Try.checked) own started (by kernel_rfl) Try.func9
    (ChangeSpec.witness6 (enc := enc) (C := Try.checked) false ⟨#[], #[.slice none 0 0, .int .i64 0, .int .i64 0], []⟩ 8 (by kernel_rfl) (by kernel_rfl) (by kernel_rfl) (by kernel_rfl)) ?_
  intro W base args ds gs before hval hW _ hsz _
  exact contract H enc W base args ds gs before hval hW hsz

theorem over : Rows.vectPrefixRow.holds Try.pinned (OpenSpec.ofChange Rows.vectPrefixSpec) :=
  OpenClaim.holds_of_wide 9 Try.f9 rfl rfl rfl rfl rfl rfl rfl ⟨rfl, rfl, rfl, rfl, rfl⟩ rfl rfl rfl rfl rfl (by kernel_rfl) Try.func9 (by kernel_rfl)
    (of_decide_eq_true (by kernel_rfl)) (by unfold Func.isWrapper; first | (rw [if_pos (by decide +kernel)]; kernel_rfl) | (rw [if_neg (by decide +kernel)]; exact ⟨rfl, rfl⟩))
    (fun os started H enc _ => lifted os started H enc)

theorem proved : Rows.VectPrefixSaid := over
#print axioms proved
end Go.Proofs.Yteidlneohlllmaa.vectPrefix
