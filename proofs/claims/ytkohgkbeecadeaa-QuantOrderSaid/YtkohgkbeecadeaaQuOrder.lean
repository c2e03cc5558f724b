/- QuantOrder: Total of any floats is the document's; sorted floats are the same ones in that order. -/
import Derived.Test.YtkohgkbeecadeaaQuOrAa
import Derived.Test.YtkohgkbeecadeaaQuOga
import Derived.Test.YtkohgkbeecadeaaQuOrBb
import Derived.Test.YtkohgkbeecadeaaQuOgb
import Derived.Test.YtkohgkbeecadeaaQuOrCc
import Derived.Test.YtkohgkbeecadeaaQuOgc
import Derived.Test.YtkohgkbeecadeaaQuOrDd
import Derived.Test.YtkohgkbeecadeaaQuOgd
import Derived.Test.YtkohgkbeecadeaaQuOrEe
import Derived.Test.YtkohgkbeecadeaaQuOge
namespace Go.Proofs.Ytkohgkbeecadeaa.quantOrder
open Go.ChangeShapes Go.WideShapes Go.ChangeAt Go.RowKit Go.Joins
set_option linter.unusedVariables false

theorem u64_wf {x : Int} (h : (Lit.int .u64 x).wf = true) : 0 ≤ x ∧ x < 18446744073709551616 := by
  have : 0 ≤ x ∧ x ≤ 18446744073709551615 := by simpa [Lit.wf, IntKind.min, IntKind.max, IntKind.signed, IntKind.bits] using h
  omega
theorem nums_ex : ∀ (xs : List Int), (∀ x ∈ xs, 0 ≤ x ∧ x < 18446744073709551616) → ∃ l : List U64, nums l = xs
  | [], _ => ⟨[], rfl⟩
  | x :: r, h => by
    obtain ⟨l, hl⟩ := nums_ex r fun y hy => h y (List.mem_cons_of_mem _ hy)
    exact ⟨⟨x, h x (List.mem_cons_self ..)⟩ :: l, by simp [nums] at hl ⊢; exact hl⟩
theorem numsIn {w : World} {a : Option Addr} {n c : Nat} {zs : List Int} (h : IsRow .u64 w a n c zs) : ∃ l, NumsIn w a n c l := by
  obtain ⟨l, hl⟩ := nums_ex (zs.take n) fun x hx => u64_wf (h.wf x hx)
  have hn := h.length
  have hle := h.lec
  have hc : c ≤ 9223372036854775807 := by
    rcases h with ⟨rfl, rfl, rfl, rfl⟩ | ⟨x, rfl, h1, h3, h2, _⟩
    · omega
    · unfold maxLen at h3; omega
  exact ⟨l, by rw [← nums_len, hl, hn], hle, hc, by rw [hl]; exact h.src, by rw [hl]; exact h.ints⟩

theorem walk (a : Option Addr) (n c : Nat) (l : List U64) (x y z : Int) (w : World) (hi : NumsIn w a n c l) (wx : (Lit.int .u64 x).wf = true) (wy : (Lit.int .u64 y).wf = true) (wz : (Lit.int .u64 z).wf = true) : Goal a n c x y z w := by
  have hx := u64_wf wx
  have hy := u64_wf wy
  have hz := u64_wf wz
  have m0 := hi.2.1
  have m1 := hi.2.2.1
  by_cases hxy : x = y
  · subst hxy
    have p : totF x x = 0 := by unfold totF cmpF; (repeat' split) <;> omega
    by_cases q : totF x z ≤ 0
    · by_cases g : 2000 < n
      · exact bad_a a n c x z w hx hz m0 m1 g p q
      · by_cases g0 : n = 0
        · exact none_a a n c l x z w hx hz hi g0 p q
        · exact good_a a n c l x z w hx hz hi (by omega) (by omega) p q
    · by_cases g : 2000 < n
      · exact bad_b a n c x z w hx hz m0 m1 g p (by omega)
      · by_cases g0 : n = 0
        · exact none_b a n c l x z w hx hz hi g0 p (by omega)
        · exact good_b a n c l x z w hx hz hi (by omega) (by omega) p (by omega)
  · have hne : (x == y) = false := by simpa using hxy
    have hp : placeF x ≠ placeF y := by unfold placeF; split <;> split <;> omega
    rcases Int.lt_or_gt_of_ne hp with h | h
    · have p : totF x y = -1 := by unfold totF cmpF; rw [if_pos h]
      have p' : totF y x = 1 := by unfold totF cmpF; rw [if_neg (by omega), if_pos h]
      by_cases q : totF y z ≤ 0
      · have r : totF x z ≤ 0 := by
          unfold totF cmpF at q ⊢
          (repeat' split at q) <;> (repeat' split) <;> omega
        by_cases g : 2000 < n
        · exact bad_c a n c x y z w hx hy hz m0 m1 g hne p p' q r
        · by_cases g0 : n = 0
          · exact none_c a n c l x y z w hx hy hz hi g0 hne p p' q r
          · exact good_c a n c l x y z w hx hy hz hi (by omega) (by omega) hne p p' q r
      · by_cases g : 2000 < n
        · exact bad_d a n c x y z w hx hy hz m0 m1 g hne p p' (by omega)
        · by_cases g0 : n = 0
          · exact none_d a n c l x y z w hx hy hz hi g0 hne p p' (by omega)
          · exact good_d a n c l x y z w hx hy hz hi (by omega) (by omega) hne p p' (by omega)
    · have p : totF x y = 1 := by unfold totF cmpF; rw [if_neg (by omega), if_pos h]
      have p' : totF y x = -1 := by unfold totF cmpF; rw [if_pos h]
      by_cases g : 2000 < n
      · exact bad_e a n c x y z w hx hy hz m0 m1 g hne p p'
      · by_cases g0 : n = 0
        · exact none_e a n c l x y z w hx hy hz hi g0 hne p p'
        · exact good_e a n c l x y z w hx hy hz hi (by omega) (by omega) hne p p'

theorem own : ownKnob Try.prog.godebug = none := by kernel_rfl
theorem laidOut : laidOutB Try.prog = true := by kernel_rfl

set_option maxRecDepth 100000 in
theorem contract (H : Type) (enc : TypeId × Value → H) (W : World) (base : Nat) (args : Array Value) (ds gs : List (DataW H)) (before : List MemPlace)
    (hval0 : ∀ (j : Nat) t v, Try.f8.params[j]? = some t → args[j]? = some v → Value.okWide Try.prog W .any base t v)
    (hW : DataW.Whole enc Try.prog Try.f8.params.toList Rows.quantOrderSpec.vars false W args.toList ds gs before)
    (hsz0 : (DataW.weightsEach Try.prog (Try.f8.params.toList ++ Rows.quantOrderSpec.plain.varTypes Try.prog) (ds ++ gs)).all (· ≤ reachBytes) = true) :
    Calls Try.prog 8 args W fun e W' => ∃ v, e = .returned v ∧ Rows.quantOrderSpec.post enc Try.prog Try.f8 false true false false W args v W' := by
  have hval : ∀ (j : Nat) t v, Try.f8.params[j]? = some t → args[j]? = some v → Value.okWide Try.prog W .any base t v := hval0
  have hW' := hW
  obtain ⟨p, q, hA0, hV, rfl, hfz, hnd⟩ := hW
  have hA : DataW.TrodAll enc Try.prog W 0 (fun _ => true) true Try.f8.params.toList args.toList ds p := hA0
  have hsz : (DataW.weightsEach Try.prog (Try.f8.params.toList ++ Rows.quantOrderSpec.plain.varTypes Try.prog) (ds ++ gs)).all (· ≤ reachBytes) = true := hsz0
  rw [Try.params8] at hA hval hsz
  obtain ⟨v0, vs0, d0, ds0, p0, q0, hargs, rfl, rfl, h0, r0'⟩ := trodAll_cons hA
  obtain ⟨v1, vs1, d1, ds1, p1, q1, rfl, rfl, rfl, h1, r1'⟩ := trodAll_cons r0'
  obtain ⟨v2, vs2, d2, ds2, p2, q2, rfl, rfl, rfl, h2, r2'⟩ := trodAll_cons r1'
  obtain ⟨v3, vs3, d3, ds3, p3, q3, rfl, rfl, rfl, h3, r3'⟩ := trodAll_cons r2'
  obtain ⟨rfl, rfl, rfl⟩ := trodAll_nil r3'
  obtain rfl : args = #[v0, v1, v2, v3] := by cases args; simp_all
  obtain ⟨rfl, rfl⟩ := trodVars_none hV
  have k0 := h0
  have lt0 : ∀ x ∈ p0, x.block < W.heap.size := by obtain ⟨m, hm⟩ := k0; exact DataW.trod_lt m _ _ _ hm
  have k1 := h1
  have lt1 : ∀ x ∈ p1, x.block < W.heap.size := by obtain ⟨m, hm⟩ := k1; exact DataW.trod_lt m _ _ _ hm
  have k2 := h2
  have lt2 : ∀ x ∈ p2, x.block < W.heap.size := by obtain ⟨m, hm⟩ := k2; exact DataW.trod_lt m _ _ _ hm
  have k3 := h3
  have lt3 : ∀ x ∈ p3, x.block < W.heap.size := by obtain ⟨m, hm⟩ := k3; exact DataW.trod_lt m _ _ _ hm
  obtain ⟨a0, n0, c0, rfl⟩ := okWide_slice Try.underlying36 (hval 0 36 v0 rfl rfl)
  obtain ⟨z0, w0⟩ : ∃ l, NumsIn W a0 n0 c0 l := by
    obtain ⟨fuel, hf⟩ := h0
    rcases open_ints Try.underlying36 Try.underlying22 (by kernel_rfl) hf with ⟨hcs, _⟩ | ⟨x, l, c, zs, hcs, _, hl, hm, hz, hx, hcell, hwz⟩
    · simp [Value.cells] at hcs
      obtain ⟨rfl, rfl, rfl⟩ := hcs
      exact numsIn (zs := []) (.inl ⟨rfl, rfl, rfl, rfl⟩)
    · simp [Value.cells] at hcs
      obtain ⟨rfl, rfl, rfl⟩ := hcs
      have hz' : zs.length = c0 := by simpa using hz
      exact numsIn (zs := zs) (.inr ⟨_, rfl, hl, hm, hz', hcell, hwz⟩)
  obtain ⟨x1, rfl, hd1, hp1, w1⟩ := open_int Try.underlying22 (hval 1 22 v1 rfl rfl) h1
  obtain ⟨x2, rfl, hd2, hp2, w2⟩ := open_int Try.underlying22 (hval 2 22 v2 rfl rfl) h2
  obtain ⟨x3, rfl, hd3, hp3, w3⟩ := open_int Try.underlying22 (hval 3 22 v3 rfl rfl) h3
  clear hA0 hval0 hsz0
  refine (walk a0 n0 c0 z0 x1 x2 x3 W w0 w1 w2 w3).mono fun e W' ⟨he, bel⟩ => ?_
  subst he
  exact ⟨_, rfl, _, _, _, [], _, [], hW', trodAll_mk1 (shut_bool Try.underlying4 _), (trodAll_cons_mk (Below.trod laidOut (by kernel_rfl) (of_decide_eq_true (by kernel_rfl)) k0 bel lt0) (trodAll_cons_mk (Below.trod laidOut (by kernel_rfl) (of_decide_eq_true (by kernel_rfl)) k1 bel lt1) (trodAll_cons_mk (Below.trod laidOut (by kernel_rfl) (of_decide_eq_true (by kernel_rfl)) k2 bel lt2) (trodAll_cons_mk (Below.trod laidOut (by kernel_rfl) (of_decide_eq_true (by kernel_rfl)) k3 bel lt3) trodAll_mk0)))), rfl, bel.frame _, fun h => by cases h⟩

set_option maxRecDepth 100000 in
theorem lifted (os : Os) (started : os.Started) (H : Type) (enc : TypeId × Value → H) :
    ReturnsInHanded {} Try.checked os 8 .any (Rows.quantOrderSpec.pre6 enc Try.prog Try.f8 Rows.quantOrderRow.domain false) (Rows.quantOrderSpec.post enc Try.prog Try.f8 false true false false) := by
  refine returnsInHanded_of_change_sized (C := Try.checked) own started (by kernel_rfl) Try.func8
    (ChangeSpec.witness6 (enc := enc) (C := Try.checked) false ⟨#[], #[.slice none 0 0, .int .u64 0, .int .u64 0, .int .u64 0], []⟩ 8 (by kernel_rfl) (by kernel_rfl) (by kernel_rfl) (by kernel_rfl)) ?_
  intro W base args ds gs before hval hW _ hsz _
  exact contract H enc W base args ds gs before hval hW hsz

theorem over : Rows.quantOrderRow.holds Try.pinned (OpenSpec.ofChange Rows.quantOrderSpec) :=
  OpenClaim.holds_of_wide 8 Try.f8 rfl rfl rfl rfl rfl rfl rfl ⟨rfl, rfl, rfl, rfl, rfl⟩ rfl rfl rfl rfl rfl (by kernel_rfl) Try.func8 (by kernel_rfl)
    (of_decide_eq_true (by kernel_rfl)) (by unfold Func.isWrapper; first | (rw [if_pos (by decide +kernel)]; kernel_rfl) | (rw [if_neg (by decide +kernel)]; exact ⟨rfl, rfl⟩))
    (fun os started H enc _ => lifted os started H enc)

theorem proved : Rows.QuantOrderSaid := over
#print axioms proved
end Go.Proofs.Ytkohgkbeecadeaa.quantOrder
