/- QuantRises: of two floats without a NaN the one that stands ahead never becomes more; the opposite float becomes the opposite number, but where that is the least one or its neighbour was clipped: for every input. -/
import Derived.Test.YtkohgkbeecadeaaQuC1
import Derived.Test.YtkohgkbeecadeaaQuO
namespace Go.Proofs.Ytkohgkbeecadeaa.quantRises
open Go.ChangeShapes Go.WideShapes Go.ChangeAt Go.RowKit Go.Joins
set_option linter.unusedVariables false

theorem u64_wf {x : Int} (h : (Lit.int .u64 x).wf = true) : 0 ≤ x ∧ x < 18446744073709551616 := by
  have : 0 ≤ x ∧ x ≤ 18446744073709551615 := by simpa [Lit.wf, IntKind.min, IntKind.max, IntKind.signed, IntKind.bits] using h
  omega
def QI (x k v m e : Int) : Prop := ∀ w, Calls Try.prog 9 #[.int .u64 x, .int .i64 k] w fun e' w' => e' = .returned (.tuple #[.int .i32 v, .int .i64 m, .int .i64 e]) ∧ w' = w

set_option maxHeartbeats 1000000 in
theorem ref1 (a b c k v1 v2 v3 m1 m2 m3 e1 e2 e3 : Int) (w : World) (hc : bits .xor .u64 a 9223372036854775808 = c) (A : Hid (QI a k v1 m1 e1)) (B : Hid (QI b k v2 m2 e2)) (C : Hid (QI c k v3 m3 e3)) (h : e1 = 2 ∨ e1 = 10) : Calls Try.prog 7 #[.int .u64 a, .int .u64 b, .int .i64 k] w fun e w' => e = .returned (.bool true) ∧ Below w.heap.size w w' := by
  rcases h with rfl | rfl
  all_goals
    go_enter Try.func7, Try.ntmps7
    go_wp2_with fail
    refine (A.out _).mono ?_
    rintro _ w' ⟨rfl, rfl⟩
    go_wp2_with fail
    refine (B.out _).mono ?_
    rintro _ w' ⟨rfl, rfl⟩
    go_wp2_with fail
    refine (C.out _).mono ?_
    rintro _ w' ⟨rfl, rfl⟩
    go_wp2_with fail
    refine (known_any _).mono ?_
    rintro _ w' ⟨rfl, rfl⟩
    go_wp2_with fail
    go_ret
    exact ⟨rfl, Below.refl _ _⟩

set_option maxHeartbeats 1000000 in
theorem ref2 (a b c k v1 v2 v3 m1 m2 m3 e1 e2 e3 : Int) (w : World) (hc : bits .xor .u64 a 9223372036854775808 = c) (A : Hid (QI a k v1 m1 0)) (B : Hid (QI b k v2 m2 e2)) (C : Hid (QI c k v3 m3 e3)) (h : e2 = 2 ∨ e2 = 10) : Calls Try.prog 7 #[.int .u64 a, .int .u64 b, .int .i64 k] w fun e w' => e = .returned (.bool true) ∧ Below w.heap.size w w' := by
  rcases h with rfl | rfl
  all_goals
    go_enter Try.func7, Try.ntmps7
    go_wp2_with fail
    refine (A.out _).mono ?_
    rintro _ w' ⟨rfl, rfl⟩
    go_wp2_with fail
    refine (B.out _).mono ?_
    rintro _ w' ⟨rfl, rfl⟩
    go_wp2_with fail
    refine (C.out _).mono ?_
    rintro _ w' ⟨rfl, rfl⟩
    go_wp2_with fail
    refine (known_any _).mono ?_
    rintro _ w' ⟨rfl, rfl⟩
    go_wp2_with fail
    go_ret
    exact ⟨rfl, Below.refl _ _⟩

set_option maxHeartbeats 1000000 in
theorem ok00 (a b c k v1 v2 v3 m1 m2 m3 tt q r : Int) (w : World) (hc : bits .xor .u64 a 9223372036854775808 = c) (A : Hid (QI a k v1 m1 0)) (B : Hid (QI b k v2 m2 0)) (C : Hid (QI c k v3 m3 0))
    (T : Hid (∀ w, Calls Try.prog 20 #[.int .u64 a, .int .u64 b] w fun e w' => e = .returned (.int .i64 tt) ∧ w' = w)) (ht : 0 ≤ tt) (q1 : bits .and .i64 (bits .or .i64 m1 m3) 2 = 0) (q2 : bits .and .i64 (bits .or .i64 m1 m3) 1 = r) (q3 : bits .and .i64 (bits .and .i64 m1 m3) 1 = r) (ho : v3 = -v1) (l1 : -2147483648 ≤ v1) (l2 : v1 ≤ 2147483647) (l3 : -2147483648 ≤ v3) (l4 : v3 ≤ 2147483647) : Calls Try.prog 7 #[.int .u64 a, .int .u64 b, .int .i64 k] w fun e w' => e = .returned (.bool true) ∧ Below w.heap.size w w' := by
  subst ho
  go_enter Try.func7, Try.ntmps7
  go_wp2_with fail
  refine (A.out _).mono ?_
  rintro _ w' ⟨rfl, rfl⟩
  go_wp2_with fail
  refine (B.out _).mono ?_
  rintro _ w' ⟨rfl, rfl⟩
  go_wp2_with fail
  refine (C.out _).mono ?_
  rintro _ w' ⟨rfl, rfl⟩
  go_wp2_with fail
  refine (T.out _).mono ?_
  rintro _ w' ⟨rfl, rfl⟩
  go_wp2_with fail
  refine (known_any _).mono ?_
  rintro _ w' ⟨rfl, rfl⟩
  go_wp2_with fail
  go_ret
  exact ⟨rfl, Below.refl _ _⟩

set_option maxHeartbeats 1000000 in
theorem ok01 (a b c k v1 v2 v3 m1 m2 m3 tt q r : Int) (w : World) (hc : bits .xor .u64 a 9223372036854775808 = c) (A : Hid (QI a k v1 m1 0)) (B : Hid (QI b k v2 m2 0)) (C : Hid (QI c k v3 m3 0))
    (T : Hid (∀ w, Calls Try.prog 20 #[.int .u64 a, .int .u64 b] w fun e w' => e = .returned (.int .i64 tt) ∧ w' = w)) (ht : 0 ≤ tt) (q1 : bits .and .i64 (bits .or .i64 m1 m3) 2 = q) (q2 : (q == 0) = false) : Calls Try.prog 7 #[.int .u64 a, .int .u64 b, .int .i64 k] w fun e w' => e = .returned (.bool true) ∧ Below w.heap.size w w' := by
  go_enter Try.func7, Try.ntmps7
  go_wp2_with fail
  refine (A.out _).mono ?_
  rintro _ w' ⟨rfl, rfl⟩
  go_wp2_with fail
  refine (B.out _).mono ?_
  rintro _ w' ⟨rfl, rfl⟩
  go_wp2_with fail
  refine (C.out _).mono ?_
  rintro _ w' ⟨rfl, rfl⟩
  go_wp2_with fail
  refine (T.out _).mono ?_
  rintro _ w' ⟨rfl, rfl⟩
  go_wp2_with fail
  refine (known_any _).mono ?_
  rintro _ w' ⟨rfl, rfl⟩
  go_wp2_with fail
  go_ret
  exact ⟨rfl, Below.refl _ _⟩

set_option maxHeartbeats 1000000 in
theorem ok10 (a b c k v1 v2 v3 m1 m2 m3 tt q r : Int) (w : World) (hc : bits .xor .u64 a 9223372036854775808 = c) (A : Hid (QI a k v1 m1 0)) (B : Hid (QI b k v2 m2 0)) (C : Hid (QI c k v3 m3 0))
    (T : Hid (∀ w, Calls Try.prog 20 #[.int .u64 a, .int .u64 b] w fun e w' => e = .returned (.int .i64 tt) ∧ w' = w)) (ht : tt < 0) (hv : v1 ≤ v2) (q1 : bits .and .i64 (bits .or .i64 m1 m3) 2 = 0) (q2 : bits .and .i64 (bits .or .i64 m1 m3) 1 = r) (q3 : bits .and .i64 (bits .and .i64 m1 m3) 1 = r) (ho : v3 = -v1) (l1 : -2147483648 ≤ v1) (l2 : v1 ≤ 2147483647) (l3 : -2147483648 ≤ v3) (l4 : v3 ≤ 2147483647) : Calls Try.prog 7 #[.int .u64 a, .int .u64 b, .int .i64 k] w fun e w' => e = .returned (.bool true) ∧ Below w.heap.size w w' := by
  subst ho
  go_enter Try.func7, Try.ntmps7
  go_wp2_with fail
  refine (A.out _).mono ?_
  rintro _ w' ⟨rfl, rfl⟩
  go_wp2_with fail
  refine (B.out _).mono ?_
  rintro _ w' ⟨rfl, rfl⟩
  go_wp2_with fail
  refine (C.out _).mono ?_
  rintro _ w' ⟨rfl, rfl⟩
  go_wp2_with fail
  refine (T.out _).mono ?_
  rintro _ w' ⟨rfl, rfl⟩
  go_wp2_with fail
  refine (known_any _).mono ?_
  rintro _ w' ⟨rfl, rfl⟩
  go_wp2_with fail
  go_ret
  exact ⟨rfl, Below.refl _ _⟩

set_option maxHeartbeats 1000000 in
theorem ok11 (a b c k v1 v2 v3 m1 m2 m3 tt q r : Int) (w : World) (hc : bits .xor .u64 a 9223372036854775808 = c) (A : Hid (QI a k v1 m1 0)) (B : Hid (QI b k v2 m2 0)) (C : Hid (QI c k v3 m3 0))
    (T : Hid (∀ w, Calls Try.prog 20 #[.int .u64 a, .int .u64 b] w fun e w' => e = .returned (.int .i64 tt) ∧ w' = w)) (ht : tt < 0) (hv : v1 ≤ v2) (q1 : bits .and .i64 (bits .or .i64 m1 m3) 2 = q) (q2 : (q == 0) = false) : Calls Try.prog 7 #[.int .u64 a, .int .u64 b, .int .i64 k] w fun e w' => e = .returned (.bool true) ∧ Below w.heap.size w w' := by
  go_enter Try.func7, Try.ntmps7
  go_wp2_with fail
  refine (A.out _).mono ?_
  rintro _ w' ⟨rfl, rfl⟩
  go_wp2_with fail
  refine (B.out _).mono ?_
  rintro _ w' ⟨rfl, rfl⟩
  go_wp2_with fail
  refine (C.out _).mono ?_
  rintro _ w' ⟨rfl, rfl⟩
  go_wp2_with fail
  refine (T.out _).mono ?_
  rintro _ w' ⟨rfl, rfl⟩
  go_wp2_with fail
  refine (known_any _).mono ?_
  rintro _ w' ⟨rfl, rfl⟩
  go_wp2_with fail
  go_ret
  exact ⟨rfl, Below.refl _ _⟩

theorem nat_of {x : Int} (h : 0 ≤ x) : ∃ n : Nat, x = n := ⟨x.toNat, by omega⟩
theorem walk (a b k : Int) (w : World) (wa : (Lit.int .u64 a).wf = true) (wb : (Lit.int .u64 b).wf = true) (wk : (Lit.int .i64 k).wf = true) : Calls Try.prog 7 #[.int .u64 a, .int .u64 b, .int .i64 k] w fun e w' => e = .returned (.bool true) ∧ Below w.heap.size w w' := by
  have ha := u64_wf wa
  have hb := u64_wf wb
  obtain ⟨x, rfl⟩ := nat_of ha.1
  obtain ⟨y, rfl⟩ := nat_of hb.1
  obtain ⟨z, hz, hzl⟩ : ∃ z : Nat, bits .xor .u64 (x : Int) 9223372036854775808 = (z : Int) ∧ z < 18446744073709551616 ∧ z = if x < 9223372036854775808 then x + 9223372036854775808 else x - 9223372036854775808 := by
    refine ⟨if x < 9223372036854775808 then x + 9223372036854775808 else x - 9223372036854775808, ?_, by split <;> omega, rfl⟩
    rw [xortop _ ha.1 ha.2]
    split <;> split <;> omega
  obtain ⟨hz1, hz2⟩ := hzl
  have A : Hid (QI x k (quantG x k).1 (quantG x k).2.1 (quantG x k).2.2) := Lib.hid (quant_any x k (by omega))
  have B : Hid (QI y k (quantG y k).1 (quantG y k).2.1 (quantG y k).2.2) := Lib.hid (quant_any y k (by omega))
  have C : Hid (QI z k (quantG z k).1 (quantG z k).2.1 (quantG z k).2.2) := Lib.hid (quant_any z k hz1)
  have zr : Fl.rg z = Fl.rg x := by unfold Fl.rg; split at hz2 <;> omega
  have zs : Fl.sg z = !Fl.sg x := by
    unfold Fl.sg
    by_cases g : x < 9223372036854775808
    · rw [if_pos g] at hz2; rw [decide_eq_true (show 9223372036854775808 ≤ z by omega), decide_eq_false (by omega)]; rfl
    · rw [if_neg g] at hz2; rw [decide_eq_false (show ¬ 9223372036854775808 ≤ z by omega), decide_eq_true (by omega)]; rfl
  have zf : Fl.fld z = Fl.fld x := by unfold Fl.fld; split at hz2 <;> omega
  have zc : Fl.frc z = Fl.frc x := by unfold Fl.frc; split at hz2 <;> omega
  have zm : Fl.mM z = Fl.mM x := by unfold Fl.mM; rw [zf, zc]
  have zE : Fl.mE z = Fl.mE x := by unfold Fl.mE; rw [zf]
  by_cases hk : k < -64 ∨ 64 < k
  · have q : ∀ x, quantG x k = (0, 0, 2) := fun x => by unfold quantG; rw [if_pos hk]
    rw [q] at A B C
    exact ref1 _ _ _ _ _ _ _ _ _ _ _ _ _ w hz A B C (by simp)
  · have k1 : -64 ≤ k := by omega
    have k2 : k ≤ 64 := by omega
    have qn : ∀ x, 9218868437227405312 < Fl.rg x → quantG x k = (0, 0, 10) := fun x h => by unfold quantG; rw [if_neg hk, if_pos h]
    by_cases nx : 9218868437227405312 < Fl.rg x
    · rw [qn x nx] at A
      exact ref1 _ _ _ _ _ _ _ _ _ _ _ _ _ w hz A B C (by simp)
    · have ex : (quantG x k).2.2 = 0 := by rw [quantG_num x k k1 k2 (by omega)]
      have ez : (quantG z k).2.2 = 0 := by rw [quantG_num z k k1 k2 (by omega)]
      rw [ex] at A
      by_cases ny : 9218868437227405312 < Fl.rg y
      · rw [qn y ny] at B
        exact ref2 _ _ _ _ _ _ _ _ _ _ 0 _ _ w hz A B C (by simp)
      · have ey : (quantG y k).2.2 = 0 := by rw [quantG_num y k k1 k2 (by omega)]
        rw [ey] at B
        rw [ez] at C
        have T := Lib.hid (fun w => total_any x y w ha.1 ha.2 hb.1 hb.2)
        have hb1 := limV_bounds (Fl.sg x) (sizeG x k)
        have hb3 := limV_bounds (Fl.sg z) (sizeG z k)
        have bx : -2147483648 ≤ (quantG x k).1 ∧ (quantG x k).1 ≤ 2147483647 := by rw [quantG_num x k k1 k2 (by omega)]; exact ⟨hb1.1, hb1.2.1⟩
        have bz : -2147483648 ≤ (quantG z k).1 ∧ (quantG z k).1 ≤ 2147483647 := by rw [quantG_num z k k1 k2 (by omega)]; exact ⟨hb3.1, hb3.2.1⟩
        have hF := quant_flip (x := x) (y := z) k k1 k2 (by omega) zr zs zm zE
        have mx : (quantG x k).2.1 = limM (Fl.sg x) (sizeG x k) (exactG x k) := by rw [quantG_num x k k1 k2 (by omega)]
        have mz : (quantG z k).2.1 = limM (Fl.sg z) (sizeG z k) (exactG z k) := by rw [quantG_num z k k1 k2 (by omega)]
        have five : ∀ (s : Bool) N ex, limM s N ex = 0 ∨ limM s N ex = 1 ∨ limM s N ex = 2 ∨ limM s N ex = 4 ∨ limM s N ex = 5 := by
          intro s N ex
          unfold limM
          cases s <;> cases ex <;> simp only [Bool.false_eq_true, if_false, if_true] <;> (repeat' split) <;> simp
        have f1 := five (Fl.sg x) (sizeG x k) (exactG x k)
        have f3 := five (Fl.sg z) (sizeG z k) (exactG z k)
        rw [← mx] at f1
        rw [← mz] at f3
        have hrise : totF x y < 0 → (quantG x k).1 ≤ (quantG y k).1 := by
          intro ht
          refine quant_rises k k1 k2 (by omega) (by omega) ?_
          have hp : placeF x < placeF y := by
            unfold totF cmpF at ht
            by_cases g : placeF x < placeF y
            · exact g
            · rw [if_neg g] at ht; split at ht <;> omega
          unfold placeF at hp
          unfold Fl.sg Fl.rg
          by_cases g : x < 9223372036854775808
          · rw [if_pos (by omega)] at hp
            by_cases g' : y < 9223372036854775808
            · rw [if_pos (by omega)] at hp
              left; exact ⟨decide_eq_false (by omega), decide_eq_false (by omega), by omega⟩
            · rw [if_neg (by omega)] at hp; omega
          · rw [if_neg (by omega)] at hp
            by_cases g' : y < 9223372036854775808
            · right; right; exact ⟨decide_eq_true (by omega), decide_eq_false (by omega)⟩
            · rw [if_neg (by omega)] at hp
              right; left; exact ⟨decide_eq_true (by omega), decide_eq_true (by omega), by omega⟩
        clear mx mz five zr zs zf zc zm zE hz2 ex ey ez nx ny qn hk hb1 hb3
        generalize (quantG x k).1 = v1 at *
        generalize (quantG y k).1 = v2 at *
        generalize (quantG z k).1 = v3 at *
        generalize (quantG x k).2.1 = m1 at *
        generalize (quantG y k).2.1 = m2 at *
        generalize (quantG z k).2.1 = m3 at *
        generalize totF x y = tt at *
        have go : ∀ q r, (bits .and .i64 (bits .or .i64 m1 m3) 2 = q ∧ (q == 0) = false) ∨ (bits .and .i64 (bits .or .i64 m1 m3) 2 = 0 ∧ bits .and .i64 (bits .or .i64 m1 m3) 1 = r ∧ bits .and .i64 (bits .and .i64 m1 m3) 1 = r ∧ v3 = -v1) → Calls Try.prog 7 #[.int .u64 x, .int .u64 y, .int .i64 k] w fun e w' => e = .returned (.bool true) ∧ Below w.heap.size w w' := by
          intro q r h
          rcases h with ⟨q1, q2⟩ | ⟨q1, q2, q3, ho⟩
          · by_cases ht : tt < 0
            · exact ok11 _ _ _ _ _ _ _ _ _ _ tt q r w hz A B C T ht (hrise ht) q1 q2
            · exact ok01 _ _ _ _ _ _ _ _ _ _ tt q r w hz A B C T (by omega) q1 q2
          · by_cases ht : tt < 0
            · exact ok10 _ _ _ _ _ _ _ _ _ _ tt q r w hz A B C T ht (hrise ht) q1 q2 q3 ho bx.1 bx.2 bz.1 bz.2
            · exact ok00 _ _ _ _ _ _ _ _ _ _ tt q r w hz A B C T (by omega) q1 q2 q3 ho bx.1 bx.2 bz.1 bz.2
        rcases hF with (h2 | h2) | ⟨ho, r, hr, hm⟩
        · subst h2
          rcases f3 with rfl | rfl | rfl | rfl | rfl <;> exact go 2 0 (.inl ⟨by decide +kernel, rfl⟩)
        · subst h2
          rcases f1 with rfl | rfl | rfl | rfl | rfl <;> exact go 2 0 (.inl ⟨by decide +kernel, rfl⟩)
        · rcases hm with ⟨rfl, rfl⟩ | ⟨rfl, rfl⟩ | ⟨rfl, rfl⟩ <;> rcases hr with rfl | rfl <;> first | exact go 0 0 (.inr ⟨by decide +kernel, by decide +kernel, by decide +kernel, ho⟩) | exact go 0 1 (.inr ⟨by decide +kernel, by decide +kernel, by decide +kernel, ho⟩)

theorem own : ownKnob Try.prog.godebug = none := by kernel_rfl
theorem laidOut : laidOutB Try.prog = true := by kernel_rfl

set_option maxRecDepth 100000 in
theorem contract (H : Type) (enc : TypeId × Value → H) (W : World) (base : Nat) (args : Array Value) (ds gs : List (DataW H)) (before : List MemPlace)
    (hval0 : ∀ (j : Nat) t v, Try.f7.params[j]? = some t → args[j]? = some v → Value.okWide Try.prog W .any base t v)
    (hW : DataW.Whole enc Try.prog Try.f7.params.toList Rows.quantRisesSpec.vars false W args.toList ds gs before)
    (hsz0 : (DataW.weightsEach Try.prog (Try.f7.params.toList ++ Rows.quantRisesSpec.plain.varTypes Try.prog) (ds ++ gs)).all (· ≤ reachBytes) = true) :
    Calls Try.prog 7 args W fun e W' => ∃ v, e = .returned v ∧ Rows.quantRisesSpec.post enc Try.prog Try.f7 false true false false W args v W' := by
  have hval : ∀ (j : Nat) t v, Try.f7.params[j]? = some t → args[j]? = some v → Value.okWide Try.prog W .any base t v := hval0
  have hW' := hW
  obtain ⟨p, q, hA0, hV, rfl, hfz, hnd⟩ := hW
  have hA : DataW.TrodAll enc Try.prog W 0 (fun _ => true) true Try.f7.params.toList args.toList ds p := hA0
  have hsz : (DataW.weightsEach Try.prog (Try.f7.params.toList ++ Rows.quantRisesSpec.plain.varTypes Try.prog) (ds ++ gs)).all (· ≤ reachBytes) = true := hsz0
  rw [Try.params7] at hA hval hsz
  obtain ⟨v0, vs0, d0, ds0, p0, q0, hargs, rfl, rfl, h0, r0'⟩ := trodAll_cons hA
  obtain ⟨v1, vs1, d1, ds1, p1, q1, rfl, rfl, rfl, h1, r1'⟩ := trodAll_cons r0'
  obtain ⟨v2, vs2, d2, ds2, p2, q2, rfl, rfl, rfl, h2, r2'⟩ := trodAll_cons r1'
  obtain ⟨rfl, rfl, rfl⟩ := trodAll_nil r2'
  obtain rfl : args = #[v0, v1, v2] := by cases args; simp_all
  obtain ⟨rfl, rfl⟩ := trodVars_none hV
  have k0 := h0
  have lt0 : ∀ x ∈ p0, x.block < W.heap.size := by obtain ⟨m, hm⟩ := k0; exact DataW.trod_lt m _ _ _ hm
  have k1 := h1
  have lt1 : ∀ x ∈ p1, x.block < W.heap.size := by obtain ⟨m, hm⟩ := k1; exact DataW.trod_lt m _ _ _ hm
  have k2 := h2
  have lt2 : ∀ x ∈ p2, x.block < W.heap.size := by obtain ⟨m, hm⟩ := k2; exact DataW.trod_lt m _ _ _ hm
  obtain ⟨x0, rfl, hd0, hp0, w0⟩ := open_int Try.underlying22 (hval 0 22 v0 rfl rfl) h0
  obtain ⟨x1, rfl, hd1, hp1, w1⟩ := open_int Try.underlying22 (hval 1 22 v1 rfl rfl) h1
  obtain ⟨x2, rfl, hd2, hp2, w2⟩ := open_int Try.underlying3 (hval 2 3 v2 rfl rfl) h2
  clear hA0 hval0 hsz0
  refine (walk x0 x1 x2 W w0 w1 w2).mono fun e W' ⟨he, bel⟩ => ?_
  subst he
  exact ⟨_, rfl, _, _, _, [], _, [], hW', trodAll_mk1 (shut_bool Try.underlying4 _), (trodAll_cons_mk (Below.trod laidOut (by kernel_rfl) (of_decide_eq_true (by kernel_rfl)) k0 bel lt0) (trodAll_cons_mk (Below.trod laidOut (by kernel_rfl) (of_decide_eq_true (by kernel_rfl)) k1 bel lt1) (trodAll_cons_mk (Below.trod laidOut (by kernel_rfl) (of_decide_eq_true (by kernel_rfl)) k2 bel lt2) trodAll_mk0))), rfl, bel.frame _, fun h => by cases h⟩

set_option maxRecDepth 100000 in
theorem lifted (os : Os) (started : os.Started) (H : Type) (enc : TypeId × Value → H) :
    ReturnsInHanded {} Try.checked os 7 .any (Rows.quantRisesSpec.pre6 enc Try.prog Try.f7 Rows.quantRisesRow.domain false) (Rows.quantRisesSpec.post enc Try.prog Try.f7 false true false false) := by
  refine returnsInHanded_of_change_sized (C := Try.checked) own started (by kernel_rfl) Try.func7
    (ChangeSpec.witness6 (enc := enc) (C := Try.checked) false ⟨#[], #[.int .u64 0, .int .u64 0, .int .i64 0], []⟩ 8 (by kernel_rfl) (by kernel_rfl) (by kernel_rfl) (by kernel_rfl)) ?_
  intro W base args ds gs before hval hW _ hsz _
  exact contract H enc W base args ds gs before hval hW hsz

theorem over : Rows.quantRisesRow.holds Try.pinned (OpenSpec.ofChange Rows.quantRisesSpec) :=
  OpenClaim.holds_of_wide 7 Try.f7 rfl rfl rfl rfl rfl rfl rfl ⟨rfl, rfl, rfl, rfl, rfl⟩ rfl rfl rfl rfl rfl (by kernel_rfl) Try.func7 (by kernel_rfl)
    (of_decide_eq_true (by kernel_rfl)) (by unfold Func.isWrapper; first | (rw [if_pos (by decide +kernel)]; kernel_rfl) | (rw [if_neg (by decide +kernel)]; exact ⟨rfl, rfl⟩))
    (fun os started H enc _ => lifted os started H enc)

theorem proved : Rows.QuantRisesSaid := over
#print axioms proved
end Go.Proofs.Ytkohgkbeecadeaa.quantRises
