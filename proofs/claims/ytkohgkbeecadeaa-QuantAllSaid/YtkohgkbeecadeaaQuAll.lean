/- QuantAll: lists of floats become the document's numbers, with their marks, or are refused, and where; the list stays: for every input. -/
import Derived.Test.YtkohgkbeecadeaaQuL2
namespace Go.Proofs.Ytkohgkbeecadeaa.quantAll
open Go.ChangeShapes Go.WideShapes Go.ChangeAt Go.RowKit Go.Joins
set_option linter.unusedVariables false

theorem u64_wf {x : Int} (h : (Lit.int .u64 x).wf = true) : 0 ≤ x ∧ x < 18446744073709551616 := by
  have : 0 ≤ x ∧ x ≤ 18446744073709551615 := by simpa [Lit.wf, IntKind.min, IntKind.max, IntKind.signed, IntKind.bits] using h
  omega
theorem nats_ex : ∀ (xs : List Int), (∀ x ∈ xs, 0 ≤ x ∧ x < 18446744073709551616) → ∃ l : List Nat, nats l = xs ∧ ∀ x ∈ l, x < 18446744073709551616
  | [], _ => ⟨[], rfl, by simp⟩
  | x :: r, h => by
    obtain ⟨l, hl, hb⟩ := nats_ex r fun y hy => h y (List.mem_cons_of_mem _ hy)
    have hx := h x (List.mem_cons_self ..)
    refine ⟨x.toNat :: l, ?_, ?_⟩
    · rw [← hl]
      show ((x.toNat : Nat) : Int) :: nats l = x :: nats l
      rw [Int.toNat_of_nonneg hx.1]
    · intro y hy
      rcases List.mem_cons.1 hy with rfl | hy
      · omega
      · exact hb y hy
theorem own_row {w : World} {base : Nat} {e : TypeId} {v : Value} {n : Nat} {xs : List Value} (h : w.ownsRow base e 1 v n xs) (hn : 0 < n) : ∃ g c, v = .slice (some ⟨g, 0, none⟩) n c ∧ base ≤ g ∧ g < w.heap.size ∧ n ≤ c ∧ c ≤ 9223372036854775807 := by
  have hlt := h.lt
  rcases h.2 with ⟨rfl, h0⟩ | ⟨g, cap, cur, rfl, hb, hg, hnc, hcm, _⟩
  · omega
  · exact ⟨g, cap, rfl, hb, (hlt g rfl).2, hnc, by unfold maxLen at hcm; omega⟩
def Goal (a : Option Addr) (n c : Nat) (k : Int) (w : World) : Prop := Calls Try.prog 6 #[.slice a n c, .int .i64 k] w fun e w' => e = .returned (.bool true) ∧ Below w.heap.size w w'
set_option maxHeartbeats 1000000 in
theorem long (a : Option Addr) (n c : Nat) (k : Int) (w : World) (h : 5000 < n) (hm : n ≤ 9223372036854775807) : Goal a n c k w := by
  unfold Goal
  go_enter Try.func6, Try.ntmps6
  go_wp2_with fail
  refine (known_any _).mono ?_
  rintro _ w' ⟨rfl, rfl⟩
  go_wp2_with fail
  go_ret
  exact ⟨rfl, Below.refl _ _⟩
theorem drop_at {xs ys : List Value} {i : Nat} (h : xs.drop i = ys.drop i) : xs[i]? = ys[i]? := by
  have := congrArg (·[0]?) h
  simpa using this
theorem drop_set {xs ys : List Value} {i : Nat} (u : Value) (h : xs.drop i = ys.drop i) : (xs.set i u).drop (i + 1) = ys.drop (i + 1) := by
  rw [List.drop_set_of_lt (by omega)]
  have := congrArg (List.drop 1) h
  simpa [Nat.add_comm] using this
set_option maxRecDepth 100000 in
set_option maxHeartbeats 2000000 in
theorem short (a : Option Addr) (n c : Nat) (k : Int) (l : List Nat) (w : World) (hx : ∀ x ∈ l, x < 18446744073709551616) (hl : l.length = n) (hsrc : SrcOf w (.slice a n c) n 1 ((nats l).map (Value.int .u64))) (hi : Ints .u64 w (.slice a n c) (nats l)) (hn : n ≤ 5000) (hc : n ≤ 9223372036854775807) : Goal a n c k w := by
  unfold Goal
  have hnl : (nats l).length = n := by simp [nats, hl]
  have KL := Lib.hid (lent_any a n c (nats l) w hnl hsrc hn)
  obtain ⟨vs, m, q, er, hv1, hv2, hA⟩ := alls a n c k l hx hl hn
  have HA := Lib.hid hA
  have HV := Lib.hid hv2
  have HI := Lib.hid hi
  have HN := Lib.hid hnl
  clear hA hv2 hx hl hsrc hi hnl
  obtain ⟨N, hN⟩ : ∃ N, N = vs.length := ⟨_, rfl⟩
  rw [← hN] at hv1
  have HNN := Lib.hid hN
  clear hN
  go_enter Try.func6, Try.ntmps6
  go_wp2_with fail
  refine KL.out.mono ?_
  rintro _ w1 ⟨g, cap, rfl, c1, c2, hg0, hg1, hints, h77, hb1⟩
  have I1 := Lib.hid hints
  have B1 := Lib.hid hb1
  have S77 := Lib.hid h77
  clear hints hb1 h77 KL
  have K1 := Lib.hid (HA.out (some ⟨g, 0, none⟩) cap w1 I1.out).1
  go_wp2_with fail
  refine K1.out.mono ?_
  rintro _ w2 ⟨ra, rfl, oa, b2⟩
  rw [← HNN.out] at oa
  obtain ⟨pa, ca, rfl, la1, la2⟩ := own_shape oa
  have OA := Lib.hid oa
  have B2 := Lib.hid b2
  clear oa b2 K1
  have K2 := Lib.hid (HA.out a c w2 (HI.out.below' (B1.out.trans (B2.out.mono B1.out.size)))).2
  go_wp2_with fail
  refine K2.out.mono ?_
  rintro _ w3 ⟨rb, rfl, ob, b3⟩
  rw [← HNN.out] at ob
  obtain ⟨pb, cb, rfl, lb1, lb2⟩ := own_shape ob
  have OB := Lib.hid ob
  have B3 := Lib.hid b3
  clear ob b3 K2
  have OA3 := Lib.hid (own_keep OA.out (fun g hg => B3.out.block g ((OA.out.lt g hg).2)))
  have B13 := Lib.hid (B2.out.trans (B3.out.mono B2.out.size))
  have KK := Lib.hid (fun W (hb : Below w1.heap.size w1 W) => kept_any g cap n c a (nats l) W HN.out (I1.out.below' hb) (HI.out.below' (B1.out.trans (hb.mono B1.out.size))) c1 c2 (by rw [hb.cell (p := ⟨g, n, none⟩) hg1]; exact S77.out))
  by_cases h0 : N = 0
  · subst h0
    go_wp2_with fail
    refine wp_loop_once ?_
    go_wp2_with fail
    refine (KK.out _ B13.out).mono ?_
    rintro _ w' ⟨rfl, qd, rfl⟩
    go_wp2_with fail
    refine (known_any _).mono ?_
    rintro _ w' ⟨rfl, rfl⟩
    go_wp2_with fail
    go_ret
    exact ⟨rfl, below_drewN (B1.out.trans (B13.out.mono B1.out.size)) _⟩
  · obtain ⟨ga, ca', hva, ga0, ga1, ga2, ga3⟩ := own_row OA.out (by omega)
    obtain ⟨gb, cb', hvb, gb0, gb1, gb2, gb3⟩ := own_row OB.out (by omega)
    simp only [Value.slice.injEq] at hva hvb
    obtain ⟨rfl, _, rfl⟩ := hva
    obtain ⟨rfl, _, rfl⟩ := hvb
    have LB := Lib.hid (show ∀ i, i < N → (vs.map (Value.int .i32))[i]? = some (.int .i32 (vs[i]?.getD 0)) ∧ -2147483648 ≤ vs[i]?.getD 0 ∧ vs[i]?.getD 0 ≤ 2147483647 from fun i hi => by
      have hi' : i < vs.length := by rw [← HNN.out]; exact hi
      have := HV.out _ (List.getElem_mem hi')
      simp [hi']
      exact this)
    go_wp2_with fail
    go_loopw [14] (fun u wr => ∃ (i : Nat) (xs : List Value), i ≤ N ∧ u = .int .i64 i ∧ Hid (wr.ownsRow w1.heap.size 21 1 (.slice (some ⟨ga, 0, none⟩) N ca) N xs) ∧ Hid (xs.drop i = (vs.map (Value.int .i32)).drop i) ∧ Hid (wr.ownsRow w2.heap.size 21 1 (.slice (some ⟨gb, 0, none⟩) N cb) N (vs.map (Value.int .i32))) ∧ Hid (Below w1.heap.size w1 wr)) (fun u _ => N - (intOf u).toNat)
    case atStart => exact ⟨0, _, Nat.zero_le _, rfl, OA3, Lib.hid rfl, OB, B13⟩
    case round =>
      obtain ⟨i, xs, hin, rfl, OX, HD, OY, BR⟩ := hrel
      by_cases hlt : i < N
      · obtain ⟨e0, e1, e2⟩ := LB.out i hlt
        have cx : wr.cell? ⟨ga, i, none⟩ = some (.int .i32 (vs[i]?.getD 0)) := by rw [OX.out.cellAt i (by omega), drop_at HD.out, e0]
        have cy : wr.cell? ⟨gb, i, none⟩ = some (.int .i32 (vs[i]?.getD 0)) := by rw [OY.out.cellAt i (by omega), e0]
        have fz := OX.out.frozenAt i
        clear e0
        generalize vs[i]?.getD 0 = z at cx cy e1 e2
        go_wp2_with fail
        go_quiet (fail)
        go_wp2_with fail
        go_roundw
        case rel =>
          have OX' : (wr.drewN nq).ownsRow w1.heap.size 21 1 (.slice (some ⟨ga, 0, none⟩) N ca) N xs := own_keep OX.out (fun _ _ => rfl)
          have hs := OX'.stored i (.int .i32 (wrap32 (z + 1)))
          refine ⟨i + 1, _, by omega, by go_num, Lib.hid hs.1, Lib.hid (drop_set _ HD.out), Lib.hid (own_keep OY.out fun g hg => ?_), Lib.hid ((below_drewN BR.out nq).grown hs.2 (by have := BR.out.size; exact this) (fun k hk => by simp at hk; omega))⟩
          obtain rfl : gb = g := Option.some.inj hg
          obtain ⟨_, _, _, _, h5⟩ := hs.2
          exact h5 gb ((OY.out.lt gb rfl).2) (by simp; omega)
        case measure => simp [intOf]; omega
      · obtain rfl : i = N := by omega
        go_wp2_with fail
        refine (KK.out _ BR.out).mono ?_
        rintro _ w' ⟨rfl, qd, rfl⟩
        go_wp2_with fail
        refine (known_any _).mono ?_
        rintro _ w' ⟨rfl, rfl⟩
        go_wp2_with fail
        go_ret
        exact ⟨rfl, below_drewN (B1.out.trans (BR.out.mono B1.out.size)) _⟩

theorem walk (a : Option Addr) (n c : Nat) (zs : List Int) (k : Int) (w : World) (w0 : IsRow .u64 w a n c zs) (r0 : c * 8 ≤ 140737488351232) (wk : (Lit.int .i64 k).wf = true) : Goal a n c k w := by
  have hle := w0.lec
  by_cases g : 5000 < n
  · exact long a n c k w g (by omega)
  · obtain ⟨l, hl, hx⟩ := nats_ex (zs.take n) fun x hx => u64_wf (w0.wf x hx)
    have hn : l.length = n := by
      have := w0.length
      rw [← hl] at this
      simpa [nats] using this
    exact short a n c k l w hx hn (by rw [hl]; exact w0.src) (by rw [hl]; exact w0.ints) (by omega) (by omega)

theorem own : ownKnob Try.prog.godebug = none := by kernel_rfl
theorem laidOut : laidOutB Try.prog = true := by kernel_rfl

set_option maxRecDepth 100000 in
theorem contract (H : Type) (enc : TypeId × Value → H) (W : World) (base : Nat) (args : Array Value) (ds gs : List (DataW H)) (before : List MemPlace)
    (hval0 : ∀ (j : Nat) t v, Try.f6.params[j]? = some t → args[j]? = some v → Value.okWide Try.prog W .any base t v)
    (hW : DataW.Whole enc Try.prog Try.f6.params.toList Rows.quantAllSpec.vars false W args.toList ds gs before)
    (hsz0 : (DataW.weightsEach Try.prog (Try.f6.params.toList ++ Rows.quantAllSpec.plain.varTypes Try.prog) (ds ++ gs)).all (· ≤ reachBytes) = true) :
    Calls Try.prog 6 args W fun e W' => ∃ v, e = .returned v ∧ Rows.quantAllSpec.post enc Try.prog Try.f6 false true false false W args v W' := by
  have hval : ∀ (j : Nat) t v, Try.f6.params[j]? = some t → args[j]? = some v → Value.okWide Try.prog W .any base t v := hval0
  have hW' := hW
  obtain ⟨p, q, hA0, hV, rfl, hfz, hnd⟩ := hW
  have hA : DataW.TrodAll enc Try.prog W 0 (fun _ => true) true Try.f6.params.toList args.toList ds p := hA0
  have hsz : (DataW.weightsEach Try.prog (Try.f6.params.toList ++ Rows.quantAllSpec.plain.varTypes Try.prog) (ds ++ gs)).all (· ≤ reachBytes) = true := hsz0
  rw [Try.params6] at hA hval hsz
  obtain ⟨v0, vs0, d0, ds0, p0, q0, hargs, rfl, rfl, h0, r0'⟩ := trodAll_cons hA
  obtain ⟨v1, vs1, d1, ds1, p1, q1, rfl, rfl, rfl, h1, r1'⟩ := trodAll_cons r0'
  obtain ⟨rfl, rfl, rfl⟩ := trodAll_nil r1'
  obtain rfl : args = #[v0, v1] := by cases args; simp_all
  obtain ⟨rfl, rfl⟩ := trodVars_none hV
  have k0 := h0
  have lt0 : ∀ x ∈ p0, x.block < W.heap.size := by obtain ⟨m, hm⟩ := k0; exact DataW.trod_lt m _ _ _ hm
  have k1 := h1
  have lt1 : ∀ x ∈ p1, x.block < W.heap.size := by obtain ⟨m, hm⟩ := k1; exact DataW.trod_lt m _ _ _ hm
  obtain ⟨a0, n0, c0, rfl⟩ := okWide_slice Try.underlying36 (hval 0 36 v0 rfl rfl)
  obtain ⟨z0, w0, r0⟩ : ∃ zs, IsRow .u64 W a0 n0 c0 zs ∧ c0 * 8 ≤ 140737488351232 := by
    obtain ⟨fuel, hf⟩ := h0
    rcases open_ints Try.underlying36 Try.underlying22 (by kernel_rfl) hf with ⟨hcs, _⟩ | ⟨x, l, c, zs, hcs, _, hl, hm, hz, hx, hcell, hwz⟩
    · simp [Value.cells] at hcs
      obtain ⟨rfl, rfl, rfl⟩ := hcs
      exact ⟨[], .inl ⟨rfl, rfl, rfl, rfl⟩, by omega⟩
    · simp [Value.cells] at hcs
      obtain ⟨rfl, rfl, rfl⟩ := hcs
      simp only [Prod.mk.injEq] at hx
      have hz' : zs.length = c0 := by simpa using hz
      have hs := sized_slice hsz (j := 0) (t := 36) rfl (congrArg some hx.1) Try.underlying36
      rw [show Try.prog.bytesOf 22 = 8 from by kernel_rfl] at hs
      simp only [lits, List.length_map, List.length_take, List.length_drop, reachBytes] at hs
      exact ⟨zs, .inr ⟨_, rfl, hl, hm, hz', hcell, hwz⟩, by omega⟩
  obtain ⟨x1, rfl, hd1, hp1, w1⟩ := open_int Try.underlying3 (hval 1 3 v1 rfl rfl) h1
  clear hA0 hval0 hsz0
  refine (walk a0 n0 c0 z0 x1 W w0 r0 w1).mono fun e W' ⟨he, bel⟩ => ?_
  subst he
  exact ⟨_, rfl, _, _, _, [], _, [], hW', trodAll_mk1 (shut_bool Try.underlying4 _), (trodAll_cons_mk (Below.trod laidOut (by kernel_rfl) (of_decide_eq_true (by kernel_rfl)) k0 bel lt0) (trodAll_cons_mk (Below.trod laidOut (by kernel_rfl) (of_decide_eq_true (by kernel_rfl)) k1 bel lt1) trodAll_mk0)), rfl, bel.frame _, fun h => by cases h⟩

set_option maxRecDepth 100000 in
theorem lifted (os : Os) (started : os.Started) (H : Type) (enc : TypeId × Value → H) :
    ReturnsInHanded {} Try.checked os 6 .any (Rows.quantAllSpec.pre6 enc Try.prog Try.f6 Rows.quantAllRow.domain false) (Rows.quantAllSpec.post enc Try.prog Try.f6 false true false false) := by
  refine returnsInHanded_of_change_sized (C := Try.checked) own started (by kernel_rfl) Try.func6
    (ChangeSpec.witness6 (enc := enc) (C := Try.checked) false ⟨#[], #[.slice none 0 0, .int .i64 0], []⟩ 8 (by kernel_rfl) (by kernel_rfl) (by kernel_rfl) (by kernel_rfl)) ?_
  intro W base args ds gs before hval hW _ hsz _
  exact contract H enc W base args ds gs before hval hW hsz

theorem over : Rows.quantAllRow.holds Try.pinned (OpenSpec.ofChange Rows.quantAllSpec) :=
  OpenClaim.holds_of_wide 6 Try.f6 rfl rfl rfl rfl rfl rfl rfl ⟨rfl, rfl, rfl, rfl, rfl⟩ rfl rfl rfl rfl rfl (by kernel_rfl) Try.func6 (by kernel_rfl)
    (of_decide_eq_true (by kernel_rfl)) (by unfold Func.isWrapper; first | (rw [if_pos (by decide +kernel)]; kernel_rfl) | (rw [if_neg (by decide +kernel)]; exact ⟨rfl, rfl⟩))
    (fun os started H enc _ => lifted os started H enc)

theorem proved : Rows.QuantAllSaid := over
#print axioms proved
end Go.Proofs.Ytkohgkbeecadeaa.quantAll
