/- TxnSteady: what a transaction sees stays. -/
import Derived.Test.YtodkflnpcfepfaaTxS
import Derived.Deep.Cut
namespace Go.Proofs.Ytodkflnpcfepfaa
open Go.RowKit Go.ChangeShapes Go.WideShapes Go.ChangeAt
set_option linter.unusedVariables false
set_option linter.unusedSimpArgs false

/-- A manager since a transaction t began at the stamp s, ds having been committed. -/
structure Since (b s t : Int) (ds : List (Int × Int)) (M : Mg) : Prop where
  base : M.base = b
  more : ∃ l, M.ds = ds ++ l ∧ ∀ d ∈ l, s < d.2
  last : s ≤ M.last
  num : t ≤ M.base + M.begun
  mine : ∀ o ∈ M.os, o.n = t → o.start = s
theorem Since.step {b s t : Int} {ds : List (Int × Int)} {M M' : Mg} (h : Since b s t ds M) (g : Go1 M M') : Since b s t ds M' := by
  obtain ⟨h1, ⟨l, h2, h2'⟩, h3, h4, h5⟩ := h
  cases g with
  | same => exact ⟨h1, ⟨l, h2, h2'⟩, h3, h4, h5⟩
  | begin_ bt bk hl =>
    refine ⟨h1, ⟨l, h2, h2'⟩, h3, by show t ≤ M.base + (M.begun + 1); omega, fun o ho e => ?_⟩
    rcases List.mem_append.1 ho with ho | ho
    · exact h5 o ho e
    · simp only [List.mem_singleton] at ho
      subst ho
      have e' : M.base + (M.begun + 1) = t := e
      omega
  | wrote n k =>
    refine ⟨h1, ⟨l, h2, h2'⟩, h3, h4, fun o ho e => ?_⟩
    obtain ⟨x, hx, rfl⟩ := List.mem_map.1 ho
    by_cases hn : x.n = n
    · rw [if_pos hn] at e ⊢
      exact h5 x hx e
    · rw [if_neg hn] at e ⊢
      exact h5 x hx e
  | commit o ho =>
    refine ⟨h1, ⟨l ++ [(o.n, M.last + 1)], ?_, fun d hd => ?_⟩, by show s ≤ M.last + 1; omega, h4, fun x hx e => h5 x (List.mem_filter.1 hx).1 e⟩
    · show M.ds ++ _ = _
      rw [h2, List.append_assoc]
    · rcases List.mem_append.1 hd with hd | hd
      · exact h2' d hd
      · simp only [List.mem_singleton] at hd
        subst hd
        show s < M.last + 1
        omega
  | abort n => exact ⟨h1, ⟨l, h2, h2'⟩, h3, h4, fun x hx e => h5 x (List.mem_filter.1 hx).1 e⟩
  | forget => exact ⟨h1, ⟨l, h2, h2'⟩, h3, h4, h5⟩
theorem Since.steps {b s t : Int} {ds : List (Int × Int)} {M M' : Mg} {n : Nat} (h : Since b s t ds M) (g : GoN n M M') : Since b s t ds M' := by
  induction g with
  | nil => exact h
  | snoc _ g ih => exact (ih h).step g
theorem since_begun {M : Mg} (bt bk : Nat) (hf : ∀ o ∈ M.os, o.n ≠ M.base + (M.begun + 1)) : Since M.base M.last (M.base + (M.begun + 1)) M.ds (beginM M bt bk) :=
  ⟨rfl, ⟨[], by simp [beginM], by simp⟩, Int.le_refl _, Int.le_refl _, fun o ho e => by
    rcases List.mem_append.1 ho with ho | ho
    · exact absurd e (hf o ho)
    · simp only [List.mem_singleton] at ho
      subst ho
      rfl⟩
theorem cnt_new (ep : Int) : Cnt (newM ep) 0 := ⟨by simp [newM], by simp [newM], by simp [newM], by simp [newM], by simp [newM], by simp [newM], by simp [newM]⟩
theorem findT_begun {M : Mg} (bt bk : Nat) (hf : ∀ o ∈ M.os, o.n ≠ M.base + (M.begun + 1)) : findT (M.base + (M.begun + 1)) (beginM M bt bk).os = some ⟨M.base + (M.begun + 1), M.last, [], bt, bk⟩ := by
  unfold findT beginM
  rw [List.find?_append]
  have h1 : M.os.find? (fun o => decide (o.n = M.base + (M.begun + 1))) = none := by
    rw [List.find?_eq_none]
    intro o ho
    simpa using hf o ho
  rw [h1]
  simp
theorem steady_long (ep : Int) (a1 a2 : Option Addr) (n1 n2 c1 c2 : Nat) (W : World) (h : 100 < n1 ∨ 100 < n2) (b1 : n1 ≤ 9223372036854775807) (b2 : n2 ≤ 9223372036854775807) :
    Calls Try.prog 4 #[.int .u32 ep, .slice a1 n1 c1, .slice a2 n2 c2] W fun e w' => e = .returned (.bool true) ∧ Below W.heap.size W w' := by
  have KN := Lib.hid (known_any W)
  by_cases h1 : 100 < n1
  · have d1 : decide ((100 : Int) < (n1 : Int)) = true := decide_eq_true (by omega)
    clear h h1
    go_enter Try.func4, Try.ntmps4
    go_wp2_with fail
    refine KN.out.mono ?_
    rintro _ w1 ⟨rfl, b1⟩
    have B1 := Lib.hid b1
    clear b1
    go_wp2_with fail
    go_ret
    exact ⟨rfl, B1.out⟩
  · have d1 : decide ((100 : Int) < (n1 : Int)) = false := decide_eq_false (by omega)
    have d2 : decide ((100 : Int) < (n2 : Int)) = true := decide_eq_true (by omega)
    clear h h1
    go_enter Try.func4, Try.ntmps4
    go_wp2_with fail
    refine KN.out.mono ?_
    rintro _ w1 ⟨rfl, b1⟩
    have B1 := Lib.hid b1
    clear b1
    go_wp2_with fail
    go_ret
    exact ⟨rfl, B1.out⟩
set_option maxRecDepth 100000 in
set_option maxHeartbeats 8000000 in
theorem steady_short (ep : Int) (a1 a2 : Option Addr) (n1 n2 c1 c2 : Nat) (os1 os2 : List OpV) (W : World) (he : 0 ≤ ep ∧ ep < 4294967296) (h1 : n1 ≤ 100) (h2 : n2 ≤ 100) (o1 : OpsIn W a1 n1 c1 os1) (o2 : OpsIn W a2 n2 c2 os2) :
    Calls Try.prog 4 #[.int .u32 ep, .slice a1 n1 c1, .slice a2 n2 c2] W fun e w' => e = .returned (.bool true) ∧ Below W.heap.size W w' := by
  have NW := Lib.hid (new_any ep W he.1 he.2)
  have O1 := Lib.hid o1
  have O2 := Lib.hid o2
  have N1 := Lib.hid h1
  have N2 := Lib.hid h2
  have HE := Lib.hid he
  have d1 : decide ((100 : Int) < (n1 : Int)) = false := decide_eq_false (by omega)
  have d2 : decide ((100 : Int) < (n2 : Int)) = false := decide_eq_false (by omega)
  clear o1 o2 h1 h2 he
  go_enter Try.func4, Try.ntmps4
  go_wp2_with fail
  refine NW.out.mono ?_
  rintro _ w1 ⟨p, F0, rfl, m1, b1⟩
  have OT := Lib.hid (others_at ep a1 n1 c1 os1 m1 b1 (cnt_new ep) (by have := N1.out; omega) O1.out HE.out)
  have HM1 := Lib.hid m1
  unfold OthTo at OT
  clear m1 b1 NW
  go_wp2_with fail
  refine OT.out.mono ?_
  rintro _ w2 ⟨rfl, M2, F2, h2⟩
  have H2 := Lib.hid h2
  have C2 : Hid (Cnt M2 n1) := Lib.hid (by have := (cnt_new ep).steps h2.go; simpa using this)
  clear h2 OT HM1
  by_cases hf : M2.os.length < 8
  · have BG := Lib.hid (beginF H2.out.mg H2.out.bl.size hf (by have := C2.out.begun; have := N1.out; omega))
    unfold BeginF at BG
    have NF : Hid (∀ o ∈ M2.os, o.n ≠ M2.base + (M2.begun + 1)) := Lib.hid (by
      obtain ⟨bo, bw, dv, hm, _⟩ := H2.out.mg
      intro o ho e
      have := (hm.fine.os1 o ho).2.1
      omega)
    have HF := Lib.hid hf
    clear hf
    go_wp2_with fail
    refine BG.out.mono ?_
    rintro _ w3 ⟨bt, bk, F3, rfl, m3, k3, q3⟩
    have HM3 := Lib.hid m3
    have B3 : Hid (Below W.heap.size W w3) := Lib.hid (H2.out.bl.trans (mg_below H2.out.mg k3 H2.out.bl.size))
    have SI := Lib.hid (since_begun bt bk NF.out)
    have C3 : Hid (Cnt (beginM M2 bt bk) (n1 + 1)) := Lib.hid (Cnt.step C2.out (.begin_ M2 bt bk HF.out))
    have LK := Lib.hid (look_yes HM3.out (findT_begun bt bk NF.out))
    obtain ⟨t, ht⟩ : ∃ t, M2.base + (M2.begun + 1) = t := ⟨_, rfl⟩
    rw [ht] at LK SI ⊢
    have TT := Lib.hid ht
    unfold LookF lookR at LK
    obtain ⟨sM, hsM⟩ : ∃ s, M2.last = s := ⟨_, rfl⟩
    obtain ⟨bM, hbM⟩ : ∃ b, M2.base = b := ⟨_, rfl⟩
    have eb : (beginM M2 bt bk).base = bM := hbM
    have ed : (beginM M2 bt bk).ds = M2.ds := rfl
    rw [hsM, eb, ed] at LK
    rw [hsM, hbM] at SI
    have T3 := Lib.hid (MgF.lt m3)
    clear m3 k3 q3 BG NF ht eb ed hsM hbM
    go_wp2_with fail
    refine LK.out.mono ?_
    rintro _ w4 ⟨av, mv, cv, rfl, ov, b4⟩
    obtain ⟨rfl, _⟩ := StAt.of_own ov rfl
    have OV := Lib.hid ov
    have B4 := Lib.hid b4
    obtain ⟨nd, hnd⟩ : ∃ nd, M2.ds.length = nd := ⟨_, rfl⟩
    have ND := Lib.hid hnd
    rw [hnd] at OV ⊢
    clear ov b4 LK hnd
    go_upto_region 9 with fail
    have KA : Hid (Only [] w3 (w4.alloc (.cells #[.int .u64 t, .int .u64 sM, .int .u64 bM, .slice av nd cv] tLk))) := Lib.hid (((Only.refl [] w3).below B4.out).alloc _)
    have R5 : Hid (Row (w4.alloc (.cells #[.int .u64 t, .int .u64 sM, .int .u64 bM, .slice av nd cv] tLk)) w4.heap.size #[.int .u64 t, .int .u64 sM, .int .u64 bM, .slice av nd cv] tLk) := Lib.hid (Row.made _ _ _)
    have OV5 : Hid ((w4.alloc (.cells #[.int .u64 t, .int .u64 sM, .int .u64 bM, .slice av nd cv] tLk)).ownsRow w3.heap.size tSt 2 (.slice av nd cv) nd (dsL M2.ds)) := Lib.hid (own_keep OV.out fun g hg => ((Only.refl [] w4).alloc _).block g (OV.out.lt g hg).2 (by simp))
    have Z5 : Hid (w3.heap.size ≤ w4.heap.size) := Lib.hid B4.out.size
    generalize w4.alloc (.cells #[.int .u64 t, .int .u64 sM, .int .u64 bM, .slice av nd cv] tLk) = w5 at *
    obtain ⟨g1, hg1⟩ : ∃ g, w4.heap.size = g := ⟨_, rfl⟩
    rw [hg1] at R5 Z5 ⊢
    clear hg1 B4 OV
    have M5 := Lib.hid (HM3.out.only KA.out (by simp))
    have B5 : Hid (Below W.heap.size W w5) := Lib.hid (B3.out.trans (KA.out.toBelow B3.out.size (by simp)))
    have OT := Lib.hid (others_at ep a2 n2 c2 os2 M5.out B5.out C3.out (by have := N1.out; have := N2.out; omega) O2.out HE.out)
    unfold OthTo at OT
    go_wp2_with fail
    refine OT.out.mono ?_
    rintro _ w6 ⟨rfl, M6, F6, h6⟩
    have H6 := Lib.hid h6
    have S6 : Hid (Since bM sM t M2.ds M6) := Lib.hid (by
      have h := SI.out.steps h6.go
      exact h)
    have R6 := Lib.hid (R5.out.only h6.only (fun hb => by have := T3.out _ hb; have := Z5.out; omega))
    have OV6 : Hid (w6.ownsRow w3.heap.size tSt 2 (.slice av nd cv) nd (dsL M2.ds)) := Lib.hid (own_keep OV5.out fun g hg => h6.only.block g (OV5.out.lt g hg).2 (fun hb => by have := T3.out _ hb; have := (OV5.out.lt g hg).1; omega))
    clear h6 OT
    cases hft : findT t M6.os with
    | none =>
      have LK := Lib.hid (look_no H6.out.mg hft)
      unfold lookR at LK
      clear hft
      go_wp2_with fail
      refine LK.out.mono ?_
      rintro _ w7 ⟨rfl, b7⟩
      have B7 := Lib.hid b7
      clear b7 LK
      go_wp2_with fail
      refine (known_any _).mono ?_
      rintro _ w8 ⟨rfl, b8⟩
      have B8 := Lib.hid b8
      clear b8
      go_wp2_with fail
      go_ret
      refine ⟨rfl, ?_⟩
      have q1 := H6.out.bl
      have q2 := q1.trans (B7.out.mono q1.size)
      have q3 := q2.alloc q2.size (.cells #[.int .u64 0, .int .u64 0, .int .u64 0, .slice none 0 0] tLk)
      exact q3.trans (B8.out.mono q3.size)
    | some o6 =>
      have LK := Lib.hid (look_yes H6.out.mg hft)
      unfold LookF lookR at LK
      obtain ⟨l6, hl6, hl6s⟩ := S6.out.more
      have es : o6.start = sM := S6.out.mine o6 (findT_some hft).1 (findT_some hft).2
      rw [S6.out.base, es, hl6] at LK
      have L6 := Lib.hid hl6s
      have HL6 := Lib.hid hl6
      clear hft hl6 hl6s es
      go_wp2_with fail
      refine LK.out.mono ?_
      rintro _ w7 ⟨bv, mb, cb, rfl, ob, b7⟩
      have dl : (M2.ds ++ l6).length = nd + l6.length := by rw [List.length_append, ND.out]
      obtain ⟨rfl, sb⟩ := StAt.of_own ob rfl
      have SB7 := Lib.hid sb
      have B7 := Lib.hid b7
      have OB := Lib.hid ob
      rw [dl] at SB7 OB ⊢
      obtain ⟨nb, hnb⟩ : ∃ nb, nd + l6.length = nb := ⟨_, rfl⟩
      have NB := Lib.hid hnb
      rw [hnb] at SB7 OB ⊢
      have CB : Hid (nb ≤ cb ∧ cb ≤ 9223372036854775807) := Lib.hid (by
        obtain ⟨p9, c9, e9, h9, h10⟩ := own_shape OB.out
        simp only [Value.slice.injEq] at e9
        obtain ⟨_, _, rfl⟩ := e9
        exact ⟨h9, h10⟩)
      have NN : Hid (nb ≤ 1000) := Lib.hid (by
        have h := (C3.out.steps H6.out.go).ds
        have := N1.out
        have := N2.out
        have e := congrArg List.length HL6.out
        rw [List.length_append, ND.out] at e
        have := NB.out
        omega)
      have HBV : Hid (nb = 0 ∧ bv = none ∧ cb = 0 ∨ ∃ g o, bv = some ⟨g, o, none⟩) := Lib.hid (by
        rcases OB.out.2 with ⟨e9, h9⟩ | ⟨g, cap, cur, e9, _⟩
        · simp only [Value.slice.injEq] at e9
          exact .inl ⟨h9, e9.1, e9.2.2⟩
        · simp only [Value.slice.injEq] at e9
          exact .inr ⟨g, 0, e9.1⟩)
      clear b7 ob sb dl LK hnb
      go_upto_region 13 with fail
      have K8 : Hid (Only [] w6 (w7.alloc (.cells #[.int .u64 t, .int .u64 sM, .int .u64 bM, .slice bv nb cb] tLk))) := Lib.hid (((Only.refl [] w6).below B7.out).alloc _)
      have R8 : Hid (Row (w7.alloc (.cells #[.int .u64 t, .int .u64 sM, .int .u64 bM, .slice bv nb cb] tLk)) w7.heap.size #[.int .u64 t, .int .u64 sM, .int .u64 bM, .slice bv nb cb] tLk) := Lib.hid (Row.made _ _ _)
      have SB8 := Lib.hid (SB7.out.below (w' := w7.alloc (.cells #[.int .u64 t, .int .u64 sM, .int .u64 bM, .slice bv nb cb] tLk)) ((Below.refl _ _).alloc (Nat.le_refl _) _))
      generalize w7.alloc (.cells #[.int .u64 t, .int .u64 sM, .int .u64 bM, .slice bv nb cb] tLk) = w8 at *
      obtain ⟨g2, hg2⟩ : ∃ g, w7.heap.size = g := ⟨_, rfl⟩
      rw [hg2] at R8 ⊢
      clear hg2 B7 SB7 OB
      have Q8 := Lib.hid (R6.out.only K8.out (by simp))
      have SA8 : Hid (StAt w8 av nd M2.ds) := Lib.hid (StAt.of_own (own_keep OV6.out fun g hg => K8.out.block g (OV6.out.lt g hg).2 (by simp)) ND.out).2
      have B8 : Hid (Below W.heap.size W w8) := Lib.hid (H6.out.bl.trans (K8.out.toBelow H6.out.bl.size (by simp)))
      have SM : Hid (∀ v : After w8.heap.size w8, Calls Try.prog 15 #[.agg #[.int .u64 t, .int .u64 sM, .int .u64 bM, .slice av nd cv], .agg #[.int .u64 t, .int .u64 sM, .int .u64 bM, .slice bv nd cb]] v.1 fun e w' => e = .returned (.bool true) ∧ Below v.1.heap.size v.1 w') := Lib.hid fun v => by
        have h2 := (SB8.out.below v.2).take (m := nd) (by have := NB.out; omega)
        have e : (M2.ds ++ l6).take nd = M2.ds := by rw [← ND.out]; simp
        rw [e] at h2
        exact same_true t sM bM av bv nd cv cb M2.ds v.1 (SA8.out.below v.2) h2 (by have := NN.out; have := NB.out; omega)
      clear OV6 OV5 R6 R5 Z5 KA T3
      have cnd : nd ≤ nb := by have := NB.out; omega
      have cnb := CB.out.1
      have cnc : nd ≤ cb := Nat.le_trans cnd cnb
      have dnn : decide (nb < nd) = false := decide_eq_false (by omega)
      have dnn2 : decide ((nb : Int) < (nd : Int)) = false := decide_eq_false (by omega)
      have cnb2 := CB.out.2
      have X0 : Hid (∀ v : After w8.heap.size w8, (v.1.cell? ⟨g1, 0, none⟩ = some (.int .u64 t) ∧ v.1.cell? ⟨g1, 1, none⟩ = some (.int .u64 sM) ∧ v.1.cell? ⟨g1, 2, none⟩ = some (.int .u64 bM) ∧ v.1.cell? ⟨g1, 3, none⟩ = some (.slice av nd cv)) ∧ v.1.cell? ⟨g2, 0, none⟩ = some (.int .u64 t) ∧ v.1.cell? ⟨g2, 1, none⟩ = some (.int .u64 sM) ∧ v.1.cell? ⟨g2, 2, none⟩ = some (.int .u64 bM) ∧ v.1.cell? ⟨g2, 3, none⟩ = some (.slice bv nb cb)) := Lib.hid fun v =>
        ⟨⟨(v.cell Q8.out.lt).trans (Q8.out.cell 0), (v.cell Q8.out.lt).trans (Q8.out.cell 1), (v.cell Q8.out.lt).trans (Q8.out.cell 2), (v.cell Q8.out.lt).trans (Q8.out.cell 3)⟩, (v.cell R8.out.lt).trans (R8.out.cell 0), (v.cell R8.out.lt).trans (R8.out.cell 1), (v.cell R8.out.lt).trans (R8.out.cell 2), (v.cell R8.out.lt).trans (R8.out.cell 3)⟩
      rcases HBV.out with ⟨rfl, rfl, rfl⟩ | ⟨g, o, rfl⟩
      · obtain rfl : nd = 0 := by omega
        have c13 : w8.cell? ⟨g1, 3, none⟩ = some (.slice av 0 cv) := Q8.out.cell 3
        go_upto_region 14 with fail
        have xl : ∀ v : After w8.heap.size w8, (loadVar tLk ⟨g1, 0, none⟩).run Try.prog v.1 = .ok (.agg #[.int .u64 t, .int .u64 sM, .int .u64 bM, .slice av 0 cv]) v.1 := fun v => run_loadVar_row v.1 g1 _ _ _ _ _ (Q8.out.of_block (v.2.block g1 Q8.out.lt)) Try.underlying42 rfl lookSize
        have x0 := fun v => (X0.out v).1.1
        have x1 := fun v => (X0.out v).1.2.1
        have x2 := fun v => (X0.out v).1.2.2.1
        have x3 := fun v => (X0.out v).1.2.2.2
        have y0 := fun v => (X0.out v).2.1
        have y1 := fun v => (X0.out v).2.2.1
        have y2 := fun v => (X0.out v).2.2.2.1
        have y3 := fun v => (X0.out v).2.2.2.2
        refine region_quiet_in w8.heap.size w8 (by kernel_rfl) (by kernel_rfl) (Below.refl _ _).drew ?_
        repeat (go_big_quiet_step ((go_at_call 15; exact Calls.in_after' (Nat.le_refl _) (SM.out _))))
        refine wpQuiet_nil ?_
        intro w9 hb9
        have B9 := Lib.hid hb9
        clear hb9 xl x0 x1 x2 x3 y0 y1 y2 y3 c13
        go_wp2_with fail
        go_loopw [15] (fun u wr => u = .int .i64 0 ∧ Hid (Below w8.heap.size w8 wr)) (fun _ _ => 0)
        case atStart => exact ⟨rfl, B9.out⟩
        case round =>
          obtain ⟨rfl, hw9⟩ := hrel
          have HW := Lib.hid hw9.out
          clear hw9
          have z3 : wr.cell? ⟨g2, 3, none⟩ = some (.slice none 0 0) := (X0.out ⟨wr, HW.out⟩).2.2.2.2
          go_wp2_with fail
          refine (known_any _).mono ?_
          rintro _ wk ⟨rfl, bk⟩
          have BK := Lib.hid bk
          clear bk
          go_wp2_with fail
          go_ret
          have q1 := B8.out.trans (HW.out.mono B8.out.size)
          exact ⟨rfl, q1.trans (BK.out.mono q1.size)⟩
      · have hnb1000 := NN.out
        have c13 : w8.cell? ⟨g1, 3, none⟩ = some (.slice av nd cv) := Q8.out.cell 3
        go_upto_region 14 with fail
        have xl : ∀ v : After w8.heap.size w8, (loadVar tLk ⟨g1, 0, none⟩).run Try.prog v.1 = .ok (.agg #[.int .u64 t, .int .u64 sM, .int .u64 bM, .slice av nd cv]) v.1 := fun v => run_loadVar_row v.1 g1 _ _ _ _ _ (Q8.out.of_block (v.2.block g1 Q8.out.lt)) Try.underlying42 rfl lookSize
        have x0 := fun v => (X0.out v).1.1
        have x1 := fun v => (X0.out v).1.2.1
        have x2 := fun v => (X0.out v).1.2.2.1
        have x3 := fun v => (X0.out v).1.2.2.2
        have y0 := fun v => (X0.out v).2.1
        have y1 := fun v => (X0.out v).2.2.1
        have y2 := fun v => (X0.out v).2.2.2.1
        have y3 := fun v => (X0.out v).2.2.2.2
        refine region_quiet_in w8.heap.size w8 (by kernel_rfl) (by kernel_rfl) (Below.refl _ _).drew ?_
        repeat (go_big_quiet_step ((go_at_call 15; exact Calls.in_after' (Nat.le_refl _) (SM.out _))))
        refine wpQuiet_nil ?_
        intro w9 hb9
        have B9 := Lib.hid hb9
        clear hb9 xl x0 x1 x2 x3 y0 y1 y2 y3 c13
        go_wp2_with fail
        go_loopw [15] (fun u wr => ∃ j : Nat, u = .int .i64 j ∧ Hid (nd ≤ j ∧ j ≤ nb ∧ Below w8.heap.size w8 wr)) (fun u _ => nb - (intOf u).toNat)
        case atStart => exact ⟨nd, rfl, Lib.hid ⟨Nat.le_refl _, cnd, B9.out⟩⟩
        case round =>
          obtain ⟨j, rfl, hj⟩ := hrel
          have HJ := Lib.hid hj.out
          clear hj
          have z3 : wr.cell? ⟨g2, 3, none⟩ = some (.slice (some ⟨g, o, none⟩) nb cb) := (X0.out ⟨wr, HJ.out.2.2⟩).2.2.2.2
          by_cases hlt : j < nb
          · have e1 : decide (j < nb) = true := decide_eq_true hlt
            have e2 : decide ((j : Int) < (nb : Int)) = true := decide_eq_true (by omega)
            have hd : ∃ d, (M2.ds ++ l6)[j]? = some d := ⟨_, List.getElem?_eq_getElem (by rw [SB8.out.1]; exact hlt)⟩
            obtain ⟨d, hd⟩ := hd
            have hs : sM < d.2 := by
              refine L6.out d ?_
              rw [List.getElem?_append_right (by rw [ND.out]; exact HJ.out.1)] at hd
              exact List.mem_of_getElem? hd
            obtain ⟨g9, o9, he9, hf9⟩ := SB8.out.2.resolve_left (by omega)
            simp only [Option.some.injEq, Addr.mk.injEq] at he9
            obtain ⟨rfl, rfl, _⟩ := he9
            have hc2 := (hf9 j d hd).2
            have X1 : Hid (∀ v : After w8.heap.size w8, v.1.cell? ⟨g, o + j * 2 + 1, none⟩ = some (.int .u64 d.2)) := Lib.hid fun v => (v.cell (cell_lt hc2)).trans hc2
            have e3 : decide (d.2 ≤ sM) = false := decide_eq_false (by omega)
            generalize d.2 = dd at *
            have HLT := Lib.hid hlt
            clear hd hs hf9 hc2
            have z1 : wr.cell? ⟨g1, 1, none⟩ = some (.int .u64 sM) := (X0.out ⟨wr, HJ.out.2.2⟩).1.2.1
            have zc : wr.cell? ⟨g, o + j * 2 + 1, none⟩ = some (.int .u64 dd) := X1.out ⟨wr, HJ.out.2.2⟩
            go_wp2_with fail
            go_quiet (fail)
            have BN : Hid (Below w8.heap.size w8 (wr.drewN nq)) := Lib.hid (below_drewN HJ.out.2.2 nq)
            go_wp2_with fail
            go_roundw
            case rel => exact ⟨j + 1, by go_num, Lib.hid ⟨by have := HJ.out.1; omega, by have := HLT.out; omega, BN.out⟩⟩
            case measure => simp [intOf]; have := HLT.out; omega
          · have e1 : decide (j < nb) = false := decide_eq_false hlt
            have e2 : decide ((j : Int) < (nb : Int)) = false := decide_eq_false (by omega)
            clear hlt
            go_wp2_with fail
            refine (known_any _).mono ?_
            rintro _ wk ⟨rfl, bk⟩
            have BK := Lib.hid bk
            clear bk
            go_wp2_with fail
            go_ret
            have q1 := B8.out.trans (HJ.out.2.2.mono B8.out.size)
            exact ⟨rfl, q1.trans (BK.out.mono q1.size)⟩
  · have BG := Lib.hid (begin_full H2.out.mg (by omega))
    clear hf
    go_wp2_with fail
    refine BG.out.mono ?_
    rintro _ w3 ⟨rfl, hw3⟩
    subst w3
    go_wp2_with fail
    refine (known_any _).mono ?_
    rintro _ w4 ⟨rfl, b4⟩
    have B4 := Lib.hid b4
    clear b4
    go_wp2_with fail
    go_ret
    exact ⟨rfl, H2.out.bl.trans (B4.out.mono H2.out.bl.size)⟩
end Go.Proofs.Ytodkflnpcfepfaa
