/- Plain: copies of slices; own. -/
import Derived.Test.YtcgmgdjeamidlaaGreatPlC
namespace Go.Proofs.YtcgmgdjeamidlaaGreat
open Go.RowKit Go.ChangeShapes Go.WideShapes Go.ChangeAt
set_option linter.unusedVariables false
set_option linter.unusedSimpArgs false

theorem infoI32 : (Tryz.prog.info? 21).map (fun i => (i.zero, i.size, i.bytes)) = some (some (.int .i32 0), 1, 4) := by kernel_rfl
theorem infoU8 : (Tryz.prog.info? 5).map (fun i => (i.zero, i.size, i.bytes)) = some (some (.int .u8 0), 1, 1) := by kernel_rfl
/-- A copy of a slice: its own block, or none. -/
def CopyTo (q : IntKind) (xs : List Int) (w : World) (e : Ending) (w' : World) : Prop := ∃ s : Sl, e = .returned s.v ∧ s.xs = xs ∧ SlAt q w' s ∧ (∀ b ∈ s.bs, w.heap.size ≤ b) ∧ Below w.heap.size w w'
theorem SlAt.of_own {q : IntKind} {w : World} {B n : Nat} {e : TypeId} {v : Value} {xs : List Int} (h : w.ownsRow B e 1 v n (xs.map (Value.int q))) (hn : xs.length ≤ 1000000) : ∃ s : Sl, v = s.v ∧ s.xs = xs ∧ SlAt q w s ∧ ∀ b ∈ s.bs, B ≤ b := by
  have hl := h.1
  simp only [List.length_map, Nat.mul_one] at hl
  have hi := ints_own h
  have hlt := h.lt
  rcases h.2 with ⟨rfl, h0⟩ | ⟨g, cap, cur, rfl, _, hgh, hc, _⟩
  · have hx : xs = [] := List.length_eq_zero_iff.1 (by omega)
    subst hx
    exact ⟨Sl.no, rfl, rfl, SlAt.no q w, by simp [Sl.bs, Sl.no]⟩
  · refine ⟨⟨some ⟨g, 0, none⟩, cap, xs⟩, by simp [Sl.v, hl], rfl, ⟨by simpa [Sl.v, hl] using hi, fun b hb => ?_, by simp, hn, fun b hb => ?_⟩, fun b hb => ?_⟩
    · simp [Sl.bs] at hb
      subst hb
      exact (hlt _ rfl).2
    · simp [Sl.bs] at hb
      subst hb
      exact ⟨_, _, hgh⟩
    · simp [Sl.bs] at hb
      subst hb
      exact (hlt _ rfl).1
set_option maxHeartbeats 1000000 in
theorem clone_i32 {s : Sl} {w : World} (h : SlRd .i32 w s) : Calls Tryz.prog 249 #[s.v] w (CopyTo .i32 s.xs w) := by
  cases ha : s.a with
  | none =>
    obtain ⟨e1, e2⟩ := h.nn ha
    have es : s.v = .slice none 0 0 := by simp [Sl.v, ha, e1, e2]
    have ex := Lib.hid e1
    rw [es]
    clear h e1 e2 es ha
    have qT : ∀ w : World, (binOp .eql 35 (.slice none 0 0) (.slice none 0 0)).run Tryz.prog w = .ok (.bool true) w := fun w => by kernel_rfl
    go_enter Tryz.func249, Tryz.ntmps249
    go_wp2_with fail
    go_ret
    exact ⟨Sl.no, rfl, ex.out.symm, SlAt.no _ _, by simp [Sl.bs, Sl.no], Below.refl _ _⟩
  | some ad =>
    have hs := Lib.hid h.src
    have hle := Lib.hid h.le
    have es : s.v = .slice (some ad) s.xs.length s.c := by simp [Sl.v, ha]
    rw [es] at hs ⊢
    clear h es ha
    obtain ⟨i0, hi, hz0, hz1, hz2⟩ := info_parts infoI32
    generalize s.xs = xs at *
    generalize s.c = c at *
    obtain ⟨m, hm⟩ : ∃ m, xs.length = m := ⟨_, rfl⟩
    have HM := Lib.hid hm
    rw [hm] at hs hle ⊢
    clear hm
    have qT : ∀ w : World, (binOp .eql 35 (.slice (some ad) m c) (.slice none 0 0)).run Tryz.prog w = .ok (.bool false) w := fun w => by kernel_rfl
    have EM : Hid (World.ownsRow (w.alloc (.cells #[] 21)) w.heap.size 21 1 (.slice (some ⟨w.heap.size, 0, none⟩) 0 0) 0 []) := Lib.hid (World.ownsRow_lit w #[] 0 (Nat.le_refl _) (by simp) rfl)
    go_enter Tryz.func249, Tryz.ntmps249
    go_wp2_with (at_builtin; refine wpList_append_src rfl (.tmp 5) (.tmp 6) 35 rfl w.heap.size 21 i0 (.int .i32 0) 1 4 Tryz.underlying35 hi hz0 hz1 hz2 rfl (by decide) _ 0 [] rfl EM.out _ m (xs.map (Value.int .i32)) rfl (hs.out.below ((Below.refl _ _).alloc (Nat.le_refl _) _)) (by simp [Value.oneCell']) (by have := hle.out; unfold maxLen; omega) (by have := hle.out; omega) (by simp) ?_; intro v' w' hown' hgrow)
    go_ret
    rw [Nat.zero_add, List.nil_append] at hown'
    obtain ⟨s2, e1, e2, e3, e4⟩ := SlAt.of_own hown' (by rw [HM.out]; exact hle.out)
    exact ⟨s2, by rw [← e1]; rfl, e2, e3, e4, ((Below.refl _ _).alloc (Nat.le_refl _) _).grown hgrow (by simp) (fun k hk => by simp [Act.eval, Value.ownBlock] at hk; omega)⟩
set_option maxHeartbeats 1000000 in
theorem clone_u8 {s : Sl} {w : World} (h : SlRd .u8 w s) : Calls Tryz.prog 168 #[s.v] w (CopyTo .u8 s.xs w) := by
  cases ha : s.a with
  | none =>
    obtain ⟨e1, e2⟩ := h.nn ha
    have es : s.v = .slice none 0 0 := by simp [Sl.v, ha, e1, e2]
    have ex := Lib.hid e1
    rw [es]
    clear h e1 e2 es ha
    have qT : ∀ w : World, (binOp .eql 30 (.slice none 0 0) (.slice none 0 0)).run Tryz.prog w = .ok (.bool true) w := fun w => by kernel_rfl
    go_enter Tryz.func168, Tryz.ntmps168
    go_wp2_with fail
    go_ret
    exact ⟨Sl.no, rfl, ex.out.symm, SlAt.no _ _, by simp [Sl.bs, Sl.no], Below.refl _ _⟩
  | some ad =>
    have hs := Lib.hid h.src
    have hle := Lib.hid h.le
    have es : s.v = .slice (some ad) s.xs.length s.c := by simp [Sl.v, ha]
    rw [es] at hs ⊢
    clear h es ha
    obtain ⟨i0, hi, hz0, hz1, hz2⟩ := info_parts infoU8
    generalize s.xs = xs at *
    generalize s.c = c at *
    obtain ⟨m, hm⟩ : ∃ m, xs.length = m := ⟨_, rfl⟩
    have HM := Lib.hid hm
    rw [hm] at hs hle ⊢
    clear hm
    have qT : ∀ w : World, (binOp .eql 30 (.slice (some ad) m c) (.slice none 0 0)).run Tryz.prog w = .ok (.bool false) w := fun w => by kernel_rfl
    have EM : Hid (World.ownsRow (w.alloc (.cells #[] 5)) w.heap.size 5 1 (.slice (some ⟨w.heap.size, 0, none⟩) 0 0) 0 []) := Lib.hid (World.ownsRow_lit w #[] 0 (Nat.le_refl _) (by simp) rfl)
    go_enter Tryz.func168, Tryz.ntmps168
    go_wp2_with (at_builtin; refine wpList_append_src rfl (.tmp 5) (.tmp 6) 30 rfl w.heap.size 5 i0 (.int .u8 0) 1 1 Tryz.underlying30 hi hz0 hz1 hz2 rfl (by decide) _ 0 [] rfl EM.out _ m (xs.map (Value.int .u8)) rfl (hs.out.below ((Below.refl _ _).alloc (Nat.le_refl _) _)) (by simp [Value.oneCell']) (by have := hle.out; unfold maxLen; omega) (by have := hle.out; omega) (by simp) ?_; intro v' w' hown' hgrow)
    go_ret
    rw [Nat.zero_add, List.nil_append] at hown'
    obtain ⟨s2, e1, e2, e3, e4⟩ := SlAt.of_own hown' (by rw [HM.out]; exact hle.out)
    exact ⟨s2, by rw [← e1]; rfl, e2, e3, e4, ((Below.refl _ _).alloc (Nat.le_refl _) _).grown hgrow (by simp) (fun k hk => by simp [Act.eval, Value.ownBlock] at hk; omega)⟩
/-- own: a copy of a record. -/
def OwnTo (key : Int) (xs ys : List Int) (w : World) (e : Ending) (w' : World) : Prop := ∃ va ta : Sl, e = .returned (.agg #[.int .u64 key, va.v, ta.v]) ∧ va.xs = xs ∧ ta.xs = ys ∧ SlAt .i32 w' va ∧ SlAt .u8 w' ta ∧ (∀ b ∈ va.bs ++ ta.bs, w.heap.size ≤ b) ∧ Below w.heap.size w w'
theorem results_item {fn : Func} {p : Tmp} (h : fn.results = #[.cell p tIt]) (tmps : Array Value) (w : World) (g : Nat) (R : Array Value) (hR : R.size = 3) (hp : tmps.getD p undef = .pointer (some ⟨g, 0, none⟩)) (hg : Row w g R tIt) : (results fn tmps).run Tryz.prog w = .ok (.agg R) w :=
  results_cell_row h tmps w g _ _ _ _ hp hg Tryz.underlying37 rfl (by rw [show (Tryz.prog.info? tIt).map (·.size) = some 3 from by kernel_rfl, hR])
set_option maxHeartbeats 2000000 in
theorem own_on {key : Int} {va ta : Sl} {w : World} (h1 : SlRd .i32 w va) (h2 : SlRd .u8 w ta) : Calls Tryz.prog 241 #[.agg #[.int .u64 key, va.v, ta.v]] w (OwnTo key va.xs ta.xs w) := by
  have C1 : Hid (∀ y, Only [] w y → Calls Tryz.prog 249 #[va.v] y (CopyTo .i32 va.xs y)) := Lib.hid fun y k => clone_i32 (h1.only k (by simp))
  have C2 : Hid (∀ y, Only [] w y → Calls Tryz.prog 168 #[ta.v] y (CopyTo .u8 ta.xs y)) := Lib.hid fun y k => clone_u8 (h2.only k (by simp))
  obtain ⟨v1, hv1⟩ : ∃ v1, va.v = v1 := ⟨_, rfl⟩
  obtain ⟨v2, hv2⟩ : ∃ v2, ta.v = v2 := ⟨_, rfl⟩
  have s1 : ∃ a n c, v1 = .slice a n c := ⟨_, _, _, hv1.symm⟩
  have s2 : ∃ a n c, v2 = .slice a n c := ⟨_, _, _, hv2.symm⟩
  rw [hv1] at C1 ⊢
  rw [hv2] at C2 ⊢
  generalize va.xs = xs at *
  generalize ta.xs = ys at *
  clear h1 h2 hv1 hv2
  obtain ⟨a1, n1, c1, rfl⟩ := s1
  obtain ⟨a2, n2, c2, rfl⟩ := s2
  go_enter Tryz.func241, Tryz.ntmps241
  go_upto_region 1 with fail
  have R1 : Hid (Row ((w.alloc (.cells #[.int .u64 key, .slice a1 n1 c1, .slice a2 n2 c2] tIt)).alloc (.cells #[.int .u64 0, .slice none 0 0, .slice none 0 0] tIt)) w.heap.size #[.int .u64 key, .slice a1 n1 c1, .slice a2 n2 c2] tIt) := Lib.hid ((Row.made w _ _).only ((Only.refl [] _).alloc _) (by simp))
  have R2 : Hid (Row ((w.alloc (.cells #[.int .u64 key, .slice a1 n1 c1, .slice a2 n2 c2] tIt)).alloc (.cells #[.int .u64 0, .slice none 0 0, .slice none 0 0] tIt)) (w.heap.size + 1) #[.int .u64 0, .slice none 0 0, .slice none 0 0] tIt) := Lib.hid (by
    have h := Row.made (w.alloc (.cells #[.int .u64 key, .slice a1 n1 c1, .slice a2 n2 c2] tIt)) #[.int .u64 0, .slice none 0 0, .slice none 0 0] tIt
    rw [World.size_alloc] at h
    exact h)
  have K0 : Hid (Only [] w ((w.alloc (.cells #[.int .u64 key, .slice a1 n1 c1, .slice a2 n2 c2] tIt)).alloc (.cells #[.int .u64 0, .slice none 0 0, .slice none 0 0] tIt))) := Lib.hid (((Only.refl [] w).alloc _).alloc _)
  generalize (w.alloc (.cells #[.int .u64 key, .slice a1 n1 c1, .slice a2 n2 c2] tIt)).alloc (.cells #[.int .u64 0, .slice none 0 0, .slice none 0 0] tIt) = w1 at *
  have KD : Only [] w w1.drew := K0.out.drew
  have SO : Hid (∀ y, Only [w.heap.size + 1] w1 y → y.cell? ⟨w.heap.size, 0, none⟩ = some (.int .u64 key) ∧ y.cell? ⟨w.heap.size, 1, none⟩ = some (.slice a1 n1 c1) ∧ y.cell? ⟨w.heap.size, 2, none⟩ = some (.slice a2 n2 c2)) := Lib.hid fun y k => ⟨(R1.out.only k (by simp)).cell 0, (R1.out.only k (by simp)).cell 1, (R1.out.only k (by simp)).cell 2⟩
  have B0 : Hid (w.heap.size ≤ w1.drew.heap.size) := Lib.hid (by have := K0.out.size; simpa using this)
  go_region_held3 (fun y => y.cell? ⟨w.heap.size, 0, none⟩ = some (.int .u64 key) ∧ y.cell? ⟨w.heap.size, 1, none⟩ = some (.slice a1 n1 c1) ∧ y.cell? ⟨w.heap.size, 2, none⟩ = some (.slice a2 n2 c2))
    (first
      | exact SO.out _ ((((X3.out.mono (by simp)).setCell (.inl (by simp)) _).setCell (.inl (by simp)) _).setCell (.inl (by simp)) _)
      | exact SO.out _ (X3.out.mono (by simp))
      | exact SO.out _ (X1.out.mono (by simp))
      | exact SO.out _ (X2.out.mono (by simp))
      | exact SO.out _ ((Only.refl [] w1).drew.mono (by simp)))
    (first
      | ((with_reducible refine (C1.out w1.drew KD).mono ?_); rintro _ x1 ⟨s1, rfl, e1, m, g1, b⟩; have X1 : Hid (Only [] w1 x1) := Lib.hid ((Only.refl [] w1).drew.below b); have K1 : Only [] w x1 := K0.out.trans X1.out (by simp); have M1 := Lib.hid m; have E1 := Lib.hid e1; have G1 := Lib.hid g1; clear m e1 g1 b; unfold Sl.v)
      | ((with_reducible refine (C2.out x1 K1).mono ?_); rintro _ x3 ⟨s2, rfl, e1, m, g1, b⟩; have X3 : Hid (Only [] w1 x3) := Lib.hid (X1.out.trans ((Only.refl [] x1).below b) (by simp)); have N1 := Lib.hid (M1.out.only ((Only.refl [] x1).below b) (by simp)); have N2 := Lib.hid m; have E2 := Lib.hid e1; have G2 : Hid (∀ b ∈ s2.bs, w1.heap.size ≤ b) := Lib.hid (fun i hi => Nat.le_trans X1.out.size (g1 i hi)); have G3 : Hid (∀ b ∈ s1.bs, w1.heap.size ≤ b) := Lib.hid (fun i hi => G1.out i hi); have RX := Lib.hid (R2.out.only X3.out (by simp)); clear e1 g1; unfold Sl.v; have r0 : x3.cell? ⟨w.heap.size + 1, 0, none⟩ = some (.int .u64 0) := RX.out.cell 0; have r1 : x3.cell? ⟨w.heap.size + 1, 1, none⟩ = some (.slice none 0 0) := RX.out.cell 1; have r2 : x3.cell? ⟨w.heap.size + 1, 2, none⟩ = some (.slice none 0 0) := RX.out.cell 2; have q0 := RX.out.free 0; have q1 := RX.out.free 1; have q2 := RX.out.free 2; clear m b)
      | ((with_reducible refine (C2.out w1.drew KD).mono ?_); rintro _ x2 ⟨s2, rfl, e1, m, g1, b⟩; have X2 : Hid (Only [] w1 x2) := Lib.hid ((Only.refl [] w1).drew.below b); have K2 : Only [] w x2 := K0.out.trans X2.out (by simp); have M2 := Lib.hid m; have E2 := Lib.hid e1; have G1 := Lib.hid g1; clear m e1 g1 b; unfold Sl.v)
      | ((with_reducible refine (C1.out x2 K2).mono ?_); rintro _ x3 ⟨s1, rfl, e1, m, g1, b⟩; have X3 : Hid (Only [] w1 x3) := Lib.hid (X2.out.trans ((Only.refl [] x2).below b) (by simp)); have N2 := Lib.hid (M2.out.only ((Only.refl [] x2).below b) (by simp)); have N1 := Lib.hid m; have E1 := Lib.hid e1; have G3 : Hid (∀ b ∈ s1.bs, w1.heap.size ≤ b) := Lib.hid (fun i hi => Nat.le_trans X2.out.size (g1 i hi)); have G2 : Hid (∀ b ∈ s2.bs, w1.heap.size ≤ b) := Lib.hid (fun i hi => G1.out i hi); have RX := Lib.hid (R2.out.only X3.out (by simp)); clear e1 g1; unfold Sl.v; have r0 : x3.cell? ⟨w.heap.size + 1, 0, none⟩ = some (.int .u64 0) := RX.out.cell 0; have r1 : x3.cell? ⟨w.heap.size + 1, 1, none⟩ = some (.slice none 0 0) := RX.out.cell 1; have r2 : x3.cell? ⟨w.heap.size + 1, 2, none⟩ = some (.slice none 0 0) := RX.out.cell 2; have q0 := RX.out.free 0; have q1 := RX.out.free 1; have q2 := RX.out.free 2; clear m b))
  all_goals
    clear r0 r1 r2 q0 q1 q2
    go_wp2_with fail
    refine bodyPost_ret (results_item rfl _ _ (w.heap.size + 1) #[.int .u64 key, s1.v, s2.v] rfl rfl ?_) rfl ?_
    · have h := ((RX.out.set 0 (.int .u64 key)).set 1 s1.v).set 2 s2.v
      simp at h
      exact h
    · have ko : Only [w.heap.size + 1] x3 (((x3.setCell ⟨w.heap.size + 1, 0, none⟩ (.int .u64 key)).setCell ⟨w.heap.size + 1, 1, none⟩ s1.v).setCell ⟨w.heap.size + 1, 2, none⟩ s2.v) := (((Only.refl _ x3).setCell (.inl (by simp)) _).setCell (.inl (by simp)) _).setCell (.inl (by simp)) _
      have hl := R2.out.lt
      have hw := K0.out.size
      refine ⟨s1, s2, rfl, E1.out, E2.out, N1.out.only ko ?_, N2.out.only ko ?_, ?_, ((K0.out.trans X3.out (by simp)).trans (ko.mono (G := [w.heap.size + 1]) (by simp)) (by simp)).toBelow (Nat.le_refl _) (by simp)⟩
      · intro b hb
        have := G3.out b hb
        simp
        omega
      · intro b hb
        have := G2.out b hb
        simp
        omega
      · intro b hb
        rcases List.mem_append.1 hb with hb | hb
        · have := G3.out b hb; omega
        · have := G2.out b hb; omega
end Go.Proofs.YtcgmgdjeamidlaaGreat
