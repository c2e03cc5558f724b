/- Sessions: the reply to begin (printed by gen_ssq.py). -/
import Derived.Test.YtcgmgdjeamidlaaGreatSsP
import Derived.Deep.RegionHeld3
import Derived.Deep.CutBlock
import Derived.Deep.CutRange
namespace Go.Proofs.YtcgmgdjeamidlaaGreat
open Go.RowKit Go.ChangeShapes Go.WideShapes Go.ChangeAt
set_option linter.unusedVariables false
set_option linter.unusedSimpArgs false

/-- Behind begin: the reply in block g. -/
def FinB (B p ss : Nat) (D : PDB) (F H : List Nat) (w4 : World) (g : Nat) (wc : World) : Prop := Row wc g (doneCells 0) tRp ∧ Row wc ss #[baseV p, .int .u64 (D.begun + 1)] tSs ∧ ∃ bt bm F', DbF wc B p (beginP D bt bm) F' H ∧ Only (ss :: F) w4 wc ∧ Kept F F' w4
theorem fin_new {B p ss : Nat} {D : PDB} {F H : List Nat} {w4 y w6 : World} {e : Ending} (h : BegunTo B p ss D F H y e w6) (k : Only [] w4 y) : FinB B p ss D F H w4 w6.heap.size (w6.alloc (.cells (doneCells 0) tRp)) := by
  obtain ⟨_, hs, bt, bm, F', hd, ho, hk⟩ := h
  have ka := (Only.refl [] w6).alloc (.cells (doneCells 0) tRp)
  have e1 : Only (ss :: F) w4 w6 := (k.mono (G := ss :: F) (by simp)).trans ho (by intro i hi; left; exact hi)
  exact ⟨Row.made _ _ _, hs.only ka (by simp), bt, bm, F', hd.only ka (by simp), e1.alloc _, fun b hb => (hk b hb).imp id fun h6 => Nat.le_trans k.size h6⟩
theorem fin_old {B p ss g : Nat} {D : PDB} {F H : List Nat} {w4 y w6 : World} {e : Ending} (h : BegunTo B p ss D F H y e w6) (k : Only [] w4 y) (hr : Row y g zeroRp tRp) (hg : w4.heap.size ≤ g) (hF : ∀ b, b = ss ∨ b ∈ F ∨ b ∈ H → b < w4.heap.size) :
    Row w6 g zeroRp tRp ∧ FinB B p ss D F H w4 g (((((((((w6.setCell ⟨g, 0, none⟩ (.int .i64 1)).setCell ⟨g, 1, none⟩ (.int .i64 0)).setCell ⟨g, 2, none⟩ (.int .i64 0)).setCell ⟨g, 3, none⟩ (.int .i64 0)).setCell ⟨g, 4, none⟩ (.int .u64 0)).setCell ⟨g, 5, none⟩ (.slice none 0 0)).setCell ⟨g, 6, none⟩ (.slice none 0 0)).setCell ⟨g, 7, none⟩ (.slice none 0 0)).setCell ⟨g, 8, none⟩ (.slice none 0 0)) := by
  obtain ⟨_, hs, bt, bm, F', hd, ho, hk⟩ := h
  have n1 : g ∉ ss :: F := fun hm => by
    have := hF g (by simp at hm; rcases hm with hm | hm; exact .inl hm; exact .inr (.inl hm))
    omega
  have r6 := hr.only ho n1
  have kg : Only [g] w6 (((((((((w6.setCell ⟨g, 0, none⟩ (.int .i64 1)).setCell ⟨g, 1, none⟩ (.int .i64 0)).setCell ⟨g, 2, none⟩ (.int .i64 0)).setCell ⟨g, 3, none⟩ (.int .i64 0)).setCell ⟨g, 4, none⟩ (.int .u64 0)).setCell ⟨g, 5, none⟩ (.slice none 0 0)).setCell ⟨g, 6, none⟩ (.slice none 0 0)).setCell ⟨g, 7, none⟩ (.slice none 0 0)).setCell ⟨g, 8, none⟩ (.slice none 0 0)) := ((((((((((Only.refl [g] w6).setCell (.inl (by simp)) _).setCell (.inl (by simp)) _).setCell (.inl (by simp)) _).setCell (.inl (by simp)) _).setCell (.inl (by simp)) _).setCell (.inl (by simp)) _).setCell (.inl (by simp)) _).setCell (.inl (by simp)) _).setCell (.inl (by simp)) _)
  have hlt := hr.lt
  have e1 : Only (ss :: F) w4 w6 := (k.mono (G := ss :: F) (by simp)).trans ho (by intro i hi; left; exact hi)
  refine ⟨r6, ?_, hs.only kg (by simp; intro e; exact n1 (by simp [e])), bt, bm, F', hd.only kg (by
    intro b hb
    simp at hb
    subst hb
    refine ⟨fun hm => ?_, fun hm => ?_⟩
    · rcases hk _ hm with h6 | h6
      · exact n1 (List.mem_cons_of_mem _ h6)
      · omega
    · have := hF _ (.inr (.inr hm)); omega), e1.trans kg (by intro i hi; right; simp at hi; omega), fun b hb => (hk b hb).imp id fun h6 => Nat.le_trans k.size h6⟩
  have h := (((((((((r6.set 0 (.int .i64 1)).set 1 (.int .i64 0)).set 2 (.int .i64 0)).set 3 (.int .i64 0)).set 4 (.int .u64 0)).set 5 (.slice none 0 0)).set 6 (.slice none 0 0)).set 7 (.slice none 0 0)).set 8 (.slice none 0 0))
  simpa [zeroRp] using h
set_option maxRecDepth 100000 in
set_option maxHeartbeats 8000000 in
theorem sreply_on {s : Sl} {w : World} {B p ss : Nat} {D : PDB} {F H : List Nat} (h : DbF w B p D F H) (hB : B ≤ w.heap.size) (hl : D.op.length < 8) (hb : D.begun < 1000000) (hs : Row w ss #[baseV p, .int .u64 0] tSs) (ha : ss ∉ F ∧ ss ∉ H) (hr : SlRd .u8 w s) (hx : s.xs = [1]) :
    Calls Tryz.prog 36 #[.pointer (some ⟨ss, 0, none⟩), s.v] w (BegunTo B p ss D F H w) := by
  have HH := Lib.hid (And.intro h (And.intro hB (And.intro hl (And.intro hb (And.intro hs ha)))))
  have K1 : Hid (Only [] w (w.alloc (.cells zeroRp tRp))) := Lib.hid ((Only.refl [] w).alloc _)
  have RR := Lib.hid (Row.made w zeroRp tRp)
  have S1 := Lib.hid (hs.only K1.out (by simp))
  have c0 : (w.alloc (.cells zeroRp tRp)).cell? ⟨ss, 0, none⟩ = some (baseV p) := S1.out.cell 0
  have RA := Lib.hid (readask_bare 1 (.inl rfl) (hr.only K1.out (by simp)) hx)
  unfold ReadTo at RA
  unfold bareCells zeroRp baseV at *
  have ES : Hid (s.v = .slice s.a 1 s.c) := Lib.hid (by unfold Sl.v; rw [hx]; rfl)
  rw [ES.out] at RA ⊢
  clear h hB hl hb hs ha hr hx
  go_enter Tryz.func36, Tryz.ntmps36
  go_wp2_with fail
  refine RA.out.mono ?_
  generalize w.alloc (.cells #[.int .i64 0, .int .i64 0, .int .i64 0, .int .i64 0, .int .u64 0, .slice none 0 0, .slice none 0 0, .slice none 0 0, .slice none 0 0] tRp) = w1 at *
  rintro _ w2 ⟨rfl, hb2⟩
  have K2 : Hid (Only [] w w2) := Lib.hid (K1.out.below hb2)
  have RR2 := Lib.hid (RR.out.only ((Only.refl [] w1).below hb2) (by simp))
  have K3 : Hid (Only [] w (w2.alloc (.cells #[.int .i64 1, .int .u64 0, .slice none 0 0, .slice none 0 0, .int .u64 0, .int .u64 0, .int .i64 0, .slice none 0 0, .slice none 0 0, .int .i64 0] tRq))) := Lib.hid (K2.out.alloc _)
  have S3 := Lib.hid (HH.out.2.2.2.2.1.only K3.out (by simp))
  have d1 : (w2.alloc (.cells #[.int .i64 1, .int .u64 0, .slice none 0 0, .slice none 0 0, .int .u64 0, .int .u64 0, .int .i64 0, .slice none 0 0, .slice none 0 0, .int .i64 0] tRq)).cell? ⟨ss, 1, none⟩ = some (.int .u64 0) := S3.out.cell 1
  have RQ := Lib.hid (Row.made w2 #[.int .i64 1, .int .u64 0, .slice none 0 0, .slice none 0 0, .int .u64 0, .int .u64 0, .int .i64 0, .slice none 0 0, .slice none 0 0, .int .i64 0] tRq)
  have e0 : (w2.alloc (.cells #[.int .i64 1, .int .u64 0, .slice none 0 0, .slice none 0 0, .int .u64 0, .int .u64 0, .int .i64 0, .slice none 0 0, .slice none 0 0, .int .i64 0] tRq)).cell? ⟨w2.heap.size, 0, none⟩ = some (.int .i64 1) := RQ.out.cell 0
  have RR3 := Lib.hid (RR2.out.only ((Only.refl [] w2).alloc (.cells #[.int .i64 1, .int .u64 0, .slice none 0 0, .slice none 0 0, .int .u64 0, .int .u64 0, .int .i64 0, .slice none 0 0, .slice none 0 0, .int .i64 0] tRq)) (by simp))
  clear hb2 RA c0 S1 K1
  go_upto_region 8 with fail
  generalize hw4 : w2.alloc (.cells #[.int .i64 1, .int .u64 0, .slice none 0 0, .slice none 0 0, .int .u64 0, .int .u64 0, .int .i64 0, .slice none 0 0, .slice none 0 0, .int .i64 0] tRq) = w4 at *
  have Z4 : Hid (w4.heap.size = w2.heap.size + 1) := Lib.hid (by rw [← hw4]; simp)
  clear hw4
  have SO : Hid (∀ y, Only (ss :: F) w4 y → y.cell? ⟨w2.heap.size, 0, none⟩ = some (.int .i64 1) ∧ y.cell? ⟨w2.heap.size, 1, none⟩ = some (.int .u64 0) ∧ y.cell? ⟨w2.heap.size, 2, none⟩ = some (.slice none 0 0) ∧ y.cell? ⟨w2.heap.size, 3, none⟩ = some (.slice none 0 0) ∧ y.cell? ⟨w2.heap.size, 4, none⟩ = some (.int .u64 0) ∧ y.cell? ⟨w2.heap.size, 5, none⟩ = some (.int .u64 0) ∧ y.cell? ⟨w2.heap.size, 6, none⟩ = some (.int .i64 0) ∧ y.cell? ⟨w2.heap.size, 7, none⟩ = some (.slice none 0 0) ∧ y.cell? ⟨w2.heap.size, 8, none⟩ = some (.slice none 0 0) ∧ y.cell? ⟨w2.heap.size, 9, none⟩ = some (.int .i64 0)) := Lib.hid fun y hy => by
    have r := RQ.out.only hy (by
      intro hm
      have h1 := HH.out.1.lt.1
      have h2 := HH.out.2.2.2.2.1.lt
      have h3 := K2.out.size
      simp at hm
      rcases hm with hm | hm
      · omega
      · have := h1 _ hm; omega)
    exact ⟨r.cell 0, r.cell 1, r.cell 2, r.cell 3, r.cell 4, r.cell 5, r.cell 6, r.cell 7, r.cell 8, r.cell 9⟩
  have HF : Hid (∀ b, b = ss ∨ b ∈ F ∨ b ∈ H → b < w4.heap.size) := Lib.hid fun b hb => by
    have h1 := HH.out.1.lt
    have h2 := HH.out.2.2.2.2.1.lt
    have h3 := K3.out.size
    rcases hb with hb | hb | hb
    · omega
    · have := h1.1 _ hb; omega
    · have := h1.2 _ hb; omega
  have HW : Hid (∀ y, Calls Tryz.prog 77 #[.int .i64 1] y fun e w' => e = .returned (.func (.func 141) #[] #[]) ∧ Below y.heap.size y w') := Lib.hid fun y => how_on 1 y
  have BN : Hid (∀ y, Only [] w4 y → Calls Tryz.prog 141 #[.pointer (some ⟨ss, 0, none⟩), .agg #[.int .i64 1, .int .u64 0, .slice none 0 0, .slice none 0 0, .int .u64 0, .int .u64 0, .int .i64 0, .slice none 0 0, .slice none 0 0, .int .i64 0]] y (BegunTo B p ss D F H y)) := Lib.hid fun y hy => by
    obtain ⟨h1, h2, h3, h4, h5, h6⟩ := HH.out
    have ky : Only [] w y := K3.out.trans hy (by simp)
    exact sbegin_on (h1.only ky (by simp)) (Nat.le_trans h2 ky.size) h3 h4 (h5.only ky (by simp)) h6 1
  have ZA := Lib.hid (Row.made w4 zeroRp tRp)
  go_cut [7] from 38 to 43 (fun u7 wc => ∃ g, u7 = .pointer (some ⟨g, 0, none⟩) ∧ Hid (FinB B p ss D F H w4 g wc))
  case first =>
    obtain ⟨na0, na1, na2, na3, na4, na5, na6, na7, na8, na9⟩ := SO.out w4.drew ((Only.refl _ w4).drew)
    obtain ⟨nb0, nb1, nb2, nb3, nb4, nb5, nb6, nb7, nb8, nb9⟩ := SO.out (w4.alloc (.cells zeroRp tRp)).drew (((Only.refl _ w4).alloc _).drew)
    unfold zeroRp at nb0 nb1 nb2 nb3 nb4 nb5 nb6 nb7 nb8 nb9
    go_region_with
      (first
        | ((with_reducible refine (HW.out w4.drew).mono ?_); rintro _ w5 ⟨rfl, h5⟩; have X5 : Hid (Only [] w4 w5) := Lib.hid (((Only.refl [] w4).drew).below h5); obtain ⟨nc0, nc1, nc2, nc3, nc4, nc5, nc6, nc7, nc8, nc9⟩ := SO.out w5 (X5.out.mono (G := ss :: F) (by simp)); obtain ⟨nd0, nd1, nd2, nd3, nd4, nd5, nd6, nd7, nd8, nd9⟩ := SO.out (w5.alloc (.cells zeroRp tRp)) ((X5.out.mono (G := ss :: F) (by simp)).alloc _); unfold zeroRp at nd0 nd1 nd2 nd3 nd4 nd5 nd6 nd7 nd8 nd9; clear h5)
        | ((with_reducible refine (HW.out (w4.alloc (.cells zeroRp tRp)).drew).mono ?_); rintro _ w5 ⟨rfl, h5⟩; have X5 : Hid (Only [] w4 w5) := Lib.hid ((((Only.refl [] w4).alloc _).drew).below h5); have Z5 : Hid (Row w5 w4.heap.size zeroRp tRp) := Lib.hid ((ZA.out.only ((Only.refl [] _).drew) (by simp)).only ((Only.refl [] _).below h5) (by simp)); obtain ⟨nc0, nc1, nc2, nc3, nc4, nc5, nc6, nc7, nc8, nc9⟩ := SO.out w5 (X5.out.mono (G := ss :: F) (by simp)); clear h5)
        | ((with_reducible refine (BN.out (w5.alloc (.cells zeroRp tRp)) (X5.out.alloc _)).mono ?_); rintro _ w6 h6; have FX2 := fin_old h6 (X5.out.alloc _) (Row.made w5 zeroRp tRp) X5.out.size HF.out; obtain ⟨r6, fx⟩ := FX2; obtain ⟨rfl, _, _, _, _, _, ho, _⟩ := h6; have XO : Hid (Only (ss :: F) w4 w6) := Lib.hid (((X5.out.alloc _).mono (G := ss :: F) (by simp)).trans ho (by intro i hi; left; exact hi)); have FX := Lib.hid fx; clear fx ho; have q0 : w6.cell? ⟨w5.heap.size, 0, none⟩ = some (.int .i64 0) := r6.cell 0; have v0 := r6.free 0; have q1 : w6.cell? ⟨w5.heap.size, 1, none⟩ = some (.int .i64 0) := r6.cell 1; have v1 := r6.free 1; have q2 : w6.cell? ⟨w5.heap.size, 2, none⟩ = some (.int .i64 0) := r6.cell 2; have v2 := r6.free 2; have q3 : w6.cell? ⟨w5.heap.size, 3, none⟩ = some (.int .i64 0) := r6.cell 3; have v3 := r6.free 3; have q4 : w6.cell? ⟨w5.heap.size, 4, none⟩ = some (.int .u64 0) := r6.cell 4; have v4 := r6.free 4; have q5 : w6.cell? ⟨w5.heap.size, 5, none⟩ = some (.slice none 0 0) := r6.cell 5; have v5 := r6.free 5; have q6 : w6.cell? ⟨w5.heap.size, 6, none⟩ = some (.slice none 0 0) := r6.cell 6; have v6 := r6.free 6; have q7 : w6.cell? ⟨w5.heap.size, 7, none⟩ = some (.slice none 0 0) := r6.cell 7; have v7 := r6.free 7; have q8 : w6.cell? ⟨w5.heap.size, 8, none⟩ = some (.slice none 0 0) := r6.cell 8; have v8 := r6.free 8; clear r6; unfold doneCells)
        | ((with_reducible refine (BN.out w5 X5.out).mono ?_); rintro _ w6 h6; have FX2 := fin_old h6 X5.out Z5.out (Nat.le_refl _) HF.out; obtain ⟨r6, fx⟩ := FX2; obtain ⟨rfl, _, _, _, _, _, ho, _⟩ := h6; have XO : Hid (Only (ss :: F) w4 w6) := Lib.hid ((X5.out.mono (G := ss :: F) (by simp)).trans ho (by intro i hi; left; exact hi)); have FX := Lib.hid fx; clear fx ho; have q0 : w6.cell? ⟨w4.heap.size, 0, none⟩ = some (.int .i64 0) := r6.cell 0; have v0 := r6.free 0; have q1 : w6.cell? ⟨w4.heap.size, 1, none⟩ = some (.int .i64 0) := r6.cell 1; have v1 := r6.free 1; have q2 : w6.cell? ⟨w4.heap.size, 2, none⟩ = some (.int .i64 0) := r6.cell 2; have v2 := r6.free 2; have q3 : w6.cell? ⟨w4.heap.size, 3, none⟩ = some (.int .i64 0) := r6.cell 3; have v3 := r6.free 3; have q4 : w6.cell? ⟨w4.heap.size, 4, none⟩ = some (.int .u64 0) := r6.cell 4; have v4 := r6.free 4; have q5 : w6.cell? ⟨w4.heap.size, 5, none⟩ = some (.slice none 0 0) := r6.cell 5; have v5 := r6.free 5; have q6 : w6.cell? ⟨w4.heap.size, 6, none⟩ = some (.slice none 0 0) := r6.cell 6; have v6 := r6.free 6; have q7 : w6.cell? ⟨w4.heap.size, 7, none⟩ = some (.slice none 0 0) := r6.cell 7; have v7 := r6.free 7; have q8 : w6.cell? ⟨w4.heap.size, 8, none⟩ = some (.slice none 0 0) := r6.cell 8; have v8 := r6.free 8; clear r6; unfold doneCells)
        | ((with_reducible refine (BN.out w5 X5.out).mono ?_); rintro _ w6 h6; have fx := fin_new h6 X5.out; obtain ⟨rfl, _, _, _, _, _, ho, _⟩ := h6; have XO : Hid (Only (ss :: F) w4 w6) := Lib.hid ((X5.out.mono (G := ss :: F) (by simp)).trans ho (by intro i hi; left; exact hi)); have FX := Lib.hid fx; clear fx ho; unfold doneCells))
    all_goals
      go_wp2_with fail
      go_meet
      exact ⟨_, rfl, FX⟩
  case rest =>
    obtain ⟨g, rfl, FB⟩ := hcut
    have NW : Hid (w.heap.size ∉ ss :: F) := Lib.hid (by
      have h1 := HH.out.1.lt.1
      have h2 := HH.out.2.2.2.2.1.lt
      intro hm
      simp at hm
      rcases hm with hm | hm
      · omega
      · have := h1 _ hm; omega)
    have RG := FB.out.1
    have RW := RR3.out.only (by have h := FB.out; obtain ⟨_, _, _, _, _, _, h, _⟩ := h; exact h) NW.out
    have lg0 : wc.cell? ⟨g, 0, none⟩ = some (.int .i64 1) := RG.cell 0
    have lw0 : wc.cell? ⟨w.heap.size, 0, none⟩ = some (.int .i64 0) := RW.cell 0
    have fw0 := RW.free 0
    have lg1 : wc.cell? ⟨g, 1, none⟩ = some (.int .i64 0) := RG.cell 1
    have lw1 : wc.cell? ⟨w.heap.size, 1, none⟩ = some (.int .i64 0) := RW.cell 1
    have fw1 := RW.free 1
    have lg2 : wc.cell? ⟨g, 2, none⟩ = some (.int .i64 0) := RG.cell 2
    have lw2 : wc.cell? ⟨w.heap.size, 2, none⟩ = some (.int .i64 0) := RW.cell 2
    have fw2 := RW.free 2
    have lg3 : wc.cell? ⟨g, 3, none⟩ = some (.int .i64 0) := RG.cell 3
    have lw3 : wc.cell? ⟨w.heap.size, 3, none⟩ = some (.int .i64 0) := RW.cell 3
    have fw3 := RW.free 3
    have lg4 : wc.cell? ⟨g, 4, none⟩ = some (.int .u64 0) := RG.cell 4
    have lw4 : wc.cell? ⟨w.heap.size, 4, none⟩ = some (.int .u64 0) := RW.cell 4
    have fw4 := RW.free 4
    have lg5 : wc.cell? ⟨g, 5, none⟩ = some (.slice none 0 0) := RG.cell 5
    have lw5 : wc.cell? ⟨w.heap.size, 5, none⟩ = some (.slice none 0 0) := RW.cell 5
    have fw5 := RW.free 5
    have lg6 : wc.cell? ⟨g, 6, none⟩ = some (.slice none 0 0) := RG.cell 6
    have lw6 : wc.cell? ⟨w.heap.size, 6, none⟩ = some (.slice none 0 0) := RW.cell 6
    have fw6 := RW.free 6
    have lg7 : wc.cell? ⟨g, 7, none⟩ = some (.slice none 0 0) := RG.cell 7
    have lw7 : wc.cell? ⟨w.heap.size, 7, none⟩ = some (.slice none 0 0) := RW.cell 7
    have fw7 := RW.free 7
    have lg8 : wc.cell? ⟨g, 8, none⟩ = some (.slice none 0 0) := RG.cell 8
    have lw8 : wc.cell? ⟨w.heap.size, 8, none⟩ = some (.slice none 0 0) := RW.cell 8
    have fw8 := RW.free 8
    have K9 : Hid (Only [w.heap.size] wc (((((((((wc.setCell ⟨w.heap.size, 0, none⟩ (.int .i64 1)).setCell ⟨w.heap.size, 1, none⟩ (.int .i64 0)).setCell ⟨w.heap.size, 2, none⟩ (.int .i64 0)).setCell ⟨w.heap.size, 3, none⟩ (.int .i64 0)).setCell ⟨w.heap.size, 4, none⟩ (.int .u64 0)).setCell ⟨w.heap.size, 5, none⟩ (.slice none 0 0)).setCell ⟨w.heap.size, 6, none⟩ (.slice none 0 0)).setCell ⟨w.heap.size, 7, none⟩ (.slice none 0 0)).setCell ⟨w.heap.size, 8, none⟩ (.slice none 0 0))) := Lib.hid (((((((((((Only.refl [w.heap.size] wc).setCell (.inl (by simp)) _).setCell (.inl (by simp)) _).setCell (.inl (by simp)) _).setCell (.inl (by simp)) _).setCell (.inl (by simp)) _).setCell (.inl (by simp)) _).setCell (.inl (by simp)) _).setCell (.inl (by simp)) _).setCell (.inl (by simp)) _))
    have R9 : Hid (Row (((((((((wc.setCell ⟨w.heap.size, 0, none⟩ (.int .i64 1)).setCell ⟨w.heap.size, 1, none⟩ (.int .i64 0)).setCell ⟨w.heap.size, 2, none⟩ (.int .i64 0)).setCell ⟨w.heap.size, 3, none⟩ (.int .i64 0)).setCell ⟨w.heap.size, 4, none⟩ (.int .u64 0)).setCell ⟨w.heap.size, 5, none⟩ (.slice none 0 0)).setCell ⟨w.heap.size, 6, none⟩ (.slice none 0 0)).setCell ⟨w.heap.size, 7, none⟩ (.slice none 0 0)).setCell ⟨w.heap.size, 8, none⟩ (.slice none 0 0)) w.heap.size (doneCells 0) tRp) := Lib.hid (by
      have h := (((((((((RW.set 0 (.int .i64 1)).set 1 (.int .i64 0)).set 2 (.int .i64 0)).set 3 (.int .i64 0)).set 4 (.int .u64 0)).set 5 (.slice none 0 0)).set 6 (.slice none 0 0)).set 7 (.slice none 0 0)).set 8 (.slice none 0 0))
      simpa using h)
    have NE : Hid (BegunTo B p ss D F H w (.returned (.agg (doneCells 0))) (((((((((wc.setCell ⟨w.heap.size, 0, none⟩ (.int .i64 1)).setCell ⟨w.heap.size, 1, none⟩ (.int .i64 0)).setCell ⟨w.heap.size, 2, none⟩ (.int .i64 0)).setCell ⟨w.heap.size, 3, none⟩ (.int .i64 0)).setCell ⟨w.heap.size, 4, none⟩ (.int .u64 0)).setCell ⟨w.heap.size, 5, none⟩ (.slice none 0 0)).setCell ⟨w.heap.size, 6, none⟩ (.slice none 0 0)).setCell ⟨w.heap.size, 7, none⟩ (.slice none 0 0)).setCell ⟨w.heap.size, 8, none⟩ (.slice none 0 0))) := Lib.hid (by
      obtain ⟨_, h2, bt, bm, F', h3, h4, h5⟩ := FB.out
      have hz := HH.out.1.lt
      have hs := HH.out.2.2.2.2.1.lt
      have nw := NW.out
      refine ⟨rfl, h2.only K9.out (by simp; omega), bt, bm, F', h3.only K9.out (by
        intro b hb
        simp at hb
        subst hb
        refine ⟨fun hm => ?_, fun hm => ?_⟩
        · rcases h5 _ hm with h6 | h6
          · exact nw (List.mem_cons_of_mem _ h6)
          · have := K3.out.size; have := RR3.out.lt; omega
        · have := hz.2 _ hm; omega), ?_, fun b hb => (h5 b hb).imp id fun h6 => Nat.le_trans K3.out.size h6⟩
      exact ((K3.out.mono (G := ss :: F) (by simp)).trans h4 (by intro i hi; left; exact hi)).trans K9.out (by intro i hi; right; simp at hi; omega))
    clear RG RW SO HF HW BN ZA
    go_wp2_with fail
    refine bodyPost_ret (results_rp_one rfl _ _ w.heap.size (doneCells 0) rfl rfl R9.out) rfl ?_
    exact NE.out
end Go.Proofs.YtcgmgdjeamidlaaGreat
