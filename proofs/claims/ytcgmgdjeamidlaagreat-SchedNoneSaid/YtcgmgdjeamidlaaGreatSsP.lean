/- Sessions: begin. -/
import Derived.Test.YtcgmgdjeamidlaaGreatSsO
namespace Go.Proofs.YtcgmgdjeamidlaaGreat
open Go.RowKit Go.ChangeShapes Go.WideShapes Go.ChangeAt
set_option linter.unusedVariables false
set_option linter.unusedSimpArgs false

/-- The interface value of a DB. -/
abbrev baseV (p : Nat) : Value := .iface 24 (.pointer (some ⟨p, 0, none⟩))
abbrev zeroRp : Array Value := #[.int .i64 0, .int .i64 0, .int .i64 0, .int .i64 0, .int .u64 0, .slice none 0 0, .slice none 0 0, .slice none 0 0, .slice none 0 0]
/-- begin of a session that has no transaction, over a DB that takes one more. -/
def BegunTo (B p ss : Nat) (D : PDB) (F H : List Nat) (w : World) (e : Ending) (w' : World) : Prop := e = .returned (.agg (doneCells 0)) ∧ Row w' ss #[baseV p, .int .u64 (D.begun + 1)] tSs ∧ ∃ bt bm F', DbF w' B p (beginP D bt bm) F' H ∧ Only (ss :: F) w w' ∧ Kept F F' w
set_option maxRecDepth 100000 in
set_option maxHeartbeats 4000000 in
theorem sbegin_on {w : World} {B p ss : Nat} {D : PDB} {F H : List Nat} (h : DbF w B p D F H) (hB : B ≤ w.heap.size) (hl : D.op.length < 8) (hb : D.begun < 1000000) (hs : Row w ss #[baseV p, .int .u64 0] tSs) (ha : ss ∉ F ∧ ss ∉ H) (k : Int) :
    Calls Tryz.prog 141 #[.pointer (some ⟨ss, 0, none⟩), .agg (bareCells k)] w (BegunTo B p ss D F H w) := by
  have HH := Lib.hid (And.intro h (And.intro hB (And.intro hl (And.intro hb (And.intro hs ha)))))
  have W1 : Hid (Only [] w ((w.alloc (.cells (bareCells k) tRq)).alloc (.cells zeroRp tRp))) := Lib.hid (((Only.refl [] w).alloc _).alloc _)
  have RR : Hid (Row ((w.alloc (.cells (bareCells k) tRq)).alloc (.cells zeroRp tRp)) (w.heap.size + 1) zeroRp tRp) := Lib.hid (by
    have h := Row.made (w.alloc (.cells (bareCells k) tRq)) zeroRp tRp
    rwa [World.size_alloc] at h)
  have S1 := Lib.hid (hs.only W1.out (by simp))
  have c0 : ((w.alloc (.cells (bareCells k) tRq)).alloc (.cells zeroRp tRp)).cell? ⟨ss, 0, none⟩ = some (baseV p) := S1.out.cell 0
  have c1 : ((w.alloc (.cells (bareCells k) tRq)).alloc (.cells zeroRp tRp)).cell? ⟨ss, 1, none⟩ = some (.int .u64 0) := S1.out.cell 1
  have BG := Lib.hid (begin_on (h.only W1.out (by simp)) (Nat.le_trans hB W1.out.size) hl hb)
  have hm : ∀ w : World, (method 72 24 (.pointer (some ⟨p, 0, none⟩)) "Begin").run Tryz.prog w = .ok (228, .pointer (some ⟨p, 0, none⟩)) w := fun _ => by kernel_rfl
  unfold BeginPTo at BG
  clear h hB hl hb hs ha
  unfold bareCells zeroRp baseV at *
  go_enter Tryz.func141, Tryz.ntmps141
  go_wp2_with fail
  refine BG.out.mono ?_
  generalize (w.alloc (.cells #[.int .i64 k, .int .u64 0, .slice none 0 0, .slice none 0 0, .int .u64 0, .int .u64 0, .int .i64 0, .slice none 0 0, .slice none 0 0, .int .i64 0] tRq)).alloc _ = w1 at *
  rintro _ w2 ⟨bt, bm, F', rfl, hd, hO, hk⟩
  obtain ⟨h, hB, hl, hb, hs, ha1, ha2⟩ := HH.out
  have K12 := Lib.hid hO
  have KK := Lib.hid hk
  have DD := Lib.hid hd
  have NF : Hid (ss ∉ F' ∧ ss ∉ H ∧ w.heap.size + 1 ∉ F ∧ w.heap.size + 1 ∉ F' ∧ ss ≠ w.heap.size + 1 ∧ ss < w.heap.size) := Lib.hid (by
    have e1 := S1.out.lt
    have e2 := hs.lt
    have e3 := RR.out.lt
    have e5 := h.lt.1
    refine ⟨fun hm => ?_, ha2, fun hm => ?_, fun hm => ?_, by omega, e2⟩
    · rcases hk ss hm with h6 | h6
      · exact ha1 h6
      · omega
    · have := e5 _ hm; omega
    · rcases hk _ hm with h6 | h6
      · have := e5 _ h6; omega
      · omega)
  have S2 := Lib.hid (S1.out.only hO ha1)
  have R2 := Lib.hid (RR.out.only hO NF.out.2.2.1)
  have f1 := S2.out.free 1
  have z1 : w2.cell? ⟨ss, 1, none⟩ = some (.int .u64 0) := S2.out.cell 1
  have S3 : Hid (Row (w2.setCell ⟨ss, 1, none⟩ (.int .u64 (D.begun + 1))) ss #[.iface 24 (.pointer (some ⟨p, 0, none⟩)), .int .u64 (D.begun + 1)] tSs) := Lib.hid (by simpa using S2.out.set 1 (.int .u64 (D.begun + 1)))
  have K23 : Hid (Only [ss] w2 (w2.setCell ⟨ss, 1, none⟩ (.int .u64 (D.begun + 1)))) := Lib.hid ((Only.refl [ss] w2).setCell (.inl (by simp)) _)
  have R3 := Lib.hid (R2.out.only K23.out (by simp; exact fun e => NF.out.2.2.2.2.1 e.symm))
  have DN := Lib.hid (done_ok 0 (w2.setCell ⟨ss, 1, none⟩ (.int .u64 (D.begun + 1))))
  unfold doneCells at DN
  clear hd hO hk h hB hl hb hs ha1 ha2 c0 c1 BG
  go_wp2_with fail
  refine DN.out.mono ?_
  generalize w2.setCell ⟨ss, 1, none⟩ (.int .u64 (D.begun + 1)) = w3 at *
  rintro _ w4 ⟨rfl, hb4⟩
  have K34 := Lib.hid ((Only.refl [] w3).below hb4)
  have S4 := Lib.hid (S3.out.only K34.out (by simp))
  have R4 := R3.out.only K34.out (by simp)
  have n0 : w4.cell? ⟨w.heap.size + 1, 0, none⟩ = some (.int .i64 0) := R4.cell 0
  have g0 := R4.free 0
  have n1 : w4.cell? ⟨w.heap.size + 1, 1, none⟩ = some (.int .i64 0) := R4.cell 1
  have g1 := R4.free 1
  have n2 : w4.cell? ⟨w.heap.size + 1, 2, none⟩ = some (.int .i64 0) := R4.cell 2
  have g2 := R4.free 2
  have n3 : w4.cell? ⟨w.heap.size + 1, 3, none⟩ = some (.int .i64 0) := R4.cell 3
  have g3 := R4.free 3
  have n4 : w4.cell? ⟨w.heap.size + 1, 4, none⟩ = some (.int .u64 0) := R4.cell 4
  have g4 := R4.free 4
  have n5 : w4.cell? ⟨w.heap.size + 1, 5, none⟩ = some (.slice none 0 0) := R4.cell 5
  have g5 := R4.free 5
  have n6 : w4.cell? ⟨w.heap.size + 1, 6, none⟩ = some (.slice none 0 0) := R4.cell 6
  have g6 := R4.free 6
  have n7 : w4.cell? ⟨w.heap.size + 1, 7, none⟩ = some (.slice none 0 0) := R4.cell 7
  have g7 := R4.free 7
  have n8 : w4.cell? ⟨w.heap.size + 1, 8, none⟩ = some (.slice none 0 0) := R4.cell 8
  have g8 := R4.free 8
  have K45 : Hid (Only [w.heap.size + 1] w4 (((((((((w4.setCell ⟨w.heap.size + 1, 0, none⟩ (.int .i64 1)).setCell ⟨w.heap.size + 1, 1, none⟩ (.int .i64 0)).setCell ⟨w.heap.size + 1, 2, none⟩ (.int .i64 0)).setCell ⟨w.heap.size + 1, 3, none⟩ (.int .i64 0)).setCell ⟨w.heap.size + 1, 4, none⟩ (.int .u64 0)).setCell ⟨w.heap.size + 1, 5, none⟩ (.slice none 0 0)).setCell ⟨w.heap.size + 1, 6, none⟩ (.slice none 0 0)).setCell ⟨w.heap.size + 1, 7, none⟩ (.slice none 0 0)).setCell ⟨w.heap.size + 1, 8, none⟩ (.slice none 0 0))) := Lib.hid (((((((((((Only.refl [w.heap.size + 1] w4).setCell (.inl (by simp)) _).setCell (.inl (by simp)) _).setCell (.inl (by simp)) _).setCell (.inl (by simp)) _).setCell (.inl (by simp)) _).setCell (.inl (by simp)) _).setCell (.inl (by simp)) _).setCell (.inl (by simp)) _).setCell (.inl (by simp)) _))
  have R5 : Hid (Row (((((((((w4.setCell ⟨w.heap.size + 1, 0, none⟩ (.int .i64 1)).setCell ⟨w.heap.size + 1, 1, none⟩ (.int .i64 0)).setCell ⟨w.heap.size + 1, 2, none⟩ (.int .i64 0)).setCell ⟨w.heap.size + 1, 3, none⟩ (.int .i64 0)).setCell ⟨w.heap.size + 1, 4, none⟩ (.int .u64 0)).setCell ⟨w.heap.size + 1, 5, none⟩ (.slice none 0 0)).setCell ⟨w.heap.size + 1, 6, none⟩ (.slice none 0 0)).setCell ⟨w.heap.size + 1, 7, none⟩ (.slice none 0 0)).setCell ⟨w.heap.size + 1, 8, none⟩ (.slice none 0 0)) (w.heap.size + 1) (doneCells 0) tRp) := Lib.hid (by
    have h := (((((((((R4.set 0 (.int .i64 1)).set 1 (.int .i64 0)).set 2 (.int .i64 0)).set 3 (.int .i64 0)).set 4 (.int .u64 0)).set 5 (.slice none 0 0)).set 6 (.slice none 0 0)).set 7 (.slice none 0 0)).set 8 (.slice none 0 0))
    simpa using h)
  have S5 := Lib.hid (S4.out.only K45.out (by simp; exact NF.out.2.2.2.2.1))
  have NE : Hid (BegunTo B p ss D F H w (.returned (.agg (doneCells 0))) (((((((((w4.setCell ⟨w.heap.size + 1, 0, none⟩ (.int .i64 1)).setCell ⟨w.heap.size + 1, 1, none⟩ (.int .i64 0)).setCell ⟨w.heap.size + 1, 2, none⟩ (.int .i64 0)).setCell ⟨w.heap.size + 1, 3, none⟩ (.int .i64 0)).setCell ⟨w.heap.size + 1, 4, none⟩ (.int .u64 0)).setCell ⟨w.heap.size + 1, 5, none⟩ (.slice none 0 0)).setCell ⟨w.heap.size + 1, 6, none⟩ (.slice none 0 0)).setCell ⟨w.heap.size + 1, 7, none⟩ (.slice none 0 0)).setCell ⟨w.heap.size + 1, 8, none⟩ (.slice none 0 0))) := Lib.hid (by
    have hlt := W1.out.size
    have hz := HH.out.1.lt
    have e1 : Only (ss :: F) w w2 := (W1.out.mono (by simp)).trans (K12.out.mono (G := ss :: F) (by intro i hi; left; exact List.mem_cons_of_mem _ hi)) (by intro i hi; left; exact hi)
    have e2 : Only (ss :: F) w w3 := e1.trans K23.out (by intro i hi; left; simp at hi; subst hi; exact List.mem_cons_self ..)
    have e3 : Only (ss :: F) w w4 := e2.trans K34.out (by simp)
    have e4 := e3.trans K45.out (by intro i hi; right; simp at hi; omega)
    have d3 : DbF w3 B p (beginP D bt bm) F' H := DD.out.only K23.out (by intro b hb; simp at hb; subst hb; exact ⟨NF.out.1, NF.out.2.1⟩)
    have d4 := d3.only K34.out (by simp)
    have d5 := d4.only K45.out (by
      intro b hb
      simp at hb
      subst hb
      exact ⟨NF.out.2.2.2.1, fun hm => by have := hz.2 _ hm; omega⟩)
    exact ⟨rfl, S5.out, bt, bm, F', d5, e4, fun b hb => by
      rcases KK.out b hb with h6 | h6
      · exact .inl h6
      · exact .inr (Nat.le_trans hlt h6)⟩)
  clear R4 hb4 DN
  go_wp2_with fail
  refine bodyPost_ret (results_rp_one rfl _ _ (w.heap.size + 1) (doneCells 0) rfl rfl R5.out) rfl ?_
  exact NE.out
end Go.Proofs.YtcgmgdjeamidlaaGreat
