/- Plain, the document's side: Knn. -/
import Derived.Test.YtmbmkfhdiljalaaGreatRfW
import Derived.Test.YtmbmkfhdiljalaaGreatPlKn
import Derived.Deep.RegionHeld3
namespace Go.Proofs.YtmbmkfhdiljalaaGreat
open Go.RowKit Go.ChangeShapes Go.WideShapes Go.ChangeAt
set_option linter.unusedVariables false
set_option linter.unusedSimpArgs false

theorem knn_r_no {w : World} {B p s : Nat} {D : RDB} (h : RdbAt w B p s D) {t : Int} (hf : findR D.op t = none) (q : Value) (c : Int) : Calls Tryz.prog 34 #[.pointer (some ⟨s, 0, none⟩), .int .u64 t, q, .int .i64 c] w (RefTo (.tuple #[.slice none 0 0, .int .i64 12]) w) := by
  have TH := Lib.hid (find_ref (t := t) h)
  rw [findV_none hf] at TH
  clear h hf
  go_enter Tryz.func34, Tryz.ntmps34
  go_wp2_with fail
  refine TH.out.mono ?_
  rintro _ w2 ⟨rfl, hw⟩
  subst w2
  go_wp2_with fail
  go_ret2
  exact ⟨rfl, Below.refl _ _⟩
theorem knn_r_dim {w : World} {B p s : Nat} {D : RDB} (h : RdbAt w B p s D) {t : Int} {i : Nat} {o : RTx} (hf : findR D.op t = some i) (ho : D.op[i]? = some o) {q : Sl} (hq : q.xs.length ≤ 1000000) (hd : (q.xs.length : Int) ≠ D.dim) (k : Int) :
    Calls Tryz.prog 34 #[.pointer (some ⟨s, 0, none⟩), .int .u64 t, q.v, .int .i64 k] w (RefTo (.tuple #[.slice none 0 0, .int .i64 9]) w) := by
  have TH := Lib.hid (find_ref (t := t) h)
  rw [findV_some hf] at TH
  have c0 : w.cell? ⟨s, 0, none⟩ = some (.int .i64 D.dim) := h.srow.cell 0
  have neq : ((q.xs.length : Int) != D.dim) = true := by simpa using hd
  have neq2 : decide ((q.xs.length : Int) = D.dim) = false := decide_eq_false hd
  have i2 : decide ((i : Int) < 0) = false := decide_eq_false (by omega)
  unfold Sl.v
  generalize q.xs.length = ql at *
  clear h hf ho hd
  go_enter Tryz.func34, Tryz.ntmps34
  go_wp2_with fail
  refine TH.out.mono ?_
  rintro _ w2 ⟨rfl, hw⟩
  subst w2
  go_wp2_with fail
  go_ret2
  exact ⟨rfl, Below.refl _ _⟩
set_option maxRecDepth 100000 in
set_option maxHeartbeats 4000000 in
theorem knn_r_at {w : World} {B p s : Nat} {D : RDB} (h : RdbAt w B p s D) {t : Int} {i : Nat} {o : RTx} (hf : findR D.op t = some i) (ho : D.op[i]? = some o) (hl : o.sees.l.length ≤ 2000) {q : Sl} (hq : SlRd .i32 w q) (hd : (q.xs.length : Int) = D.dim) (h32 : vc.In32 q.xs) (hv32 : ∀ c ∈ o.sees.cs, vc.In32 c.2.1) (k : Int) :
    Calls Tryz.prog 34 #[.pointer (some ⟨s, 0, none⟩), .int .u64 t, q.v, .int .i64 k] w (KnnTo o.sees.cs q.xs k w) := by
  obtain ⟨i0, hi0, hz0, hz1, hz2⟩ := info_parts vc.infoHit
  have TH := Lib.hid (find_ref (t := t) h)
  rw [findV_some hf] at TH
  have HS := Lib.hid (h.sees o (List.mem_of_getElem? ho))
  have c0 : w.cell? ⟨s, 0, none⟩ = some (.int .i64 D.dim) := h.srow.cell 0
  rw [← hd] at c0
  have HQ := Lib.hid hq
  have Q32 := Lib.hid h32
  have V32 : Hid (∀ x ∈ o.sees.l, vc.In32 x.vec.xs) := Lib.hid fun x hx => hv32 x.c (List.mem_map.2 ⟨x, hx, rfl⟩)
  have QL : Hid (q.xs.length ≤ 1000000) := Lib.hid hq.le
  have QV : Hid (q.v = .slice q.a q.xs.length q.c) := Lib.hid rfl
  have neq : (((q.xs.length : Nat) : Int) != (q.xs.length : Int)) = false := by simp
  obtain ⟨g, eg, hcap, hc⟩ := h.at_ ho
  have x1 : w.cell? ⟨g, i * 4 + 1, none⟩ = some o.sees.v := hc 1 (by omega)
  have s2 : w.cell? ⟨s, 2, none⟩ = some (.slice (some ⟨g, 0, none⟩) D.op.length D.oc) := by
    have := h.srow.cell 2
    unfold RDB.ov at this
    rw [eg] at this
    exact this
  have il : i < D.op.length := (List.getElem?_eq_some_iff.1 ho).1
  have i2 : decide ((i : Int) < 0) = false := decide_eq_false (by omega)
  have i3 : (i : Int) < (D.op.length : Int) := by omega
  obtain ⟨a, ha⟩ : ∃ a, o.sees.a = a := ⟨_, rfl⟩
  have HA := Lib.hid ha
  obtain ⟨m, hm⟩ : ∃ m, o.sees.l.length = m := ⟨_, rfl⟩
  have HM := Lib.hid hm
  have HL : Hid (m ≤ 2000) := Lib.hid (by omega)
  unfold Its.v at x1
  rw [hm, ha] at x1
  generalize o.sees.c = c at x1
  generalize D.oc = oc at s2 hcap
  generalize D.op.length = n at s2 hcap il i3
  unfold Sl.v
  clear h hf ho hc eg ha hm hl hq hd h32 hv32
  generalize hql : q.xs.length = ql at c0 neq QV QL
  have HQL := Lib.hid hql
  clear hql
  go_enter Tryz.func34, Tryz.ntmps34
  go_wp2_with fail
  refine TH.out.mono ?_
  rintro _ w1 ⟨rfl, hw⟩
  subst w1
  go_wp2_with fail
  clear neq i2 i3 il hcap x1 s2 c0
  go_loopw [11, 13] (fun u12 u37 wr => ∃ (j : Nat) (pv : Option Addr) (cv : Nat), (u12 = .slice pv j cv ∧ u37 = .int .i64 (j : Int)) ∧ Hid (j ≤ m) ∧ Hid (wr.ownsRow w.heap.size tHit 2 (.slice pv j cv) j (vc.hc ((o.sees.l.take j).map fun x => hitC q.xs x.c))) ∧ Hid (Below w.heap.size w wr)) (fun _ u _ => m - (intOf u).toNat)
  case atStart => exact ⟨0, none, 0, ⟨rfl, rfl⟩, Lib.hid (Nat.zero_le _), Lib.hid (World.ownsRow_nil _ _ _ _), Lib.hid (Below.refl _ _)⟩
  case round =>
    obtain ⟨j, pv, cv, ⟨rfl, rfl⟩, HJ, HO, HBW⟩ := hrel
    rename World => w3
    have e1 : IntKind.i64.wrap ((j : Int) + 1) = ((j + 1 : Nat) : Int) := w_inc _ (by have := HL.out; have := HJ.out; omega)
    have HI3 := Lib.hid (HS.out.below HBW.out)
    by_cases hlt : j < m
    · have d1 : decide ((j : Int) < (m : Int)) = true := decide_eq_true (by omega)
      have d1' : decide (j < m) = true := decide_eq_true hlt
      have j3 : (j : Int) < (m : Int) := by omega
      obtain ⟨x, hx⟩ : ∃ x, o.sees.l[j]? = some x := ⟨_, List.getElem?_eq_getElem (by rw [HM.out]; exact hlt)⟩
      obtain ⟨g2, eg2, hc⟩ := HI3.out.cell hx
      have c1 : w3.cell? ⟨g2, j * 3 + 1, none⟩ = some (.slice x.vec.a x.vec.xs.length x.vec.c) := hc 1 (by omega)
      have C0 : Hid (∀ y, Only [] w3 y → y.cell? ⟨g2, j * 3, none⟩ = some (.int .u64 x.key)) := Lib.hid fun y hy => by
        obtain ⟨g3, eg3, hc3⟩ := (HI3.out.only hy (by simp)).cell hx
        rw [eg2] at eg3
        cases eg3
        exact hc3 0 (by omega)
      have HX := Lib.hid hx
      have XM : Hid (x ∈ o.sees.l) := Lib.hid (List.mem_of_getElem? hx)
      have JM := Lib.hid hlt
      rw [HA.out] at eg2
      subst eg2
      have DI : Hid (∀ y, Only [] w3 y → Calls Tryz.prog 65 #[.slice x.vec.a x.vec.xs.length x.vec.c, .slice q.a ql q.c] y fun e w' => e = .returned (.tuple #[.int .i64 (vc.distF x.vec.xs q.xs), .int .i64 (vc.distE x.vec.xs q.xs)]) ∧ ∃ q, w' = y.drewN q) := Lib.hid fun y hy => by
        have hxv := ((HI3.out.each x XM.out).1.only hy (by simp))
        have hq3 := (HQ.out.only ((Only.refl [] w).below HBW.out) (by simp)).only hy (by simp)
        have := vc.rdist_any x.vec.v q.v x.vec.xs q.xs y hxv.ints hq3.ints (V32.out x XM.out) Q32.out (by have := hxv.le; omega) (by have := hq3.le; omega)
        rw [QV.out] at this
        exact this
      clear hc hx hlt
      go_wp2_with fail
      refine (DI.out w3 (Only.refl [] w3)).mono ?_
      rintro _ w4 ⟨rfl, nq, hw4⟩
      have O4 : Hid (Only [] w3 w4) := Lib.hid (by rw [hw4]; exact (Only.refl [] w3).drewN nq)
      have L4 : Hid (w.heap.size ≤ w4.heap.size) := Lib.hid (Nat.le_trans HBW.out.size O4.out.size)
      have HO4 : Hid (w4.ownsRow w.heap.size tHit 2 (.slice pv j cv) j (vc.hc ((o.sees.l.take j).map fun x => hitC q.xs x.c))) := Lib.hid (own_keep HO.out fun b hb => O4.out.block b (HO.out.lt b hb).2 (by simp))
      have b0 := C0.out w4 O4.out
      generalize hdf : vc.distF x.vec.xs q.xs = df
      have DF := Lib.hid hdf
      clear hdf hw4 c1
      have CE : Hid (∀ k u, [Value.int .u64 x.key, .int .i64 df][k]? = some u → (w4.alloc (.cells #[.int .u64 x.key, .int .i64 df] tHit)).cell? ((⟨w4.heap.size, 0, none⟩ : Addr).add k) = some u) := Lib.hid fun k u hk => by
        rw [add_plain, Nat.zero_add]
        have R := Row.made w4 #[.int .u64 x.key, .int .i64 df] tHit
        have := R.cell k
        rw [this]
        simpa using hk
      go_wp2_with (at_builtin; refine wpList_append_at rfl (.tmp 52) (.tmp 60) 72 rfl w.heap.size tHit i0 _ 2 16 Tryz.underlying72 hi0 hz0 hz1 hz2 rfl (by decide) (.slice pv j cv) j (vc.hc ((o.sees.l.take j).map fun x => hitC q.xs x.c)) rfl (HO4.out.alloc _) ⟨w4.heap.size, 0, none⟩ 1 1 [.int .u64 x.key, .int .i64 df] rfl rfl CE.out (by intro u hu; simp at hu; rcases hu with rfl | rfl <;> rfl) (by have := HL.out; have := HJ.out; unfold maxLen; omega) (by have := HL.out; have := HJ.out; omega) (by have := L4.out; simp; omega) ?more)
      case more =>
        intro v2 w6 hown' hgrow hfr
        have N6 : Hid (Below w.heap.size w w6) := Lib.hid (((HBW.out.trans (O4.out.toBelow HBW.out.size (by simp))).alloc L4.out _).grown hgrow (by have := L4.out; simp; omega) (fun b hb => (HO.out.lt b hb).1))
        obtain ⟨p2, cc2, rfl, _⟩ := own_shape hown'
        have O6 : Hid (w6.ownsRow w.heap.size tHit 2 (.slice p2 (j + 1) cc2) (j + 1) (vc.hc ((o.sees.l.take (j + 1)).map fun x => hitC q.xs x.c))) := Lib.hid (by
          have e : o.sees.l.take (j + 1) = o.sees.l.take j ++ [x] := by rw [List.take_add_one, HX.out]; rfl
          rw [e, List.map_append, List.map_singleton, hc_snoc]
          have : hitC q.xs x.c = (x.key, df) := by unfold hitC It.c; rw [DF.out]
          rw [this]
          have h9 := hown'
          try rw [← List.map_take] at h9
          exact h9)
        clear hown' hgrow hfr b0
        go_wp2_with fail
        go_roundw
        case rel => exact ⟨j + 1, p2, cc2, ⟨rfl, by first | rfl | go_num⟩, Lib.hid (by have := JM.out; omega), O6, N6⟩
        case measure => have := JM.out; simp [intOf]; omega
    · have d1 : decide ((j : Int) < (m : Int)) = false := decide_eq_false (by omega)
      have d1' : decide (j < m) = false := decide_eq_false hlt
      obtain rfl : j = m := by have := HJ.out; omega
      have FI := Lib.hid (vc.rfirst_any j ((o.sees.l.take j).map fun x => hitC q.xs x.c) w3 pv cv k (by rw [List.length_map, List.length_take, HM.out]; omega) (src_of_own (by decide) HO.out) (by have := HL.out; omega))
      clear hlt
      go_wp2_with fail
      refine FI.out.mono ?_
      rintro _ w7 ⟨v, rfl, ho, hb⟩
      have N : Hid (KnnTo o.sees.cs q.xs k w (.returned (.tuple #[v, .int .i64 0])) w7) := Lib.hid (by
        refine ⟨v, rfl, ?_, HBW.out.trans (hb.mono HBW.out.size)⟩
        have e : (o.sees.l.take j).map (fun x => hitC q.xs x.c) = o.sees.cs.map (hitC q.xs) := by
          rw [List.take_of_length_le (by rw [HM.out]; exact Nat.le_refl _)]
          unfold Its.cs
          rw [List.map_map]
          rfl
        rw [← e]
        exact vc.hits_of_own ho)
      obtain ⟨p9, c9, rfl, _⟩ := own_shape ho
      clear ho hb
      go_wp2_with fail
      go_ret2
      exact N.out
end Go.Proofs.YtmbmkfhdiljalaaGreat

/- Plain, the document's side: ref20's calls. -/
namespace Go.Proofs.YtmbmkfhdiljalaaGreat
open Go.RowKit Go.ChangeShapes Go.WideShapes Go.ChangeAt
set_option linter.unusedVariables false
set_option linter.unusedSimpArgs false

theorem begin_r20_full {w : World} {B p s : Nat} {D : RDB} (h : RdbAt w B p s D) (hl : 8 ≤ D.op.length) :
    Calls Tryz.prog 21 #[.pointer (some ⟨p, 0, none⟩)] w fun e w' => e = .returned (.tuple #[.int .u64 0, .int .i64 5]) ∧ w' = w := by
  have c0 : w.cell? ⟨p, 0, none⟩ = some (.pointer (some ⟨s, 0, none⟩)) := h.row.cell 0
  have c2 : w.cell? ⟨s, 2, none⟩ = some D.ov := h.srow.cell 2
  unfold RDB.ov at c2
  have hge : decide ((8 : Int) ≤ ((D.op.length : Nat) : Int)) = true := decide_eq_true (by omega)
  have hge2 : decide (8 ≤ D.op.length) = true := decide_eq_true hl
  generalize D.op.length = m at *
  clear h hl
  go_enter Tryz.func21, Tryz.ntmps21
  go_wp2_with fail
  go_ret2
  exact ⟨rfl, rfl⟩
theorem abort_r20_no {w : World} {B p s : Nat} {D : RDB} (h : RdbAt w B p s D) {t : Int} (hf : findR D.op t = none) :
    Calls Tryz.prog 28 #[.pointer (some ⟨p, 0, none⟩), .int .u64 t] w fun e w' => e = .returned (.int .i64 12) ∧ w' = w := by
  have c0 : w.cell? ⟨p, 0, none⟩ = some (.pointer (some ⟨s, 0, none⟩)) := h.row.cell 0
  have TH := Lib.hid (find_ref (t := t) h)
  rw [findV_none hf] at TH
  clear h hf
  go_enter Tryz.func28, Tryz.ntmps28
  go_wp2_with fail
  refine TH.out.mono ?_
  rintro _ w2 ⟨rfl, hw⟩
  subst w2
  go_wp2_with fail
  go_ret
  exact ⟨rfl, rfl⟩
def Abort20To (B p s : Nat) (D : RDB) (i : Nat) (v : Int) (w : World) (e : Ending) (w' : World) : Prop := e = .returned (.int .i64 v) ∧ ∃ a c, RStep w B p s D (shutR D i a c) w'
theorem abort_r20 {w : World} {B p s : Nat} {D : RDB} (h : RdbAt w B p s D) (hB : B ≤ w.heap.size) {t : Int} {i : Nat} {o : RTx} (hf : findR D.op t = some i) (ho : D.op[i]? = some o) :
    Calls Tryz.prog 28 #[.pointer (some ⟨p, 0, none⟩), .int .u64 t] w (Abort20To B p s D i 0 w) := by
  have c0 : w.cell? ⟨p, 0, none⟩ = some (.pointer (some ⟨s, 0, none⟩)) := h.row.cell 0
  have TH := Lib.hid (find_ref (t := t) h)
  rw [findV_some hf] at TH
  have AB := Lib.hid (abort_r19 h hB hf ho)
  have i2 : decide ((i : Int) < 0) = false := decide_eq_false (by omega)
  clear h hf ho hB
  go_enter Tryz.func28, Tryz.ntmps28
  go_wp2_with fail
  refine TH.out.mono ?_
  rintro _ w2 ⟨rfl, hw⟩
  subst w2
  go_wp2_with fail
  refine AB.out.mono ?_
  rintro _ w2 ⟨rfl, a, c, hst, _⟩
  have N : Hid (Abort20To B p s D i 0 w (.returned (.int .i64 0)) w2) := Lib.hid ⟨rfl, a, c, hst⟩
  clear hst c0
  go_wp2_with fail
  go_ret
  exact N.out
theorem commit_r20_no {w : World} {B p s : Nat} {D : RDB} (h : RdbAt w B p s D) {t : Int} (hf : findR D.op t = none) :
    Calls Tryz.prog 26 #[.pointer (some ⟨p, 0, none⟩), .int .u64 t] w (RefTo (.int .i64 12) w) := by
  have c0 : w.cell? ⟨p, 0, none⟩ = some (.pointer (some ⟨s, 0, none⟩)) := h.row.cell 0
  have TH := Lib.hid (maycommit_no h hf)
  unfold RefTo at TH
  clear h hf
  go_enter Tryz.func26, Tryz.ntmps26
  go_wp2_with fail
  refine TH.out.mono ?_
  rintro _ w2 ⟨rfl, hb⟩
  have HB := Lib.hid hb
  clear hb c0
  go_wp2_with fail
  go_ret
  exact ⟨rfl, HB.out⟩
def Commit20To (B p s : Nat) (D : RDB) (i : Nat) (o : RTx) (w : World) (e : Ending) (w' : World) : Prop := e = .returned (.int .i64 0) ∧ ∃ D', RStep w B p s D D' w' ∧ D'.dim = D.dim ∧ D'.begun = D.begun ∧ D'.done.cs = comL o.sees.cs D.done.cs o.wr ∧ OpsTo o.wr (D.op.take i ++ D.op.drop (i + 1)) D'.op (D.op.take i ++ D.op.drop (i + 1)).length
theorem commit_r20_ok {w : World} {B p s : Nat} {D : RDB} (h : RdbAt w B p s D) (hB : B ≤ w.heap.size) {t : Int} {i : Nat} {o : RTx} (hf : findR D.op t = some i) (ho : D.op[i]? = some o) (hl1 : o.wr.length < 20000) (hl2 : D.done.l.length < 20000) (hl3 : ∀ x ∈ D.op, x.since.xs.length < 40000) (hc : clashB o = false) :
    Calls Tryz.prog 26 #[.pointer (some ⟨p, 0, none⟩), .int .u64 t] w (Commit20To B p s D i o w) := by
  have c0 : w.cell? ⟨p, 0, none⟩ = some (.pointer (some ⟨s, 0, none⟩)) := h.row.cell 0
  have TH := Lib.hid (maycommit_at h hf ho)
  rw [show clashV o = 0 by unfold clashV; rw [hc]; rfl] at TH
  have AB : Hid (∀ y, Below w.heap.size w y → Calls Tryz.prog 56 #[.pointer (some ⟨s, 0, none⟩), .int .u64 t] y (CommitRTo B p s D i o y)) := Lib.hid fun y hy => commit_r19 (h.below hy) (Nat.le_trans hB hy.size) hf ho hl1 hl2 hl3
  have C0 : Hid (∀ y, Below w.heap.size w y → y.cell? ⟨p, 0, none⟩ = some (.pointer (some ⟨s, 0, none⟩))) := Lib.hid fun y hy => (h.below hy).row.cell 0
  unfold RefTo at TH
  clear h hf ho hB hl1 hl2 hl3 hc
  go_enter Tryz.func26, Tryz.ntmps26
  go_wp2_with fail
  refine TH.out.mono ?_
  rintro _ w2 ⟨rfl, hb⟩
  have HB := Lib.hid hb
  have c2 := C0.out w2 hb
  clear hb c0
  go_wp2_with fail
  refine (AB.out w2 HB.out).mono ?_
  rintro _ w3 ⟨rfl, D', h1, h2, h3, h4, h5⟩
  have N : Hid (Commit20To B p s D i o w (.returned (.int .i64 0)) w3) := Lib.hid ⟨rfl, D', RStep.after HB.out h1, h2, h3, h4, h5⟩
  clear h1 h2 h3 h4 h5 c2
  go_wp2_with fail
  go_ret
  exact N.out
theorem commit_r20_clash {w : World} {B p s : Nat} {D : RDB} (h : RdbAt w B p s D) (hB : B ≤ w.heap.size) {t : Int} {i : Nat} {o : RTx} (hf : findR D.op t = some i) (ho : D.op[i]? = some o) (hc : clashB o = true) :
    Calls Tryz.prog 26 #[.pointer (some ⟨p, 0, none⟩), .int .u64 t] w (Abort20To B p s D i 11 w) := by
  have c0 : w.cell? ⟨p, 0, none⟩ = some (.pointer (some ⟨s, 0, none⟩)) := h.row.cell 0
  have TH := Lib.hid (maycommit_at h hf ho)
  rw [show clashV o = 11 by unfold clashV; rw [hc]; rfl] at TH
  have AB : Hid (∀ y, Below w.heap.size w y → Calls Tryz.prog 57 #[.pointer (some ⟨s, 0, none⟩), .int .u64 t] y (AbortRTo B p s D i y)) := Lib.hid fun y hy => abort_r19 (h.below hy) (Nat.le_trans hB hy.size) hf ho
  have C0 : Hid (∀ y, Below w.heap.size w y → y.cell? ⟨p, 0, none⟩ = some (.pointer (some ⟨s, 0, none⟩))) := Lib.hid fun y hy => (h.below hy).row.cell 0
  unfold RefTo at TH
  clear h hf ho hB hc
  go_enter Tryz.func26, Tryz.ntmps26
  go_wp2_with fail
  refine TH.out.mono ?_
  rintro _ w2 ⟨rfl, hb⟩
  have HB := Lib.hid hb
  have c2 := C0.out w2 hb
  clear hb c0
  go_wp2_with fail
  refine (AB.out w2 HB.out).mono ?_
  rintro _ w3 ⟨rfl, a, c, hst, _⟩
  have N : Hid (Abort20To B p s D i 11 w (.returned (.int .i64 11)) w3) := Lib.hid ⟨rfl, a, c, RStep.after HB.out hst⟩
  clear hst c2
  go_wp2_with fail
  go_ret
  exact N.out
theorem delete_r20_no {w : World} {B p s : Nat} {D : RDB} (h : RdbAt w B p s D) {t key : Int} {v : Int} (hv : v ≠ 0) (hm : ∀ y, Below w.heap.size w y → Calls Tryz.prog 53 #[.pointer (some ⟨s, 0, none⟩), .int .u64 t, .int .u64 key] y (RefTo (.int .i64 v) y)) :
    Calls Tryz.prog 25 #[.pointer (some ⟨p, 0, none⟩), .int .u64 t, .int .u64 key] w (RefTo (.int .i64 v) w) := by
  have c0 : w.cell? ⟨p, 0, none⟩ = some (.pointer (some ⟨s, 0, none⟩)) := h.row.cell 0
  have TH := Lib.hid (hm w (Below.refl _ _))
  have n1 : (v == 0) = false := by simpa using hv
  have n2 : decide (v = 0) = false := decide_eq_false hv
  unfold RefTo at TH
  clear h hm hv
  go_enter Tryz.func25, Tryz.ntmps25
  go_wp2_with fail
  refine TH.out.mono ?_
  rintro _ w2 ⟨rfl, hb⟩
  have HB := Lib.hid hb
  clear hb c0
  go_wp2_with fail
  go_ret
  exact ⟨rfl, HB.out⟩
def Wrote20To (B p s : Nat) (D : RDB) (i : Nat) (o : RTx) (cs : List Rc) (key : Int) (w : World) (e : Ending) (w' : World) : Prop := e = .returned (.int .i64 0) ∧ ∃ (I : Its) (a : Option Addr) (c : Nat), I.cs = cs ∧ RStep w B p s D (setR D i { o with sees := I, wa := a, wc := c, wr := o.wr ++ [key] }) w'
theorem delete_r20_ok {w : World} {B p s : Nat} {D : RDB} (h : RdbAt w B p s D) (hB : B ≤ w.heap.size) {t key : Int} {i : Nat} {o : RTx} (hf : findR D.op t = some i) (ho : D.op[i]? = some o) (hl1 : o.sees.l.length < 50000) (hl2 : o.wr.length < 50000) (ha : isAt o.sees.cs (placeC o.sees.cs key) key = true) :
    Calls Tryz.prog 25 #[.pointer (some ⟨p, 0, none⟩), .int .u64 t, .int .u64 key] w (Wrote20To B p s D i o (withoutC o.sees.cs key) key w) := by
  have c0 : w.cell? ⟨p, 0, none⟩ = some (.pointer (some ⟨s, 0, none⟩)) := h.row.cell 0
  have TH := Lib.hid (maydel_at h hf ho key)
  rw [if_pos ha] at TH
  have AB : Hid (∀ y, Below w.heap.size w y → Calls Tryz.prog 54 #[.pointer (some ⟨s, 0, none⟩), .int .u64 t, .int .u64 key] y (DeleteRTo B p s D i o (withoutC o.sees.cs key) key y)) := Lib.hid fun y hy => delete_r19 (h.below hy) (Nat.le_trans hB hy.size) hf ho hl1 hl2 key
  have C0 : Hid (∀ y, Below w.heap.size w y → y.cell? ⟨p, 0, none⟩ = some (.pointer (some ⟨s, 0, none⟩))) := Lib.hid fun y hy => (h.below hy).row.cell 0
  unfold RefTo at TH
  clear h hf ho hB hl1 hl2 ha
  go_enter Tryz.func25, Tryz.ntmps25
  go_wp2_with fail
  refine TH.out.mono ?_
  rintro _ w2 ⟨rfl, hb⟩
  have HB := Lib.hid hb
  have c2 := C0.out w2 hb
  clear hb c0
  go_wp2_with fail
  refine (AB.out w2 HB.out).mono ?_
  rintro _ w3 ⟨I, a, c, rfl, h1, h2⟩
  have N : Hid (Wrote20To B p s D i o (withoutC o.sees.cs key) key w (.returned (.int .i64 0)) w3) := Lib.hid ⟨rfl, I, a, c, h1, RStep.after HB.out h2⟩
  clear h1 h2 c2
  go_wp2_with fail
  go_ret
  exact N.out
set_option maxRecDepth 100000 in
set_option maxHeartbeats 4000000 in
theorem put_r20_no {w : World} {B p s : Nat} {D : RDB} (h : RdbAt w B p s D) {t : Int} {x : It} {v : Int} (hv : v ≠ 0) (hm : mayPutV D t x.vec.xs.length x.tag.xs.length = v) :
    Calls Tryz.prog 23 #[.pointer (some ⟨p, 0, none⟩), .int .u64 t, .agg #[.int .u64 x.key, x.vec.v, x.tag.v]] w (RefTo (.int .i64 v) w) := by
  have n1 : (v == 0) = false := by simpa using hv
  have n2 : decide (v = 0) = false := decide_eq_false hv
  have B1 := Lib.hid ((Below.refl w.heap.size w).alloc (Nat.le_refl _) (.cells #[.int .u64 x.key, .slice x.vec.a x.vec.xs.length x.vec.c, .slice x.tag.a x.tag.xs.length x.tag.c] tIt))
  have R1 := Lib.hid (Row.made w #[.int .u64 x.key, .slice x.vec.a x.vec.xs.length x.vec.c, .slice x.tag.a x.tag.xs.length x.tag.c] tIt)
  have Z1 : Hid ((w.alloc (.cells #[.int .u64 x.key, .slice x.vec.a x.vec.xs.length x.vec.c, .slice x.tag.a x.tag.xs.length x.tag.c] tIt)).heap.size = w.heap.size + 1) := Lib.hid (by simp)
  have H := Lib.hid h
  have MV := Lib.hid hm
  unfold Sl.v
  clear h hv hm
  go_enter Tryz.func23, Tryz.ntmps23
  go_upto_region 1 with fail
  generalize w.alloc (.cells #[.int .u64 x.key, .slice x.vec.a x.vec.xs.length x.vec.c, .slice x.tag.a x.tag.xs.length x.tag.c] 34) = w1 at *
  have L : Hid (∀ y, Below w1.heap.size w1 y → Calls Tryz.prog 51 #[.pointer (some ⟨s, 0, none⟩), .int .u64 t, .agg #[.int .u64 x.key, .slice x.vec.a x.vec.xs.length x.vec.c, .slice x.tag.a x.tag.xs.length x.tag.c]] y (RefTo (.int .i64 v) y)) := Lib.hid fun y hy => by
    have := mayput_on (t := t) (x := x) ((H.out.below B1.out).below hy)
    rw [MV.out] at this
    exact this
  have SO : Hid (∀ y, Below w1.heap.size w1 y → y.cell? ⟨p, 0, none⟩ = some (.pointer (some ⟨s, 0, none⟩)) ∧ y.cell? ⟨w.heap.size, 0, none⟩ = some (.int .u64 x.key) ∧ y.cell? ⟨w.heap.size, 1, none⟩ = some (.slice x.vec.a x.vec.xs.length x.vec.c) ∧ y.cell? ⟨w.heap.size, 2, none⟩ = some (.slice x.tag.a x.tag.xs.length x.tag.c)) := Lib.hid fun y hy => by
    have r := R1.out.only ((Only.refl [] w1).below hy) (by simp)
    exact ⟨((H.out.below B1.out).below hy).row.cell 0, r.cell 0, r.cell 1, r.cell 2⟩
  unfold RefTo at L
  go_region_held3 (fun y => y.cell? ⟨p, 0, none⟩ = some (.pointer (some ⟨s, 0, none⟩)) ∧ y.cell? ⟨w.heap.size, 0, none⟩ = some (.int .u64 x.key) ∧ y.cell? ⟨w.heap.size, 1, none⟩ = some (.slice x.vec.a x.vec.xs.length x.vec.c) ∧ y.cell? ⟨w.heap.size, 2, none⟩ = some (.slice x.tag.a x.tag.xs.length x.tag.c))
    (first
      | exact SO.out _ X2.out
      | exact SO.out _ ((Below.refl _ w1).drew))
    (first | ((with_reducible refine (L.out w1.drew ((Below.refl _ w1).drew)).mono ?_); rintro _ w2 ⟨rfl, h1⟩; have X2 : Hid (Below w1.heap.size w1 w2) := Lib.hid (((Below.refl _ w1).drew).trans h1); clear h1))
  all_goals
    go_wp2_with fail
    go_ret
    exact ⟨rfl, B1.out.trans (X2.out.mono B1.out.size)⟩
set_option maxRecDepth 100000 in
set_option maxHeartbeats 8000000 in
theorem put_r20_ok {w : World} {B p s : Nat} {D : RDB} (h : RdbAt w B p s D) (hB : B ≤ w.heap.size) {t : Int} {i : Nat} {o : RTx} (hf : findR D.op t = some i) (ho : D.op[i]? = some o) (hl1 : o.sees.l.length < 50000) (hl2 : o.wr.length < 50000) (x : It) (h1 : SlRd .i32 w x.vec) (h2 : SlRd .u8 w x.tag) (hm : mayPutV D t x.vec.xs.length x.tag.xs.length = 0) :
    Calls Tryz.prog 23 #[.pointer (some ⟨p, 0, none⟩), .int .u64 t, .agg #[.int .u64 x.key, x.vec.v, x.tag.v]] w (Wrote20To B p s D i o (withC o.sees.cs x.c) x.key w) := by
  have B1 := Lib.hid ((Below.refl w.heap.size w).alloc (Nat.le_refl _) (.cells #[.int .u64 x.key, .slice x.vec.a x.vec.xs.length x.vec.c, .slice x.tag.a x.tag.xs.length x.tag.c] tIt))
  have R1 := Lib.hid (Row.made w #[.int .u64 x.key, .slice x.vec.a x.vec.xs.length x.vec.c, .slice x.tag.a x.tag.xs.length x.tag.c] tIt)
  have Z1 : Hid ((w.alloc (.cells #[.int .u64 x.key, .slice x.vec.a x.vec.xs.length x.vec.c, .slice x.tag.a x.tag.xs.length x.tag.c] tIt)).heap.size = w.heap.size + 1) := Lib.hid (by simp)
  have H := Lib.hid h
  have MV := Lib.hid hm
  have NB : Hid (w.heap.size ∉ D.own p s) := Lib.hid fun hm => by have := h.lt _ hm; omega
  have PU : Hid (∀ y, Below w.heap.size w y → Calls Tryz.prog 52 #[.pointer (some ⟨s, 0, none⟩), .int .u64 t, .agg #[.int .u64 x.key, .slice x.vec.a x.vec.xs.length x.vec.c, .slice x.tag.a x.tag.xs.length x.tag.c]] y (PutRTo B p s D i o (withC o.sees.cs x.c) x.key y)) := Lib.hid fun y hy => put_r19 (h.below hy) (Nat.le_trans hB hy.size) hf ho hl1 hl2 x (h1.only ((Only.refl [] w).below hy) (by simp)) (h2.only ((Only.refl [] w).below hy) (by simp))
  unfold Sl.v
  clear h hB hf ho hl1 hl2 h1 h2 hm
  go_enter Tryz.func23, Tryz.ntmps23
  go_upto_region 1 with fail
  generalize w.alloc (.cells #[.int .u64 x.key, .slice x.vec.a x.vec.xs.length x.vec.c, .slice x.tag.a x.tag.xs.length x.tag.c] 34) = w1 at *
  have L : Hid (∀ y, Below w1.heap.size w1 y → Calls Tryz.prog 51 #[.pointer (some ⟨s, 0, none⟩), .int .u64 t, .agg #[.int .u64 x.key, .slice x.vec.a x.vec.xs.length x.vec.c, .slice x.tag.a x.tag.xs.length x.tag.c]] y (RefTo (.int .i64 0) y)) := Lib.hid fun y hy => by
    have := mayput_on (t := t) (x := x) ((H.out.below B1.out).below hy)
    rw [MV.out] at this
    exact this
  have SO : Hid (∀ y, Below w1.heap.size w1 y → y.cell? ⟨p, 0, none⟩ = some (.pointer (some ⟨s, 0, none⟩)) ∧ y.cell? ⟨w.heap.size, 0, none⟩ = some (.int .u64 x.key) ∧ y.cell? ⟨w.heap.size, 1, none⟩ = some (.slice x.vec.a x.vec.xs.length x.vec.c) ∧ y.cell? ⟨w.heap.size, 2, none⟩ = some (.slice x.tag.a x.tag.xs.length x.tag.c)) := Lib.hid fun y hy => by
    have r := R1.out.only ((Only.refl [] w1).below hy) (by simp)
    exact ⟨((H.out.below B1.out).below hy).row.cell 0, r.cell 0, r.cell 1, r.cell 2⟩
  have SP : Hid (∀ a b D', Below w1.heap.size w1 a → RStep a B p s D D' b → b.cell? ⟨p, 0, none⟩ = some (.pointer (some ⟨s, 0, none⟩)) ∧ b.cell? ⟨w.heap.size, 0, none⟩ = some (.int .u64 x.key) ∧ b.cell? ⟨w.heap.size, 1, none⟩ = some (.slice x.vec.a x.vec.xs.length x.vec.c) ∧ b.cell? ⟨w.heap.size, 2, none⟩ = some (.slice x.tag.a x.tag.xs.length x.tag.c)) := Lib.hid fun a b D' hy hst => by
    have r := (R1.out.only ((Only.refl [] w1).below hy) (by simp)).only hst.only NB.out
    exact ⟨hst.db.row.cell 0, r.cell 0, r.cell 1, r.cell 2⟩
  unfold RefTo at L
  unfold PutRTo at PU
  go_region_held3 (fun y => y.cell? ⟨p, 0, none⟩ = some (.pointer (some ⟨s, 0, none⟩)) ∧ y.cell? ⟨w.heap.size, 0, none⟩ = some (.int .u64 x.key) ∧ y.cell? ⟨w.heap.size, 1, none⟩ = some (.slice x.vec.a x.vec.xs.length x.vec.c) ∧ y.cell? ⟨w.heap.size, 2, none⟩ = some (.slice x.tag.a x.tag.xs.length x.tag.c))
    (first
      | exact SO.out _ X2.out
      | exact SO.out _ ((Below.refl _ w1).drew))
    (first | ((with_reducible refine (L.out w1.drew ((Below.refl _ w1).drew)).mono ?_); rintro _ w2 ⟨rfl, h1⟩; have X2 : Hid (Below w1.heap.size w1 w2) := Lib.hid (((Below.refl _ w1).drew).trans h1); clear h1))
  have q := SO.out _ X2.out
  go_upto_region 3 with fail
  go_region_held3 (fun y => y.cell? ⟨p, 0, none⟩ = some (.pointer (some ⟨s, 0, none⟩)) ∧ y.cell? ⟨w.heap.size, 0, none⟩ = some (.int .u64 x.key) ∧ y.cell? ⟨w.heap.size, 1, none⟩ = some (.slice x.vec.a x.vec.xs.length x.vec.c) ∧ y.cell? ⟨w.heap.size, 2, none⟩ = some (.slice x.tag.a x.tag.xs.length x.tag.c))
    (first
      | exact SP.out _ _ _ (X2.out.drew) X3.out.2
      | exact SO.out _ (X2.out.drew))
    (first | ((with_reducible refine (PU.out w2.drew (B1.out.trans (X2.out.drew.mono B1.out.size))).mono ?_); rintro _ w3 ⟨I, a, c, rfl, h1⟩; have X3 := Lib.hid h1; clear h1))
  all_goals
    go_wp2_with fail
    go_ret
    exact ⟨rfl, I, a, c, X3.out.1, RStep.after (B1.out.trans (X2.out.drew.mono B1.out.size)) X3.out.2⟩
end Go.Proofs.YtmbmkfhdiljalaaGreat

/- Plain: lists by rising keys, and what they show (plain Lean). -/
namespace Go.Proofs.YtmbmkfhdiljalaaGreat
open Go.RowKit Go.ChangeShapes Go.WideShapes Go.ChangeAt
set_option linter.unusedVariables false
set_option linter.unusedSimpArgs false

def Up (L : List Rc) : Prop := L.Pairwise fun a b => a.1 < b.1
/-- A list by rising keys is a function. -/
structure Shows (L : List Rc) (f : Int → Option Rc) : Prop where
  up : Up L
  mem : ∀ c, c ∈ L ↔ f c.1 = some c
  keyed : ∀ k c, f k = some c → c.1 = k
theorem up_unique : ∀ {L M : List Rc}, Up L → Up M → (∀ c, c ∈ L ↔ c ∈ M) → L = M := by
  intro L
  induction L with
  | nil =>
    intro M _ _ h
    cases M with
    | nil => rfl
    | cons b M => exact absurd ((h b).2 (by simp)) (by simp)
  | cons a L ih =>
    intro M hL hM h
    cases M with
    | nil => exact absurd ((h a).1 (by simp)) (by simp)
    | cons b M =>
      have hL' := List.pairwise_cons.1 hL
      have hM' := List.pairwise_cons.1 hM
      have hab : a = b := by
        rcases List.mem_cons.1 ((h a).1 (by simp)) with e | h1
        · exact e
        · rcases List.mem_cons.1 ((h b).2 (by simp)) with e | h2
          · exact e.symm
          · have := hM'.1 a h1
            have := hL'.1 b h2
            omega
      subst hab
      rw [ih hL'.2 hM'.2 fun c => ⟨fun hc => ?_, fun hc => ?_⟩]
      · rcases List.mem_cons.1 ((h c).1 (List.mem_cons_of_mem _ hc)) with e | h1
        · subst e; have := hL'.1 c hc; omega
        · exact h1
      · rcases List.mem_cons.1 ((h c).2 (List.mem_cons_of_mem _ hc)) with e | h1
        · subst e; have := hM'.1 c hc; omega
        · exact h1
theorem Shows.unique {L M : List Rc} {f : Int → Option Rc} (h : Shows L f) (k : Shows M f) : L = M := up_unique h.up k.up fun c => (h.mem c).trans (k.mem c).symm
theorem Shows.congr {L : List Rc} {f g : Int → Option Rc} (h : Shows L f) (e : ∀ k, f k = g k) : Shows L g := by
  have : f = g := funext e
  rwa [this] at h
theorem Shows.nil : Shows [] fun _ => none := ⟨List.Pairwise.nil, by simp, by simp⟩
theorem shows_list {zs : List Int} {f : Int → Option Rc} (hz : zs.Pairwise (· < ·)) (hk : ∀ k c, f k = some c → c.1 = k) (hc : ∀ k, f k ≠ none → k ∈ zs) : Shows (zs.filterMap f) f := by
  refine ⟨?_, fun c => ?_, hk⟩
  · unfold Up
    rw [List.pairwise_filterMap]
    refine hz.imp fun {a b} hab c hc d hd => ?_
    rw [hk a c hc, hk b d hd]
    exact hab
  · rw [List.mem_filterMap]
    constructor
    · rintro ⟨a, _, ha⟩
      rw [hk a c ha]
      exact ha
    · intro h
      exact ⟨c.1, hc c.1 (by rw [h]; simp), h⟩
theorem split_at : ∀ {L : List Rc}, Up L → ∀ k : Int, ∃ A T, L = A ++ T ∧ placeC L k = A.length ∧ (∀ a ∈ A, a.1 < k) ∧ ∀ a ∈ T, k ≤ a.1 := by
  intro L
  induction L with
  | nil => exact fun _ k => ⟨[], [], rfl, rfl, by simp, by simp⟩
  | cons x L ih =>
    intro h k
    obtain ⟨h1, h2⟩ := List.pairwise_cons.1 h
    by_cases hx : x.1 < k
    · obtain ⟨A, T, e, hp, ha, ht⟩ := ih h2 k
      refine ⟨x :: A, T, by rw [e]; rfl, ?_, ?_, ht⟩
      · unfold placeC at hp ⊢
        rw [List.takeWhile_cons, if_pos (by simpa using hx)]
        simp [hp]
      · intro a hm
        rcases List.mem_cons.1 hm with e | hm
        · subst e; exact hx
        · exact ha a hm
    · refine ⟨[], x :: L, rfl, ?_, by simp, fun a hm => ?_⟩
      · unfold placeC
        rw [List.takeWhile_cons, if_neg (by simpa using hx)]
      · rcases List.mem_cons.1 hm with e | hm
        · subst e; omega
        · have := h1 a hm; omega
theorem isAt_app (A T : List Rc) (k : Int) : isAt (A ++ T) A.length k = match T with
    | [] => false
    | y :: _ => decide (y.1 = k) := by
  unfold isAt
  rw [List.getElem?_append_right (Nat.le_refl _), Nat.sub_self]
  cases T with
  | nil => rfl
  | cons y T => rfl
theorem Shows.at_yes {L : List Rc} {f : Int → Option Rc} (h : Shows L f) {k : Int} (ha : isAt L (placeC L k) k = true) : ∃ c, L[placeC L k]? = some c ∧ f k = some c ∧ c.1 = k := by
  obtain ⟨A, T, e, hp, h1, h2⟩ := split_at h.up k
  rw [hp] at ha ⊢
  subst e
  rw [isAt_app] at ha
  cases T with
  | nil => cases ha
  | cons y T =>
    have hy : y.1 = k := by simpa using ha
    refine ⟨y, by rw [List.getElem?_append_right (Nat.le_refl _), Nat.sub_self]; rfl, ?_, hy⟩
    rw [← hy]
    exact (h.mem y).1 (by simp)
theorem Shows.at_no {L : List Rc} {f : Int → Option Rc} (h : Shows L f) {k : Int} (ha : isAt L (placeC L k) k = false) : f k = none := by
  obtain ⟨A, T, e, hp, h1, h2⟩ := split_at h.up k
  rw [hp] at ha
  subst e
  rw [isAt_app] at ha
  cases hf : f k with
  | none => rfl
  | some c =>
    exfalso
    have hk := h.keyed k c hf
    have hm := (h.mem c).2 (by rw [hk]; exact hf)
    rcases List.mem_append.1 hm with hm | hm
    · have := h1 c hm; omega
    · cases T with
      | nil => simp at hm
      | cons y T =>
        have hy : y.1 ≠ k := by simpa using ha
        rcases List.mem_cons.1 hm with e | hm
        · subst e; exact hy hk
        · have h3 := (List.pairwise_append.1 h.up).2.1
          have := (List.pairwise_cons.1 h3).1 c hm
          have := h2 y (by simp)
          omega
theorem Shows.at_iff {L : List Rc} {f : Int → Option Rc} (h : Shows L f) (k : Int) : isAt L (placeC L k) k = true ↔ f k ≠ none := by
  constructor
  · intro ha
    obtain ⟨c, _, hf, _⟩ := h.at_yes ha
    rw [hf]; simp
  · intro hf
    cases ha : isAt L (placeC L k) k with
    | true => rfl
    | false => exact absurd (h.at_no ha) hf
theorem Shows.withC {L : List Rc} {f : Int → Option Rc} (h : Shows L f) (x : Rc) : Shows (withC L x) fun k => if k = x.1 then some x else f k := by
  obtain ⟨A, T, e, hp, h1, h2⟩ := split_at h.up x.1
  have hup := List.pairwise_append.1 (by rw [← e]; exact h.up : (A ++ T).Pairwise fun a b => a.1 < b.1)
  obtain ⟨T', hw, hT, hup2, hlt⟩ : ∃ T', Proofs.YtmbmkfhdiljalaaGreat.withC L x = A ++ x :: T' ∧ (∀ c, c ∈ T' ↔ c ∈ T ∧ c.1 ≠ x.1) ∧ Up T' ∧ ∀ a ∈ T', x.1 < a.1 := by
    have htk : L.take A.length = A := by rw [e]; simp
    have hdr : L.drop A.length = T := by rw [e]; simp
    unfold Proofs.YtmbmkfhdiljalaaGreat.withC nextC
    rw [hp, htk]
    have hat : isAt L A.length x.1 = isAt (A ++ T) A.length x.1 := by rw [← e]
    rw [hat, isAt_app]
    cases T with
    | nil => exact ⟨[], by simp [hdr], by simp, List.Pairwise.nil, by simp⟩
    | cons y T =>
      obtain ⟨hy1, hy2⟩ := List.pairwise_cons.1 hup.2.1
      by_cases hy : y.1 = x.1
      · refine ⟨T, ?_, fun c => ⟨fun hc => ⟨List.mem_cons_of_mem _ hc, ?_⟩, fun ⟨hc, hne⟩ => ?_⟩, hy2, fun a ha => ?_⟩
        · have : L.drop (A.length + 1) = T := by rw [← List.drop_drop, hdr]; rfl
          simp [hy, this]
        · have := hy1 c hc; omega
        · rcases List.mem_cons.1 hc with e | hc
          · subst e; exact absurd hy hne
          · exact hc
        · have := hy1 a ha; omega
      · have hlt : x.1 < y.1 := by have := h2 y (by simp); omega
        refine ⟨y :: T, by simp [hy, hdr], fun c => ⟨fun hc => ⟨hc, ?_⟩, fun ⟨hc, _⟩ => hc⟩, hup.2.1, fun a ha => ?_⟩
        · rcases List.mem_cons.1 hc with e | hc
          · subst e; exact hy
          · have := hy1 c hc; omega
        · rcases List.mem_cons.1 ha with e | ha
          · subst e; exact hlt
          · have := hy1 a ha; omega
  refine ⟨?_, fun c => ?_, fun k c hc => ?_⟩
  · unfold Up
    rw [hw, List.pairwise_append]
    refine ⟨hup.1, List.pairwise_cons.2 ⟨hlt, hup2⟩, fun a ha b hb => ?_⟩
    have := h1 a ha
    rcases List.mem_cons.1 hb with e | hb
    · subst e; exact this
    · have := hlt b hb; omega
  · rw [hw, List.mem_append, List.mem_cons, hT c]
    have hm := h.mem c
    rw [e, List.mem_append] at hm
    by_cases hc : c.1 = x.1
    · rw [if_pos hc]
      constructor
      · rintro (h3 | h3 | h3)
        · have := h1 c h3; omega
        · rw [h3]
        · exact absurd hc h3.2
      · intro h3
        exact .inr (.inl (Option.some.inj h3).symm)
    · rw [if_neg hc, ← hm]
      constructor
      · rintro (h3 | h3 | h3)
        · exact .inl h3
        · subst h3; exact absurd rfl hc
        · exact .inr h3.1
      · rintro (h3 | h3)
        · exact .inl h3
        · exact .inr (.inr ⟨h3, hc⟩)
  · by_cases hk : k = x.1
    · rw [if_pos hk] at hc
      rw [← Option.some.inj hc, hk]
    · rw [if_neg hk] at hc
      exact h.keyed k c hc
theorem Shows.withoutC {L : List Rc} {f : Int → Option Rc} (h : Shows L f) (k : Int) : Shows (withoutC L k) fun j => if j = k then none else f j := by
  unfold Proofs.YtmbmkfhdiljalaaGreat.withoutC
  cases ha : isAt L (placeC L k) k with
  | false =>
    rw [if_neg (by simp)]
    exact h.congr fun j => by
      by_cases hj : j = k
      · rw [if_pos hj, hj]; exact h.at_no ha
      · rw [if_neg hj]
  | true =>
    rw [if_pos rfl]
    obtain ⟨A, T, e, hp, h1, h2⟩ := split_at h.up k
    have hup := List.pairwise_append.1 (by rw [← e]; exact h.up : (A ++ T).Pairwise fun a b => a.1 < b.1)
    rw [hp] at ha ⊢
    have hat : isAt L A.length k = isAt (A ++ T) A.length k := by rw [← e]
    rw [hat, isAt_app] at ha
    cases T with
    | nil => cases ha
    | cons y T =>
      have hy : y.1 = k := by simpa using ha
      have htk : L.take A.length = A := by rw [e]; simp
      have hdr : L.drop (A.length + 1) = T := by rw [e, ← List.drop_drop]; simp
      rw [htk, hdr]
      obtain ⟨hy1, hy2⟩ := List.pairwise_cons.1 hup.2.1
      refine ⟨List.pairwise_append.2 ⟨hup.1, hy2, fun a ha b hb => hup.2.2 a ha b (List.mem_cons_of_mem _ hb)⟩, fun c => ?_, fun j c hc => ?_⟩
      · have hm := h.mem c
        rw [e, List.mem_append, List.mem_cons] at hm
        rw [List.mem_append]
        by_cases hc : c.1 = k
        · rw [if_pos hc]
          constructor
          · rintro (h3 | h3)
            · have := h1 c h3; omega
            · have := hy1 c h3; omega
          · intro h3; cases h3
        · rw [if_neg hc, ← hm]
          constructor
          · rintro (h3 | h3)
            · exact .inl h3
            · exact .inr (.inr h3)
          · rintro (h3 | h3 | h3)
            · exact .inl h3
            · subst h3; exact absurd hy hc
            · exact .inr h3
      · by_cases hj : j = k
        · rw [if_pos hj] at hc; cases hc
        · rw [if_neg hj] at hc; exact h.keyed j c hc
theorem nodup_len : ∀ (l K : List Int), l.Nodup → (∀ x ∈ l, x ∈ K) → l.length ≤ K.length := by
  intro l
  induction l with
  | nil => intro K _ _; simp
  | cons x l ih =>
    intro K hn hs
    obtain ⟨h1, h2⟩ := List.nodup_cons.1 hn
    have hx := hs x (by simp)
    have := ih (K.erase x) h2 fun y hy => (List.mem_erase_of_ne (fun e => h1 (by rw [← e]; exact hy))).2 (hs y (List.mem_cons_of_mem _ hy))
    rw [List.length_erase_of_mem hx] at this
    have := List.length_pos_of_mem hx
    simp only [List.length_cons]
    omega
theorem Up.nodup {L : List Rc} (h : Up L) : (L.map (·.1)).Nodup := by
  unfold List.Nodup
  rw [List.pairwise_map]
  exact h.imp fun hab e => by rw [e] at hab; omega
theorem Shows.len {L : List Rc} {f : Int → Option Rc} (h : Shows L f) {K : List Int} (hK : ∀ k, f k ≠ none → k ∈ K) : L.length ≤ K.length := by
  have := nodup_len (L.map (·.1)) K h.up.nodup fun x hx => by
    obtain ⟨c, hc, rfl⟩ := List.mem_map.1 hx
    exact hK c.1 (by rw [(h.mem c).1 hc]; simp)
  simpa using this
theorem filter_up : ∀ {T : List Rc}, Up T → ∀ hi : Int, (T.filter fun x => decide (x.1 ≤ hi)) = T.takeWhile fun x => decide (x.1 ≤ hi) := by
  intro T
  induction T with
  | nil => intros; rfl
  | cons y T ih =>
    intro h hi
    obtain ⟨h1, h2⟩ := List.pairwise_cons.1 h
    by_cases hy : y.1 ≤ hi
    · rw [List.filter_cons_of_pos (by simpa using hy), List.takeWhile_cons, if_pos (by simpa using hy), ih h2 hi]
    · rw [List.filter_cons_of_neg (by simpa using hy), List.takeWhile_cons, if_neg (by simpa using hy), List.filter_eq_nil_iff]
      intro a ha
      have := h1 a ha
      simp; omega
theorem rangeC_filter {L : List Rc} (h : Up L) (lo hi most : Int) : rangeC L lo hi most = (L.filter (keepR lo hi)).take most.toNat := by
  obtain ⟨A, T, e, hp, h1, h2⟩ := split_at h lo
  have hup := List.pairwise_append.1 (by rw [← e]; exact h : (A ++ T).Pairwise fun a b => a.1 < b.1)
  unfold rangeC
  rw [hp]
  have hdr : L.drop A.length = T := by rw [e]; simp
  rw [hdr, ← filter_up hup.2.1 hi]
  have hf : L.filter (keepR lo hi) = T.filter fun x => decide (x.1 ≤ hi) := by
    rw [e, List.filter_append]
    have ha : A.filter (keepR lo hi) = [] := by
      rw [List.filter_eq_nil_iff]
      intro a ha
      have := h1 a ha
      simp [keepR, this]
    rw [ha, List.nil_append]
    refine List.filter_congr fun a ha => ?_
    have := h2 a ha
    unfold keepR
    rw [Bool.eq_iff_iff]
    simp
    omega
  rw [hf]
theorem Shows.com {S L : List Rc} {g f : Int → Option Rc} (hs : Shows S g) (h : Shows L f) (key : Int) : Shows (comC S L key) fun k => if k = key then g key else f k := by
  cases ha : isAt S (placeC S key) key with
  | true =>
    obtain ⟨c, h1, h2, h3⟩ := hs.at_yes ha
    unfold comC
    rw [h1]
    show Shows (if c.1 = key then Proofs.YtmbmkfhdiljalaaGreat.withC (Proofs.YtmbmkfhdiljalaaGreat.withoutC L key) c else Proofs.YtmbmkfhdiljalaaGreat.withoutC L key) _
    rw [if_pos h3]
    refine ((h.withoutC key).withC c).congr fun k => ?_
    rw [h3]
    by_cases hk : k = key
    · rw [if_pos hk, if_pos hk, h2]
    · rw [if_neg hk, if_neg hk, if_neg hk]
  | false =>
    have h2 := hs.at_no ha
    have e : comC S L key = Proofs.YtmbmkfhdiljalaaGreat.withoutC L key := by
      unfold comC
      unfold isAt at ha
      cases hx : S[placeC S key]? with
      | none => rfl
      | some x =>
        rw [hx] at ha
        have : x.1 ≠ key := by simpa using ha
        simp [this]
    rw [e]
    refine (h.withoutC key).congr fun k => ?_
    by_cases hk : k = key
    · rw [if_pos hk, if_pos hk, h2]
    · rw [if_neg hk, if_neg hk]
theorem Shows.coms {S : List Rc} {g : Int → Option Rc} (hs : Shows S g) : ∀ (keys : List Int) {L : List Rc} {f : Int → Option Rc}, Shows L f → Shows (comL S L keys) fun k => if k ∈ keys then g k else f k := by
  intro keys
  induction keys with
  | nil => intro L f h; exact h.congr fun k => by simp
  | cons a keys ih =>
    intro L f h
    refine (ih (hs.com h a)).congr fun k => ?_
    by_cases h1 : k ∈ keys
    · rw [if_pos h1, if_pos (List.mem_cons_of_mem _ h1)]
    · rw [if_neg h1]
      by_cases h2 : k = a
      · rw [if_pos h2, if_pos (by simp [h2]), h2]
      · rw [if_neg h2, if_neg (by simp [h1, h2])]
end Go.Proofs.YtmbmkfhdiljalaaGreat
