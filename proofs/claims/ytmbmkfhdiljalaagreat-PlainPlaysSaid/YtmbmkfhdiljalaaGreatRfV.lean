/- Plain, the document's side: Commit (printed by gen_rcommit.py). -/
import Derived.Test.YtmbmkfhdiljalaaGreatMg38
namespace Go.Proofs.YtmbmkfhdiljalaaGreat
open Go.RowKit Go.ChangeShapes Go.WideShapes Go.ChangeAt
set_option linter.unusedVariables false
set_option linter.unusedSimpArgs false

def frCa (x0 x1 x2 x3 x4 x5 x6 x7 x8 x9 x10 x11 x12 x13 x14 x15 x16 x17 x18 x19 x20 x21 x22 x23 x24 x25 x26 x27 x28 x29 x30 x31 x32 x33 x34 x35 x36 x37 x38 x39 x40 x41 x42 x43 x44 x45 x46 x47 x48 x49 x50 x51 x52 x53 x54 x55 x56 x57 x58 x59 x60 x61 x62 x76 x77 x78 x79 x80 x81 x82 x83 x84 x85 x86 x87 x88 x89 x90 x91 x92 x93 x94 x95 x96 x97 x98 x99 x100 x101 x102 x103 x104 : Value) (u : Nat → Value) : Act := ⟨#[x0, x1, x2, x3, x4, x5, x6, x7, x8, x9, x10, x11, x12, x13, x14, x15, x16, x17, x18, x19, x20, x21, x22, x23, x24, x25, x26, x27, x28, x29, x30, x31, x32, x33, x34, x35, x36, x37, x38, x39, x40, x41, x42, x43, x44, x45, x46, x47, x48, x49, x50, x51, x52, x53, x54, x55, x56, x57, x58, x59, x60, x61, x62, u 63, u 64, u 65, u 66, u 67, u 68, u 69, u 70, u 71, u 72, u 73, u 74, u 75, x76, x77, x78, x79, x80, x81, x82, x83, x84, x85, x86, x87, x88, x89, x90, x91, x92, x93, x94, x95, x96, x97, x98, x99, x100, x101, x102, x103, x104], []⟩
def RCa (w0 : World) (B p s bx g2 ms sc q : Nat) (D : RDB) (x : It) : Nat → Value → World → Prop
  | 0, v, _ => v = .pointer (some ⟨s, 0, none⟩)
  | 1, v, _ => v = .pointer (some ⟨s, 0, none⟩)
  | 2, v, _ => v = .pointer (some ⟨s, 0, none⟩)
  | 3, v, _ => v = .pointer (some ⟨s, 1, none⟩)
  | 4, v, _ => v = .slice D.done.a D.done.l.length D.done.c
  | 5, v, _ => v = .pointer (some ⟨bx, 1, none⟩)
  | 6, v, _ => v = .slice (some ⟨g2, 0, none⟩) ms sc
  | 7, v, _ => v = .int .i64 (q : Int)
  | 8, v, _ => v = .pointer (some ⟨g2, q * 3, none⟩)
  | 9, v, _ => v = .agg #[.int .u64 x.key, .slice x.vec.a x.vec.xs.length x.vec.c, .slice x.tag.a x.tag.xs.length x.tag.c]
  | 10, v, w => ∃ K9 : Its, v = K9.v ∧ RsAt w K9 ∧ K9.cs = withC D.done.cs x.c ∧ ∀ b ∈ K9.bs, b ∈ D.done.bs ∨ w0.heap.size ≤ b
  | 11, v, _ => v = .pointer (some ⟨s, 0, none⟩)
  | 12, v, _ => v = .pointer (some ⟨s, 1, none⟩)
  | _, _, _ => True
def SCa (w0 : World) (B p s bx g2 ms sc q : Nat) (D : RDB) (x : It) (_ : Bool) (w : World) : Prop := Only [] w0 w
def ECa (w0 : World) (B p s bx g2 ms sc q : Nat) (D : RDB) (x : It) (w : World) : Prop := ∃ K9 : Its, K9.cs = withC D.done.cs x.c ∧ RStep w0 B p s D { D with done := K9 } w
def KCa (w0 : World) (B p s bx g2 ms sc q : Nat) (D : RDB) (x : It) : Nat → List Nat := fun _ => []
def frCb (x0 x1 x2 x3 x4 x5 x6 x7 x8 x9 x10 x11 x12 x13 x14 x15 x16 x17 x18 x19 x20 x21 x22 x23 x24 x25 x26 x27 x28 x29 x30 x31 x32 x33 x34 x35 x36 x37 x38 x39 x40 x41 x42 x43 x44 x45 x46 x47 x48 x49 x50 x51 x52 x53 x54 x55 x56 x57 x58 x59 x60 x61 x62 x63 x64 x65 x66 x67 x68 x69 x70 x71 x72 x73 x74 x75 x76 x77 x78 x79 x80 x81 x82 x83 x84 : Value) (u : Nat → Value) : Act := ⟨#[x0, x1, x2, x3, x4, x5, x6, x7, x8, x9, x10, x11, x12, x13, x14, x15, x16, x17, x18, x19, x20, x21, x22, x23, x24, x25, x26, x27, x28, x29, x30, x31, x32, x33, x34, x35, x36, x37, x38, x39, x40, x41, x42, x43, x44, x45, x46, x47, x48, x49, x50, x51, x52, x53, x54, x55, x56, x57, x58, x59, x60, x61, x62, x63, x64, x65, x66, x67, x68, x69, x70, x71, x72, x73, x74, x75, x76, x77, x78, x79, x80, x81, x82, x83, x84, u 85, u 86, u 87, u 88, u 89, u 90, u 91, u 92, u 93, u 94, u 95, u 96, u 97, u 98, u 99, u 100, u 101, u 102, u 103, u 104], []⟩
def RCb (w0 : World) (B p s bx g k m oc : Nat) (D : RDB) (z : RTx) (o : RTx) : Nat → Value → World → Prop
  | 0, v, _ => v = .pointer (some ⟨s, 0, none⟩)
  | 1, v, _ => v = .pointer (some ⟨s, 0, none⟩)
  | 2, v, _ => v = .pointer (some ⟨s, 2, none⟩)
  | 3, v, _ => v = .slice (some ⟨g, 0, none⟩) m oc
  | 4, v, _ => v = .int .i64 (k : Int)
  | 5, v, w => w.ownsRow w0.heap.size tU 1 v 0 []
  | 6, v, _ => v = .pointer (some ⟨s, 0, none⟩)
  | 7, v, _ => v = .pointer (some ⟨s, 0, none⟩)
  | 8, v, _ => v = .pointer (some ⟨s, 2, none⟩)
  | 9, v, _ => v = .slice (some ⟨g, 0, none⟩) m oc
  | 10, v, _ => v = .int .i64 (k : Int)
  | 11, v, _ => v = .pointer (some ⟨g, k * 4, none⟩)
  | 12, v, _ => v = .pointer (some ⟨g, k * 4 + 3, none⟩)
  | 13, v, _ => v = .slice z.since.a z.since.xs.length z.since.c
  | 14, v, w => w.ownsRow w0.heap.size tU 1 v z.since.xs.length (z.since.xs.map (Value.int .u64))
  | 15, v, _ => v = .pointer (some ⟨bx, 2, none⟩)
  | 16, v, _ => v = .slice o.wa o.wr.length o.wc
  | 17, v, w => w.ownsRow w0.heap.size tU 1 v (z.since.xs ++ o.wr).length ((z.since.xs ++ o.wr).map (Value.int .u64))
  | 18, v, _ => v = .pointer (some ⟨g, k * 4, none⟩)
  | 19, v, _ => v = .pointer (some ⟨g, k * 4 + 3, none⟩)
  | _, _, _ => True
def SCb (w0 : World) (B p s bx g k m oc : Nat) (D : RDB) (z : RTx) (o : RTx) (_ : Bool) (w : World) : Prop := Only [] w0 w
def ECb (w0 : World) (B p s bx g k m oc : Nat) (D : RDB) (z : RTx) (o : RTx) (w : World) : Prop := ∃ S9 : Sl, S9.xs = z.since.xs ++ o.wr ∧ RStep w0 B p s D (setR D k { z with since := S9 }) w
def KCb (w0 : World) (B p s bx g k m oc : Nat) (D : RDB) (z : RTx) (o : RTx) : Nat → List Nat := fun _ => []
set_option maxRecDepth 100000 in
set_option maxHeartbeats 16000000 in
theorem commit_r19 {w : World} {B p s : Nat} {D : RDB} (h : RdbAt w B p s D) (hB : B ≤ w.heap.size) {t : Int} {i : Nat} {o : RTx} (hf : findR D.op t = some i) (ho : D.op[i]? = some o) (hl1 : o.wr.length < 20000) (hl2 : D.done.l.length < 20000) (hl3 : ∀ x ∈ D.op, x.since.xs.length < 40000) :
    Calls Tryz.prog 56 #[.pointer (some ⟨s, 0, none⟩), .int .u64 t] w (CommitRTo B p s D i o w) := by
  obtain ⟨i0, hi, hz0, hz1, hz2⟩ := info_parts infoU64
  have TH := Lib.hid (find_ref (t := t) h)
  rw [findV_some hf] at TH
  have H := Lib.hid h
  have Z0 := Lib.hid hB
  have HF := Lib.hid hf
  have HO := Lib.hid ho
  have OM : Hid (o ∈ D.op) := Lib.hid (List.mem_of_getElem? ho)
  have WL := Lib.hid hl1
  have DL := Lib.hid hl2
  have SLA := Lib.hid hl3
  have il := (List.getElem?_eq_some_iff.1 ho).1
  obtain ⟨g, eg, hcap, hc⟩ := h.at_ ho
  have s2 : w.cell? ⟨s, 2, none⟩ = some (.slice (some ⟨g, 0, none⟩) D.op.length D.oc) := by
    have := h.srow.cell 2
    unfold RDB.ov at this
    rw [eg] at this
    exact this
  have c0 : w.cell? ⟨g, i * 4, none⟩ = some (.int .u64 o.n) := hc 0 (by omega)
  have c1 : w.cell? ⟨g, i * 4 + 1, none⟩ = some (.slice o.sees.a o.sees.l.length o.sees.c) := hc 1 (by omega)
  have c2 : w.cell? ⟨g, i * 4 + 2, none⟩ = some (.slice o.wa o.wr.length o.wc) := hc 2 (by omega)
  have c3 : w.cell? ⟨g, i * 4 + 3, none⟩ = some (.slice o.since.a o.since.xs.length o.since.c) := hc 3 (by omega)
  have i3 : (i : Int) < (D.op.length : Int) := by omega
  obtain ⟨m, hm⟩ : ∃ m, D.op.length = m := ⟨_, rfl⟩
  have HM := Lib.hid hm
  obtain ⟨oc, hoc⟩ : ∃ oc, D.oc = oc := ⟨_, rfl⟩
  have HOC := Lib.hid hoc
  rw [hm] at il hcap i3 s2
  rw [hoc] at hcap s2
  have sl : s < w.heap.size := h.srow.lt
  have B1 : Hid (Below w.heap.size w (w.alloc (.cells #[.int .u64 o.n, .slice o.sees.a o.sees.l.length o.sees.c, .slice o.wa o.wr.length o.wc, .slice o.since.a o.since.xs.length o.since.c] tRt))) := Lib.hid ((Below.refl _ _).alloc (Nat.le_refl _) _)
  have R1 : Hid (Row (w.alloc (.cells #[.int .u64 o.n, .slice o.sees.a o.sees.l.length o.sees.c, .slice o.wa o.wr.length o.wc, .slice o.since.a o.since.xs.length o.since.c] tRt)) w.heap.size #[.int .u64 o.n, .slice o.sees.a o.sees.l.length o.sees.c, .slice o.wa o.wr.length o.wc, .slice o.since.a o.since.xs.length o.since.c] tRt) := Lib.hid (Row.made w _ _)
  have Z1 : Hid ((w.alloc (.cells #[.int .u64 o.n, .slice o.sees.a o.sees.l.length o.sees.c, .slice o.wa o.wr.length o.wc, .slice o.since.a o.since.xs.length o.since.c] tRt)).heap.size = w.heap.size + 1) := Lib.hid (by simp)
  have AB : Hid (∀ y, Below w.heap.size w y → Calls Tryz.prog 57 #[.pointer (some ⟨s, 0, none⟩), .int .u64 t] y (AbortRTo B p s D i y)) := Lib.hid fun y hb => abort_r19 (h.below hb) (Nat.le_trans hB hb.size) hf ho
  have SNO : Hid (∀ b, o.wv.ownBlock = some b → b ≠ s ∧ b < w.heap.size) := Lib.hid fun b hb => ⟨fun e => by
    have hm := mem_wrB2 OM.out hb
    subst e
    have := h.nd
    simp [RDB.own, hm] at this, ((h.wown o OM.out).lt b hb).2⟩
  have SL0 := Lib.hid sl
  unfold AbortRTo at AB
  clear h hB hf ho hl1 hl2 hl3 hc eg hm hoc
  go_enter Tryz.func56, Tryz.ntmps56
  go_wp2_with fail
  refine TH.out.mono ?_
  rintro _ w2 ⟨rfl, hw⟩
  subst w2
  go_wp2_with fail
  generalize w.alloc (.cells #[.int .u64 o.n, .slice o.sees.a o.sees.l.length o.sees.c, .slice o.wa o.wr.length o.wc, .slice o.since.a o.since.xs.length o.since.c] 59) = w1 at *
  refine (AB.out _ B1.out).mono ?_
  rintro _ w2 ⟨rfl, a1, cc1, hst, hos, hgo⟩
  obtain ⟨D1, hD1⟩ : ∃ D1, shutR D i a1 cc1 = D1 := ⟨_, rfl⟩
  rw [hD1] at hst
  unfold GoneR at hgo
  rw [hD1] at hgo
  have F1 : Hid (D1.done = D.done ∧ D1.dim = D.dim ∧ D1.begun = D.begun ∧ D1.op = D.op.take i ++ D.op.drop (i + 1)) := Lib.hid (by rw [← hD1]; exact ⟨rfl, rfl, rfl, rfl⟩)
  have ST := Lib.hid hst
  have ownlt : ∀ b, b ∈ D1.own p s → b ∈ D.own p s ∨ w1.heap.size ≤ b := hst.own
  have PERS : Hid (∀ y, Only (D1.own p s) w2 y → y.cell? ⟨w.heap.size, 1, none⟩ = some (.slice o.sees.a o.sees.l.length o.sees.c) ∧ y.cell? ⟨w.heap.size, 2, none⟩ = some (.slice o.wa o.wr.length o.wc) ∧ RsAt y o.sees ∧ y.ownsRow B tU 1 o.wv o.wr.length (o.wr.map (Value.int .u64))) := Lib.hid fun y hy => by
    have nb : w.heap.size ∉ D1.own p s := fun hm => by
      rcases ownlt _ hm with h1 | h1
      · have := H.out.lt _ h1; omega
      · have := Z1.out; omega
    have rx := (R1.out.only hos (by simp; have := SL0.out; omega)).only hy nb
    have hr := (H.out.sees o OM.out)
    have nr : ∀ b ∈ o.sees.bs, b ∉ [s] ∧ b ∉ D1.own p s := fun b hb => by
      have h1 : b ∈ D.reads := List.mem_append_right _ (mem_opR OM.out (.inl hb))
      refine ⟨fun hm => ?_, fun hm => ?_⟩
      · simp at hm
        subst hm
        exact H.out.ap _ (by simp [RDB.own]) h1
      · rcases ownlt _ hm with h2 | h2
        · exact H.out.ap _ h2 h1
        · have := H.out.ltr b h1; have := Z1.out; omega
    refine ⟨rx.cell 1, rx.cell 2, ((hr.below B1.out).only hos fun b hb => (nr b hb).1).only hy fun b hb => (nr b hb).2, ?_⟩
    have hw := H.out.wown o OM.out
    refine own_keep hw fun b hb => ?_
    have h1 := SNO.out b hb
    rw [hy.block b (by have := hos.size; have := Z1.out; omega) (hgo o HO.out b hb), hos.block b (by have := Z1.out; omega) (by simpa using h1.1), B1.out.block b h1.2]
  have ZW : Hid (w.heap.size < w2.heap.size) := Lib.hid (by have := hos.size; have := Z1.out; omega)
  clear hst hos hgo hD1 ownlt sl c0 c1 c2 c3 s2
  go_wp2_with fail
  go_loopw [6] (fun u wr => ∃ k : Nat, u = .int .i64 (k : Int) ∧ Hid (k ≤ o.wr.length) ∧ Hid (∃ I : Its, RStep w2 B p s D1 { D1 with done := I } wr ∧ I.cs = comL o.sees.cs D.done.cs (o.wr.take k) ∧ I.l.length ≤ D.done.l.length + k)) (fun u _ => o.wr.length - (intOf u).toNat)
  case atStart => exact ⟨0, rfl, Lib.hid (Nat.zero_le _), Lib.hid ⟨D.done, by rw [show ({ D1 with done := D.done } : RDB) = D1 by rw [← F1.out.1]]; exact RStep.refl ST.out.db, rfl, Nat.le_refl _⟩⟩
  case round =>
    obtain ⟨k, rfl, HK, HR⟩ := hrel
    rename World => w3
    obtain ⟨I, hst, hcs, hil⟩ := HR.out
    have S3 := Lib.hid hst
    have C3 := Lib.hid hcs
    have L3 := Lib.hid hil
    have IL2 : Hid (I.l.length ≤ 45000) := Lib.hid (by have := HK.out; have := WL.out; have := DL.out; omega)
    have P3 := Lib.hid (PERS.out w3 hst.only)
    have b1 := P3.out.1
    have b2 := P3.out.2.1
    have d1 : w3.cell? ⟨s, 1, none⟩ = some (.slice I.a I.l.length I.c) := hst.db.srow.cell 1
    have e1 : IntKind.i64.wrap ((k : Int) + 1) = ((k + 1 : Nat) : Int) := w_inc _ (by have := WL.out; have := HK.out; omega)
    have DI0 : Hid (∀ y, Only [] w3 y → RdbAt y B p s { D1 with done := I }) := Lib.hid fun y hy => S3.out.db.only hy (by simp)
    clear hst hcs hil HR
    by_cases hlt : k < o.wr.length
    · have t1 : decide ((k : Int) < (o.wr.length : Int)) = true := decide_eq_true (by omega)
      have t1' : decide (k < o.wr.length) = true := decide_eq_true hlt
      have j3 : (k : Int) < (o.wr.length : Int) := by omega
      obtain ⟨z, hz⟩ : ∃ z, o.wr[k]? = some z := ⟨_, List.getElem?_eq_getElem hlt⟩
      obtain ⟨wb, ewb, cwb⟩ : ∃ wb, o.wa = some ⟨wb, 0, none⟩ ∧ w3.cell? ⟨wb, k, none⟩ = some (.int .u64 z) := by
        have hw := P3.out.2.2.2
        rcases hw.2 with ⟨_, h0⟩ | ⟨g2, cap, cur, e, _⟩
        · omega
        · have e2 := e
          unfold RTx.wv at e2
          simp only [Value.slice.injEq] at e2
          rw [e] at hw
          refine ⟨g2, e2.1, ?_⟩
          rw [hw.cellAt k (by omega)]
          simp [hz]
      have EWB := Lib.hid ewb
      rw [ewb] at b2
      have HZ := Lib.hid hz
      have KQ := Lib.hid hlt
      have W1 := Lib.hid (without_on (k := z) (S3.out.db.done) (by have := IL2.out; show I.l.length ≤ _; omega))
      unfold ListRTo Its.v at W1
      clear hz hlt ewb
      go_wp2_with fail
      refine W1.out.mono ?_
      rintro _ w5 ⟨J, rfl, h1, h2, h3, h4⟩
      have O5 : Hid (Only [] w3 w5) := Lib.hid ((Only.refl [] w3).below h4)
      have N6 : Hid (RStep w3 B p s { D1 with done := I } { D1 with done := J } (w5.setCell ⟨s, 1, none⟩ J.v)) := Lib.hid (by
        have hl : J.l.length ≤ I.l.length := by
          have e1 : J.l.length = J.cs.length := by simp [Its.cs]
          have e2 : I.l.length = I.cs.length := by simp [Its.cs]
          rw [e1, h2, e2]
          exact withoutC_len _ _
        exact S3.out.db.setDone (Nat.le_trans Z0.out (Nat.le_trans B1.out.size (Nat.le_trans ST.out.only.size S3.out.only.size))) O5.out h1 (fun b hb => (h3 b hb).imp (fun h => List.mem_append_left _ h) id) (by have := IL2.out; omega))
      have J2 : Hid (J.cs = withoutC I.cs z ∧ J.l.length ≤ I.l.length) := Lib.hid ⟨h2, by
          have e1 : J.l.length = J.cs.length := by simp [Its.cs]
          have e2 : I.l.length = I.cs.length := by simp [Its.cs]
          rw [e1, h2, e2]
          exact withoutC_len _ _⟩
      have d5 : w5.cell? ⟨s, 1, none⟩ = some (.slice I.a I.l.length I.c) := (DI0.out w5 O5.out).srow.cell 1
      have f5 : w5.frozen? ⟨s, 1, none⟩ = false := (DI0.out w5 O5.out).srow.free 1
      have S6 : Hid (RStep w2 B p s D1 { D1 with done := J } (w5.setCell ⟨s, 1, none⟩ J.v)) := Lib.hid (S3.out.trans N6.out)
      have P6 : Hid (∀ y, Only [] (w5.setCell ⟨s, 1, none⟩ J.v) y → y.cell? ⟨w.heap.size, 1, none⟩ = some (.slice o.sees.a o.sees.l.length o.sees.c) ∧ RsAt y o.sees) := Lib.hid fun y hy => by
        have := PERS.out y (S6.out.only.trans hy (by simp))
        exact ⟨this.1, this.2.2.1⟩
      have PL := Lib.hid (place_on (k := z) (P6.out _ (Only.refl [] _)).2 (by have := (H.out.fine.ops o OM.out).2.1; omega))
      have c6 := (P6.out _ (Only.refl [] _)).1
      unfold Its.v at S6 P6 PL c6
      clear h1 h2 h3 h4 W1 b1 b2 d1 cwb
      go_wp2_with fail
      generalize w5.setCell ⟨s, 1, none⟩ (.slice J.a J.l.length J.c) = w6 at *
      refine PL.out.mono ?_
      rintro _ w7 ⟨rfl, hw⟩
      subst w7
      obtain ⟨q, hq⟩ : ∃ q, placeC o.sees.cs z = q := ⟨_, rfl⟩
      have HQ := Lib.hid hq
      rw [hq]
      have HLS : Hid (o.sees.cs.length = o.sees.l.length) := Lib.hid (by simp [Its.cs])
      have QM : q ≤ o.sees.l.length := by have := placeC_le o.sees.cs z; rw [hq] at this; simpa [Its.cs] using this
      have NEXT : Hid (∀ y K, RStep w2 B p s D1 { D1 with done := K } y → K.cs = comC o.sees.cs I.cs z → ∃ K : Its, RStep w2 B p s D1 { D1 with done := K } y ∧ K.cs = comL o.sees.cs D.done.cs (o.wr.take (k + 1)) ∧ K.l.length ≤ D.done.l.length + (k + 1)) := Lib.hid fun y K h1 h2 => by
        refine ⟨K, h1, by rw [comL_snoc _ _ _ HZ.out, ← C3.out]; exact h2, ?_⟩
        have e1 : K.l.length = K.cs.length := by simp [Its.cs]
        have e2 : I.l.length = I.cs.length := by simp [Its.cs]
        have := comC_len o.sees.cs I.cs z
        have := L3.out
        rw [e1, h2]
        omega
      clear hq d5 f5
      by_cases hqm : q = o.sees.l.length
      · have NO : Hid (comC o.sees.cs I.cs z = withoutC I.cs z) := Lib.hid (by unfold comC; rw [HQ.out, List.getElem?_eq_none (by rw [HLS.out, hqm]; exact Nat.le_refl _)])
        have q1 : decide ((q : Int) < (o.sees.l.length : Int)) = false := decide_eq_false (by omega)
        have q2 : decide (q < o.sees.l.length) = false := decide_eq_false (by omega)
        clear hqm QM
        go_wp2_with fail
        go_roundw
        case rel => exact ⟨k + 1, by go_num, Lib.hid (by have := KQ.out; omega), Lib.hid (NEXT.out _ J S6.out (by rw [NO.out]; exact J2.out.1))⟩
        case measure => have := KQ.out; simp [intOf]; omega
      · have hql : q < o.sees.l.length := by omega
        have q1 : decide ((q : Int) < (o.sees.l.length : Int)) = true := decide_eq_true (by omega)
        have q2 : decide (q < o.sees.l.length) = true := decide_eq_true hql
        have q3 : (q : Int) < (o.sees.l.length : Int) := by omega
        obtain ⟨x, hx⟩ : ∃ x, o.sees.l[q]? = some x := ⟨_, List.getElem?_eq_getElem hql⟩
        obtain ⟨g2, eg2, hc2⟩ := (P6.out _ (Only.refl [] _)).2.cell hx
        have y0 : w6.cell? ⟨g2, q * 3, none⟩ = some (.int .u64 x.key) := hc2 0 (by omega)
        have EG2 := Lib.hid eg2
        rw [eg2] at c6
        have HX := Lib.hid hx
        have QL : Hid (q < o.sees.l.length) := Lib.hid hql
        clear hc2 hx eg2 hqm QM hql
        by_cases hk : x.key = z
        · have YES : Hid (comC o.sees.cs I.cs z = withC J.cs x.c) := Lib.hid (by unfold comC; rw [HQ.out, cs_get HX.out, J2.out.1]; exact if_pos hk)
          have HKZ := Lib.hid hk
          have SO : Hid (∀ y, Only [] w6 y → y.cell? ⟨s, 1, none⟩ = some (.slice J.a J.l.length J.c) ∧ y.frozen? ⟨s, 1, none⟩ = false ∧ y.cell? ⟨w.heap.size, 1, none⟩ = some (.slice (some ⟨g2, 0, none⟩) o.sees.l.length o.sees.c) ∧ y.cell? ⟨g2, q * 3, none⟩ = some (.int .u64 x.key) ∧ y.cell? ⟨g2, q * 3 + 1, none⟩ = some (.slice x.vec.a x.vec.xs.length x.vec.c) ∧ y.cell? ⟨g2, q * 3 + 2, none⟩ = some (.slice x.tag.a x.tag.xs.length x.tag.c)) := Lib.hid fun y hy => by
            have dd := S6.out.db.only hy (by simp)
            have pp := P6.out y hy
            obtain ⟨g3, eg3, hc3⟩ := pp.2.cell HX.out
            rw [EG2.out] at eg3
            cases eg3
            exact ⟨dd.srow.cell 1, dd.srow.free 1, by rw [← EG2.out]; exact pp.1, hc3 0 (by omega), hc3 1 (by omega), hc3 2 (by omega)⟩
          have CL : Hid (∀ y, Only [] w6 y → Calls Tryz.prog 78 #[.slice J.a J.l.length J.c, .agg #[.int .u64 x.key, .slice x.vec.a x.vec.xs.length x.vec.c, .slice x.tag.a x.tag.xs.length x.tag.c]] y (ListRTo (withC J.cs x.c) J.bs y)) := Lib.hid fun y hy => by
            have dd := S6.out.db.only hy (by simp)
            have pp := (P6.out y hy).2.each x (List.mem_of_getElem? HX.out)
            exact with_on (I := J) (x := x) dd.done (by have := IL2.out; have := J2.out.2; omega) pp.1 pp.2
          unfold ListRTo at CL
          have FIN : Hid (∀ y K, Only [] w6 y → RsAt y K → K.cs = withC J.cs x.c → (∀ b ∈ K.bs, b ∈ J.bs ∨ w6.heap.size ≤ b) → RStep w6 B p s { D1 with done := J } { D1 with done := K } (y.setCell ⟨s, 1, none⟩ K.v)) := Lib.hid fun y K hy hK hc hb =>
            S6.out.db.setDone (Nat.le_trans Z0.out (Nat.le_trans B1.out.size (Nat.le_trans ST.out.only.size S6.out.only.size))) hy hK (fun b h => (hb b h).imp (fun h => List.mem_append_left _ h) id) (by
              have e1 : K.l.length = K.cs.length := by simp [Its.cs]
              have e2 : J.l.length = J.cs.length := by simp [Its.cs]
              have := withC_len J.cs x.c
              have := IL2.out
              have := J2.out.2
              rw [e1, hc]
              omega)
          rw [hk] at y0
          clear hk
          go_upto_region 10 with fail
          clear y0 c6
          refine region_fin_at (by kernel_rfl) 10 [] (frCa _ _ _ _ _ _ _ _ _ _ _ _ _ _ _ _ _ _ _ _ _ _ _ _ _ _ _ _ _ _ _ _ _ _ _ _ _ _ _ _ _ _ _ _ _ _ _ _ _ _ _ _ _ _ _ _ _ _ _ _ _ _ _ _ _ _ _ _ _ _ _ _ _ _ _ _ _ _ _ _ _ _ _ _ _ _ _ _ _ _ _ _) (SCa w6 B p s w.heap.size g2 o.sees.l.length o.sees.c q { D1 with done := J } x) (RCa w6 B p s w.heap.size g2 o.sees.l.length o.sees.c q { D1 with done := J } x) (fun i y y' => Only (KCa w6 B p s w.heap.size g2 o.sees.l.length o.sees.c q { D1 with done := J } x i) y y') (by kernel_rfl) 13 13 (by decide) (by kernel_rfl) (ECa w6 B p s w.heap.size g2 o.sees.l.length o.sees.c q { D1 with done := J } x) ?hfr ?hT rfl ?hS ?hst ?hend
          case hfr =>
            refine fun i o d u v ho => each_op (M := fun _ o => o.dst = some d → (frCa _ _ _ _ _ _ _ _ _ _ _ _ _ _ _ _ _ _ _ _ _ _ _ _ _ _ _ _ _ _ _ _ _ _ _ _ _ _ _ _ _ _ _ _ _ _ _ _ _ _ _ _ _ _ _ _ _ _ _ _ _ _ _ _ _ _ _ _ _ _ _ _ _ _ _ _ _ _ _ _ _ _ _ _ _ _ _ _ _ _ _ _ u).put (some d) v = frCa _ _ _ _ _ _ _ _ _ _ _ _ _ _ _ _ _ _ _ _ _ _ _ _ _ _ _ _ _ _ _ _ _ _ _ _ _ _ _ _ _ _ _ _ _ _ _ _ _ _ _ _ _ _ _ _ _ _ _ _ _ _ _ _ _ _ _ _ _ _ _ _ _ _ _ _ _ _ _ _ _ _ _ _ _ _ _ _ _ _ _ _ (upd u d v)) ?_ i o ho
            refine ⟨?_, ?_, ?_, ?_, ?_, ?_, ?_, ?_, ?_, ?_, ?_, ?_, ?_, ?_, trivial⟩
            all_goals
              intro h
              first
                | (cases h; done)
                | (cases h; rfl)
          case hT =>
            intro i j v y y' hk hne hb k h
            match j, hk, hne, hb, h with
            | 0, _, _, _, h => exact h
            | 1, _, _, _, h => exact h
            | 2, _, _, _, h => exact h
            | 3, _, _, _, h => exact h
            | 4, _, _, _, h => exact h
            | 5, _, _, _, h => exact h
            | 6, _, _, _, h => exact h
            | 7, _, _, _, h => exact h
            | 8, _, _, _, h => exact h
            | 9, _, _, _, h => exact h
            | 10, hk, hne, hb, h =>
              obtain ⟨K9, e, h1, h2, h3⟩ := h
              exact ⟨K9, e, h1.only k (by simp [KCa]), h2, h3⟩
            | 11, _, _, _, h => exact h
            | 12, _, _, _, h => exact h
            | m + 13, _, _, _, h => exact trivial
          case hS =>
            exact (Only.refl [] w6).drew
          case hst =>
            refine each_op ⟨?_, ?_, ?_, ?_, ?_, ?_, ?_, ?_, ?_, ?_, ?_, ?_, ?_, ?_, trivial⟩
            case refine_1 =>
              intro b u y hb1 hb2 hs hd
              have HS := Lib.hid hs
              clear hs hb1 hb2
              unfold frCa
              clear hd 
              go_wp2_with fail
              exact ⟨rfl, _, rfl, fin_no (by decide) ⟨by simpa using HS.out, Only.refl _ _, rfl⟩⟩
            case refine_2 =>
              intro b u y hb1 hb2 hs hd
              have HS := Lib.hid hs
              clear hs hb1 hb2
              unfold frCa
              clear hd 
              go_wp2_with fail
              exact ⟨rfl, _, rfl, fin_no (by decide) ⟨by simpa using HS.out, Only.refl _ _, rfl⟩⟩
            case refine_3 =>
              intro b u y hb1 hb2 hs hd
              have e1 : u 64 = .pointer (some ⟨s, 0, none⟩) := hd 1 (by kernel_rfl)
              have HS := Lib.hid hs
              clear hs hb1 hb2
              unfold frCa
              rw [e1]
              clear hd e1
              go_wp2_with fail
              exact ⟨rfl, _, rfl, fin_no (by decide) ⟨by simpa using HS.out, Only.refl _ _, rfl⟩⟩
            case refine_4 =>
              intro b u y hb1 hb2 hs hd
              have e2 : u 65 = .pointer (some ⟨s, 0, none⟩) := hd 2 (by kernel_rfl)
              have HS := Lib.hid hs
              clear hs hb1 hb2
              unfold frCa
              rw [e2]
              clear hd e2
              go_wp2_with fail
              exact ⟨rfl, _, rfl, fin_no (by decide) ⟨by simpa using HS.out, Only.refl _ _, rfl⟩⟩
            case refine_5 =>
              intro b u y hb1 hb2 hs hd
              have e3 : u 66 = .pointer (some ⟨s, 1, none⟩) := hd 3 (by kernel_rfl)
              have c0 := (SO.out y hs).1
              have HS := Lib.hid hs
              clear hs hb1 hb2
              unfold frCa
              rw [e3]
              clear hd e3
              go_wp2_with fail
              exact ⟨rfl, _, rfl, fin_no (by decide) ⟨by simpa using HS.out, Only.refl _ _, rfl⟩⟩
            case refine_6 =>
              intro b u y hb1 hb2 hs hd
              have HS := Lib.hid hs
              clear hs hb1 hb2
              unfold frCa
              clear hd 
              go_wp2_with fail
              exact ⟨rfl, _, rfl, fin_no (by decide) ⟨by simpa using HS.out, Only.refl _ _, rfl⟩⟩
            case refine_7 =>
              intro b u y hb1 hb2 hs hd
              have e5 : u 68 = .pointer (some ⟨w.heap.size, 1, none⟩) := hd 5 (by kernel_rfl)
              have c0 := (SO.out y hs).2.2.1
              have HS := Lib.hid hs
              clear hs hb1 hb2
              unfold frCa
              rw [e5]
              clear hd e5
              go_wp2_with fail
              exact ⟨rfl, _, rfl, fin_no (by decide) ⟨by simpa using HS.out, Only.refl _ _, rfl⟩⟩
            case refine_8 =>
              intro b u y hb1 hb2 hs hd
              have HS := Lib.hid hs
              clear hs hb1 hb2
              unfold frCa
              clear hd 
              go_wp2_with fail
              exact ⟨rfl, _, rfl, fin_no (by decide) ⟨by simpa using HS.out, Only.refl _ _, rfl⟩⟩
            case refine_9 =>
              intro b u y hb1 hb2 hs hd
              have e6 : u 69 = .slice (some ⟨g2, 0, none⟩) o.sees.l.length o.sees.c := hd 6 (by kernel_rfl)
              have e7 : u 70 = .int .i64 (q : Int) := hd 7 (by kernel_rfl)
              have il := QL.out
              have i3 : (q : Int) < (o.sees.l.length : Int) := by omega
              have HS := Lib.hid hs
              clear hs hb1 hb2
              unfold frCa
              rw [e6, e7]
              clear hd e6 e7
              go_wp2_with fail
              exact ⟨rfl, _, rfl, fin_no (by decide) ⟨by simpa using HS.out, Only.refl _ _, rfl⟩⟩
            case refine_10 =>
              intro b u y hb1 hb2 hs hd
              have e8 : u 71 = .pointer (some ⟨g2, q * 3, none⟩) := hd 8 (by kernel_rfl)
              have r0 := (SO.out y hs).2.2.2.1
              have r1 := (SO.out y hs).2.2.2.2.1
              have r2 := (SO.out y hs).2.2.2.2.2
              have HS := Lib.hid hs
              clear hs hb1 hb2
              unfold frCa
              rw [e8]
              clear hd e8
              go_wp2_with fail
              exact ⟨rfl, _, rfl, fin_no (by decide) ⟨by simpa using HS.out, Only.refl _ _, rfl⟩⟩
            case refine_11 =>
              intro b u y hb1 hb2 hs hd
              have e4 : u 67 = .slice J.a J.l.length J.c := hd 4 (by kernel_rfl)
              have e9 : u 72 = .agg #[.int .u64 x.key, .slice x.vec.a x.vec.xs.length x.vec.c, .slice x.tag.a x.tag.xs.length x.tag.c] := hd 9 (by kernel_rfl)
              have HS := Lib.hid hs
              have L := CL.out y hs
              clear hs hb1 hb2
              unfold frCa
              rw [e4, e9]
              clear hd e4 e9
              go_wp2_with fail
              refine L.mono ?_
              rintro _ y2 ⟨I, rfl, h1, h2, h3, h4⟩
              have N : Hid (Only [] w6 y2) := Lib.hid (HS.out.below h4)
              have N2 : Hid (∃ K9 : Its, I.v = K9.v ∧ RsAt y2 K9 ∧ K9.cs = withC J.cs x.c ∧ ∀ b ∈ K9.bs, b ∈ J.bs ∨ w6.heap.size ≤ b) := Lib.hid ⟨I, rfl, h1, h2, fun b hb => (h3 b hb).imp id (fun h => Nat.le_trans HS.out.size h)⟩
              have N3 : Hid (Only [] y y2) := Lib.hid ((Only.refl [] y).below h4)
              clear h1 h2 h3 h4
              unfold Its.v at N2 ⊢
              go_wp2_with fail
              exact ⟨rfl, _, rfl, fin_no (by decide) ⟨N.out, N3.out, N2.out⟩⟩
            case refine_12 =>
              intro b u y hb1 hb2 hs hd
              have e0 : u 63 = .pointer (some ⟨s, 0, none⟩) := hd 0 (by kernel_rfl)
              have HS := Lib.hid hs
              clear hs hb1 hb2
              unfold frCa
              rw [e0]
              clear hd e0
              go_wp2_with fail
              exact ⟨rfl, _, rfl, fin_no (by decide) ⟨by simpa using HS.out, Only.refl _ _, rfl⟩⟩
            case refine_13 =>
              intro b u y hb1 hb2 hs hd
              have e11 : u 74 = .pointer (some ⟨s, 0, none⟩) := hd 11 (by kernel_rfl)
              have HS := Lib.hid hs
              clear hs hb1 hb2
              unfold frCa
              rw [e11]
              clear hd e11
              go_wp2_with fail
              exact ⟨rfl, _, rfl, fin_no (by decide) ⟨by simpa using HS.out, Only.refl _ _, rfl⟩⟩
            case refine_14 =>
              intro b u y hb1 hb2 hs hd
              have e12 : u 75 = .pointer (some ⟨s, 1, none⟩) := hd 12 (by kernel_rfl)
              obtain ⟨K9, e10, hI, hc, hb⟩ : ∃ K9 : Its, u 73 = K9.v ∧ RsAt y K9 ∧ K9.cs = withC J.cs x.c ∧ ∀ b ∈ K9.bs, b ∈ J.bs ∨ w6.heap.size ≤ b := hd 10 (by kernel_rfl)
              have N : Hid (ECa w6 B p s w.heap.size g2 o.sees.l.length o.sees.c q { D1 with done := J } x (y.setCell ⟨s, 1, none⟩ K9.v)) := Lib.hid ⟨K9, hc, FIN.out y K9 hs hI hc hb⟩
              have c0 := (SO.out y hs).1
              have fz := (SO.out y hs).2.1
              unfold Its.v at e10 N
              unfold frCa
              rw [e12]
              rw [e10]
              clear hd e12 e10 hI hc hb hs hb1 hb2
              go_wp2_with fail
              exact ⟨rfl, rfl, fin_yes rfl N.out⟩
          case hend =>
            intro u y hE
            obtain ⟨K, hc1, hst⟩ := hE
            have N9 := Lib.hid (NEXT.out y K (S6.out.trans hst) (by rw [YES.out]; exact hc1))
            clear hst hc1
            unfold frCa
            go_wp2_with fail
            go_roundw
            case rel => exact ⟨k + 1, by go_num, Lib.hid (by have := KQ.out; omega), Lib.hid N9.out⟩
            case measure => have := KQ.out; simp [intOf]; omega
        · have NO : Hid (comC o.sees.cs I.cs z = withoutC I.cs z) := Lib.hid (by unfold comC; rw [HQ.out, cs_get HX.out]; exact if_neg hk)
          have f1 : (x.key == z) = false := by simpa using hk
          have f2 : decide (x.key = z) = false := decide_eq_false hk
          generalize x.key = zz at y0 f1 f2
          clear hk
          go_wp2_with fail
          go_roundw
          case rel => exact ⟨k + 1, by go_num, Lib.hid (by have := KQ.out; omega), Lib.hid (NEXT.out _ J S6.out (by rw [NO.out]; exact J2.out.1))⟩
          case measure => have := KQ.out; simp [intOf]; omega
    · have t1 : decide ((k : Int) < (o.wr.length : Int)) = false := decide_eq_false (by omega)
      have t1' : decide (k < o.wr.length) = false := decide_eq_false hlt
      have KE : Hid (k = o.wr.length) := Lib.hid (by have := HK.out; omega)
      obtain ⟨D2, hD2⟩ : ∃ D2, ({ D1 with done := I } : RDB) = D2 := ⟨_, rfl⟩
      rw [hD2] at S3
      have F2 : Hid (D2.done.cs = comL o.sees.cs D.done.cs o.wr ∧ D2.dim = D.dim ∧ D2.begun = D.begun ∧ D2.op = D.op.take i ++ D.op.drop (i + 1)) := Lib.hid (by
        rw [← hD2]
        refine ⟨?_, F1.out.2.1, F1.out.2.2.1, F1.out.2.2.2⟩
        have := C3.out
        rw [KE.out, List.take_length] at this
        exact this)
      have SL2 : Hid (∀ x ∈ D2.op, x.since.xs.length < 40000) := Lib.hid fun x hx => by
        rw [F2.out.2.2.2] at hx
        rcases List.mem_append.1 hx with hx | hx
        · exact SLA.out x (List.mem_of_mem_take hx)
        · exact SLA.out x (List.mem_of_mem_drop hx)
      obtain ⟨m2, hm2⟩ : ∃ m2, D2.op.length = m2 := ⟨_, rfl⟩
      have M2 := Lib.hid hm2
      obtain ⟨a2, ha2⟩ : ∃ a2, D2.oa = a2 := ⟨_, rfl⟩
      have A2 := Lib.hid ha2
      obtain ⟨oc2, hoc2⟩ : ∃ oc2, D2.oc = oc2 := ⟨_, rfl⟩
      have OC2 := Lib.hid hoc2
      have N8 : Hid (m2 ≤ 8) := Lib.hid (by rw [← hm2]; exact S3.out.db.fine.len)
      clear hD2 hlt hm2 ha2 hoc2 d1
      go_wp2_with fail
      go_loopw [9] (fun u wr => ∃ j : Nat, u = .int .i64 (j : Int) ∧ Hid (j ≤ m2) ∧ Hid (∃ D3, RStep w2 B p s D1 D3 wr ∧ D3.done = D2.done ∧ D3.dim = D2.dim ∧ D3.begun = D2.begun ∧ D3.oa = a2 ∧ D3.oc = oc2 ∧ OpsTo o.wr D2.op D3.op j)) (fun u _ => m2 - (intOf u).toNat)
      case atStart => exact ⟨0, rfl, Lib.hid (Nat.zero_le _), Lib.hid ⟨D2, S3.out, rfl, rfl, rfl, A2.out, OC2.out, OpsTo.start _ _⟩⟩
      case round =>
        obtain ⟨j, rfl, HJ, HR⟩ := hrel
        rename World => w8
        obtain ⟨D3, hst, h1, h2, h3, h4, h5, h6⟩ := HR.out
        have S8 := Lib.hid hst
        have E8 := Lib.hid (And.intro h1 (And.intro h2 h3))
        have A8 := Lib.hid h4
        have OC8 := Lib.hid h5
        have O8 := Lib.hid h6
        have M8 : Hid (D3.op.length = m2) := Lib.hid (by rw [h6.len]; exact M2.out)
        have OV8 : Hid (D3.ov = .slice a2 m2 oc2) := Lib.hid (by unfold RDB.ov; rw [h4, h5, M8.out])
        have v2 : w8.cell? ⟨s, 2, none⟩ = some (.slice a2 m2 oc2) := by rw [← OV8.out]; exact hst.db.srow.cell 2
        have e2 : IntKind.i64.wrap ((j : Int) + 1) = ((j + 1 : Nat) : Int) := w_inc _ (by have := N8.out; have := HJ.out; omega)
        clear hst h1 h2 h3 h4 h5 h6 HR
        by_cases hjm : j < m2
        · have u1 : decide ((j : Int) < (m2 : Int)) = true := decide_eq_true (by omega)
          have u1' : decide (j < m2) = true := decide_eq_true hjm
          have JM := Lib.hid hjm
          have KL := JM
          obtain ⟨x, hx⟩ : ∃ x, D3.op[j]? = some x := ⟨_, List.getElem?_eq_getElem (by rw [M8.out]; exact hjm)⟩
          obtain ⟨x0, hx0⟩ : ∃ x0, D2.op[j]? = some x0 := ⟨_, List.getElem?_eq_getElem (by rw [M2.out]; exact hjm)⟩
          have SX : Hid (x.since.xs = x0.since.xs ∧ x0.since.xs.length < 40000) := Lib.hid (by
            obtain ⟨x', g1, _, _, _, _, _, g7⟩ := O8.out.at_ j x0 hx0
            rw [hx] at g1
            cases g1
            rw [if_neg (by omega)] at g7
            exact ⟨g7, SL2.out x0 (List.mem_of_getElem? hx0)⟩)
          have SL : Hid (x.since.xs.length < 40000) := Lib.hid (by rw [SX.out.1]; exact SX.out.2)
          have HX := Lib.hid hx
          have HX0 := Lib.hid hx0
          have XM : Hid (x ∈ D3.op) := Lib.hid (List.mem_of_getElem? hx)
          obtain ⟨g3, eg3, _, _⟩ := S8.out.db.at_ hx
          have EG3 := Lib.hid eg3
          rw [A8.out] at eg3
          subst eg3
          have SO : Hid (∀ y, Only [] w8 y → y.cell? ⟨s, 2, none⟩ = some (.slice (some ⟨g3, 0, none⟩) m2 oc2) ∧ y.cell? ⟨g3, j * 4 + 3, none⟩ = some (.slice x.since.a x.since.xs.length x.since.c) ∧ y.cell? ⟨w.heap.size, 2, none⟩ = some (.slice o.wa o.wr.length o.wc) ∧ SrcOf y (.slice x.since.a x.since.xs.length x.since.c) x.since.xs.length 1 (x.since.xs.map (Value.int .u64)) ∧ SrcOf y (.slice o.wa o.wr.length o.wc) o.wr.length 1 (o.wr.map (Value.int .u64)) ∧ y.frozen? ⟨g3, j * 4 + 3, none⟩ = false) := Lib.hid fun y hy => by
            have dd := S8.out.db.only hy (by simp)
            have pp := PERS.out y (S8.out.only.trans hy (by simp))
            obtain ⟨g4, eg4, _, hc4⟩ := dd.at_ HX.out
            rw [EG3.out] at eg4
            cases eg4
            refine ⟨by rw [← OV8.out]; exact dd.srow.cell 2, hc4 3 (by omega), pp.2.1, (dd.since x XM.out).src, own_src pp.2.2.2, ?_⟩
            have ho := dd.oown
            rw [OV8.out, M8.out] at ho
            exact World.ownsRow.frozenAt ho _
          have FIN : Hid (∀ y (S9 : Sl), Only [] w8 y → S9.xs = x.since.xs ++ o.wr → SlAt .u64 y S9 → (∀ b ∈ S9.bs, w8.heap.size ≤ b) → RStep w8 B p s D3 (setR D3 j { x with since := S9 }) (y.setCell ⟨g3, j * 4 + 3, none⟩ S9.v)) := Lib.hid fun y S9 hy hx hS hb =>
            S8.out.db.setOp (Nat.le_trans Z0.out (Nat.le_trans B1.out.size (Nat.le_trans ST.out.only.size S8.out.only.size))) (x := { x with since := S9 }) HX.out rfl 3 S9.v (by omega) rfl (hy.mono (by simp)) ((S8.out.db.only hy (by simp)).wown x XM.out) (.inl rfl) ((S8.out.db.only hy (by simp)).sees x XM.out) (fun b h => .inl (List.mem_append_right _ (mem_opR XM.out (.inl h)))) hS (fun b h => .inr (hb b h)) (fun b h1 h2 => by have := (S8.out.db.wown x XM.out).lt b h1; omega)
              ⟨(S8.out.db.fine.ops x XM.out).2.1, (S8.out.db.fine.ops x XM.out).2.2.1, by rw [hx]; have := SL.out; have := WL.out; simp; omega⟩ EG3.out
          clear hx hx0 hjm
          go_upto_region 14 with fail
          clear v2
          refine region_fin_at (by kernel_rfl) 10 [(14, 5), (17, 5), (17, 14)] (frCb _ _ _ _ _ _ _ _ _ _ _ _ _ _ _ _ _ _ _ _ _ _ _ _ _ _ _ _ _ _ _ _ _ _ _ _ _ _ _ _ _ _ _ _ _ _ _ _ _ _ _ _ _ _ _ _ _ _ _ _ _ _ _ _ _ _ _ _ _ _ _ _ _ _ _ _ _ _ _ _ _ _ _ _ _) (SCb w8 B p s w.heap.size g3 j m2 oc2 D3 x o) (RCb w8 B p s w.heap.size g3 j m2 oc2 D3 x o) (fun i y y' => i = 14 ∨ i = 17 ∨ Only [] y y') (by kernel_rfl) 20 20 (by decide) (by kernel_rfl) (ECb w8 B p s w.heap.size g3 j m2 oc2 D3 x o) ?hfr ?hT rfl ?hS ?hst ?hend
          case hfr =>
            refine fun i o d u v ho => each_op (M := fun _ o => o.dst = some d → (frCb _ _ _ _ _ _ _ _ _ _ _ _ _ _ _ _ _ _ _ _ _ _ _ _ _ _ _ _ _ _ _ _ _ _ _ _ _ _ _ _ _ _ _ _ _ _ _ _ _ _ _ _ _ _ _ _ _ _ _ _ _ _ _ _ _ _ _ _ _ _ _ _ _ _ _ _ _ _ _ _ _ _ _ _ _ u).put (some d) v = frCb _ _ _ _ _ _ _ _ _ _ _ _ _ _ _ _ _ _ _ _ _ _ _ _ _ _ _ _ _ _ _ _ _ _ _ _ _ _ _ _ _ _ _ _ _ _ _ _ _ _ _ _ _ _ _ _ _ _ _ _ _ _ _ _ _ _ _ _ _ _ _ _ _ _ _ _ _ _ _ _ _ _ _ _ _ (upd u d v)) ?_ i o ho
            refine ⟨?_, ?_, ?_, ?_, ?_, ?_, ?_, ?_, ?_, ?_, ?_, ?_, ?_, ?_, ?_, ?_, ?_, ?_, ?_, ?_, ?_, trivial⟩
            all_goals
              intro h
              first
                | (cases h; done)
                | (cases h; rfl)
          case hT =>
            intro i j v y y' hk hne hb k h
            match j, hk, hne, hb, h with
            | 0, _, _, _, h => exact h
            | 1, _, _, _, h => exact h
            | 2, _, _, _, h => exact h
            | 3, _, _, _, h => exact h
            | 4, _, _, _, h => exact h
            | 5, hk, hne, hb, h =>
              rcases k with rfl | rfl | k
              · simp at hk
              · simp at hk
              · exact own_keep h fun b hb => k.block b (h.lt b hb).2 (by simp)
            | 6, _, _, _, h => exact h
            | 7, _, _, _, h => exact h
            | 8, _, _, _, h => exact h
            | 9, _, _, _, h => exact h
            | 10, _, _, _, h => exact h
            | 11, _, _, _, h => exact h
            | 12, _, _, _, h => exact h
            | 13, _, _, _, h => exact h
            | 14, hk, hne, hb, h =>
              rcases k with rfl | rfl | k
              · exact absurd rfl hne
              · simp at hk
              · exact own_keep h fun b hb => k.block b (h.lt b hb).2 (by simp)
            | 15, _, _, _, h => exact h
            | 16, _, _, _, h => exact h
            | 17, hk, hne, hb, h =>
              rcases k with rfl | rfl | k
              · exact absurd hb (by decide)
              · exact absurd rfl hne
              · exact own_keep h fun b hb => k.block b (h.lt b hb).2 (by simp)
            | 18, _, _, _, h => exact h
            | 19, _, _, _, h => exact h
            | m + 20, _, _, _, h => exact trivial
          case hS =>
            exact (Only.refl [] w8).drew
          case hst =>
            refine each_op ⟨?_, ?_, ?_, ?_, ?_, ?_, ?_, ?_, ?_, ?_, ?_, ?_, ?_, ?_, ?_, ?_, ?_, ?_, ?_, ?_, ?_, trivial⟩
            case refine_1 =>
              intro b u y hb1 hb2 hs hd
              have HS := Lib.hid hs
              clear hs hb1 hb2
              unfold frCb
              clear hd 
              go_wp2_with fail
              exact ⟨rfl, _, rfl, fin_no (by decide) ⟨by simpa using HS.out, Only.refl _ _, rfl⟩⟩
            case refine_2 =>
              intro b u y hb1 hb2 hs hd
              have e0 : u 85 = .pointer (some ⟨s, 0, none⟩) := hd 0 (by kernel_rfl)
              have HS := Lib.hid hs
              clear hs hb1 hb2
              unfold frCb
              rw [e0]
              clear hd e0
              go_wp2_with fail
              exact ⟨rfl, _, rfl, fin_no (by decide) ⟨by simpa using HS.out, Only.refl _ _, rfl⟩⟩
            case refine_3 =>
              intro b u y hb1 hb2 hs hd
              have e1 : u 86 = .pointer (some ⟨s, 0, none⟩) := hd 1 (by kernel_rfl)
              have HS := Lib.hid hs
              clear hs hb1 hb2
              unfold frCb
              rw [e1]
              clear hd e1
              go_wp2_with fail
              exact ⟨rfl, _, rfl, fin_no (by decide) ⟨by simpa using HS.out, Only.refl _ _, rfl⟩⟩
            case refine_4 =>
              intro b u y hb1 hb2 hs hd
              have e2 : u 87 = .pointer (some ⟨s, 2, none⟩) := hd 2 (by kernel_rfl)
              have c0 := (SO.out y hs).1
              have HS := Lib.hid hs
              clear hs hb1 hb2
              unfold frCb
              rw [e2]
              clear hd e2
              go_wp2_with fail
              exact ⟨rfl, _, rfl, fin_no (by decide) ⟨by simpa using HS.out, Only.refl _ _, rfl⟩⟩
            case refine_5 =>
              intro b u y hb1 hb2 hs hd
              have HS := Lib.hid hs
              clear hs hb1 hb2
              unfold frCb
              clear hd 
              go_wp2_with fail
              exact ⟨rfl, _, rfl, fin_no (by decide) ⟨by simpa using HS.out, Only.refl _ _, rfl⟩⟩
            case refine_6 =>
              intro b u y hb1 hb2 hs hd
              have HS := Lib.hid hs
              clear hs hb1 hb2
              unfold frCb
              clear hd 
              go_wp2_with fail
              exact ⟨rfl, _, rfl, fin_no (by decide) ⟨HS.out.alloc _, (Only.refl [] y).alloc _, own_mono (World.ownsRow_lit y #[] 0 (Nat.le_refl _) (by simp) rfl) HS.out.size⟩⟩
            case refine_7 =>
              intro b u y hb1 hb2 hs hd
              have HS := Lib.hid hs
              clear hs hb1 hb2
              unfold frCb
              clear hd 
              go_wp2_with fail
              exact ⟨rfl, _, rfl, fin_no (by decide) ⟨by simpa using HS.out, Only.refl _ _, rfl⟩⟩
            case refine_8 =>
              intro b u y hb1 hb2 hs hd
              have e6 : u 91 = .pointer (some ⟨s, 0, none⟩) := hd 6 (by kernel_rfl)
              have HS := Lib.hid hs
              clear hs hb1 hb2
              unfold frCb
              rw [e6]
              clear hd e6
              go_wp2_with fail
              exact ⟨rfl, _, rfl, fin_no (by decide) ⟨by simpa using HS.out, Only.refl _ _, rfl⟩⟩
            case refine_9 =>
              intro b u y hb1 hb2 hs hd
              have e7 : u 92 = .pointer (some ⟨s, 0, none⟩) := hd 7 (by kernel_rfl)
              have HS := Lib.hid hs
              clear hs hb1 hb2
              unfold frCb
              rw [e7]
              clear hd e7
              go_wp2_with fail
              exact ⟨rfl, _, rfl, fin_no (by decide) ⟨by simpa using HS.out, Only.refl _ _, rfl⟩⟩
            case refine_10 =>
              intro b u y hb1 hb2 hs hd
              have e8 : u 93 = .pointer (some ⟨s, 2, none⟩) := hd 8 (by kernel_rfl)
              have c0 := (SO.out y hs).1
              have HS := Lib.hid hs
              clear hs hb1 hb2
              unfold frCb
              rw [e8]
              clear hd e8
              go_wp2_with fail
              exact ⟨rfl, _, rfl, fin_no (by decide) ⟨by simpa using HS.out, Only.refl _ _, rfl⟩⟩
            case refine_11 =>
              intro b u y hb1 hb2 hs hd
              have HS := Lib.hid hs
              clear hs hb1 hb2
              unfold frCb
              clear hd 
              go_wp2_with fail
              exact ⟨rfl, _, rfl, fin_no (by decide) ⟨by simpa using HS.out, Only.refl _ _, rfl⟩⟩
            case refine_12 =>
              intro b u y hb1 hb2 hs hd
              have e9 : u 94 = .slice (some ⟨g3, 0, none⟩) m2 oc2 := hd 9 (by kernel_rfl)
              have e10 : u 95 = .int .i64 (j : Int) := hd 10 (by kernel_rfl)
              have il := KL.out
              have i3 : (j : Int) < (m2 : Int) := by omega
              have HS := Lib.hid hs
              clear hs hb1 hb2
              unfold frCb
              rw [e9, e10]
              clear hd e9 e10
              go_wp2_with fail
              exact ⟨rfl, _, rfl, fin_no (by decide) ⟨by simpa using HS.out, Only.refl _ _, rfl⟩⟩
            case refine_13 =>
              intro b u y hb1 hb2 hs hd
              have e11 : u 96 = .pointer (some ⟨g3, j * 4, none⟩) := hd 11 (by kernel_rfl)
              have HS := Lib.hid hs
              clear hs hb1 hb2
              unfold frCb
              rw [e11]
              clear hd e11
              go_wp2_with fail
              exact ⟨rfl, _, rfl, fin_no (by decide) ⟨by simpa using HS.out, Only.refl _ _, rfl⟩⟩
            case refine_14 =>
              intro b u y hb1 hb2 hs hd
              have e12 : u 97 = .pointer (some ⟨g3, j * 4 + 3, none⟩) := hd 12 (by kernel_rfl)
              have c0 := (SO.out y hs).2.1
              have HS := Lib.hid hs
              clear hs hb1 hb2
              unfold frCb
              rw [e12]
              clear hd e12
              go_wp2_with fail
              exact ⟨rfl, _, rfl, fin_no (by decide) ⟨by simpa using HS.out, Only.refl _ _, rfl⟩⟩
            case refine_15 =>
              intro b u y hb1 hb2 hs hd
              have e13 : u 98 = .slice x.since.a x.since.xs.length x.since.c := hd 13 (by kernel_rfl)
              have h5 : y.ownsRow w8.heap.size tU 1 (u 90) 0 [] := hd 5 (by kernel_rfl)
              have HS : Hid (Only [] w8 y) := Lib.hid hs
              have SR := (SO.out y hs).2.2.2.1
              have GE := fun b hb => (h5.lt b hb).1
              unfold frCb
              rw [e13]
              clear hd e13 hs hb1 hb2
              refine wpList_append_src rfl (.tmp 90) (.tmp 98) 54 rfl w8.heap.size tU i0 _ 1 8 Tryz.underlying54 hi hz0 hz1 hz2 rfl (by decide) _ 0 [] rfl h5 _ x.since.xs.length (x.since.xs.map (Value.int .u64)) rfl SR (by intro u hu; obtain ⟨n, _, rfl⟩ := List.mem_map.1 hu; rfl) (by have := SL.out; unfold maxLen; omega) (by have := SL.out; omega) HS.out.size ?_
              intro v' y2 hown' hgrow
              replace hgrow : y.grownBy y2 (u 90).ownBlock := hgrow
              refine ⟨rfl, _, rfl, fin_no (by decide) ⟨?_, .inl rfl, ?_⟩⟩
              · exact HS.out.grown hgrow fun b hb => .inr (GE b hb)
              · show y2.ownsRow _ _ _ _ _ _
                simpa using hown'
            case refine_16 =>
              intro b u y hb1 hb2 hs hd
              have HS := Lib.hid hs
              clear hs hb1 hb2
              unfold frCb
              clear hd 
              go_wp2_with fail
              exact ⟨rfl, _, rfl, fin_no (by decide) ⟨by simpa using HS.out, Only.refl _ _, rfl⟩⟩
            case refine_17 =>
              intro b u y hb1 hb2 hs hd
              have e15 : u 100 = .pointer (some ⟨w.heap.size, 2, none⟩) := hd 15 (by kernel_rfl)
              have c0 := (SO.out y hs).2.2.1
              have HS := Lib.hid hs
              clear hs hb1 hb2
              unfold frCb
              rw [e15]
              clear hd e15
              go_wp2_with fail
              exact ⟨rfl, _, rfl, fin_no (by decide) ⟨by simpa using HS.out, Only.refl _ _, rfl⟩⟩
            case refine_18 =>
              intro b u y hb1 hb2 hs hd
              have e16 : u 101 = .slice o.wa o.wr.length o.wc := hd 16 (by kernel_rfl)
              have h14 : y.ownsRow w8.heap.size tU 1 (u 99) x.since.xs.length (x.since.xs.map (Value.int .u64)) := hd 14 (by kernel_rfl)
              have HS : Hid (Only [] w8 y) := Lib.hid hs
              have SR := (SO.out y hs).2.2.2.2.1
              have GE := fun b hb => (h14.lt b hb).1
              unfold frCb
              rw [e16]
              clear hd e16 hs hb1 hb2
              refine wpList_append_src rfl (.tmp 99) (.tmp 101) 54 rfl w8.heap.size tU i0 _ 1 8 Tryz.underlying54 hi hz0 hz1 hz2 rfl (by decide) _ x.since.xs.length (x.since.xs.map (Value.int .u64)) rfl h14 _ o.wr.length (o.wr.map (Value.int .u64)) rfl SR (by intro u hu; obtain ⟨n, _, rfl⟩ := List.mem_map.1 hu; rfl) (by have := SL.out; have := WL.out; unfold maxLen; omega) (by have := SL.out; have := WL.out; omega) HS.out.size ?_
              intro v' y2 hown' hgrow
              replace hgrow : y.grownBy y2 (u 99).ownBlock := hgrow
              refine ⟨rfl, _, rfl, fin_no (by decide) ⟨?_, .inr (.inl rfl), ?_⟩⟩
              · exact HS.out.grown hgrow fun b hb => .inr (GE b hb)
              · show y2.ownsRow _ _ _ _ _ _
                simpa using hown'
            case refine_19 =>
              intro b u y hb1 hb2 hs hd
              have e3 : u 88 = .slice (some ⟨g3, 0, none⟩) m2 oc2 := hd 3 (by kernel_rfl)
              have e4 : u 89 = .int .i64 (j : Int) := hd 4 (by kernel_rfl)
              have il := KL.out
              have i3 : (j : Int) < (m2 : Int) := by omega
              have HS := Lib.hid hs
              clear hs hb1 hb2
              unfold frCb
              rw [e3, e4]
              clear hd e3 e4
              go_wp2_with fail
              exact ⟨rfl, _, rfl, fin_no (by decide) ⟨by simpa using HS.out, Only.refl _ _, rfl⟩⟩
            case refine_20 =>
              intro b u y hb1 hb2 hs hd
              have e18 : u 103 = .pointer (some ⟨g3, j * 4, none⟩) := hd 18 (by kernel_rfl)
              have HS := Lib.hid hs
              clear hs hb1 hb2
              unfold frCb
              rw [e18]
              clear hd e18
              go_wp2_with fail
              exact ⟨rfl, _, rfl, fin_no (by decide) ⟨by simpa using HS.out, Only.refl _ _, rfl⟩⟩
            case refine_21 =>
              intro b u y hb1 hb2 hs hd
              have e19 : u 104 = .pointer (some ⟨g3, j * 4 + 3, none⟩) := hd 19 (by kernel_rfl)
              have h17 : y.ownsRow w8.heap.size tU 1 (u 102) (x.since.xs ++ o.wr).length ((x.since.xs ++ o.wr).map (Value.int .u64)) := hd 17 (by kernel_rfl)
              obtain ⟨S9, e17, hx, hS, hb⟩ := SlAt.of_own h17 (by have := SL.out; have := WL.out; simp; omega)
              have N : Hid (ECb w8 B p s w.heap.size g3 j m2 oc2 D3 x o (y.setCell ⟨g3, j * 4 + 3, none⟩ S9.v)) := Lib.hid ⟨S9, hx, FIN.out y S9 hs hx hS hb⟩
              have c0 := (SO.out y hs).2.1
              have fz := (SO.out y hs).2.2.2.2.2
              unfold Sl.v at e17 N
              unfold frCb
              rw [e19]
              rw [e17]
              clear hd e19 e17 hx hS hb h17 hs hb1 hb2
              go_wp2_with fail
              exact ⟨rfl, rfl, fin_yes rfl N.out⟩
          case hend =>
            intro u y hE
            obtain ⟨S9, hx9, hst⟩ := hE
            have N9 : Hid (∃ D3, RStep w2 B p s D1 D3 y ∧ D3.done = D2.done ∧ D3.dim = D2.dim ∧ D3.begun = D2.begun ∧ D3.oa = some ⟨g3, 0, none⟩ ∧ D3.oc = oc2 ∧ OpsTo o.wr D2.op D3.op (j + 1)) := Lib.hid ⟨_, S8.out.trans hst, E8.out.1, E8.out.2.1, E8.out.2.2, EG3.out, OC8.out, O8.out.step HX.out (fun x1 hx1 => by rw [HX0.out] at hx1; cases hx1; rw [hx9, SX.out.1])⟩
            clear hst hx9
            unfold frCb
            go_wp2_with fail
            go_roundw
            case rel => exact ⟨j + 1, by go_num, Lib.hid (by have := JM.out; omega), Lib.hid N9.out⟩
            case measure => have := JM.out; simp [intOf]; omega
        · have u1 : decide ((j : Int) < (m2 : Int)) = false := decide_eq_false (by omega)
          have u1' : decide (j < m2) = false := decide_eq_false hjm
          have N : Hid (CommitRTo B p s D i o w (.returned (.tuple #[])) w8) := Lib.hid (by
            have hj : j = m2 := by have := HJ.out; omega
            refine ⟨rfl, D3, RStep.after B1.out (ST.out.trans S8.out), by rw [E8.out.2.1]; exact F2.out.2.1, by rw [E8.out.2.2]; exact F2.out.2.2.1, by rw [E8.out.1]; exact F2.out.1, ?_⟩
            have h6 := O8.out
            rw [F2.out.2.2.2] at h6
            have hl : (D.op.take i ++ D.op.drop (i + 1)).length = j := by rw [hj, ← M2.out, F2.out.2.2.2]
            rw [hl]
            exact h6)
          clear hjm
          go_wp2_with fail
          refine bodyPost_ret (results_none rfl _ _ _) rfl ?_
          exact N.out
end Go.Proofs.YtmbmkfhdiljalaaGreat
