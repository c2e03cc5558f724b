/- Plain, the document's side: a step of the DB; ref20's Begin. -/
import Derived.Test.YtmbmkfhdiljalaaGreatMg33
import Derived.Deep.RegionHeld3
import Derived.Test.YtmbmkfhdiljalaaGreatInw
namespace Go.Proofs.YtmbmkfhdiljalaaGreat
open Go.RowKit Go.ChangeShapes Go.WideShapes Go.ChangeAt
set_option linter.unusedVariables false
set_option linter.unusedSimpArgs false

/-- The DB has become another one, at the same place. -/
structure RStep (w : World) (B p s : Nat) (D D' : RDB) (w' : World) : Prop where
  db : RdbAt w' B p s D'
  only : Only (D.own p s) w w'
  own : Kept (D.own p s) (D'.own p s) w
  reads : Kept D.reads D'.reads w
theorem RStep.trans {w w1 w2 : World} {B p s : Nat} {D D1 D2 : RDB} (h : RStep w B p s D D1 w1) (k : RStep w1 B p s D1 D2 w2) : RStep w B p s D D2 w2 :=
  ⟨k.db, only_trans h.only k.only h.own, h.own.trans k.own h.only.size, h.reads.trans k.reads h.only.size⟩
theorem RStep.below {w w1 w2 : World} {B p s : Nat} {D D1 : RDB} (h : RStep w B p s D D1 w1) (k : Below w1.heap.size w1 w2) : RStep w B p s D D1 w2 :=
  ⟨h.db.below k, h.only.below k, h.own, h.reads⟩
theorem RStep.after {w w1 w2 : World} {B p s : Nat} {D D1 : RDB} (k : Below w.heap.size w w1) (h : RStep w1 B p s D D1 w2) : RStep w B p s D D1 w2 :=
  ⟨h.db, ((Only.refl _ w).below k).trans h.only (fun i hi => .inl hi), fun b hb => (h.own b hb).imp id (fun h1 => Nat.le_trans k.size h1), fun b hb => (h.reads b hb).imp id (fun h1 => Nat.le_trans k.size h1)⟩
theorem RStep.refl {w : World} {B p s : Nat} {D : RDB} (h : RdbAt w B p s D) : RStep w B p s D D w :=
  ⟨h, Only.refl _ w, Kept.refl _ _, Kept.refl _ _⟩
/-- The DB anew, out of its parts. -/
theorem RdbAt.renew {w w' : World} {B p s : Nat} {D D' : RDB} (h : RdbAt w B p s D) (hB : B ≤ w.heap.size)
    (row : Row w' p #[.pointer (some ⟨s, 0, none⟩), .int .u64 D'.begun] tRd) (srow : Row w' s #[.int .i64 D'.dim, D'.done.v, D'.ov] tSd)
    (oown : w'.ownsRow B tRt 4 D'.ov D'.op.length (txL D'.op)) (wown : ∀ o ∈ D'.op, w'.ownsRow B tU 1 o.wv o.wr.length (o.wr.map (Value.int .u64)))
    (done : RsAt w' D'.done) (sees : ∀ o ∈ D'.op, RsAt w' o.sees) (since : ∀ o ∈ D'.op, SlAt .u64 w' o.since)
    (nd : (D'.own p s).Nodup) (ho : Kept (D.own p s) (D'.own p s) w) (hr : Kept D.reads D'.reads w) (hd : ∀ b ∈ D'.own p s, w.heap.size ≤ b → b ∉ D'.reads) (fine : D'.Fine) (hk : Only (D.own p s) w w') :
    RStep w B p s D D' w' :=
  ⟨⟨row, srow, oown, wown, done, sees, since, nd, fun b hb => (ho b hb).elim (h.ge b) (Nat.le_trans hB), fun b hb => (hr b hb).elim (h.gr b) (Nat.le_trans hB), fun b hb hm => by
    rcases ho b hb with h1 | h1
    · have hlt := h.lt b h1
      rcases hr b hm with h2 | h2
      · exact h.ap b h1 h2
      · omega
    · exact hd b hb h1 hm, fine⟩, hk, ho, hr⟩
def begR (D : RDB) (n : Int) (I : Its) (a : Option Addr) (c : Nat) : RDB := { D with oa := a, oc := c, op := D.op ++ [⟨n, I, none, 0, [], Sl.no⟩] }
theorem ov_of (a : Option Addr) (n c : Nat) : (Value.slice a n c).ownBlock = a.map (·.block) := by cases a <;> rfl
theorem RdbAt.begun {w w' : World} {B p s : Nat} {D : RDB} {n : Int} {e : Ending} (h : RdbAt w B p s D) (hB : B ≤ w.heap.size) (hn : 0 < n ∧ n ≤ D.begun) (hl : D.op.length < 8) (k : BegRTo B s D n w e w') :
    e = .returned (.tuple #[]) ∧ ∃ I a c, I.cs = D.done.cs ∧ RStep w B p s D (begR D n I a c) w' := by
  obtain ⟨he, ho, v, ⟨u, hv, hu, hf⟩, hrow⟩ := k
  have hG : ∀ b ∈ s :: D.ov.ownBlock.toList, b ∈ D.own p s := by
    intro b hb
    simp only [List.mem_cons] at hb
    rcases hb with rfl | hb
    · simp [RDB.own]
    · simp [RDB.own, hb]
  have hrd : ∀ b ∈ D.reads, b ∉ s :: D.ov.ownBlock.toList := fun b hb hm => h.ap b (hG b hm) hb
  have ko : Only (D.own p s) w w' := ho.mono fun b hb => .inl (hG b hb)
  obtain ⟨I, rfl, hI1, hI2, hI3⟩ := RsAt.of_own hu rfl (fun x hx => ⟨(h.done.each x hx).1.only ho fun b hb => hrd b (List.mem_append_left _ (List.mem_append_right _ (List.mem_flatMap.2 ⟨x, hx, List.mem_append_left _ hb⟩))), (h.done.each x hx).2.only ho fun b hb => hrd b (List.mem_append_left _ (List.mem_append_right _ (List.mem_flatMap.2 ⟨x, hx, List.mem_append_right _ hb⟩)))⟩)
  obtain ⟨a, c, rfl, hc⟩ := own_shape hv
  have hIb : ∀ b ∈ I.bs, b ∈ D.reads ∨ w.heap.size ≤ b := by
    intro b hb
    rcases List.mem_append.1 hb with hb | hb
    · cases ha : I.a with
      | none => rw [ha] at hb; simp at hb
      | some ad => rw [ha] at hb; simp at hb; subst hb; exact .inr (hI3 ad ha)
    · rw [hI1] at hb
      exact .inl (List.mem_append_left _ (List.mem_append_right _ hb))
  have hIo : I.v.ownBlock = I.a.map (·.block) := ov_of _ _ _
  have hnd := h.nd
  have hns : D.ov.ownBlock ≠ some s := fun e => by
    simp [RDB.own, e] at hnd
  have hnp : p ≠ s := fun e => by simp [RDB.own, e] at hnd
  have hvo : ∀ g, (Value.slice a (D.op.length + 1) c).ownBlock = some g → D.ov.ownBlock = some g ∨ w.heap.size ≤ g := fun g hg => by
    rcases hf with h1 | h1
    · exact .inl (by rw [← h1, hg])
    · exact .inr (h1 g hg).1
  have own' : (begR D n I a c).own p s = p :: s :: ((Value.slice a (D.op.length + 1) c).ownBlock.toList ++ wrB2 D.op) := by
    simp [begR, RDB.own, RDB.ov, wrB2, RTx.wv, Value.ownBlock]
  have rd' : ∀ b, b ∈ (begR D n I a c).reads ↔ b ∈ D.reads ∨ b ∈ I.bs := by
    intro b
    simp [begR, RDB.reads, opR, Sl.bs, Sl.no]
    constructor
    · rintro (h1 | h1 | h1) <;> simp [h1]
    · rintro ((h1 | h1) | h1) <;> simp [h1]
  have e2 : (begR D n I a c).op.length = D.op.length + 1 := by simp [begR]
  have e3 : (begR D n I a c).ov = .slice a (D.op.length + 1) c := by unfold RDB.ov; rw [e2]; rfl
  refine ⟨he, I, a, c, by unfold Its.cs; rw [hI1], ?_⟩
  refine h.renew hB (h.row.only ho ?_) (by rw [e3]; exact hrow) ?_ ?_ (h.done.only ho fun b hb => hrd b (List.mem_append_left _ hb)) ?_ ?_ ?_ ?_ ?_ ?_ ?_ ko
  · simp
    refine ⟨hnp, fun e => ?_⟩
    simp [RDB.own, e] at hnd
  · have e : txL (begR D n I a c).op = txL D.op ++ TxRow n I.v := by
      show txL (D.op ++ _) = _
      rw [txL_append]
      rfl
    rw [e]
    rw [e2, e3]
    exact hv
  · intro o hm
    rcases List.mem_append.1 (show o ∈ D.op ++ _ from hm) with hm | hm
    · refine own_keep (h.wown o hm) fun g hg => ho.block g ((h.wown o hm).lt g hg).2 fun hx => ?_
      have hw := mem_wrB2 hm hg
      simp only [List.mem_cons, Option.mem_toList] at hx
      rcases hx with rfl | hx
      · have := hnd; simp [RDB.own, hw] at this
      · have := hnd; simp [RDB.own, hx, hw] at this
    · simp at hm
      subst hm
      exact World.ownsRow_nil _ _ _ _
  · intro o hm
    rcases List.mem_append.1 (show o ∈ D.op ++ _ from hm) with hm | hm
    · exact (h.sees o hm).only ho fun b hb => hrd b (List.mem_append_right _ (mem_opR hm (.inl hb)))
    · simp at hm
      subst hm
      exact hI2
  · intro o hm
    rcases List.mem_append.1 (show o ∈ D.op ++ _ from hm) with hm | hm
    · exact (h.since o hm).only ho fun b hb => hrd b (List.mem_append_right _ (mem_opR hm (.inr hb)))
    · simp at hm
      subst hm
      exact SlAt.no _ _
  · rw [own']
    have hnd2 : (p :: s :: (D.ov.ownBlock.toList ++ wrB2 D.op)).Nodup := hnd
    cases hb : (Value.slice a (D.op.length + 1) c).ownBlock with
    | none =>
      simp only [Option.toList_none, List.nil_append]
      refine List.Nodup.sublist ?_ hnd2
      exact ((List.sublist_append_right _ _).cons_cons _).cons_cons _
    | some g =>
      rcases hvo g hb with h1 | h1
      · rw [h1] at hnd2; exact hnd2
      · have hlt : ∀ b ∈ p :: s :: (D.ov.ownBlock.toList ++ wrB2 D.op), b ≠ g := fun b hm e => by have := h.lt b hm; omega
        have h2 : (p :: s :: wrB2 D.op).Nodup := List.Nodup.sublist (((List.sublist_append_right _ _).cons_cons _).cons_cons _) hnd2
        have hp := hlt p (by simp)
        have hs := hlt s (by simp)
        have hw : g ∉ wrB2 D.op := fun hm => hlt g (by simp [hm]) rfl
        simp only [Option.toList_some, List.singleton_append, List.nodup_cons, List.mem_cons, not_or] at h2 ⊢
        exact ⟨⟨h2.1.1, hp, h2.1.2⟩, ⟨hs, h2.2.1⟩, hw, h2.2.2⟩
  · intro b hb
    rw [own'] at hb
    simp only [List.mem_cons, List.mem_append, Option.mem_toList] at hb
    rcases hb with rfl | rfl | hb | hb
    · exact .inl (by simp [RDB.own])
    · exact .inl (by simp [RDB.own])
    · rcases hvo b hb with h1 | h1
      · exact .inl (by simp [RDB.own, h1])
      · exact .inr h1
    · exact .inl (by simp [RDB.own, hb])
  · intro b hb
    rcases (rd' b).1 hb with hb | hb
    · exact .inl hb
    · exact hIb b hb
  · intro b hb hge hm
    rw [own'] at hb
    have hbv : (Value.slice a (D.op.length + 1) c).ownBlock = some b := by
      simp only [List.mem_cons, List.mem_append, Option.mem_toList] at hb
      rcases hb with rfl | rfl | hb | hb
      · have := h.row.lt; omega
      · have := h.srow.lt; omega
      · exact hb
      · have := h.lt b (by simp [RDB.own, hb]); omega
    rcases (rd' b).1 hm with h1 | h1
    · have := h.ltr b h1; omega
    · rcases hf with h2 | h2
      · rw [hbv] at h2
        have := h.lt b (by simp [RDB.own, ← h2])
        omega
      · have h3 := (h2 b hbv).2
        rw [hIo] at h3
        rcases List.mem_append.1 h1 with h4 | h4
        · cases ha : I.a with
          | none => rw [ha] at h4; simp at h4
          | some ad => rw [ha] at h4 h3; simp at h4 h3; exact h3 h4.symm
        · rw [hI1] at h4
          have := h.ltr b (List.mem_append_left _ (List.mem_append_right _ h4))
          omega
  · have hf := h.fine
    refine ⟨hf.dim, hf.begun, by simp [begR]; omega, hf.done, fun o hm => ?_⟩
    rcases List.mem_append.1 (show o ∈ D.op ++ _ from hm) with hm | hm
    · exact hf.ops o hm
    · simp at hm
      subst hm
      exact ⟨hn, by simp only [hI1]; exact hf.done, by simp, by simp [Sl.no]⟩
/-- What ref20's Begin leaves. -/
def Begin20To (B p s : Nat) (D : RDB) (w : World) (e : Ending) (w' : World) : Prop := ∃ I a c, e = .returned (.tuple #[.int .u64 (D.begun + 1), .int .i64 0]) ∧ I.cs = D.done.cs ∧ RStep w B p s D (begR { D with begun := D.begun + 1 } (D.begun + 1) I a c) w'
theorem RdbAt.counted {w : World} {B p s : Nat} {D : RDB} (h : RdbAt w B p s D) (hB : B ≤ w.heap.size) (hb : D.begun < 1000000) : RStep w B p s D { D with begun := D.begun + 1 } (w.setCell ⟨p, 1, none⟩ (.int .u64 (D.begun + 1))) := by
  have ho : Only [p] w (w.setCell ⟨p, 1, none⟩ (.int .u64 (D.begun + 1))) := (Only.refl [p] w).setCell (.inl (by simp)) _
  have hnd := h.nd
  have hps : p ≠ s := fun e => by simp [RDB.own, e] at hnd
  have hpr : ∀ b ∈ D.reads, b ∉ [p] := fun b hb hm => h.ap p (by simp [RDB.own]) (by simp at hm; subst hm; exact hb)
  refine h.renew hB ?_ (h.srow.only ho (by simpa using Ne.symm hps)) ?_ ?_ (h.done.only ho fun b hb => hpr b (List.mem_append_left _ hb)) ?_ ?_ hnd (Kept.refl _ _) (Kept.refl _ _) ?_ ?_ (ho.mono (by intro i hi; simp at hi; subst hi; exact .inl (by simp [RDB.own])))
  · have := h.row.set 1 (.int .u64 (D.begun + 1))
    simpa using this
  · exact own_keep h.oown fun g hg => ho.block g (h.oown.lt g hg).2 (by simp; rintro rfl; have hg' : D.ov.ownBlock = some g := hg; simp [RDB.own, hg'] at hnd)
  · exact fun o hm => own_keep (h.wown o hm) fun g hg => ho.block g ((h.wown o hm).lt g hg).2 (by simp; rintro rfl; simp [RDB.own, mem_wrB2 hm hg] at hnd)
  · exact fun o hm => (h.sees o hm).only ho fun b hb => hpr b (List.mem_append_right _ (mem_opR hm (.inl hb)))
  · exact fun o hm => (h.since o hm).only ho fun b hb => hpr b (List.mem_append_right _ (mem_opR hm (.inr hb)))
  · intro b hb hge
    have := h.lt b hb
    omega
  · have hf := h.fine
    refine ⟨hf.dim, ⟨by have := hf.begun; show 0 ≤ D.begun + 1; omega, by show D.begun + 1 ≤ _; omega⟩, hf.len, hf.done, fun o hm => ?_⟩
    have := hf.ops o hm
    exact ⟨⟨this.1.1, by have := this.1.2; show o.n ≤ D.begun + 1; omega⟩, this.2⟩
set_option maxRecDepth 100000 in
set_option maxHeartbeats 4000000 in
theorem begin_r20 {w : World} {B p s : Nat} {D : RDB} (h : RdbAt w B p s D) (hB : B ≤ w.heap.size) (hl : D.op.length < 8) (hb : D.begun < 1000000) :
    Calls Tryz.prog 21 #[.pointer (some ⟨p, 0, none⟩)] w (Begin20To B p s D w) := by
  have c0 : w.cell? ⟨p, 0, none⟩ = some (.pointer (some ⟨s, 0, none⟩)) := h.row.cell 0
  have c1 : w.cell? ⟨p, 1, none⟩ = some (.int .u64 D.begun) := h.row.cell 1
  have f1 := h.row.free 1
  have c2 : w.cell? ⟨s, 2, none⟩ = some D.ov := h.srow.cell 2
  unfold RDB.ov at c2
  have hlen : ((D.op.length : Nat) : Int) < 8 := by omega
  have hge : decide (8 ≤ ((D.op.length : Nat) : Int)) = false := decide_eq_false (by omega)
  have hge2 : decide (8 ≤ D.op.length) = false := decide_eq_false (by omega)
  have g2 := h.fine.begun
  have b2 : D.begun + 1 ≤ 1000000 := by omega
  have C := Lib.hid (h.counted hB hb)
  have HL := Lib.hid hl
  have HB := Lib.hid hB
  generalize D.op.length = m at c2 hlen hge hge2
  generalize D.oa = oa at c2
  generalize D.oc = oc at c2
  clear h hl hB hb
  go_enter Tryz.func21, Tryz.ntmps21
  go_upto_region 4 with fail
  generalize w.setCell ⟨p, 1, none⟩ (.int .u64 (D.begun + 1)) = w1 at *
  have L : Hid (∀ y, Only [] w1 y → Calls Tryz.prog 50 #[.pointer (some ⟨s, 0, none⟩), .int .u64 (D.begun + 1)] y (fun e w' => e = .returned (.tuple #[]) ∧ Hid (∃ I a c, I.cs = D.done.cs ∧ RStep y B p s { D with begun := D.begun + 1 } (begR { D with begun := D.begun + 1 } (D.begun + 1) I a c) w'))) := Lib.hid fun y hy =>
    (begin_r19 (C.out.db.only hy (by simp)) (Nat.le_trans HB.out (Nat.le_trans C.out.only.size hy.size)) (D.begun + 1)).mono fun e w' hk => by
      obtain ⟨he, hr⟩ := RdbAt.begun (C.out.db.only hy (by simp)) (Nat.le_trans HB.out (Nat.le_trans C.out.only.size hy.size)) ⟨by omega, by show D.begun + 1 ≤ D.begun + 1; omega⟩ HL.out hk
      exact ⟨he, Lib.hid hr⟩
  have SO : Hid (∀ y, RdbAt y B p s { D with begun := D.begun + 1 } → y.cell? ⟨p, 0, none⟩ = some (.pointer (some ⟨s, 0, none⟩)) ∧ y.cell? ⟨p, 1, none⟩ = some (.int .u64 (D.begun + 1))) := Lib.hid fun y hy => ⟨hy.row.cell 0, hy.row.cell 1⟩
  have SP : Hid (∀ y I a c, RdbAt y B p s (begR { D with begun := D.begun + 1 } (D.begun + 1) I a c) → y.cell? ⟨p, 0, none⟩ = some (.pointer (some ⟨s, 0, none⟩)) ∧ y.cell? ⟨p, 1, none⟩ = some (.int .u64 (D.begun + 1))) := Lib.hid fun y I a c hy => ⟨hy.row.cell 0, hy.row.cell 1⟩
  go_region_held3 (fun y => y.cell? ⟨p, 0, none⟩ = some (.pointer (some ⟨s, 0, none⟩)) ∧ y.cell? ⟨p, 1, none⟩ = some (.int .u64 (D.begun + 1)))
    (first
      | exact SP.out _ _ _ _ X2.out.db
      | exact SO.out _ (C.out.db.only ((Only.refl [] w1).drew) (by simp)))
    (first | ((with_reducible refine (L.out w1.drew ((Only.refl [] w1).drew)).mono ?_); rintro _ w2 ⟨rfl, h1⟩; obtain ⟨I, a, c, h2, h3⟩ := h1.out; have E2 := Lib.hid h2; have X2 := Lib.hid h3; clear h1 h2 h3))
  all_goals
    have q1 := (SP.out _ _ _ _ X2.out.db).2
    go_wp2_with fail
    go_ret2
    refine ⟨I, a, c, rfl, E2.out, ?_⟩
    have k0 : Below w1.heap.size w1 w1.drew := (Below.refl _ _).drew
    exact C.out.trans (RStep.after k0 X2.out)
end Go.Proofs.YtmbmkfhdiljalaaGreat

/- Plain, the document's side: one open transaction becomes another. -/
namespace Go.Proofs.YtmbmkfhdiljalaaGreat
open Go.RowKit Go.ChangeShapes Go.WideShapes Go.ChangeAt
set_option linter.unusedVariables false
set_option linter.unusedSimpArgs false

def setR (D : RDB) (i : Nat) (x : RTx) : RDB := { D with op := D.op.set i x }
theorem set_split {α : Type} {l : List α} {i : Nat} {o : α} (h : l[i]? = some o) (x : α) : ∃ A C, l = A ++ o :: C ∧ l.set i x = A ++ x :: C ∧ A.length = i := by
  obtain ⟨hi, he⟩ := List.getElem?_eq_some_iff.1 h
  refine ⟨l.take i, l.drop (i + 1), ?_, ?_, by simp; omega⟩
  · rw [← he, List.getElem_cons_drop, List.take_append_drop]
  · rw [List.set_eq_take_append_cons_drop, if_pos hi]
theorem txL_set {A C : List RTx} {o x : RTx} {f : Nat} {u : Value} (hf : f < 4) (hc : x.cells = o.cells.set f u) : (txL (A ++ o :: C)).set (A.length * 4 + f) u = txL (A ++ x :: C) := by
  have e : ∀ y : RTx, txL (A ++ y :: C) = txL A ++ (y.cells ++ txL C) := fun y => by rw [txL_append]; rfl
  rw [e, e, hc, List.set_append, if_neg (by rw [txL_len]; omega), txL_len, show A.length * 4 + f - A.length * 4 = f by omega, List.set_append, if_pos (by simp [RTx.cells]; omega)]
theorem wrB2_append (A C : List RTx) : wrB2 (A ++ C) = wrB2 A ++ wrB2 C := by simp [wrB2]
theorem wrB2_cons (o : RTx) (C : List RTx) : wrB2 (o :: C) = o.wv.ownBlock.toList ++ wrB2 C := by simp [wrB2]
theorem opR_append (A C : List RTx) : opR (A ++ C) = opR A ++ opR C := by simp [opR]
theorem opR_cons (o : RTx) (C : List RTx) : opR (o :: C) = (o.sees.bs ++ o.since.bs) ++ opR C := by simp [opR]
theorem RdbAt.setOp {w y : World} {B p s : Nat} {D : RDB} (h : RdbAt w B p s D) (hB : B ≤ w.heap.size) {i : Nat} {o x : RTx} (ho : D.op[i]? = some o) (hn : x.n = o.n) (f : Nat) (u : Value) (hf : f < 4) (hc : x.cells = o.cells.set f u)
    (k : Only o.wv.ownBlock.toList w y) (hw : y.ownsRow B tU 1 x.wv x.wr.length (x.wr.map (Value.int .u64))) (hwb : x.wv.ownBlock = o.wv.ownBlock ∨ ∀ b, x.wv.ownBlock = some b → w.heap.size ≤ b)
    (hs : RsAt y x.sees) (hsb : ∀ b ∈ x.sees.bs, b ∈ D.reads ∨ w.heap.size ≤ b) (hi : SlAt .u64 y x.since) (hib : ∀ b ∈ x.since.bs, b ∈ D.reads ∨ w.heap.size ≤ b)
    (hfr : ∀ b, x.wv.ownBlock = some b → w.heap.size ≤ b → b ∉ x.sees.bs ∧ b ∉ x.since.bs) (hfine : x.sees.l.length ≤ 100000 ∧ x.wr.length ≤ 100000 ∧ x.since.xs.length ≤ 100000) {g : Nat} (hg : D.oa = some ⟨g, 0, none⟩) :
    RStep w B p s D (setR D i x) (y.setCell ⟨g, i * 4 + f, none⟩ u) := by
  obtain ⟨A, C, hl, hset, hA⟩ := set_split ho x
  subst hA
  have hom : o ∈ D.op := List.mem_of_getElem? ho
  have hgo : D.ov.ownBlock = some g := by unfold RDB.ov; rw [ov_of, hg]; rfl
  have hnd := h.nd
  have hnd2 := hnd
  unfold RDB.own at hnd2
  rw [hl, wrB2_append, wrB2_cons, hgo] at hnd2
  have hgw : ∀ b, o.wv.ownBlock = some b → b ≠ g ∧ b ≠ p ∧ b ≠ s ∧ b ∉ wrB2 A ∧ b ∉ wrB2 C := fun b hb => by
    rw [hb] at hnd2
    refine ⟨fun e => ?_, fun e => ?_, fun e => ?_, fun e => ?_, fun e => ?_⟩
    · subst e; simp at hnd2
    · subst e; simp at hnd2
    · subst e; simp at hnd2
    · have h9 := hnd2
      simp only [List.nodup_cons, List.nodup_append] at h9
      exact h9.2.2.2.1.2.2 b e b (by simp) rfl
    · have h9 := hnd2
      simp only [List.nodup_cons, List.nodup_append] at h9
      exact h9.2.2.2.1.2.1.2.2 b (by simp) b e rfl
  have ob : ∀ b, b ∈ o.wv.ownBlock.toList → o.wv.ownBlock = some b := fun b hb => by simpa using hb
  have kp : p ∉ o.wv.ownBlock.toList := fun hb => (hgw p (ob p hb)).2.1 rfl
  have ks : s ∉ o.wv.ownBlock.toList := fun hb => (hgw s (ob s hb)).2.2.1 rfl
  have kg : g ∉ o.wv.ownBlock.toList := fun hb => (hgw g (ob g hb)).1 rfl
  have kr : ∀ b ∈ D.reads, b ∉ o.wv.ownBlock.toList := fun b hb hm => h.ap b (by simp [RDB.own, mem_wrB2 hom (ob b hm)]) hb
  have hgl : g < w.heap.size := (h.oown.lt g hgo).2
  have hgs : g ≠ s ∧ g ≠ p := by
    constructor
    · rintro rfl; simp [RDB.own, hgo] at hnd
    · rintro rfl; simp [RDB.own, hgo] at hnd
  have hgr : g ∉ D.reads := fun hm => h.ap g (by simp [RDB.own, hgo]) hm
  -- the store alone
  have k2 : Only [g] y (y.setCell ⟨g, A.length * 4 + f, none⟩ u) := (Only.refl [g] y).setCell (.inl (by simp)) _
  have kall : Only (g :: o.wv.ownBlock.toList) w (y.setCell ⟨g, A.length * 4 + f, none⟩ u) := (k.mono (fun b hb => .inl (by simp [hb]))).trans k2 (fun b hb => .inl (by simp at hb; simp [hb]))
  have hsy : y.heap.size ≤ y.heap.size := Nat.le_refl _
  have oo := own_keep h.oown fun b hb => k.block b (h.oown.lt b hb).2 (by rw [hgo] at hb; cases hb; exact kg)
  have ngx : ∀ b, b ∈ x.sees.bs ∨ b ∈ x.since.bs → b ≠ g := fun b hb e => by
    subst e
    rcases hb with hb | hb
    · rcases hsb b hb with h1 | h1
      · exact hgr h1
      · omega
    · rcases hib b hb with h1 | h1
      · exact hgr h1
      · omega
  have own' : (setR D A.length x).own p s = p :: s :: (D.ov.ownBlock.toList ++ (wrB2 A ++ (x.wv.ownBlock.toList ++ wrB2 C))) := by
    unfold RDB.own setR RDB.ov
    simp only [hset, wrB2_append, wrB2_cons]
    congr 3
    rw [ov_of, ov_of]
  have own0 : D.own p s = p :: s :: (D.ov.ownBlock.toList ++ (wrB2 A ++ (o.wv.ownBlock.toList ++ wrB2 C))) := by
    unfold RDB.own
    rw [hl, wrB2_append, wrB2_cons]
  have rd' : ∀ b, b ∈ (setR D A.length x).reads → b ∈ D.reads ∨ b ∈ x.sees.bs ∨ b ∈ x.since.bs := fun b hb => by
    unfold RDB.reads setR at hb
    simp only [hset, opR_append, opR_cons, List.mem_append] at hb
    unfold RDB.reads
    rw [hl, opR_append, opR_cons]
    simp only [List.mem_append]
    rcases hb with hb | hb | (hb | hb) | hb
    · exact .inl (.inl hb)
    · exact .inl (.inr (.inl hb))
    · exact .inr (.inl hb)
    · exact .inr (.inr hb)
    · exact .inl (.inr (.inr (.inr hb)))
  have other : ∀ z ∈ (setR D A.length x).op, z = x ∨ (z ∈ D.op ∧ ∀ b, z.wv.ownBlock = some b → b ∉ o.wv.ownBlock.toList) := fun z hz => by
    have hz' : z ∈ A ++ x :: C := by rw [← hset]; exact hz
    rcases List.mem_append.1 hz' with hz | hz
    · exact .inr ⟨by rw [hl]; exact List.mem_append_left _ hz, fun b hb hm => (hgw b (ob b hm)).2.2.2.1 (mem_wrB2 hz hb)⟩
    · rcases List.mem_cons.1 hz with hz | hz
      · exact .inl hz
      · exact .inr ⟨by rw [hl]; exact List.mem_append_right _ (List.mem_cons_of_mem _ hz), fun b hb hm => (hgw b (ob b hm)).2.2.2.2 (mem_wrB2 hz hb)⟩
  have e3 : (setR D A.length x).ov = D.ov := by unfold RDB.ov setR; simp
  refine h.renew hB ((h.row.only k kp).only k2 (by simpa using hgs.2.symm)) ?_ ?_ ?_ ?_ ?_ ?_ ?_ ?_ ?_ ?_ ?_ (kall.mono fun b hb => .inl ?_)
  · rw [e3]
    exact (h.srow.only k ks).only k2 (by simpa using hgs.1.symm)
  · rw [e3]
    have e4 : (setR D A.length x).op = A ++ x :: C := hset
    have e5 : (setR D A.length x).op.length = D.op.length := by rw [e4, hl]; simp
    rw [e5, e4, ← txL_set (o := o) hf hc, ← hl]
    unfold RDB.ov at oo ⊢
    rw [hg] at oo ⊢
    exact (World.ownsRow.stored oo (A.length * 4 + f) u).1
  · intro z hz
    rcases other z hz with rfl | ⟨hz, hne⟩
    · refine own_keep hw fun b hb => k2.block b (hw.lt b hb).2 ?_
      simp only [List.mem_singleton]
      rintro rfl
      rcases hwb with h1 | h1
      · rw [h1] at hb; exact (hgw _ hb).1 rfl
      · have := h1 _ hb; omega
    · refine own_keep (h.wown z hz) fun b hb => kall.block b ((h.wown z hz).lt b hb).2 ?_
      simp only [List.mem_cons, not_or]
      refine ⟨?_, hne b hb⟩
      rintro rfl
      have := mem_wrB2 hz hb
      simp [RDB.own, hgo, this] at hnd
  · exact (h.done.only k fun b hb => kr b (List.mem_append_left _ hb)).only k2 fun b hb => by
      simp only [List.mem_singleton]; rintro rfl; exact hgr (List.mem_append_left _ hb)
  · intro z hz
    rcases other z hz with rfl | ⟨hz, _⟩
    · exact hs.only k2 fun b hb => by simpa using ngx b (.inl hb)
    · exact (h.sees z hz).only kall fun b hb hm => by
        have hr : b ∈ D.reads := List.mem_append_right _ (mem_opR hz (.inl hb))
        rcases List.mem_cons.1 hm with rfl | hm
        · exact hgr hr
        · exact kr b hr hm
  · intro z hz
    rcases other z hz with rfl | ⟨hz, _⟩
    · exact hi.only k2 fun b hb => by simpa using ngx b (.inr hb)
    · exact (h.since z hz).only kall fun b hb hm => by
        have hr : b ∈ D.reads := List.mem_append_right _ (mem_opR hz (.inr hb))
        rcases List.mem_cons.1 hm with rfl | hm
        · exact hgr hr
        · exact kr b hr hm
  · rw [own']
    rcases hwb with h1 | h1
    · rw [h1, ← own0]; exact hnd
    · rw [own0] at hnd
      have hsub : (p :: s :: (D.ov.ownBlock.toList ++ (wrB2 A ++ wrB2 C))).Nodup := List.Nodup.sublist (((((List.sublist_append_right _ _).append_left _).append_left _).cons_cons _).cons_cons _) hnd
      cases hb : x.wv.ownBlock with
      | none => simpa using hsub
      | some b =>
        have hge := h1 b hb
        have hp : (p :: s :: (D.ov.ownBlock.toList ++ (wrB2 A ++ ((some b).toList ++ wrB2 C)))).Perm (b :: p :: s :: (D.ov.ownBlock.toList ++ (wrB2 A ++ wrB2 C))) := by
          simp only [Option.toList_some, List.singleton_append]
          rw [← List.append_assoc, ← List.append_assoc]
          exact ((((List.perm_middle (a := b) (l₁ := D.ov.ownBlock.toList ++ wrB2 A) (l₂ := wrB2 C)).cons s).trans (List.Perm.swap _ _ _)).cons p).trans (List.Perm.swap _ _ _)
        rw [hp.nodup_iff, List.nodup_cons]
        refine ⟨fun hm => ?_, hsub⟩
        have : b ∈ D.own p s := by
          rw [own0]
          simp only [List.mem_cons, List.mem_append] at hm ⊢
          rcases hm with h | h | h | h | h
          · exact .inl h
          · exact .inr (.inl h)
          · exact .inr (.inr (.inl h))
          · exact .inr (.inr (.inr (.inl h)))
          · exact .inr (.inr (.inr (.inr (.inr h))))
        have := h.lt b this
        omega
  · intro b hb
    rw [own'] at hb
    rw [own0]
    simp only [List.mem_cons, List.mem_append] at hb ⊢
    rcases hb with h2 | h2 | h2 | h2 | h2 | h2
    · exact .inl (.inl h2)
    · exact .inl (.inr (.inl h2))
    · exact .inl (.inr (.inr (.inl h2)))
    · exact .inl (.inr (.inr (.inr (.inl h2))))
    · rcases hwb with h1 | h1
      · exact .inl (.inr (.inr (.inr (.inr (.inl (by rw [← h1]; exact h2))))))
      · exact .inr (h1 b (by simpa using h2))
    · exact .inl (.inr (.inr (.inr (.inr (.inr h2)))))
  · intro b hb
    rcases rd' b hb with h1 | h1 | h1
    · exact .inl h1
    · exact hsb b h1
    · exact hib b h1
  · intro b hb hge hm
    rw [own'] at hb
    have hx : x.wv.ownBlock = some b := by
      have no : b ∉ D.own p s := fun hh => by have := h.lt b hh; omega
      rw [own0] at no
      simp only [List.mem_cons, List.mem_append, not_or] at hb no
      rcases hb with h2 | h2 | h2 | h2 | h2 | h2
      · exact absurd h2 no.1
      · exact absurd h2 no.2.1
      · exact absurd h2 no.2.2.1
      · exact absurd h2 no.2.2.2.1
      · simpa using h2
      · exact absurd h2 no.2.2.2.2.2
    rcases rd' b hm with h1 | h1 | h1
    · have := h.ltr b h1; omega
    · exact (hfr b hx hge).1 h1
    · exact (hfr b hx hge).2 h1
  · have hfi := h.fine
    refine ⟨hfi.dim, hfi.begun, by have e5 : (setR D A.length x).op.length = D.op.length := by rw [show (setR D A.length x).op = _ from hset, hl]; simp
                                   rw [e5]; exact hfi.len, hfi.done, fun z hz => ?_⟩
    rcases other z hz with rfl | ⟨hz, _⟩
    · rw [hn]; exact ⟨(hfi.ops o hom).1, hfine⟩
    · exact hfi.ops z hz
  · rw [own0]
    simp only [List.mem_cons, List.mem_append, hgo, Option.toList_some] at hb ⊢
    rcases hb with h2 | h2
    · exact .inr (.inr (.inl (by simp [h2])))
    · exact .inr (.inr (.inr (.inr (.inl h2))))
theorem withC_len (l : List Rc) (x : Rc) : (withC l x).length ≤ l.length + 1 := by
  have := placeC_le l x.1
  unfold withC nextC
  split <;> (simp; omega)
theorem withoutC_len (l : List Rc) (k : Int) : (withoutC l k).length ≤ l.length := by
  have := placeC_le l k
  unfold withoutC
  split <;> (simp; try omega)
end Go.Proofs.YtmbmkfhdiljalaaGreat
