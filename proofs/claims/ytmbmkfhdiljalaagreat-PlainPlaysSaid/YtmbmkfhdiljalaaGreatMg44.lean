/- PlainPlays: Delete, Commit, Abort, asked of both (printed by gen_lwc.py). -/
import Derived.Test.YtmbmkfhdiljalaaGreatMg43
import Derived.Test.YtmbmkfhdiljalaaGreatMg15
namespace Go.Proofs.YtmbmkfhdiljalaaGreat
open Go.RowKit Go.ChangeShapes Go.WideShapes Go.ChangeAt
set_option linter.unusedVariables false
set_option linter.unusedSimpArgs false

/-- A call that is asked of the code, and then of the document: both answer v. -/
def PairTo (v : Int) (F G : List Nat) (t p q s B : Nat) (dim : Int) (g2 : FuncId) (args2 : Array Value) (w : World) (e : Ending) (w1 : World) : Prop := e = .returned (.int .i64 v) ∧ Only F w w1 ∧
  Calls Tryz.prog g2 args2 w1 fun e2 w2 => e2 = .returned (.int .i64 v) ∧ Only G w1 w2 ∧ Two (t + 1) w2 B p q s dim
section
variable {t : Nat} {w : World} {B p q s : Nat} {D : PDB} {F H : List Nat} {R : RDB}
theorem TwoAt.dbAt (h : TwoAt t w B p q s D F H R) : ∃ ba bo, DbAt w B p ba bo D := by
  obtain ⟨ba, bo, hd, _, _⟩ := h.code
  exact ⟨ba, bo, hd⟩
theorem TwoAt.small (h : TwoAt t w B p q s D F H R) (ht : t ≤ 150) : Small D := by
  obtain ⟨ba, bo, hd⟩ := h.dbAt
  exact h.rel.small ht hd h.doc.fine.len
/-- Both refuse. -/
theorem pair_no (h : TwoAt t w B p q s D F H R) {f1 g2 : FuncId} {a1 a2 : Array Value} (v : Int) (c1 : Calls Tryz.prog f1 a1 w (RefTo (.int .i64 v) w)) (c2 : ∀ w1, Below w.heap.size w w1 → Calls Tryz.prog g2 a2 w1 (RefTo (.int .i64 v) w1)) :
    Calls Tryz.prog f1 a1 w (PairTo v F (R.own q s) t p q s B D.dim g2 a2 w) :=
  c1.mono fun e w1 ⟨he, hb⟩ => ⟨he, (Only.refl F w).below hb, (c2 w1 hb).mono fun e2 w2 ⟨he2, hb2⟩ => ⟨he2, (Only.refl _ w1).below hb2, ⟨_, _, _, _, (h.below hb).next hb2, rfl⟩⟩⟩
theorem pair_ok (h : TwoAt t w B p q s D F H R) {f1 g2 : FuncId} {a1 a2 : Array Value} (v : Int) {D' : PDB} (hdim : D'.dim = D.dim) (c1 : Calls Tryz.prog f1 a1 w (DbTo (.int .i64 v) B p D' F H w))
    (c2 : ∀ w1, RdbAt w1 B q s R → B ≤ w1.heap.size → Calls Tryz.prog g2 a2 w1 fun e w2 => e = .returned (.int .i64 v) ∧ ∃ R', RStep w1 B q s R R' w2 ∧ Rel (t + 1) D' R') :
    Calls Tryz.prog f1 a1 w (PairTo v F (R.own q s) t p q s B D.dim g2 a2 w) := by
  refine c1.mono fun e w1 hk => ?_
  obtain ⟨F', H', he, hd, ho, k1, k2⟩ := hk
  refine ⟨he, ho, (c2 w1 (h.mid ho) (Nat.le_trans h.base ho.size)).mono fun e2 w2 hk2 => ?_⟩
  obtain ⟨he2, R', hst, hrel⟩ := hk2
  exact ⟨he2, hst.only, ⟨_, _, _, _, h.step hd ho k1 k2 (Only.refl [] w1) (by simp) hst hrel, hdim⟩⟩
theorem same_ref {P : Program} {f : FuncId} {args : Array Value} {v : Value} (h : Calls P f args w fun e w' => e = .returned v ∧ w' = w) : Calls P f args w (RefTo v w) := h.mono fun e w' ⟨he, hw⟩ => ⟨he, by rw [hw]; exact Below.refl _ _⟩
abbrev fDel : FuncId := 24
abbrev fDelR : FuncId := 25
abbrev fCom : FuncId := 15
abbrev fComR : FuncId := 26
abbrev fAb : FuncId := 27
abbrev fAbR : FuncId := 28
theorem pair_delete (h : TwoAt t w B p q s D F H R) (ht : t < 150) (n key : Int) : ∃ v, Calls Tryz.prog fDel #[.pointer (some ⟨p, 0, none⟩), .int .u64 n, .int .u64 key] w (PairTo v F (R.own q s) t p q s B D.dim fDelR #[.pointer (some ⟨q, 0, none⟩), .int .u64 n, .int .u64 key] w) := by
  obtain ⟨ba, bo, hd⟩ := h.dbAt
  have hs := h.small (by omega)
  cases ho : findP n D.op with
  | none =>
    refine ⟨12, pair_no h 12 (same_ref (delete_no hd ho key)) fun w1 hb => ?_⟩
    exact delete_r20_no (h.below hb).doc (by decide) fun y hy => maydel_no ((h.below hb).doc.below hy) (h.rel.lost ho) key
  | some o =>
    obtain ⟨i, x, hx, hf, hn, hom, hon, r⟩ := h.rel.found ho
    cases hv : seesF D o key with
    | none =>
      refine ⟨7, pair_no h 7 (delete_no_key hd hs ho hv) fun w1 hb => ?_⟩
      refine delete_r20_no (h.below hb).doc (by decide) fun y hy => ?_
      have := maydel_at ((h.below hb).doc.below hy) hf hx key
      have hat : isAt x.sees.cs (placeC x.sees.cs key) key = false := by
        cases ha : isAt x.sees.cs (placeC x.sees.cs key) key with
        | false => rfl
        | true => exact absurd hv ((r.sees.at_iff key).1 ha)
      rw [hat] at this
      exact this
    | some c =>
      refine ⟨0, pair_ok h 0 (D' := wroteP D n key goneV) rfl (delete_key h.code h.base hs ho hv) fun w1 hR hB => ?_⟩
      have hat : isAt x.sees.cs (placeC x.sees.cs key) key = true := (r.sees.at_iff key).2 (by rw [hv]; simp)
      refine (delete_r20_ok hR hB hf hx (by have := h.rel.seesLen hom r; omega) (by have := r.len; omega) hat).mono fun e w2 hk => ?_
      obtain ⟨he, I, a, c', hI, hst⟩ := hk
      refine ⟨he, _, hst, ?_⟩
      rw [← hon]
      refine h.rel.wrote hom hx (by omega) (v := goneV) (fun hg => by simp [goneV] at hg) ?_
      rw [hI]
      exact (r.sees.withoutC key).congr fun k => rfl
theorem pair_abort (h : TwoAt t w B p q s D F H R) (ht : t < 150) (n : Int) : ∃ v, Calls Tryz.prog fAb #[.pointer (some ⟨p, 0, none⟩), .int .u64 n] w (PairTo v F (R.own q s) t p q s B D.dim fAbR #[.pointer (some ⟨q, 0, none⟩), .int .u64 n] w) := by
  obtain ⟨ba, bo, hd⟩ := h.dbAt
  cases ho : findP n D.op with
  | none => exact ⟨12, pair_no h 12 (same_ref (abort_no hd ho)) fun w1 hb => same_ref (abort_r20_no (h.below hb).doc (h.rel.lost ho))⟩
  | some o =>
    obtain ⟨i, x, hx, hf, hn, hom, hon, r⟩ := h.rel.found ho
    refine ⟨0, pair_ok h 0 (D' := shutP D n) rfl (abort_on h.code ho) fun w1 hR hB => ?_⟩
    refine (abort_r20 hR hB hf hx).mono fun e w2 hk => ?_
    obtain ⟨he, a, c, hst⟩ := hk
    refine ⟨he, _, hst, ?_⟩
    rw [← hon]
    exact h.rel.shut hom hx (by omega) a c
theorem pair_commit (h : TwoAt t w B p q s D F H R) (ht : t < 150) (n : Int) : ∃ v, Calls Tryz.prog fCom #[.pointer (some ⟨p, 0, none⟩), .int .u64 n] w (PairTo v F (R.own q s) t p q s B D.dim fComR #[.pointer (some ⟨q, 0, none⟩), .int .u64 n] w) := by
  obtain ⟨ba, bo, hd⟩ := h.dbAt
  cases ho : findP n D.op with
  | none => exact ⟨12, pair_no h 12 (same_ref (commit_no hd ho)) fun w1 hb => commit_r20_no (h.below hb).doc (h.rel.lost ho)⟩
  | some o =>
    obtain ⟨i, x, hx, hf, hn, hom, hon, r⟩ := h.rel.found ho
    have hnum := h.rel.nums
    have CO := commit_on h.code h.base ho (by omega) (fun j => by have := h.rel.vlen j; omega)
    have hcl := h.rel.clash r
    cases hc : clashB x with
    | true =>
      refine ⟨11, CO.mono fun e w1 hk => ?_⟩
      obtain ⟨F', H', hO, k1, k2, ⟨_, he, hdb⟩ | ⟨hno, _⟩⟩ := hk
      · refine ⟨he, hO, (commit_r20_clash (h.mid hO) (Nat.le_trans h.base hO.size) hf hx hc).mono fun e2 w2 hk2 => ?_⟩
        obtain ⟨he2, a, c, hst⟩ := hk2
        refine ⟨he2, hst.only, ⟨_, _, _, _, h.step hdb hO k1 k2 (Only.refl [] w1) (by simp) hst ?_, rfl⟩⟩
        exact h.rel.shut hom hx (by omega) a c
      · exact absurd (hcl.1 hc) hno
    | false =>
      refine ⟨0, CO.mono fun e w1 hk => ?_⟩
      obtain ⟨F', H', hO, k1, k2, ⟨hyes, _⟩ | ⟨_, he, all', hdb, hkeys, hall⟩⟩ := hk
      · rw [hcl.2 hyes] at hc; cases hc
      · refine ⟨he, hO, (commit_r20_ok (h.mid hO) (Nat.le_trans h.base hO.size) hf hx (by have := r.len; omega) (by have := h.rel.doneLen; omega) (h.rel.sinceLen (by omega)) hc).mono fun e2 w2 hk2 => ?_⟩
        obtain ⟨he2, R', hst, h1, h2, h3, h4⟩ := hk2
        refine ⟨he2, hst.only, ⟨_, _, _, _, h.step hdb hO k1 k2 (Only.refl [] w1) (by simp) hst ?_, rfl⟩⟩
        exact h.rel.commit ht hom hx (by omega) hall hkeys h1 h2 h3 h4
end

set_option maxRecDepth 100000 in
set_option maxHeartbeats 8000000 in
theorem write_delete {t : Nat} {w : World} {B p q s : Nat} {D : PDB} {F H : List Nat} {R : RDB} (h : TwoAt t w B p q s D F H R) (ht : t < 150) (x : OpS) (hk : x.kind = 2) :
    Calls Tryz.prog 8 #[.pointer (some ⟨p, 0, none⟩), .pointer (some ⟨q, 0, none⟩), x.val] w (WrTo t B p q s D.dim w) := by
  have BX := opBox x w
  have HH := Lib.hid (h.below BX.out)
  have R1 := Lib.hid (Row.made w x.cells.toArray tOp)
  have TB := Lib.hid ht
  have BB := Lib.hid h.base
  have NF : Hid (w.heap.size ∉ F ∧ w.heap.size ∉ R.own q s) := Lib.hid ⟨fun hm => by have := h.code.lt.1 _ hm; omega, fun hm => by have := h.doc.lt _ hm; omega⟩
  unfold OpS.val
  unfold OpS.cells at BX HH R1
  rw [hk] at BX HH R1 ⊢
  unfold Sl.v at BX HH R1 ⊢
  clear h ht hk
  go_enter Tryz.func8, Tryz.ntmps8
  go_upto_region 19 with fail
  generalize w.alloc (.cells #[.int .i64 2, .int .i64 x.n, .int .u64 x.t, .int .u64 x.key, .int .u64 x.hi, .int .u64 x.it.key, .slice x.it.vec.a x.it.vec.xs.length x.it.vec.c, .slice x.it.tag.a x.it.tag.xs.length x.it.tag.c, .slice x.q.a x.q.xs.length x.q.c] 36) = w0 at *
  have D0 : Hid (Below w0.heap.size w0 w0.drew) := Lib.hid ((Below.refl _ _).drew)
  obtain ⟨v, hv⟩ := pair_delete (HH.out.below D0.out) TB.out x.t x.key
  have PV := Lib.hid hv
  have SO : Hid (∀ y, Only (F ++ R.own q s) w0 y → y.cell? ⟨w.heap.size, 2, none⟩ = some (.int .u64 x.t) ∧ y.cell? ⟨w.heap.size, 3, none⟩ = some (.int .u64 x.key)) := Lib.hid fun y hy => by
    have rr := fun y (hy : Only (F ++ R.own q s) w0 y) => R1.out.only hy (by simp; exact ⟨NF.out.1, NF.out.2⟩)
    exact ⟨(rr y hy).cell 2, (rr y hy).cell 3⟩
  unfold PairTo at PV
  clear hv
  go_region_held3 (fun y => y.cell? ⟨w.heap.size, 2, none⟩ = some (.int .u64 x.t) ∧ y.cell? ⟨w.heap.size, 3, none⟩ = some (.int .u64 x.key))
    (first
      | exact SO.out _ X3.out
      | exact SO.out _ X2.out
      | exact SO.out _ (Only.refl _ w0).drew)
    (first
      | ((with_reducible refine PV.out.mono ?_); rintro _ w1 ⟨rfl, ho1, hc⟩; have X1 := Lib.hid ho1; have C2 := Lib.hid hc; have X2 : Hid (Only (F ++ R.own q s) w0 w1) := Lib.hid ((Only.refl _ w0).drew.trans (ho1.mono fun b hb => .inl (List.mem_append_left (R.own q s) hb)) fun b hb => .inl hb); clear ho1 hc)
      | ((with_reducible refine C2.out.mono ?_); rintro _ w2 ⟨rfl, ho2, htw⟩; have TW := Lib.hid htw; have X3 : Hid (Only (F ++ R.own q s) w0 w2) := Lib.hid (X2.out.trans (ho2.mono fun b hb => .inl (List.mem_append_right F hb)) fun b hb => .inl hb); clear ho2 htw))
  all_goals
    have N : Hid (WrTo t B p q s D.dim w (.returned (.bool true)) w2) := Lib.hid ⟨rfl, TW.out, (BX.out.mono BB.out).trans (X3.out.toBelow HH.out.base fun b hb => by
      rcases List.mem_append.1 hb with hb | hb
      · exact HH.out.code.ge.1 b hb
      · exact HH.out.doc.ge b hb)⟩
    clear TW X1 X2 X3
    go_wp2_with fail
    go_ret
    exact N.out

set_option maxRecDepth 100000 in
set_option maxHeartbeats 8000000 in
theorem write_commit {t : Nat} {w : World} {B p q s : Nat} {D : PDB} {F H : List Nat} {R : RDB} (h : TwoAt t w B p q s D F H R) (ht : t < 150) (x : OpS) (hk : x.kind = 6) :
    Calls Tryz.prog 8 #[.pointer (some ⟨p, 0, none⟩), .pointer (some ⟨q, 0, none⟩), x.val] w (WrTo t B p q s D.dim w) := by
  have BX := opBox x w
  have HH := Lib.hid (h.below BX.out)
  have R1 := Lib.hid (Row.made w x.cells.toArray tOp)
  have TB := Lib.hid ht
  have BB := Lib.hid h.base
  have NF : Hid (w.heap.size ∉ F ∧ w.heap.size ∉ R.own q s) := Lib.hid ⟨fun hm => by have := h.code.lt.1 _ hm; omega, fun hm => by have := h.doc.lt _ hm; omega⟩
  unfold OpS.val
  unfold OpS.cells at BX HH R1
  rw [hk] at BX HH R1 ⊢
  unfold Sl.v at BX HH R1 ⊢
  clear h ht hk
  go_enter Tryz.func8, Tryz.ntmps8
  go_upto_region 21 with fail
  generalize w.alloc (.cells #[.int .i64 6, .int .i64 x.n, .int .u64 x.t, .int .u64 x.key, .int .u64 x.hi, .int .u64 x.it.key, .slice x.it.vec.a x.it.vec.xs.length x.it.vec.c, .slice x.it.tag.a x.it.tag.xs.length x.it.tag.c, .slice x.q.a x.q.xs.length x.q.c] 36) = w0 at *
  have D0 : Hid (Below w0.heap.size w0 w0.drew) := Lib.hid ((Below.refl _ _).drew)
  obtain ⟨v, hv⟩ := pair_commit (HH.out.below D0.out) TB.out x.t
  have PV := Lib.hid hv
  have SO : Hid (∀ y, Only (F ++ R.own q s) w0 y → y.cell? ⟨w.heap.size, 2, none⟩ = some (.int .u64 x.t)) := Lib.hid fun y hy => by
    have rr := fun y (hy : Only (F ++ R.own q s) w0 y) => R1.out.only hy (by simp; exact ⟨NF.out.1, NF.out.2⟩)
    exact (rr y hy).cell 2
  unfold PairTo at PV
  clear hv
  go_region_held3 (fun y => y.cell? ⟨w.heap.size, 2, none⟩ = some (.int .u64 x.t))
    (first
      | exact SO.out _ X3.out
      | exact SO.out _ X2.out
      | exact SO.out _ (Only.refl _ w0).drew)
    (first
      | ((with_reducible refine PV.out.mono ?_); rintro _ w1 ⟨rfl, ho1, hc⟩; have X1 := Lib.hid ho1; have C2 := Lib.hid hc; have X2 : Hid (Only (F ++ R.own q s) w0 w1) := Lib.hid ((Only.refl _ w0).drew.trans (ho1.mono fun b hb => .inl (List.mem_append_left (R.own q s) hb)) fun b hb => .inl hb); clear ho1 hc)
      | ((with_reducible refine C2.out.mono ?_); rintro _ w2 ⟨rfl, ho2, htw⟩; have TW := Lib.hid htw; have X3 : Hid (Only (F ++ R.own q s) w0 w2) := Lib.hid (X2.out.trans (ho2.mono fun b hb => .inl (List.mem_append_right F hb)) fun b hb => .inl hb); clear ho2 htw))
  all_goals
    have N : Hid (WrTo t B p q s D.dim w (.returned (.bool true)) w2) := Lib.hid ⟨rfl, TW.out, (BX.out.mono BB.out).trans (X3.out.toBelow HH.out.base fun b hb => by
      rcases List.mem_append.1 hb with hb | hb
      · exact HH.out.code.ge.1 b hb
      · exact HH.out.doc.ge b hb)⟩
    clear TW X1 X2 X3
    go_wp2_with fail
    go_ret
    exact N.out

set_option maxRecDepth 100000 in
set_option maxHeartbeats 8000000 in
theorem write_abort {t : Nat} {w : World} {B p q s : Nat} {D : PDB} {F H : List Nat} {R : RDB} (h : TwoAt t w B p q s D F H R) (ht : t < 150) (x : OpS) (hk : x.kind ≠ 0 ∧ x.kind ≠ 1 ∧ x.kind ≠ 2 ∧ x.kind ≠ 6) :
    Calls Tryz.prog 8 #[.pointer (some ⟨p, 0, none⟩), .pointer (some ⟨q, 0, none⟩), x.val] w (WrTo t B p q s D.dim w) := by
  have BX := opBox x w
  have HH := Lib.hid (h.below BX.out)
  have R1 := Lib.hid (Row.made w x.cells.toArray tOp)
  have TB := Lib.hid ht
  have BB := Lib.hid h.base
  have NF : Hid (w.heap.size ∉ F ∧ w.heap.size ∉ R.own q s) := Lib.hid ⟨fun hm => by have := h.code.lt.1 _ hm; omega, fun hm => by have := h.doc.lt _ hm; omega⟩
  unfold OpS.val
  unfold OpS.cells at BX HH R1
  have k0 : (x.kind == 0) = false := by simpa using hk.1
  have k1 : (x.kind == 1) = false := by simpa using hk.2.1
  have k2 : (x.kind == 2) = false := by simpa using hk.2.2.1
  have k6 : (x.kind == 6) = false := by simpa using hk.2.2.2
  unfold Sl.v at BX HH R1 ⊢
  clear h ht hk
  go_enter Tryz.func8, Tryz.ntmps8
  go_upto_region 22 with fail
  generalize w.alloc (.cells #[.int .i64 x.kind, .int .i64 x.n, .int .u64 x.t, .int .u64 x.key, .int .u64 x.hi, .int .u64 x.it.key, .slice x.it.vec.a x.it.vec.xs.length x.it.vec.c, .slice x.it.tag.a x.it.tag.xs.length x.it.tag.c, .slice x.q.a x.q.xs.length x.q.c] 36) = w0 at *
  have D0 : Hid (Below w0.heap.size w0 w0.drew) := Lib.hid ((Below.refl _ _).drew)
  obtain ⟨v, hv⟩ := pair_abort (HH.out.below D0.out) TB.out x.t
  have PV := Lib.hid hv
  have SO : Hid (∀ y, Only (F ++ R.own q s) w0 y → y.cell? ⟨w.heap.size, 2, none⟩ = some (.int .u64 x.t)) := Lib.hid fun y hy => by
    have rr := fun y (hy : Only (F ++ R.own q s) w0 y) => R1.out.only hy (by simp; exact ⟨NF.out.1, NF.out.2⟩)
    exact (rr y hy).cell 2
  unfold PairTo at PV
  clear hv
  go_region_held3 (fun y => y.cell? ⟨w.heap.size, 2, none⟩ = some (.int .u64 x.t))
    (first
      | exact SO.out _ X3.out
      | exact SO.out _ X2.out
      | exact SO.out _ (Only.refl _ w0).drew)
    (first
      | ((with_reducible refine PV.out.mono ?_); rintro _ w1 ⟨rfl, ho1, hc⟩; have X1 := Lib.hid ho1; have C2 := Lib.hid hc; have X2 : Hid (Only (F ++ R.own q s) w0 w1) := Lib.hid ((Only.refl _ w0).drew.trans (ho1.mono fun b hb => .inl (List.mem_append_left (R.own q s) hb)) fun b hb => .inl hb); clear ho1 hc)
      | ((with_reducible refine C2.out.mono ?_); rintro _ w2 ⟨rfl, ho2, htw⟩; have TW := Lib.hid htw; have X3 : Hid (Only (F ++ R.own q s) w0 w2) := Lib.hid (X2.out.trans (ho2.mono fun b hb => .inl (List.mem_append_right F hb)) fun b hb => .inl hb); clear ho2 htw))
  all_goals
    have N : Hid (WrTo t B p q s D.dim w (.returned (.bool true)) w2) := Lib.hid ⟨rfl, TW.out, (BX.out.mono BB.out).trans (X3.out.toBelow HH.out.base fun b hb => by
      rcases List.mem_append.1 hb with hb | hb
      · exact HH.out.code.ge.1 b hb
      · exact HH.out.doc.ge b hb)⟩
    clear TW X1 X2 X3
    go_wp2_with fail
    go_ret
    exact N.out
end Go.Proofs.YtmbmkfhdiljalaaGreat

/- PlainPlays: Put, asked of both; write of a Put. -/
namespace Go.Proofs.YtmbmkfhdiljalaaGreat
open Go.RowKit Go.ChangeShapes Go.WideShapes Go.ChangeAt
set_option linter.unusedVariables false
set_option linter.unusedSimpArgs false

/-- A slice that may be spoilt: each element is a number, and may be written. -/
def Spoils (q : IntKind) (w : World) (s : Sl) : Prop := ∀ j, j < s.xs.length → ∃ b o z, s.a = some ⟨b, o, none⟩ ∧ w.cell? ⟨b, o + j, none⟩ = some (.int q z) ∧ w.frozen? ⟨b, o + j, none⟩ = false
theorem SlAt.spoils {q : IntKind} {w : World} {s : Sl} (h : SlAt q w s) : Spoils q w s := by
  intro j hj
  rcases h.ints with ⟨h1, _⟩ | ⟨b, off, cap, e, hc⟩
  · rw [h1] at hj; simp at hj
  · unfold Sl.v at e
    simp only [Value.slice.injEq] at e
    obtain ⟨cs, T, hr⟩ := h.row b (by simp [Sl.bs, e.1])
    exact ⟨b, off, _, e.1, hc j hj, hr.free _⟩
theorem Spoils.put {q q' : IntKind} {w : World} {s : Sl} (h : Spoils q w s) {a : Addr} {z z' : Int} (hc : w.cell? a = some (.int q' z)) : Spoils q (w.setCell a (.int q' z')) s := by
  intro j hj
  obtain ⟨b, o, y, h1, h2, h3⟩ := h j hj
  by_cases e : a = ⟨b, o + j, none⟩
  · subst e
    rw [h2] at hc
    simp only [Option.some.injEq, Value.int.injEq] at hc
    obtain ⟨rfl, rfl⟩ := hc
    exact ⟨b, o, z', h1, World.cell?_setCell_same w _ _ h2, by rw [World.frozen?_setCell]; exact h3⟩
  · exact ⟨b, o, y, h1, by rw [World.cell?_setCell_other w _ _ _ e]; exact h2, by rw [World.frozen?_setCell]; exact h3⟩
theorem Spoils.only {q : IntKind} {w w' : World} {s : Sl} {G : List Nat} (h : Spoils q w s) (k : Only G w w') (hG : ∀ b ∈ s.bs, b ∉ G) : Spoils q w' s := by
  intro j hj
  obtain ⟨b, o, y, h1, h2, h3⟩ := h j hj
  have hb := World.block_lt_of_cell? w _ h2
  have hm : b ∉ G := hG b (by simp [Sl.bs, h1])
  exact ⟨b, o, y, h1, by rw [k.cell hb hm]; exact h2, by rw [World.frozen?_of_block (w := w) (k.block b hb hm)]; exact h3⟩
abbrev fPut : FuncId := 14
abbrev fPutR : FuncId := 23
/-- A put that is asked of the code, and, when what was put has been spoilt, of the document. -/
def PutPair (v : Int) (F G : List Nat) (t p q s B : Nat) (dim : Int) (W0 : Nat) (x : It) (n : Int) (w : World) (e : Ending) (w1 : World) : Prop := e = .returned (.int .i64 v) ∧ Only F w w1 ∧
  ∀ (K : List Nat) w2, Only K w1 w2 → (∀ b ∈ K, W0 ≤ b ∧ b < w.heap.size) → Calls Tryz.prog fPutR #[.pointer (some ⟨q, 0, none⟩), .int .u64 n, .agg #[.int .u64 x.key, x.vec.v, x.tag.v]] w2 fun e2 w3 => e2 = .returned (.int .i64 v) ∧ Only G w2 w3 ∧ Two (t + 1) w3 B p q s dim
section
variable {t : Nat} {w : World} {B p q s : Nat} {D : PDB} {F H : List Nat} {R : RDB}
theorem pair_put {w0 : World} (h : TwoAt t w0 B p q s D F H R) (ht : t < 150) (n : Int) (x : It) (hx1 : ∀ y, Below B w0 y → SlRd .i32 y x.vec) (hx2 : ∀ y, Below B w0 y → SlRd .u8 y x.tag) (h32 : vc.In32 x.vec.xs) : ∃ v, ∀ w (va ta : Sl), Below w0.heap.size w0 w → SlAt .i32 w va → SlAt .u8 w ta → va.xs = x.vec.xs → ta.xs = x.tag.xs →
    Calls Tryz.prog fPut #[.pointer (some ⟨p, 0, none⟩), .int .u64 n, .agg #[.int .u64 x.key, va.v, ta.v]] w (PutPair v F (R.own q s) t p q s B D.dim w0.heap.size x n w) := by
  have fresh : ∀ (K : List Nat) (w w1 w2 : World), Below w0.heap.size w0 w → Only F w w1 → Only K w1 w2 → (∀ b ∈ K, w0.heap.size ≤ b ∧ b < w.heap.size) → Below B w0 w2 ∧ RdbAt w2 B q s R := fun K w w1 w2 hb ho hk hK => by
    refine ⟨((hb.mono h.base).trans ((h.below hb).bCode ho)).trans (hk.toBelow (Nat.le_trans h.base (Nat.le_trans hb.size ho.size)) fun b hb2 => Nat.le_trans h.base (hK b hb2).1), ?_⟩
    exact ((h.below hb).mid ho).only hk fun b hb2 => ⟨fun hm => by have := h.doc.lt b hm; have := (hK b hb2).1; omega, fun hm => by have := h.doc.ltr b hm; have := (hK b hb2).1; omega⟩
  have no : ∀ (v : Int), v ≠ 0 → mayPutV R n x.vec.xs.length x.tag.xs.length = v → (∀ w (va ta : Sl), Below w0.heap.size w0 w → va.xs = x.vec.xs → ta.xs = x.tag.xs → Calls Tryz.prog fPut #[.pointer (some ⟨p, 0, none⟩), .int .u64 n, .agg #[.int .u64 x.key, va.v, ta.v]] w (RefTo (.int .i64 v) w)) →
      ∃ v, ∀ w (va ta : Sl), Below w0.heap.size w0 w → SlAt .i32 w va → SlAt .u8 w ta → va.xs = x.vec.xs → ta.xs = x.tag.xs →
        Calls Tryz.prog fPut #[.pointer (some ⟨p, 0, none⟩), .int .u64 n, .agg #[.int .u64 x.key, va.v, ta.v]] w (PutPair v F (R.own q s) t p q s B D.dim w0.heap.size x n w) := fun v hv hm hc =>
    ⟨v, fun w va ta hb _ _ e1 e2 => (hc w va ta hb e1 e2).mono fun e w1 ⟨he, hb1⟩ => ⟨he, (Only.refl F w).below hb1, fun K w2 hk hK => by
      obtain ⟨f1, f2⟩ := fresh K w w1 w2 hb ((Only.refl F w).below hb1) hk hK
      refine (put_r20_no f2 hv hm).mono fun e2 w3 ⟨he2, hb2⟩ => ⟨he2, (Only.refl _ w2).below hb2, ⟨D, F, H, R, ?_, rfl⟩⟩
      have g1 := (h.below hb).below hb1
      exact (g1.only hk fun b hb3 => ⟨fun hm => by have := h.code.lt.1 b hm; have := (hK b hb3).1; omega, fun hm => by have := h.code.lt.2 b hm; have := (hK b hb3).1; omega, fun hm => by have := h.doc.lt b hm; have := (hK b hb3).1; omega, fun hm => by have := h.doc.ltr b hm; have := (hK b hb3).1; omega⟩).next hb2⟩⟩
  have hxl := (hx1 w0 (Below.refl _ _)).le
  cases ho : findP n D.op with
  | none =>
    refine no 12 (by decide) (by unfold mayPutV; rw [if_pos (h.rel.lost ho)]) fun w va ta hb _ _ => ?_
    obtain ⟨ba, bo, hd⟩ := (h.below hb).dbAt
    exact put_no hd ho x.key va.v ta.v
  | some o =>
    obtain ⟨i, y, hy, hf, hn, hom, hon, r⟩ := h.rel.found ho
    have hdim := h.rel.dim
    by_cases h1 : (x.vec.xs.length : Int) = D.dim
    · by_cases h2 : 1024 < x.tag.xs.length
      · refine no 3 (by decide) (by unfold mayPutV; rw [if_neg (by rw [hf]; simp), if_neg (by rw [hdim]; simp [h1]), if_pos h2]) fun w va ta hb e1 e2 => ?_
        obtain ⟨ba, bo, hd⟩ := (h.below hb).dbAt
        exact put_bad hd ho (by rw [e1]; exact hxl) 3 (.inr ⟨by rw [e1]; exact h1, by rw [e2]; exact h2, rfl⟩)
      · have hm : mayPutV R n x.vec.xs.length x.tag.xs.length = 0 := by unfold mayPutV; rw [if_neg (by rw [hf]; simp), if_neg (by rw [hdim]; simp [h1]), if_neg h2]
        refine ⟨0, fun w va ta hb hva hta e1 e2 => ?_⟩
        refine (put_on (h.below hb).code (h.below hb).base ho hva.rd hta.rd (by rw [e1]; exact h1) (by rw [e2]; omega)).mono fun e w1 hk => ?_
        obtain ⟨v, H', he, v0, v1, v2, v3, v4, hd, hO, k1⟩ := hk
        refine ⟨he, hO, fun K w2 hk hK => ?_⟩
        obtain ⟨f1, f2⟩ := fresh K w w1 w2 hb hO hk hK
        have hB2 : B ≤ w2.heap.size := Nat.le_trans h.base (Nat.le_trans hb.size (Nat.le_trans hO.size hk.size))
        refine (put_r20_ok f2 hB2 hf hy (by have := h.rel.seesLen hom r; omega) (by have := r.len; omega) x (hx1 w2 f1) (hx2 w2 f1) hm).mono fun e3 w3 hk3 => ?_
        obtain ⟨he3, I, a, c, hI, hst⟩ := hk3
        refine ⟨he3, hst.only, ⟨wroteP D n x.key v, F, H', _, (h.below hb).step hd hO (Kept.refl _ _) k1 hk (fun b hb3 => ⟨fun hm => by have := h.code.lt.1 b hm; have := (hK b hb3).1; omega, fun hm => ?_⟩) hst ?_, rfl⟩⟩
        · rcases k1 b hm with h9 | h9
          · have := h.code.lt.2 b h9; have := (hK b hb3).1; omega
          · have := (hK b hb3).2; omega
        · rw [← hon]
          refine h.rel.wrote hom hy (by omega) (fun _ => ⟨v2, by rw [v3, e1]; exact h1, by rw [v3, e1]; exact h32⟩) ?_
          rw [hI]
          refine (r.sees.withC x.c).congr fun k => ?_
          show (if k = x.key then some x.c else seesF D o k) = _
          by_cases hkk : k = x.key
          · rw [if_pos hkk, if_pos hkk]
            show some (x.key, x.vec.xs, x.tag.xs) = if v.gone = true then none else some (v.key, v.vec.xs, v.tag.xs)
            rw [v1, v2, v3, v4, e1, e2]
            rfl
          · rw [if_neg hkk, if_neg hkk]
    · refine no 9 (by decide) (by unfold mayPutV; rw [if_neg (by rw [hf]; simp), if_pos (by rw [hdim]; exact h1)]) fun w va ta hb e1 e2 => ?_
      obtain ⟨ba, bo, hd⟩ := (h.below hb).dbAt
      exact put_bad hd ho (by rw [e1]; exact hxl) 9 (.inl ⟨by rw [e1]; exact h1, rfl⟩)
end
set_option maxRecDepth 100000 in
set_option maxHeartbeats 8000000 in
theorem write_put {t : Nat} {w : World} {B p q s : Nat} {D : PDB} {F H : List Nat} {R : RDB} (h : TwoAt t w B p q s D F H R) (ht : t < 150) (x : OpS) (hx : ∀ y, Below B w y → OpIn y x) (hl1 : x.it.vec.xs.length ≤ 5000) (hl2 : x.it.tag.xs.length ≤ 2000) (hk : x.kind = 1) :
    Calls Tryz.prog 8 #[.pointer (some ⟨p, 0, none⟩), .pointer (some ⟨q, 0, none⟩), x.val] w (WrTo t B p q s D.dim w) := by
  have BX := opBox x w
  have HH := Lib.hid (h.below BX.out)
  have R1 := Lib.hid (Row.made w x.cells.toArray tOp)
  have TB := Lib.hid ht
  have BB := Lib.hid h.base
  have NF : Hid (w.heap.size ∉ F ∧ w.heap.size ∉ R.own q s) := Lib.hid ⟨fun hm => by have := h.code.lt.1 _ hm; omega, fun hm => by have := h.doc.lt _ hm; omega⟩
  have HX : Hid (∀ y, Below B (w.alloc (.cells x.cells.toArray tOp)) y → SlRd .i32 y x.it.vec ∧ SlRd .u8 y x.it.tag) := Lib.hid fun y hy => by
    have g := hx y ((BX.out.mono BB.out).trans hy)
    exact ⟨g.vec.rd (by omega), g.tag.rd (by omega)⟩
  have H32 := Lib.hid (hx w (Below.refl _ _)).vec.in32
  have L1 := Lib.hid hl1
  have L2 := Lib.hid hl2
  unfold OpS.val
  unfold OpS.cells at BX HH R1 HX
  rw [hk] at BX HH R1 HX ⊢
  unfold Sl.v at BX HH R1 HX ⊢
  clear h ht hk hx hl1 hl2
  go_enter Tryz.func8, Tryz.ntmps8
  go_wp2_with fail
  generalize w.alloc (.cells #[.int .i64 1, .int .i64 x.n, .int .u64 x.t, .int .u64 x.key, .int .u64 x.hi, .int .u64 x.it.key, .slice x.it.vec.a x.it.vec.xs.length x.it.vec.c, .slice x.it.tag.a x.it.tag.xs.length x.it.tag.c, .slice x.q.a x.q.xs.length x.q.c] 36) = w0 at *
  obtain ⟨v, hv⟩ := pair_put HH.out TB.out x.t x.it (fun y hy => (HX.out y hy).1) (fun y hy => (HX.out y hy).2) H32.out
  have PV := Lib.hid hv
  have IC := Lib.hid (icopy_on (x := x.it) (HX.out w0 (Below.refl _ _)).1 (HX.out w0 (Below.refl _ _)).2)
  unfold OwnTo at IC
  unfold Sl.v at IC
  clear hv
  refine IC.out.mono ?_
  rintro _ w1 ⟨va, ta, rfl, e1, e2, s1, s2, fr, hb⟩
  have E1 := Lib.hid (And.intro e1 e2)
  have BW := Lib.hid ((Below.refl w1.heap.size w1).alloc (Nat.le_refl _) (.cells #[.int .u64 x.it.key, .slice va.a va.xs.length va.c, .slice ta.a ta.xs.length ta.c] tIt))
  have RB := Lib.hid (Row.made w1 #[.int .u64 x.it.key, .slice va.a va.xs.length va.c, .slice ta.a ta.xs.length ta.c] tIt)
  have LB : Hid ((w1.alloc (.cells #[.int .u64 x.it.key, .slice va.a va.xs.length va.c, .slice ta.a ta.xs.length ta.c] tIt)).heap.size = w1.heap.size + 1) := Lib.hid (by simp)
  have FR : Hid (∀ b ∈ va.bs ++ ta.bs, w0.heap.size ≤ b ∧ b < w1.heap.size) := Lib.hid fun b hm => ⟨fr b hm, by
    rcases List.mem_append.1 hm with hm | hm
    · exact s1.lt b hm
    · exact s2.lt b hm⟩
  have S1 := Lib.hid (s1.only ((Only.refl [] w1).below BW.out) (by simp))
  have S2 := Lib.hid (s2.only ((Only.refl [] w1).below BW.out) (by simp))
  have BV := Lib.hid hb
  have NV : Hid (va.xs.length ≤ 5000 ∧ ta.xs.length ≤ 2000) := Lib.hid (by rw [e1, e2]; exact ⟨L1.out, L2.out⟩)
  clear e1 e2 s1 s2 fr hb IC
  have rx := Lib.hid ((R1.out.only ((Only.refl [] w0).below BV.out) (by simp)).only ((Only.refl [] w1).below BW.out) (by simp))
  have x2 : (w1.alloc (.cells #[.int .u64 x.it.key, .slice va.a va.xs.length va.c, .slice ta.a ta.xs.length ta.c] tIt)).cell? ⟨w.heap.size, 2, none⟩ = some (.int .u64 x.t) := rx.out.cell 2
  go_wp2_with fail
  generalize w1.alloc (.cells #[.int .u64 x.it.key, .slice va.a va.xs.length va.c, .slice ta.a ta.xs.length ta.c] 34) = w2 at *
  have P2 := Lib.hid (PV.out w2 va ta (BV.out.trans (BW.out.mono BV.out.size)) S1.out S2.out E1.out.1 E1.out.2)
  unfold PutPair Sl.v at P2
  clear PV x2
  refine P2.out.mono ?_
  rintro _ w3 ⟨rfl, ho, hc⟩
  have C3 := Lib.hid hc
  have O3 := Lib.hid ho
  have FN : Hid (∀ b, w0.heap.size ≤ b → b ∉ F) := Lib.hid fun b hb hm => by have := HH.out.code.lt.1 b hm; omega
  have sp1 := Lib.hid (S1.out.spoils.only ho fun b hb => FN.out b (FR.out b (List.mem_append_left _ hb)).1)
  have sp2 := Lib.hid (S2.out.spoils.only ho fun b hb => FN.out b (FR.out b (List.mem_append_right _ hb)).1)
  have rb3 := Lib.hid (RB.out.only ho (FN.out _ BV.out.size))
  have rx3 := Lib.hid (rx.out.only ho NF.out.1)
  have Z1 : Hid (w1.heap.size < w2.heap.size) := Lib.hid (by have := LB.out; omega)
  clear ho hc P2 S1 S2
  go_wp2_with fail
  go_loopw [13] (fun u wr => ∃ j : Nat, u = .int .i64 (j : Int) ∧ Hid (j ≤ va.xs.length) ∧ Hid (Only (va.bs ++ ta.bs) w3 wr ∧ Spoils .i32 wr va ∧ Spoils .u8 wr ta)) (fun u _ => va.xs.length - (intOf u).toNat)
  case atStart => exact ⟨0, rfl, Lib.hid (Nat.zero_le _), Lib.hid ⟨Only.refl _ _, sp1.out, sp2.out⟩⟩
  case round =>
    obtain ⟨j, rfl, HJ, HS⟩ := hrel
    rename World => w4
    have c1 : w4.cell? ⟨w1.heap.size, 1, none⟩ = some (.slice va.a va.xs.length va.c) := (rb3.out.only HS.out.1 (fun hm => by have := (FR.out _ hm).2; omega)).cell 1
    have ej : IntKind.i64.wrap ((j : Int) + 1) = ((j + 1 : Nat) : Int) := w_inc _ (by have := NV.out; have := HJ.out; omega)
    by_cases hlt : j < va.xs.length
    · have d1 : decide ((j : Int) < (va.xs.length : Int)) = true := decide_eq_true (by omega)
      have d1' : decide (j < va.xs.length) = true := decide_eq_true hlt
      have j3 : (j : Int) < (va.xs.length : Int) := by omega
      obtain ⟨b, o, z, ea, hcell, hfr⟩ := HS.out.2.1 j hlt
      have HC := Lib.hid hcell
      have HM : Hid (b ∈ va.bs ++ ta.bs) := Lib.hid (List.mem_append_left _ (by simp [Sl.bs, ea]))
      have JL := Lib.hid hlt
      have NX : Hid (∀ z', Only (va.bs ++ ta.bs) w3 (w4.setCell ⟨b, o + j, none⟩ (.int .i32 z')) ∧ Spoils .i32 (w4.setCell ⟨b, o + j, none⟩ (.int .i32 z')) va ∧ Spoils .u8 (w4.setCell ⟨b, o + j, none⟩ (.int .i32 z')) ta) := Lib.hid fun z' => ⟨HS.out.1.setCell (.inl HM.out) _, HS.out.2.1.put HC.out, HS.out.2.2.put HC.out⟩
      rw [ea] at c1
      clear hlt ea
      go_wp2_with fail
      go_roundw
      case rel => exact ⟨j + 1, by go_num, Lib.hid (by have := JL.out; omega), Lib.hid (NX.out _)⟩
      case measure => have := JL.out; simp [intOf]; omega
    · have d1 : decide ((j : Int) < (va.xs.length : Int)) = false := decide_eq_false (by omega)
      have d1' : decide (j < va.xs.length) = false := decide_eq_false hlt
      have HS5 := HS
      clear hlt
      go_wp2_with fail
      go_loopw [14] (fun u wr => ∃ j : Nat, u = .int .i64 (j : Int) ∧ Hid (j ≤ ta.xs.length) ∧ Hid (Only (va.bs ++ ta.bs) w3 wr ∧ Spoils .u8 wr ta)) (fun u _ => ta.xs.length - (intOf u).toNat)
      case atStart => exact ⟨0, rfl, Lib.hid (Nat.zero_le _), Lib.hid ⟨HS5.out.1, HS5.out.2.2⟩⟩
      case round =>
        obtain ⟨k, rfl, HK, HT⟩ := hrel
        rename World => w5
        have c2 : w5.cell? ⟨w1.heap.size, 2, none⟩ = some (.slice ta.a ta.xs.length ta.c) := (rb3.out.only HT.out.1 (fun hm => by have := (FR.out _ hm).2; omega)).cell 2
        have ek : IntKind.i64.wrap ((k : Int) + 1) = ((k + 1 : Nat) : Int) := w_inc _ (by have := NV.out; have := HK.out; omega)
        by_cases hkt : k < ta.xs.length
        · have d2 : decide ((k : Int) < (ta.xs.length : Int)) = true := decide_eq_true (by omega)
          have d2' : decide (k < ta.xs.length) = true := decide_eq_true hkt
          have k3 : (k : Int) < (ta.xs.length : Int) := by omega
          obtain ⟨b, o, z, ea, hcell, hfr⟩ := HT.out.2 k hkt
          have HC := Lib.hid hcell
          have HM : Hid (b ∈ va.bs ++ ta.bs) := Lib.hid (List.mem_append_right _ (by simp [Sl.bs, ea]))
          have JL := Lib.hid hkt
          have NX : Hid (∀ z', Only (va.bs ++ ta.bs) w3 (w5.setCell ⟨b, o + k, none⟩ (.int .u8 z')) ∧ Spoils .u8 (w5.setCell ⟨b, o + k, none⟩ (.int .u8 z')) ta) := Lib.hid fun z' => ⟨HT.out.1.setCell (.inl HM.out) _, HT.out.2.put HC.out⟩
          rw [ea] at c2
          clear hkt ea
          go_wp2_with fail
          go_roundw
          case rel => exact ⟨k + 1, by go_num, Lib.hid (by have := JL.out; omega), Lib.hid (NX.out _)⟩
          case measure => have := JL.out; simp [intOf]; omega
        · have d2 : decide ((k : Int) < (ta.xs.length : Int)) = false := decide_eq_false (by omega)
          have d2' : decide (k < ta.xs.length) = false := decide_eq_false hkt
          have rx5 := Lib.hid (rx3.out.only HT.out.1 (fun hm => by have := (FR.out _ hm).1; have := R1.out.lt; omega))
          have q2 : w5.cell? ⟨w.heap.size, 2, none⟩ = some (.int .u64 x.t) := rx5.out.cell 2
          have q5 : w5.cell? ⟨w.heap.size, 5, none⟩ = some (.int .u64 x.it.key) := rx5.out.cell 5
          have q6 : w5.cell? ⟨w.heap.size, 6, none⟩ = some (.slice x.it.vec.a x.it.vec.xs.length x.it.vec.c) := rx5.out.cell 6
          have q7 : w5.cell? ⟨w.heap.size, 7, none⟩ = some (.slice x.it.tag.a x.it.tag.xs.length x.it.tag.c) := rx5.out.cell 7
          have C5 := Lib.hid (C3.out _ w5 HT.out.1 (fun b hm => ⟨(FR.out b hm).1, by have := (FR.out b hm).2; have := Z1.out; omega⟩))
          clear hkt
          go_wp2_with fail
          refine C5.out.mono ?_
          rintro _ w6 ⟨rfl, ho6, htw⟩
          have N : Hid (WrTo t B p q s D.dim w (.returned (.bool true)) w6) := Lib.hid ⟨rfl, htw, by
            have hB0 := HH.out.base
            have b1 : Below B w0 w2 := ((BV.out.mono hB0).trans (BW.out.mono (Nat.le_trans hB0 BV.out.size)))
            have b2 : Below B w2 w3 := O3.out.toBelow (Nat.le_trans hB0 b1.size) HH.out.code.ge.1
            have b3 : Below B w3 w5 := HT.out.1.toBelow (Nat.le_trans hB0 (Nat.le_trans b1.size b2.size)) fun b hm => Nat.le_trans hB0 (FR.out b hm).1
            have b4 : Below B w5 w6 := ho6.toBelow (Nat.le_trans hB0 (Nat.le_trans b1.size (Nat.le_trans b2.size b3.size))) HH.out.doc.ge
            exact (BX.out.mono BB.out).trans (((b1.trans b2).trans b3).trans b4)⟩
          clear htw ho6
          go_wp2_with fail
          go_ret
          exact N.out
end Go.Proofs.YtmbmkfhdiljalaaGreat

/- PlainPlays: Get, Range, Knn, asked of both. -/
namespace Go.Proofs.YtmbmkfhdiljalaaGreat
open Go.RowKit Go.ChangeShapes Go.WideShapes Go.ChangeAt
set_option linter.unusedVariables false
set_option linter.unusedSimpArgs false

abbrev fGet : FuncId := 20
abbrev fGetR : FuncId := 29
abbrev fRange : FuncId := 31
abbrev fRangeR : FuncId := 32
abbrev fKnn : FuncId := 33
abbrev fKnnR : FuncId := 34
/-- A record that is told, of these contents, or an error. -/
def GotTo (er : Int) (c0 : Rc) (w : World) (e : Ending) (w' : World) : Prop := ∃ a : It, e = .returned (.tuple #[.agg #[.int .u64 a.key, a.vec.v, a.tag.v], .int .i64 er]) ∧ (SlAt .i32 w' a.vec ∧ SlAt .u8 w' a.tag) ∧ a.c = c0 ∧ Below w.heap.size w w'
def GotNew (er : Int) (c0 : Rc) (w : World) (e : Ending) (w' : World) : Prop := ∃ a : It, e = .returned (.tuple #[.agg #[.int .u64 a.key, a.vec.v, a.tag.v], .int .i64 er]) ∧ (SlAt .i32 w' a.vec ∧ SlAt .u8 w' a.tag) ∧ a.c = c0 ∧ Below w.heap.size w w' ∧ ∀ b ∈ a.bs, w.heap.size ≤ b
def itNo : It := ⟨0, Sl.no, Sl.no⟩
def ListNew (er : Int) (L : List Rc) (w : World) (e : Ending) (w' : World) : Prop := ∃ (a : Option Addr) (c : Nat) (its : List It), e = .returned (.tuple #[.slice a its.length c, .int .i64 er]) ∧ RdAt w' w.heap.size a its ∧ its.map It.c = L ∧ Below w.heap.size w w'
def ListOld (er : Int) (L : List Rc) (w : World) (e : Ending) (w' : World) : Prop := ∃ I : Its, e = .returned (.tuple #[I.v, .int .i64 er]) ∧ RsAt w' I ∧ I.cs = L ∧ Below w.heap.size w w'
def HitsTo (er : Int) (hs : List (Int × Int)) (w : World) (e : Ending) (w' : World) : Prop := ∃ v, e = .returned (.tuple #[v, .int .i64 er]) ∧ vc.HitsAt w' v hs ∧ Below w.heap.size w w'
section
variable {t : Nat} {w : World} {B p q s : Nat} {D : PDB} {F H : List Nat} {R : RDB}
theorem got_no {er : Int} {w : World} {e : Ending} {w' : World} (he : e = .returned (.tuple #[.agg (itemV none), .int .i64 er])) (hb : Below w.heap.size w w') : GotNew er itNo.c w e w' :=
  ⟨itNo, he, ⟨SlAt.no _ _, SlAt.no _ _⟩, rfl, hb, by simp [itNo, It.bs, Sl.bs, Sl.no]⟩
theorem GotNew.got {er : Int} {c : Rc} {w : World} {e : Ending} {w' : World} (h : GotNew er c w e w') : GotTo er c w e w' := by
  obtain ⟨a, h1, h2, h3, h4, _⟩ := h
  exact ⟨a, h1, h2, h3, h4⟩
theorem pair_get (h : TwoAt t w B p q s D F H R) (ht : t < 150) (n key : Int) : ∃ er c0, Calls Tryz.prog fGet #[.pointer (some ⟨p, 0, none⟩), .int .u64 n, .int .u64 key] w (GotNew er c0 w) ∧
    ∀ w1, Below w.heap.size w w1 → Calls Tryz.prog fGetR #[.pointer (some ⟨s, 0, none⟩), .int .u64 n, .int .u64 key] w1 (GotTo er c0 w1) := by
  obtain ⟨ba, bo, hd⟩ := h.dbAt
  have hs := h.small (by omega)
  cases ho : findP n D.op with
  | none =>
    exact ⟨12, itNo.c, (get_no hd ho key).mono fun e w' ⟨he, hb⟩ => got_no he hb, fun w1 hb => (get_r_no (h.below hb).doc (h.rel.lost ho) key).mono fun e w' ⟨he, hb⟩ => (got_no he hb).got⟩
  | some o =>
    obtain ⟨i, x, hx, hf, hn, hom, hon, r⟩ := h.rel.found ho
    have CG := get_on hd (key := key) ho (by have := h.rel.vlen key; omega)
    cases hv : seesF D o key with
    | none =>
      refine ⟨7, itNo.c, CG.mono fun e w' hk => ?_, fun w1 hb => (get_r_at (h.below hb).doc hf hx key).mono fun e w' hk => ?_⟩
      · unfold GetTo at hk
        unfold seesF visC at hv
        cases hr : seesR D o key with
        | none => rw [hr] at hk; exact got_no hk.1 hk.2
        | some v =>
          rw [hr] at hk hv
          have hg : v.gone = true := by
            cases hg : v.gone with
            | true => rfl
            | false => simp [hg] at hv
          simp only [hg, if_true] at hk
          exact got_no hk.1 hk.2
      · obtain ⟨hb2, ⟨_, he⟩ | ⟨y, hy, hk2, he⟩⟩ := hk
        · exact (got_no he hb2).got
        · exfalso
          have hat : isAt x.sees.cs (placeC x.sees.cs key) key = true := by unfold isAt; rw [cs_get hy]; exact decide_eq_true hk2
          exact (r.sees.at_iff key).1 hat hv
    | some c =>
      refine ⟨0, c, CG.mono fun e w' hk => ?_, fun w1 hb => (get_r_at (h.below hb).doc hf hx key).mono fun e w' hk => ?_⟩
      · obtain ⟨v, hr, hg, hc⟩ := visC_some hv
        unfold GetTo at hk
        have hr' : seesR D o key = some v := hr
        rw [hr'] at hk
        simp only [hg] at hk
        obtain ⟨va, ta, he, e1, e2, s1, s2, fr, hb2⟩ := hk
        exact ⟨⟨v.key, va, ta⟩, he, ⟨s1, s2⟩, by rw [hc]; unfold It.c; rw [e1, e2], hb2, fr⟩
      · obtain ⟨hb2, ⟨ha, _⟩ | ⟨y, hy, hk2, he⟩⟩ := hk
        · exfalso
          have := (r.sees.at_iff key).2 (by rw [hv]; simp)
          rw [ha] at this
          cases this
        · have hat : isAt x.sees.cs (placeC x.sees.cs key) key = true := by unfold isAt; rw [cs_get hy]; exact decide_eq_true hk2
          obtain ⟨c2, h1, h2, _⟩ := r.sees.at_yes hat
          rw [cs_get hy] at h1
          have hyc : y.c = c := by
            have := h2.symm.trans hv
            rw [Option.some.injEq] at h1 this
            rw [h1, this]
          have hsl := ((h.below hb).doc.below hb2).sees x (List.mem_of_getElem? hx)
          exact ⟨y, he, hsl.each y (List.mem_of_getElem? hy), hyc, hb2⟩
theorem pair_range (h : TwoAt t w B p q s D F H R) (ht : t < 150) (n lo hi most : Int) (hm1 : -9223372036854775808 ≤ most) (hm2 : most ≤ 9223372036854775807) : ∃ er L, Calls Tryz.prog fRange #[.pointer (some ⟨p, 0, none⟩), .int .u64 n, .int .u64 lo, .int .u64 hi, .int .i64 most] w (ListNew er L w) ∧
    (∀ w1, Below w.heap.size w w1 → Calls Tryz.prog fRangeR #[.pointer (some ⟨s, 0, none⟩), .int .u64 n, .int .u64 lo, .int .u64 hi, .int .i64 most] w1 (ListOld er L w1)) ∧ (∀ c ∈ L, 1 ≤ c.2.1.length) ∧ L.length ≤ 150 := by
  obtain ⟨ba, bo, hd⟩ := h.dbAt
  have hs := h.small (by omega)
  cases ho : findP n D.op with
  | none =>
    refine ⟨12, [], (range_no hd ho lo hi most).mono fun e w' ⟨he, hb⟩ => ⟨none, 0, [], he, ⟨.inl rfl, by simp, by simp⟩, rfl, hb⟩, fun w1 hb => (range_r_no (h.below hb).doc (h.rel.lost ho) lo hi most).mono fun e w' ⟨he, hb⟩ => ⟨Its.no, he, RsAt.no _, rfl, hb⟩, by simp, by simp⟩
  | some o =>
    obtain ⟨i, x, hx, hf, hn, hom, hon, r⟩ := h.rel.found ho
    have hsl := h.rel.seesLen hom r
    refine ⟨0, rangeC x.sees.cs lo hi most, (range_on hd hs ho lo hi most hm1 hm2).mono fun e w' hk => ?_, fun w1 hb => (range_r_at (h.below hb).doc hf hx lo hi most hm1 hm2).mono fun e w' ⟨I, he, h1, h2, h3⟩ => ⟨I, he, h1, h2, h3⟩, fun c hc => ?_, ?_⟩
    · obtain ⟨zs, hz, hm, a, c, its, he, hr, hcs, hb⟩ := hk
      rw [h.rel.seenList hom r hz hm, ← rangeC_filter r.sees.up] at hcs
      exact ⟨a, c, its, he, hr, hcs, hb⟩
    · rw [rangeC_filter r.sees.up] at hc
      have h1 := (List.mem_filter.1 (List.mem_of_mem_take hc)).1
      have h2 := h.rel.seesOk hom ((r.sees.mem c).1 h1)
      have := hd.fine.dim
      omega
    · unfold rangeC
      have h2 := (List.takeWhile_sublist (fun x : Rc => decide (x.1 ≤ hi)) (l := x.sees.cs.drop (placeC x.sees.cs lo))).length_le
      have h3 : (x.sees.cs.drop (placeC x.sees.cs lo)).length ≤ x.sees.cs.length := by simp
      have h4 : x.sees.cs.length = x.sees.l.length := Its.cs_len _
      have h5 := List.length_take (i := most.toNat) (l := (x.sees.cs.drop (placeC x.sees.cs lo)).takeWhile fun x => decide (x.1 ≤ hi))
      omega
theorem pair_knn (h : TwoAt t w B p q s D F H R) (ht : t < 150) (n k : Int) (k1 : -9223372036854775808 ≤ k) (k2 : k ≤ 9223372036854775807) {Q : Sl} (hQ : ∀ w1, Below w.heap.size w w1 → SlRd .i32 w1 Q) (h32 : vc.In32 Q.xs) : ∃ er hs, Calls Tryz.prog fKnn #[.pointer (some ⟨p, 0, none⟩), .int .u64 n, Q.v, .int .i64 k] w (HitsTo er hs w) ∧
    (∀ w1, Below w.heap.size w w1 → Calls Tryz.prog fKnnR #[.pointer (some ⟨s, 0, none⟩), .int .u64 n, Q.v, .int .i64 k] w1 (HitsTo er hs w1)) ∧ hs.length ≤ 1000000 := by
  obtain ⟨ba, bo, hd⟩ := h.dbAt
  have hs := h.small (by omega)
  have nohit : ∀ w, vc.HitsAt w (.slice none 0 0) [] := fun w => .inl ⟨rfl, none, 0, rfl⟩
  have hQ0 := hQ w (Below.refl _ _)
  cases ho : findP n D.op with
  | none =>
    exact ⟨12, [], (knn_no hd ho k Q.v).mono fun e w' ⟨he, hw⟩ => ⟨_, he, nohit _, by rw [hw]; exact Below.refl _ _⟩, fun w1 hb => (knn_r_no (h.below hb).doc (h.rel.lost ho) Q.v k).mono fun e w' ⟨he, hb⟩ => ⟨_, he, nohit _, hb⟩, by simp⟩
  | some o =>
    obtain ⟨i, x, hx, hf, hn, hom, hon, r⟩ := h.rel.found ho
    by_cases hdm : (Q.xs.length : Int) = D.dim
    · refine ⟨0, vc.firstF (x.sees.cs.map (hitC Q.xs)) k, (knn_on hd hs ho hQ0 hdm h32 (fun key c hc => (h.rel.seesOk hom hc).2.2) k k1 k2).mono fun e w' hk => ?_, fun w1 hb => (knn_r_at (h.below hb).doc hf hx (by have := h.rel.seesLen hom r; omega) (hQ w1 hb) (by rw [hdm, h.rel.dim]) h32 (fun c hc => (h.rel.seesOk hom ((r.sees.mem c).1 hc)).2.2) k).mono fun e w' ⟨v, he, h1, h2⟩ => ⟨v, he, h1, h2⟩, ?_⟩
      · obtain ⟨zs, hz, hm, v, he, hh, hb⟩ := hk
        rw [h.rel.seenList hom r hz hm] at hh
        exact ⟨v, he, hh, hb⟩
      · rw [vc.firstF_len]
        unfold vc.askN
        have := h.rel.seesLen hom r
        rw [List.length_map, Its.cs_len]
        omega
    · exact ⟨9, [], (knn_dim hd ho hQ0.le hdm k).mono fun e w' ⟨he, hw⟩ => ⟨_, he, nohit _, by rw [hw]; exact Below.refl _ _⟩, fun w1 hb => (knn_r_dim (h.below hb).doc hf hx hQ0.le (by rw [h.rel.dim]; exact hdm) k).mono fun e w' ⟨he, hb⟩ => ⟨_, he, nohit _, hb⟩, by simp⟩
end
end Go.Proofs.YtmbmkfhdiljalaaGreat

/- PlainPlays: read. -/
namespace Go.Proofs.YtmbmkfhdiljalaaGreat
open Go.RowKit Go.ChangeShapes Go.WideShapes Go.ChangeAt
set_option linter.unusedVariables false
set_option linter.unusedSimpArgs false

theorem box_spoil {w1 w2 : World} {a : It} {K : List Nat} {b0 : Nat} (RB : Row w1 b0 #[.int .u64 a.key, a.vec.v, a.tag.v] tIt) (k : Only K w1 w2) (hb : b0 ∉ K) : w2.cell? ⟨b0, 1, none⟩ = some (.slice a.vec.a a.vec.xs.length a.vec.c) ∧ w2.cell? ⟨b0, 2, none⟩ = some (.slice a.tag.a a.tag.xs.length a.tag.c) :=
  ⟨(RB.only k hb).cell 1, (RB.only k hb).cell 2⟩
def RdTo (w : World) (e : Ending) (w' : World) : Prop := e = .returned (.bool true) ∧ Below w.heap.size w w'
set_option maxRecDepth 100000 in
set_option maxHeartbeats 8000000 in
theorem read_get {t : Nat} {w : World} {B p q s : Nat} {D : PDB} {F H : List Nat} {R : RDB} (h : TwoAt t w B p q s D F H R) (ht : t < 150) (x : OpS) (hk : x.kind = 3) :
    Calls Tryz.prog 9 #[.pointer (some ⟨p, 0, none⟩), .pointer (some ⟨s, 0, none⟩), x.val] w (RdTo w) := by
  have BX := opBox x w
  have HH := Lib.hid (h.below BX.out)
  have R1 := Lib.hid (Row.made w x.cells.toArray tOp)
  have TB := Lib.hid ht
  unfold OpS.val
  unfold OpS.cells at BX HH R1
  rw [hk] at BX HH R1 ⊢
  unfold Sl.v at BX HH R1 ⊢
  clear h ht hk
  go_enter Tryz.func9, Tryz.ntmps9
  go_wp2_with fail
  generalize w.alloc (.cells #[.int .i64 3, .int .i64 x.n, .int .u64 x.t, .int .u64 x.key, .int .u64 x.hi, .int .u64 x.it.key, .slice x.it.vec.a x.it.vec.xs.length x.it.vec.c, .slice x.it.tag.a x.it.tag.xs.length x.it.tag.c, .slice x.q.a x.q.xs.length x.q.c] 36) = w0 at *
  obtain ⟨er, c0, g1, g2⟩ := pair_get HH.out TB.out x.t x.key
  have G1 := Lib.hid g1
  have G2 := Lib.hid g2
  unfold GotNew at G1
  unfold GotTo at G2
  clear g1 g2
  refine G1.out.mono ?_
  rintro _ w1 ⟨a, rfl, sa, ha, hb, fr⟩
  have SA := Lib.hid sa
  have CA := Lib.hid ha
  have BA := Lib.hid hb
  have FA := Lib.hid fr
  have BW := Lib.hid ((Below.refl w1.heap.size w1).alloc (Nat.le_refl _) (.cells #[.int .u64 a.key, .slice a.vec.a a.vec.xs.length a.vec.c, .slice a.tag.a a.tag.xs.length a.tag.c] tIt))
  have RB := Lib.hid (Row.made w1 #[.int .u64 a.key, .slice a.vec.a a.vec.xs.length a.vec.c, .slice a.tag.a a.tag.xs.length a.tag.c] tIt)
  have LB : Hid ((w1.alloc (.cells #[.int .u64 a.key, .slice a.vec.a a.vec.xs.length a.vec.c, .slice a.tag.a a.tag.xs.length a.tag.c] tIt)).heap.size = w1.heap.size + 1) := Lib.hid (by simp)
  have rx := Lib.hid ((R1.out.only ((Only.refl [] w0).below hb) (by simp)).only ((Only.refl [] w1).below BW.out) (by simp))
  have x2 : (w1.alloc (.cells #[.int .u64 a.key, .slice a.vec.a a.vec.xs.length a.vec.c, .slice a.tag.a a.tag.xs.length a.tag.c] tIt)).cell? ⟨w.heap.size, 2, none⟩ = some (.int .u64 x.t) := rx.out.cell 2
  have x3 : (w1.alloc (.cells #[.int .u64 a.key, .slice a.vec.a a.vec.xs.length a.vec.c, .slice a.tag.a a.tag.xs.length a.tag.c] tIt)).cell? ⟨w.heap.size, 3, none⟩ = some (.int .u64 x.key) := rx.out.cell 3
  unfold Sl.v
  clear sa ha hb fr G1
  go_wp2_with fail
  generalize w1.alloc (.cells #[.int .u64 a.key, .slice a.vec.a a.vec.xs.length a.vec.c, .slice a.tag.a a.tag.xs.length a.tag.c] 34) = w2 at *
  have C2 := Lib.hid (G2.out w2 (BA.out.trans (BW.out.mono BA.out.size)))
  clear G2 x2 x3
  refine C2.out.mono ?_
  rintro _ w3 ⟨b, rfl, sb, hbc, hb3⟩
  have SB := Lib.hid sb
  have CB := Lib.hid hbc
  have B3 := Lib.hid hb3
  have BW4 := Lib.hid ((Below.refl w3.heap.size w3).alloc (Nat.le_refl _) (.cells #[.int .u64 b.key, .slice b.vec.a b.vec.xs.length b.vec.c, .slice b.tag.a b.tag.xs.length b.tag.c] tIt))
  have RB4 := Lib.hid (Row.made w3 #[.int .u64 b.key, .slice b.vec.a b.vec.xs.length b.vec.c, .slice b.tag.a b.tag.xs.length b.tag.c] tIt)
  have ra := Lib.hid ((RB.out.only ((Only.refl [] w2).below hb3) (by simp)).only ((Only.refl [] w3).below BW4.out) (by simp))
  have a0 : (w3.alloc (.cells #[.int .u64 b.key, .slice b.vec.a b.vec.xs.length b.vec.c, .slice b.tag.a b.tag.xs.length b.tag.c] tIt)).cell? ⟨w1.heap.size, 0, none⟩ = some (.int .u64 a.key) := ra.out.cell 0
  have a1 : (w3.alloc (.cells #[.int .u64 b.key, .slice b.vec.a b.vec.xs.length b.vec.c, .slice b.tag.a b.tag.xs.length b.tag.c] tIt)).cell? ⟨w1.heap.size, 1, none⟩ = some (.slice a.vec.a a.vec.xs.length a.vec.c) := ra.out.cell 1
  have a2 : (w3.alloc (.cells #[.int .u64 b.key, .slice b.vec.a b.vec.xs.length b.vec.c, .slice b.tag.a b.tag.xs.length b.tag.c] tIt)).cell? ⟨w1.heap.size, 2, none⟩ = some (.slice a.tag.a a.tag.xs.length a.tag.c) := ra.out.cell 2
  unfold Sl.v
  have ee : (er == er) = true := by simp
  clear sb hbc hb3 C2
  go_wp2_with fail
  generalize w3.alloc (.cells #[.int .u64 b.key, .slice b.vec.a b.vec.xs.length b.vec.c, .slice b.tag.a b.tag.xs.length b.tag.c] 34) = w4 at *
  have B24 : Hid (Below w2.heap.size w2 w4) := Lib.hid (B3.out.trans (BW4.out.mono B3.out.size))
  have SA4 : Hid (SlAt .i32 w4 a.vec ∧ SlAt .u8 w4 a.tag) := Lib.hid ⟨(SA.out.1.only ((Only.refl [] w1).below BW.out) (by simp)).only ((Only.refl [] w2).below B24.out) (by simp), (SA.out.2.only ((Only.refl [] w1).below BW.out) (by simp)).only ((Only.refl [] w2).below B24.out) (by simp)⟩
  have IS := Lib.hid (isame_on (x := a) (y := b) SA4.out ⟨SB.out.1.only ((Only.refl [] w3).below BW4.out) (by simp), SB.out.2.only ((Only.refl [] w3).below BW4.out) (by simp)⟩ (by rw [CA.out, CB.out]))
  unfold Sl.v at IS
  clear a0 a1 a2
  refine IS.out.mono ?_
  rintro _ w5 ⟨rfl, hb5⟩
  have B5 := Lib.hid hb5
  have RA5 := Lib.hid (ra.out.only ((Only.refl [] w4).below hb5) (by simp))
  have SP := Lib.hid (And.intro (SA4.out.1.only ((Only.refl [] w4).below hb5) (by simp)).spoils (SA4.out.2.only ((Only.refl [] w4).below hb5) (by simp)).spoils)
  have NL : Hid (a.vec.xs.length ≤ 1000000 ∧ a.tag.xs.length ≤ 1000000) := Lib.hid ⟨SA4.out.1.le, SA4.out.2.le⟩
  have FK : Hid (∀ b ∈ a.vec.bs ++ a.tag.bs, w.heap.size ≤ b ∧ b ≠ w1.heap.size) := Lib.hid fun b hb => ⟨Nat.le_trans BX.out.size (FA.out b hb), fun e => by
    have : b < w1.heap.size := by
      rcases List.mem_append.1 hb with hb | hb
      · exact SA.out.1.lt b hb
      · exact SA.out.2.lt b hb
    omega⟩
  have B05 : Hid (Below w.heap.size w w5) := Lib.hid (BX.out.trans ((BA.out.trans ((BW.out.trans (B24.out.mono BW.out.size)).mono BA.out.size) |>.trans (B5.out.mono (by have := BA.out.size; have := BW.out.size; have := B24.out.size; omega))).mono BX.out.size))
  clear hb5 IS ra
  go_wp2_with fail
  go_loopw [12] (fun u wr => ∃ j : Nat, u = .int .i64 (j : Int) ∧ Hid (j ≤ a.vec.xs.length) ∧ Hid (Only (a.vec.bs ++ a.tag.bs) w5 wr ∧ Spoils .i32 wr a.vec ∧ Spoils .u8 wr a.tag)) (fun u _ => a.vec.xs.length - (intOf u).toNat)
  case atStart => exact ⟨0, rfl, Lib.hid (Nat.zero_le _), Lib.hid ⟨Only.refl _ _, SP.out⟩⟩
  case round =>
    obtain ⟨j, rfl, HJ, HS⟩ := hrel
    rename World => w6
    have c1 := (box_spoil RA5.out HS.out.1 (fun hm => (FK.out _ hm).2 rfl)).1
    have ej : IntKind.i64.wrap ((j : Int) + 1) = ((j + 1 : Nat) : Int) := w_inc _ (by have := NL.out; have := HJ.out; omega)
    by_cases hlt : j < a.vec.xs.length
    · have d1 : decide ((j : Int) < (a.vec.xs.length : Int)) = true := decide_eq_true (by omega)
      have d1' : decide (j < a.vec.xs.length) = true := decide_eq_true hlt
      have j3 : (j : Int) < (a.vec.xs.length : Int) := by omega
      obtain ⟨b9, o, z, ea, hcell, hfr⟩ := HS.out.2.1 j hlt
      have HC := Lib.hid hcell
      have HM : Hid (b9 ∈ a.vec.bs ++ a.tag.bs) := Lib.hid (List.mem_append_left _ (by simp [Sl.bs, ea]))
      have JL := Lib.hid hlt
      have NX : Hid (∀ z', Only (a.vec.bs ++ a.tag.bs) w5 (w6.setCell ⟨b9, o + j, none⟩ (.int .i32 z')) ∧ Spoils .i32 (w6.setCell ⟨b9, o + j, none⟩ (.int .i32 z')) a.vec ∧ Spoils .u8 (w6.setCell ⟨b9, o + j, none⟩ (.int .i32 z')) a.tag) := Lib.hid fun z' => ⟨HS.out.1.setCell (.inl HM.out) _, HS.out.2.1.put HC.out, HS.out.2.2.put HC.out⟩
      rw [ea] at c1
      clear hlt ea
      go_wp2_with fail
      go_roundw
      case rel => exact ⟨j + 1, by go_num, Lib.hid (by have := JL.out; omega), Lib.hid (NX.out _)⟩
      case measure => have := JL.out; simp [intOf]; omega
    · have d1 : decide ((j : Int) < (a.vec.xs.length : Int)) = false := decide_eq_false (by omega)
      have d1' : decide (j < a.vec.xs.length) = false := decide_eq_false hlt
      have HS5 := HS
      clear hlt
      go_wp2_with fail
      go_loopw [13] (fun u wr => ∃ j : Nat, u = .int .i64 (j : Int) ∧ Hid (j ≤ a.tag.xs.length) ∧ Hid (Only (a.vec.bs ++ a.tag.bs) w5 wr ∧ Spoils .u8 wr a.tag)) (fun u _ => a.tag.xs.length - (intOf u).toNat)
      case atStart => exact ⟨0, rfl, Lib.hid (Nat.zero_le _), Lib.hid ⟨HS5.out.1, HS5.out.2.2⟩⟩
      case round =>
        obtain ⟨k, rfl, HK, HT⟩ := hrel
        rename World => w7
        have c2 := (box_spoil RA5.out HT.out.1 (fun hm => (FK.out _ hm).2 rfl)).2
        have ek : IntKind.i64.wrap ((k : Int) + 1) = ((k + 1 : Nat) : Int) := w_inc _ (by have := NL.out; have := HK.out; omega)
        by_cases hkt : k < a.tag.xs.length
        · have d2 : decide ((k : Int) < (a.tag.xs.length : Int)) = true := decide_eq_true (by omega)
          have d2' : decide (k < a.tag.xs.length) = true := decide_eq_true hkt
          have k3 : (k : Int) < (a.tag.xs.length : Int) := by omega
          obtain ⟨b9, o, z, ea, hcell, hfr⟩ := HT.out.2 k hkt
          have HC := Lib.hid hcell
          have HM : Hid (b9 ∈ a.vec.bs ++ a.tag.bs) := Lib.hid (List.mem_append_right _ (by simp [Sl.bs, ea]))
          have JL := Lib.hid hkt
          have NX : Hid (∀ z', Only (a.vec.bs ++ a.tag.bs) w5 (w7.setCell ⟨b9, o + k, none⟩ (.int .u8 z')) ∧ Spoils .u8 (w7.setCell ⟨b9, o + k, none⟩ (.int .u8 z')) a.tag) := Lib.hid fun z' => ⟨HT.out.1.setCell (.inl HM.out) _, HT.out.2.put HC.out⟩
          rw [ea] at c2
          clear hkt ea
          go_wp2_with fail
          go_roundw
          case rel => exact ⟨k + 1, by go_num, Lib.hid (by have := JL.out; omega), Lib.hid (NX.out _)⟩
          case measure => have := JL.out; simp [intOf]; omega
        · have d2 : decide ((k : Int) < (a.tag.xs.length : Int)) = false := decide_eq_false (by omega)
          have d2' : decide (k < a.tag.xs.length) = false := decide_eq_false hkt
          have N : Hid (RdTo w (.returned (.bool true)) w7) := Lib.hid ⟨rfl, B05.out.trans (HT.out.1.toBelow B05.out.size fun b hb => (FK.out b hb).1)⟩
          clear hkt
          go_wp2_with fail
          go_ret
          exact N.out
end Go.Proofs.YtmbmkfhdiljalaaGreat
