/- PlainPlays: read of Range and of Knn. -/
import Derived.Test.YtmbmkfhdiljalaaGreatMg44
import Derived.Laws.MakeOwn
namespace Go.Proofs.YtmbmkfhdiljalaaGreat
open Go.RowKit Go.ChangeShapes Go.WideShapes Go.ChangeAt
set_option linter.unusedVariables false
set_option linter.unusedSimpArgs false

def vecB (its : List It) : List Nat := its.flatMap fun x => x.vec.bs
theorem mem_vecB {its : List It} {x : It} (h : x ∈ its) {b : Nat} (hb : b ∈ x.vec.bs) : b ∈ vecB its := List.mem_flatMap.2 ⟨x, h, hb⟩
/-- Records that may be spoilt. -/
structure SpIts (w w' : World) (a : Option Addr) (its : List It) : Prop where
  only : Only (vecB its) w w'
  sp : ∀ x ∈ its, Spoils .i32 w' x.vec
theorem SpIts.start {w : World} {B : Nat} {a : Option Addr} {its : List It} (h : RdAt w B a its) : SpIts w w a its := ⟨Only.refl _ _, fun x hx => (h.each x hx).1.spoils⟩
theorem SpIts.at_ {w w' : World} {B : Nat} {a : Option Addr} {its : List It} (h : RdAt w B a its) (k : SpIts w w' a its) (h1 : ∀ c ∈ its.map It.c, 1 ≤ c.2.1.length) {j : Nat} (hj : j < its.length) :
    ∃ g v o n c z, a = some ⟨g, 0, none⟩ ∧ w'.cell? ⟨g, j * 3 + 1, none⟩ = some (.slice (some ⟨v, o, none⟩) n c) ∧ 1 ≤ n ∧ w'.cell? ⟨v, o, none⟩ = some (.int .i32 z) ∧ w'.frozen? ⟨v, o, none⟩ = false ∧ ∀ z', SpIts w (w'.setCell ⟨v, o, none⟩ (.int .i32 z')) a its := by
  obtain ⟨x, hx⟩ : ∃ x, its[j]? = some x := ⟨_, List.getElem?_eq_getElem hj⟩
  have hxm := List.mem_of_getElem? hx
  have hlen : 1 ≤ x.vec.xs.length := h1 x.c (List.mem_map.2 ⟨x, hxm, rfl⟩)
  obtain ⟨v, o, z, e1, e2, e3⟩ := k.sp x hxm 0 (by omega)
  rw [Nat.add_zero] at e2 e3
  rcases h.row with h0 | ⟨g, hg1, hg2, hg3, hg4, hg5⟩
  · rw [h0] at hj; simp at hj
  · have hc := hg4 j x hx 1 (by omega)
    have hgn : g ∉ vecB its := fun hm => by
      obtain ⟨y, hy, hb⟩ := List.mem_flatMap.1 hm
      exact hg5 y hy g (List.mem_append_left _ hb) rfl
    refine ⟨g, v, o, x.vec.xs.length, x.vec.c, z, hg1, ?_, hlen, e2, e3, fun z' => ⟨k.only.setCell (.inl (mem_vecB hxm (by simp [Sl.bs, e1]))) _, fun y hy => (k.sp y hy).put e2⟩⟩
    rw [k.only.cell hg2 hgn, hc]
    show some x.vec.v = _
    unfold Sl.v
    rw [e1]
set_option maxRecDepth 100000 in
set_option maxHeartbeats 8000000 in
theorem read_range {t : Nat} {w : World} {B p q s : Nat} {D : PDB} {F H : List Nat} {R : RDB} (h : TwoAt t w B p q s D F H R) (ht : t < 150) (x : OpS) (hn : -9223372036854775808 ≤ x.n ∧ x.n ≤ 9223372036854775807) (hk : x.kind = 4) :
    Calls Tryz.prog 9 #[.pointer (some ⟨p, 0, none⟩), .pointer (some ⟨s, 0, none⟩), x.val] w (RdTo w) := by
  have BX := opBox x w
  have HH := Lib.hid (h.below BX.out)
  have R1 := Lib.hid (Row.made w x.cells.toArray tOp)
  have TB := Lib.hid ht
  have HN := Lib.hid hn
  unfold OpS.val
  unfold OpS.cells at BX HH R1
  rw [hk] at BX HH R1 ⊢
  unfold Sl.v at BX HH R1 ⊢
  clear h ht hk hn
  go_enter Tryz.func9, Tryz.ntmps9
  go_wp2_with fail
  generalize w.alloc (.cells #[.int .i64 4, .int .i64 x.n, .int .u64 x.t, .int .u64 x.key, .int .u64 x.hi, .int .u64 x.it.key, .slice x.it.vec.a x.it.vec.xs.length x.it.vec.c, .slice x.it.tag.a x.it.tag.xs.length x.it.tag.c, .slice x.q.a x.q.xs.length x.q.c] 36) = w0 at *
  obtain ⟨er, L, g1, g2, gl, gm⟩ := pair_range HH.out TB.out x.t x.key x.hi x.n HN.out.1 HN.out.2
  have G1 := Lib.hid g1
  have G2 := Lib.hid g2
  have GL := Lib.hid gl
  have GM := Lib.hid gm
  unfold ListNew at G1
  unfold ListOld at G2
  clear g1 g2 gl gm
  refine G1.out.mono ?_
  rintro _ w1 ⟨a, c, its, rfl, hr, hc, hb⟩
  have RA := Lib.hid hr
  have CA := Lib.hid hc
  have BA := Lib.hid hb
  have rx := Lib.hid (R1.out.only ((Only.refl [] w0).below hb) (by simp))
  have x1 : w1.cell? ⟨w.heap.size, 1, none⟩ = some (.int .i64 x.n) := rx.out.cell 1
  have x2 : w1.cell? ⟨w.heap.size, 2, none⟩ = some (.int .u64 x.t) := rx.out.cell 2
  have x3 : w1.cell? ⟨w.heap.size, 3, none⟩ = some (.int .u64 x.key) := rx.out.cell 3
  have x4 : w1.cell? ⟨w.heap.size, 4, none⟩ = some (.int .u64 x.hi) := rx.out.cell 4
  obtain ⟨m, hm⟩ : ∃ m, its.length = m := ⟨_, rfl⟩
  have HM := Lib.hid hm
  rw [hm]
  have ML : Hid (m ≤ 150) := Lib.hid (by
    have := congrArg List.length hc
    rw [List.length_map] at this
    have := GM.out
    omega)
  clear hr hc hb G1 hm
  go_wp2_with fail
  have C2 := Lib.hid (G2.out w1 BA.out)
  clear G2 x1 x2 x3 x4
  refine C2.out.mono ?_
  rintro _ w3 ⟨I, rfl, hI, hcI, hb3⟩
  have B3 := Lib.hid hb3
  have RA3 := Lib.hid (RA.out.below hb3)
  have LS := Lib.hid (lsame_on (n := m) (c := c) RA3.out HM.out hI (by rw [CA.out, hcI]) (by have := ML.out; omega))
  unfold Its.v at LS ⊢
  have ee : (er == er) = true := by simp
  clear hb3 hI hcI C2 rx
  go_wp2_with fail
  refine LS.out.mono ?_
  rintro _ w5 ⟨rfl, hb5⟩
  have RA5 := Lib.hid (RA3.out.below hb5)
  have SP := Lib.hid (SpIts.start RA5.out)
  have B05 : Hid (Below w.heap.size w w5) := Lib.hid (BX.out.trans ((BA.out.trans ((B3.out.trans (hb5.mono B3.out.size)).mono BA.out.size)).mono BX.out.size))
  have GE : Hid (∀ b ∈ vecB its, w.heap.size ≤ b) := Lib.hid fun b hb => by
    obtain ⟨y, hy, hb⟩ := List.mem_flatMap.1 hb
    exact Nat.le_trans BX.out.size (RA.out.ge y hy b (List.mem_append_left _ hb))
  clear hb5 LS
  go_wp2_with fail
  go_loopw [19] (fun u wr => ∃ j : Nat, u = .int .i64 (j : Int) ∧ Hid (j ≤ m) ∧ Hid (SpIts w5 wr a its)) (fun u _ => m - (intOf u).toNat)
  case atStart => exact ⟨0, rfl, Lib.hid (Nat.zero_le _), SP⟩
  case round =>
    obtain ⟨j, rfl, HJ, HS⟩ := hrel
    rename World => w6
    have ej : IntKind.i64.wrap ((j : Int) + 1) = ((j + 1 : Nat) : Int) := w_inc _ (by have := ML.out; have := HJ.out; omega)
    by_cases hlt : j < m
    · have d1 : decide ((j : Int) < (m : Int)) = true := decide_eq_true (by omega)
      have d1' : decide (j < m) = true := decide_eq_true hlt
      have j3 : (j : Int) < (m : Int) := by omega
      obtain ⟨g, v, o, n, c9, z, ea, hcell, hn1, hz, hfr, hnx⟩ := HS.out.at_ RA5.out (fun c hc => GL.out c (by rw [← CA.out]; exact hc)) (by rw [HM.out]; exact hlt)
      have n1 : (0 : Int) < (n : Int) := by omega
      have n2 : 0 < n := by omega
      have JL := Lib.hid hlt
      have NX := Lib.hid hnx
      subst ea
      clear hlt hnx
      go_wp2_with fail
      go_roundw
      case rel => exact ⟨j + 1, by go_num, Lib.hid (by have := JL.out; omega), Lib.hid (NX.out _)⟩
      case measure => have := JL.out; simp [intOf]; omega
    · have d1 : decide ((j : Int) < (m : Int)) = false := decide_eq_false (by omega)
      have d1' : decide (j < m) = false := decide_eq_false hlt
      have N : Hid (RdTo w (.returned (.bool true)) w6) := Lib.hid ⟨rfl, B05.out.trans (HS.out.only.toBelow B05.out.size GE.out)⟩
      clear hlt
      go_wp2_with fail
      go_ret
      exact N.out
set_option maxRecDepth 100000 in
set_option maxHeartbeats 8000000 in
theorem read_knn {t : Nat} {w : World} {B p q s : Nat} {D : PDB} {F H : List Nat} {R : RDB} (h : TwoAt t w B p q s D F H R) (ht : t < 150) (x : OpS) (hx : ∀ y, Below B w y → OpIn y x) (hl : x.q.xs.length ≤ 5000) (hk : x.kind = 5) :
    Calls Tryz.prog 9 #[.pointer (some ⟨p, 0, none⟩), .pointer (some ⟨s, 0, none⟩), x.val] w (RdTo w) := by
  have BX := opBox x w
  have HH := Lib.hid (h.below BX.out)
  have R1 := Lib.hid (Row.made w x.cells.toArray tOp)
  have TB := Lib.hid ht
  have HN := Lib.hid (hx w (Below.refl _ _)).n
  have H32 := Lib.hid (hx w (Below.refl _ _)).q.in32
  have BB := Lib.hid h.base
  have HQ : Hid (∀ y, Below (w.alloc (.cells x.cells.toArray tOp)).heap.size (w.alloc (.cells x.cells.toArray tOp)) y → SlRd .i32 y x.q) := Lib.hid fun y hy => (hx y ((BX.out.trans (hy.mono BX.out.size)).mono BB.out)).q.rd (by omega)
  unfold OpS.val
  unfold OpS.cells at BX HH R1 HQ
  rw [hk] at BX HH R1 HQ ⊢
  unfold Sl.v at BX HH R1 HQ ⊢
  clear h ht hk hx hl
  go_enter Tryz.func9, Tryz.ntmps9
  go_wp2_with fail
  generalize w.alloc (.cells #[.int .i64 5, .int .i64 x.n, .int .u64 x.t, .int .u64 x.key, .int .u64 x.hi, .int .u64 x.it.key, .slice x.it.vec.a x.it.vec.xs.length x.it.vec.c, .slice x.it.tag.a x.it.tag.xs.length x.it.tag.c, .slice x.q.a x.q.xs.length x.q.c] 36) = w0 at *
  obtain ⟨er, hs, g1, g2, gm⟩ := pair_knn HH.out TB.out x.t x.n HN.out.1 HN.out.2 (Q := x.q) HQ.out H32.out
  have G1 := Lib.hid g1
  have G2 := Lib.hid g2
  have GM := Lib.hid gm
  unfold HitsTo at G1
  unfold HitsTo at G2
  unfold Sl.v at G1
  unfold Sl.v at G2
  clear g1 g2 gm
  refine G1.out.mono ?_
  rintro _ w1 ⟨v1, rfl, hh1, hb⟩
  have H1 := Lib.hid hh1
  have BA := Lib.hid hb
  have rx := Lib.hid (R1.out.only ((Only.refl [] w0).below hb) (by simp))
  have x1 : w1.cell? ⟨w.heap.size, 1, none⟩ = some (.int .i64 x.n) := rx.out.cell 1
  have x2 : w1.cell? ⟨w.heap.size, 2, none⟩ = some (.int .u64 x.t) := rx.out.cell 2
  have x8 : w1.cell? ⟨w.heap.size, 8, none⟩ = some (.slice x.q.a x.q.xs.length x.q.c) := rx.out.cell 8
  obtain ⟨p1, c1, rfl⟩ := hh1.len
  clear hh1 hb G1
  go_wp2_with fail
  have C2 := Lib.hid (G2.out w1 BA.out)
  clear G2 x1 x2 x8
  refine C2.out.mono ?_
  rintro _ w3 ⟨v2, rfl, hh2, hb3⟩
  have H2 := Lib.hid hh2
  obtain ⟨p2, c2, rfl⟩ := hh2.len
  have SM := Lib.hid (vc.rsame_any _ _ hs hs w3 (H1.out.below hb3) H2.out (by have := GM.out; omega) (by have := GM.out; omega))
  rw [vc.sameH_refl] at SM
  have B03 : Hid (Below w.heap.size w w3) := Lib.hid (BX.out.trans ((BA.out.trans (hb3.mono BA.out.size)).mono BX.out.size))
  have ee : (er == er) = true := by simp
  clear hh2 hb3 C2 rx
  go_wp2_with fail
  refine SM.out.mono ?_
  rintro _ w4 ⟨rfl, nq, hw4⟩
  have N : Hid (RdTo w (.returned (.bool true)) w4) := Lib.hid ⟨rfl, by rw [hw4]; exact below_drewN B03.out nq⟩
  clear hw4
  go_wp2_with fail
  go_ret
  exact N.out
end Go.Proofs.YtmbmkfhdiljalaaGreat

/- PlainPlays: Vacuum, Crash, a copy: of both. -/
namespace Go.Proofs.YtmbmkfhdiljalaaGreat
open Go.RowKit Go.ChangeShapes Go.WideShapes Go.ChangeAt
set_option linter.unusedVariables false
set_option linter.unusedSimpArgs false

/-- A step of the loop. -/
def StTo (t : Nat) (B q s : Nat) (dim : Int) (p' : Nat) (w w' : World) : Prop := Two (t + 1) w' B p' q s dim ∧ Below B w w'
section
variable {t : Nat} {w : World} {B p q s : Nat} {D : PDB} {F H : List Nat} {R : RDB}
theorem two_vacuum (h : TwoAt t w B p q s D F H R) : Calls Tryz.prog 10 #[.pointer (some ⟨p, 0, none⟩)] w fun e w' => e = .returned (.int .i64 0) ∧ Hid (StTo t B q s D.dim p w w') := by
  obtain ⟨ba, bo, hd⟩ := h.dbAt
  by_cases hop : D.op = []
  · refine (vacuum_on h.code h.base hop h.rel.ne).mono fun e w' hk => ?_
    obtain ⟨all', h1, h2, F', H', he, hdb, hO, k1, k2⟩ := hk
    have rel' := h.rel.vacuum hop (all_nodup hd.am) h1 h2
    have hb := h.bCode hO
    refine ⟨he, Lib.hid ⟨⟨_, F', H', R, h.step hdb hO k1 k2 (Only.refl [] w') (by simp) (RStep.refl (h.mid hO)) rel', rfl⟩, hb⟩⟩
  · exact (vacuum_busy hd (List.length_pos_iff.2 hop)).mono fun e w' ⟨he, hw⟩ => ⟨he, Lib.hid (by subst hw; exact ⟨⟨_, _, _, _, h.next (Below.refl _ _), rfl⟩, Below.refl _ _⟩)⟩
theorem RdbAt.emptied (h : RdbAt w B q s R) (hB : B ≤ w.heap.size) : RStep w B q s R { R with op := [], oa := none, oc := 0 } (w.setCell ⟨s, 2, none⟩ (.slice none 0 0)) := by
  have ho : Only [s] w (w.setCell ⟨s, 2, none⟩ (.slice none 0 0)) := (Only.refl [s] w).setCell (.inl (by simp)) _
  have hnd := h.nd
  have hps : q ≠ s := fun e => by simp [RDB.own, e] at hnd
  have rs : ∀ b ∈ R.reads, b ∉ [s] := fun b hb hm => by
    simp at hm
    subst hm
    exact h.ap _ (by simp [RDB.own]) hb
  refine h.renew hB (h.row.only ho (by simpa using hps)) ?_ (World.ownsRow_nil _ _ _ _) (by simp) (h.done.only ho fun b hb => rs b (List.mem_append_left _ hb)) (by simp) (by simp) ?_ ?_ ?_ ?_ ?_ (ho.mono fun b hb => .inl (by simp at hb; simp [RDB.own, hb]))
  · have := h.srow.set 2 (.slice none 0 0)
    simpa [RDB.ov] using this
  · simp [RDB.own, RDB.ov, Value.ownBlock, wrB2, hps]
  · intro b hb
    simp [RDB.own, RDB.ov, Value.ownBlock, wrB2] at hb
    exact .inl (by simp [RDB.own]; rcases hb with h | h <;> simp [h])
  · intro b hb
    simp [RDB.reads, opR] at hb
    exact .inl (List.mem_append_left _ hb)
  · intro b hb hge
    simp [RDB.own, RDB.ov, Value.ownBlock, wrB2] at hb
    have := h.row.lt
    have := h.srow.lt
    rcases hb with rfl | rfl <;> omega
  · have hf := h.fine
    exact ⟨hf.dim, hf.begun, by simp, hf.done, by simp⟩
theorem two_crash (h : TwoAt t w B p q s D F H R) : (∃ z, w.cell? ⟨s, 2, none⟩ = some z) ∧ w.frozen? ⟨s, 2, none⟩ = false ∧ Below B w (w.setCell ⟨s, 2, none⟩ (.slice none 0 0)) ∧ Calls Tryz.prog 11 #[.pointer (some ⟨p, 0, none⟩)] (w.setCell ⟨s, 2, none⟩ (.slice none 0 0)) fun e w' => e = .returned (.int .i64 0) ∧ Hid (StTo t B q s D.dim p w w') := by
  have st := h.doc.emptied h.base
  have hb := h.bDoc h.base st
  have cd := h.code.only st.only fun b hb2 => ⟨fun hf => (h.apart b (.inl hf)).1 hb2, fun hf => (h.apart b (.inr hf)).1 hb2⟩
  refine ⟨⟨_, h.doc.srow.cell 2⟩, h.doc.srow.free 2, hb, (crash_on cd).mono fun e w' hk => ?_⟩
  obtain ⟨F', H', he, hdb, hO, k1, k2⟩ := hk
  have hs1 := st.only.size
  have old : ∀ b, b ∈ F' ∨ b ∈ H' → (b ∈ F ∨ b ∈ H) ∨ w.heap.size ≤ b := fun b hb => by
    rcases hb with hb | hb
    · exact (k1 b hb).imp .inl (fun h => Nat.le_trans hs1 h)
    · exact (k2 b hb).imp .inr (fun h => Nat.le_trans hs1 h)
  have sub : ∀ b, b ∈ ({ R with op := [], oa := none, oc := 0 } : RDB).own q s → b ∈ R.own q s := fun b hb => by
    simp [RDB.own, RDB.ov, Value.ownBlock, wrB2] at hb
    simp [RDB.own]
    rcases hb with h | h <;> simp [h]
  have subr : ∀ b, b ∈ ({ R with op := [], oa := none, oc := 0 } : RDB).reads → b ∈ R.reads := fun b hb => by
    simp [RDB.reads, opR] at hb
    exact List.mem_append_left _ hb
  refine ⟨he, Lib.hid ⟨⟨_, F', H', _, ⟨hdb, st.db.only hO fun b hb => ⟨fun hm => (h.apart b (.inl hb)).1 (sub b hm), fun hm => (h.apart b (.inl hb)).2 (subr b hm)⟩, h.rel.crash, fun b hb => ?_, Nat.le_trans h.base (Nat.le_trans hs1 hO.size)⟩, rfl⟩, hb.trans (hO.toBelow (Nat.le_trans h.base hs1) h.code.ge.1)⟩⟩
  rcases old b hb with h1 | h1
  · exact ⟨fun hm => (h.apart b h1).1 (sub b hm), fun hm => (h.apart b h1).2 (subr b hm)⟩
  · exact ⟨fun hm => by have := h.doc.lt b (sub b hm); omega, fun hm => by have := h.doc.ltr b (subr b hm); omega⟩
/-- A DB that will not be asked again. -/
structure OldOk (D : PDB) : Prop where
  last : D.last ≤ 1000
  vers : ∀ k, (vsOf D.all k).vs.length ≤ 1000
structure OldAt (w0 w : World) (B p : Nat) (F : List Nat) (dim : Int) (D : PDB) (F' H' : List Nat) : Prop where
  db : DbF w B p D F' H'
  only : Only F w0 w
  own : Kept F F' w0
  ok : OldOk D
  dim : D.dim = dim
  base : B ≤ w.heap.size
theorem old_step {w0 w1 : World} {dim : Int} {D1 : PDB} {F1 H1 : List Nat} {w2 : World} {D2 : PDB} {F2 H2 : List Nat} (h : OldAt w0 w1 B p F dim D1 F1 H1) (hd : DbF w2 B p D2 F2 H2) (hO : Only F1 w1 w2) (hk : Kept F1 F2 w1) (ok : OldOk D2) (hdim : D2.dim = D1.dim) : OldAt w0 w2 B p F dim D2 F2 H2 :=
  ⟨hd, only_trans h.only hO h.own, h.own.trans hk h.only.size, ok, by rw [hdim]; exact h.dim, Nat.le_trans h.base hO.size⟩
def OldSome (w0 : World) (B p : Nat) (F : List Nat) (dim : Int) (w : World) : Prop := ∃ D F' H', OldAt w0 w B p F dim D F' H'
theorem old_below {w0 w1 w2 : World} {dim : Int} (h : OldSome w0 B p F dim w1) (k : Below w1.heap.size w1 w2) : OldSome w0 B p F dim w2 := by
  obtain ⟨D, F', H', h⟩ := h
  exact ⟨D, F', H', h.db.only ((Only.refl [] w1).below k) (by simp), h.only.below k, h.own, h.ok, h.dim, Nat.le_trans h.base k.size⟩
theorem old_begin {w0 w1 : World} {dim : Int} {D1 : PDB} {F1 H1 : List Nat} (h : OldAt w0 w1 B p F dim D1 F1 H1) (hb : D1.begun < 1000000) (hl : D1.op.length ≤ 1000) : Calls Tryz.prog 13 #[.pointer (some ⟨p, 0, none⟩)] w1 fun e w2 => ∃ n er : Int, e = .returned (.tuple #[.int .u64 n, .int .i64 er]) ∧ Hid (OldSome w0 B p F dim w2) := by
  by_cases hf : D1.op.length < 8
  · refine (begin_on h.db h.base hf hb).mono fun e w2 hk => ?_
    obtain ⟨bt, bm, F', he, hd, hO, k1⟩ := hk
    exact ⟨_, _, he, Lib.hid ⟨_, _, _, old_step h hd hO k1 ⟨h.ok.last, h.ok.vers⟩ rfl⟩⟩
  · obtain ⟨ba, bo, hd, _, _⟩ := h.db
    refine (begin_full hd (by omega) hl).mono fun e w2 hk => ?_
    obtain ⟨he, hw⟩ := hk
    subst hw
    exact ⟨_, _, he, Lib.hid ⟨_, _, _, h⟩⟩
theorem old_put {w0 w1 : World} {dim : Int} (h : OldSome w0 B p F dim w1) (n key : Int) {va ta : Sl} (h1 : SlRd .i32 w1 va) (h2 : SlRd .u8 w1 ta) (hv : (va.xs.length : Int) = dim) (ht : ta.xs.length ≤ 1024) : Calls Tryz.prog 14 #[.pointer (some ⟨p, 0, none⟩), .int .u64 n, .agg #[.int .u64 key, va.v, ta.v]] w1 fun e w2 => ∃ er : Int, e = .returned (.int .i64 er) ∧ Hid (OldSome w0 B p F dim w2) := by
  obtain ⟨D1, F1, H1, h⟩ := h
  cases ho : findP n D1.op with
  | none =>
    obtain ⟨ba, bo, hd, _, _⟩ := h.db
    exact (put_no hd ho key va.v ta.v).mono fun e w2 ⟨he, hb⟩ => ⟨_, he, Lib.hid (old_below ⟨_, _, _, h⟩ hb)⟩
  | some o =>
    refine (put_on h.db h.base ho h1 h2 (by rw [hv, h.dim]) ht).mono fun e w2 hk => ?_
    obtain ⟨v, H', he, _, _, _, _, _, hd, hO, k1⟩ := hk
    exact ⟨_, he, Lib.hid ⟨_, _, _, old_step h hd hO (Kept.refl _ _) ⟨h.ok.last, h.ok.vers⟩ rfl⟩⟩
theorem old_commit {w0 w1 : World} {dim : Int} (h : OldSome w0 B p F dim w1) (n : Int) : Calls Tryz.prog 15 #[.pointer (some ⟨p, 0, none⟩), .int .u64 n] w1 fun e w2 => ∃ er : Int, e = .returned (.int .i64 er) ∧ Hid (∃ D F' H', DbF w2 B p D F' H' ∧ Only F w0 w2 ∧ Kept F F' w0 ∧ B ≤ w2.heap.size) := by
  obtain ⟨D1, F1, H1, h⟩ := h
  cases ho : findP n D1.op with
  | none =>
    obtain ⟨ba, bo, hd, _, _⟩ := h.db
    exact (commit_no hd ho).mono fun e w2 ⟨he, hw⟩ => ⟨_, he, Lib.hid (by subst hw; exact ⟨_, _, _, h.db, h.only, h.own, h.base⟩)⟩
  | some o =>
    refine (commit_on h.db h.base ho (by have := h.ok.last; omega) (fun j => by have := h.ok.vers j; omega)).mono fun e w2 hk => ?_
    obtain ⟨F', H', hO, k1, k2, ⟨_, he, hd⟩ | ⟨_, he, all', hd, _, _⟩⟩ := hk
    · exact ⟨_, he, Lib.hid ⟨_, _, _, hd, only_trans h.only hO h.own, h.own.trans k1 h.only.size, Nat.le_trans h.base hO.size⟩⟩
    · exact ⟨_, he, Lib.hid ⟨_, _, _, hd, only_trans h.only hO h.own, h.own.trans k1 h.only.size, Nat.le_trans h.base hO.size⟩⟩
theorem old_crash {w0 w1 : World} (h : ∃ D F' H', DbF w1 B p D F' H' ∧ Only F w0 w1 ∧ Kept F F' w0 ∧ B ≤ w1.heap.size) : Calls Tryz.prog 11 #[.pointer (some ⟨p, 0, none⟩)] w1 fun e w2 => e = .returned (.int .i64 0) ∧ Hid (Only F w0 w2) := by
  obtain ⟨D1, F1, H1, hd, hO, hk, hB⟩ := h
  exact (crash_on hd).mono fun e w2 ⟨F', H', he, _, hO2, _, _⟩ => ⟨he, Lib.hid (only_trans hO hO2 hk)⟩
/-- A copy: it is the DB from then on, whatever becomes of the old one. -/
def CopiedTo (t : Nat) (B q s p : Nat) (dim : Int) (F : List Nat) (w : World) (e : Ending) (w1 : World) : Prop := ∃ pc D H', e = .returned (.pointer (some ⟨pc, 0, none⟩)) ∧ OldAt w1 w1 B p F dim D F H' ∧ D.begun < 1000000 ∧ D.op.length ≤ 1000 ∧ Below w.heap.size w w1 ∧ (∀ w2, Only F w1 w2 → StTo t B q s dim pc w1 w2)
theorem two_copy (h : TwoAt t w B p q s D F H R) (ht : t < 150) : Calls Tryz.prog 12 #[.pointer (some ⟨p, 0, none⟩)] w (CopiedTo t B q s p D.dim F w) := by
  refine (copy_on h.code h.base).mono fun e w1 hk => ?_
  obtain ⟨pc, D', F', H', he, hd, f1, f2, hb, e1, e2, e3, e4, e5⟩ := hk
  have g := h.below hb
  have hn := h.rel.nums
  refine ⟨pc, D, H, he, ⟨g.code, Only.refl _ _, Kept.refl _ _, ⟨by omega, fun k => by have := h.rel.vlen k; omega⟩, rfl, g.base⟩, by omega, by have := h.rel.size; have := h.doc.fine.len; omega, hb, fun w2 hO => ?_⟩
  have fh : ∀ b ∈ F, b ∉ H := fun b hb2 hm => by
    obtain ⟨ba, bo, hdb, rfl, rfl⟩ := h.code
    exact hdb.ap b hb2 hm
  have T1 : TwoAt t w1 B pc q s D' F' H' R := ⟨hd, g.doc, h.rel.copy e1 e2 e3 e4 e5, fun b hb2 => by
    rcases hb2 with hb2 | hb2
    · have := f1 b hb2
      exact ⟨fun hm => by have := h.doc.lt b hm; omega, fun hm => by have := h.doc.ltr b hm; omega⟩
    · exact h.apart b (.inr (f2 b hb2)), g.base⟩
  have T2 := T1.only hO fun b hb2 => ⟨fun hm => by have := f1 b hm; have := h.code.lt.1 b hb2; omega, fun hm => fh b hb2 (f2 b hm), (h.apart b (.inl hb2)).1, (h.apart b (.inl hb2)).2⟩
  exact ⟨⟨D', F', H', R, T2.next (Below.refl _ _), e1⟩, hO.toBelow g.base h.code.ge.1⟩
end
theorem SlRd.nil (q : IntKind) (w : World) : SlRd q w ⟨none, 0, []⟩ := ⟨.inl ⟨rfl, ⟨_, _, rfl⟩⟩, fun h => absurd rfl h, fun _ => ⟨rfl, rfl⟩, Nat.zero_le _⟩
theorem madeCells_one (z : Value) (n : Nat) : madeCells #[z] n = Array.replicate n z := by
  refine Array.ext (by simp [size_madeCells]) fun i h1 h2 => ?_
  simp [madeCells, Nat.mod_one]
/-- make, of elements that are one cell wide. -/
theorem make_vec (n : Nat) (hn : n ≤ 4096) : ∀ x : World, (Instr.makeSlice 31 (.int .i64 (n : Int)) (.int .i64 (n : Int))).run Tryz.prog x = .ok (.slice (some ⟨x.heap.size, 0, none⟩) n n) (x.alloc (.cells (Array.replicate n (.int .i32 0)) 21)) := by
  intro x
  obtain ⟨i0, hi, hz0, hz1, hz2⟩ := info_parts infoI32
  have hr := run_make (P := Tryz.prog) x 31 21 i0 (.int .i32 0) Tryz.underlying31 hi hz0 .i64 .i64 (n : Int) (n : Int) (by omega) (Int.le_refl _) (by rw [hz2]; omega) (by omega)
  simp only [Int.toNat_natCast, hz1, Nat.mul_one, Value.cells, madeCells_one] at hr
  exact hr
theorem vec_made {w : World} {b n : Nat} (h : Row w b (Array.replicate n (.int .i32 0)) 21) (hn : n ≤ 4096) : SlRd .i32 w ⟨some ⟨b, 0, none⟩, n, List.replicate n 0⟩ := by
  refine ⟨.inr ⟨b, 0, n, by simp [Sl.v], fun i hi => ?_⟩, fun _ c hc => by simp [Sl.bs] at hc; subst hc; exact h.lt, fun h => (by cases h), (by simp; omega)⟩
  have hi' : i < n := by simpa using hi
  rw [Nat.zero_add, h.cell, Array.getElem?_replicate, if_pos hi']
  simp [hi']
end Go.Proofs.YtmbmkfhdiljalaaGreat
