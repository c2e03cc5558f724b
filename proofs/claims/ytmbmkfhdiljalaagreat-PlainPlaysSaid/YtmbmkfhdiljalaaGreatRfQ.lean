/- Plain, the document's side: Put (printed by gen_rput.py). -/
import Derived.Test.YtmbmkfhdiljalaaGreatMg35
namespace Go.Proofs.YtmbmkfhdiljalaaGreat
open Go.RowKit Go.ChangeShapes Go.WideShapes Go.ChangeAt
set_option linter.unusedVariables false
set_option linter.unusedSimpArgs false

def frPa (x0 x1 x2 x3 x4 x5 x6 x7 x8 x9 x27 x28 x29 x30 x31 x32 x33 x34 x35 x36 x37 x38 x39 x40 x41 x42 x43 x44 x45 : Value) (u : Nat → Value) : Act := ⟨#[x0, x1, x2, x3, x4, x5, x6, x7, x8, x9, u 10, u 11, u 12, u 13, u 14, u 15, u 16, u 17, u 18, u 19, u 20, u 21, u 22, u 23, u 24, u 25, u 26, x27, x28, x29, x30, x31, x32, x33, x34, x35, x36, x37, x38, x39, x40, x41, x42, x43, x44, x45], []⟩
def RPa (w0 : World) (B p s : Nat) (D : RDB) (g i m oc : Nat) (o : RTx) (x : It) : Nat → Value → World → Prop
  | 0, v, _ => v = .pointer (some ⟨s, 0, none⟩)
  | 1, v, _ => v = .pointer (some ⟨s, 0, none⟩)
  | 2, v, _ => v = .pointer (some ⟨s, 2, none⟩)
  | 3, v, _ => v = .slice (some ⟨g, 0, none⟩) m oc
  | 4, v, _ => v = .int .i64 (i : Int)
  | 5, v, _ => v = .pointer (some ⟨s, 0, none⟩)
  | 6, v, _ => v = .pointer (some ⟨s, 0, none⟩)
  | 7, v, _ => v = .pointer (some ⟨s, 2, none⟩)
  | 8, v, _ => v = .slice (some ⟨g, 0, none⟩) m oc
  | 9, v, _ => v = .int .i64 (i : Int)
  | 10, v, _ => v = .pointer (some ⟨g, i * 4, none⟩)
  | 11, v, _ => v = .pointer (some ⟨g, i * 4 + 1, none⟩)
  | 12, v, _ => v = .slice o.sees.a o.sees.l.length o.sees.c
  | 13, v, _ => v = .agg #[.int .u64 x.key, .slice x.vec.a x.vec.xs.length x.vec.c, .slice x.tag.a x.tag.xs.length x.tag.c]
  | 14, v, w => ∃ I : Its, v = I.v ∧ RsAt w I ∧ I.cs = withC o.sees.cs x.c ∧ ∀ b ∈ I.bs, b ∈ o.sees.bs ∨ w0.heap.size ≤ b
  | 15, v, _ => v = .pointer (some ⟨g, i * 4, none⟩)
  | 16, v, _ => v = .pointer (some ⟨g, i * 4 + 1, none⟩)
  | _, _, _ => True
def SPa (w0 : World) (B p s : Nat) (D : RDB) (g i m oc : Nat) (o : RTx) (x : It) (_ : Bool) (w : World) : Prop := Only [] w0 w
def EPa (w0 : World) (B p s : Nat) (D : RDB) (g i m oc : Nat) (o : RTx) (x : It) (w : World) : Prop := ∃ I : Its, I.cs = withC o.sees.cs x.c ∧ RStep w0 B p s D (setR D i { o with sees := I }) w
def KPa (w0 : World) (B p s : Nat) (D : RDB) (g i m oc : Nat) (o : RTx) (x : It) : Nat → List Nat := fun _ => []
def frPb (x0 x1 x2 x3 x4 x5 x6 x7 x8 x9 x10 x11 x12 x13 x14 x15 x16 x17 x18 x19 x20 x21 x22 x23 x24 x25 x26 : Value) (u : Nat → Value) : Act := ⟨#[x0, x1, x2, x3, x4, x5, x6, x7, x8, x9, x10, x11, x12, x13, x14, x15, x16, x17, x18, x19, x20, x21, x22, x23, x24, x25, x26, u 27, u 28, u 29, u 30, u 31, u 32, u 33, u 34, u 35, u 36, u 37, u 38, u 39, u 40, u 41, u 42, u 43, u 44, u 45], []⟩
def RPb (w0 : World) (B p s : Nat) (D : RDB) (bx g i m oc : Nat) (o : RTx) (key : Int) : Nat → Value → World → Prop
  | 0, v, _ => v = .pointer (some ⟨s, 0, none⟩)
  | 1, v, _ => v = .pointer (some ⟨s, 0, none⟩)
  | 2, v, _ => v = .pointer (some ⟨s, 2, none⟩)
  | 3, v, _ => v = .slice (some ⟨g, 0, none⟩) m oc
  | 4, v, _ => v = .int .i64 (i : Int)
  | 5, v, _ => v = .pointer (some ⟨s, 0, none⟩)
  | 6, v, _ => v = .pointer (some ⟨s, 0, none⟩)
  | 7, v, _ => v = .pointer (some ⟨s, 2, none⟩)
  | 8, v, _ => v = .slice (some ⟨g, 0, none⟩) m oc
  | 9, v, _ => v = .int .i64 (i : Int)
  | 10, v, _ => v = .pointer (some ⟨g, i * 4, none⟩)
  | 11, v, _ => v = .pointer (some ⟨g, i * 4 + 2, none⟩)
  | 12, v, _ => v = .slice o.wa o.wr.length o.wc
  | 13, v, _ => v = .pointer (some ⟨bx, 0, none⟩)
  | 14, v, _ => v = .int .u64 key
  | 15, v, w => ∃ q, v = .slice (some ⟨q, 0, none⟩) 1 1 ∧ Row w q #[.int .u64 key] tU ∧ w0.heap.size ≤ q
  | 16, v, w => w.ownsRow B tU 1 v (o.wr.length + 1) ((o.wr ++ [key]).map (Value.int .u64)) ∧ (v.ownBlock = o.wv.ownBlock ∨ ∀ b, v.ownBlock = some b → w0.heap.size ≤ b)
  | 17, v, _ => v = .pointer (some ⟨g, i * 4, none⟩)
  | 18, v, _ => v = .pointer (some ⟨g, i * 4 + 2, none⟩)
  | _, _, _ => True
def SPb (w0 : World) (B p s : Nat) (D : RDB) (bx g i m oc : Nat) (o : RTx) (key : Int) : Bool → World → Prop
  | false, w => Only [] w0 w
  | true, w => Only o.wv.ownBlock.toList w0 w
def EPb (w0 : World) (B p s : Nat) (D : RDB) (bx g i m oc : Nat) (o : RTx) (key : Int) (w : World) : Prop := ∃ (a : Option Addr) (c : Nat), RStep w0 B p s D (setR D i { o with wa := a, wc := c, wr := o.wr ++ [key] }) w
def KPb (w0 : World) (B p s : Nat) (D : RDB) (bx g i m oc : Nat) (o : RTx) (key : Int) : Nat → List Nat := fun j => if j = 16 then o.wv.ownBlock.toList else []
theorem SPb_wide {w0 w : World} {B p s bx g i m oc : Nat} {D : RDB} {o : RTx} {key : Int} {b : Bool} (h : SPb w0 B p s D bx g i m oc o key b w) : Only o.wv.ownBlock.toList w0 w := by
  cases b with
  | false => exact Only.mono h (by simp)
  | true => exact h
theorem SPb_alloc {w0 w : World} {B p s bx g i m oc : Nat} {D : RDB} {o : RTx} {key : Int} {b : Bool} (h : SPb w0 B p s D bx g i m oc o key b w) (x : Obj) : SPb w0 B p s D bx g i m oc o key b (w.alloc x) := by
  cases b with
  | false => exact Only.alloc h x
  | true => exact Only.alloc h x
/-- What Put leaves. -/
def PutRTo (B p s : Nat) (D : RDB) (i : Nat) (o : RTx) (cs : List Rc) (key : Int) (w : World) (e : Ending) (w' : World) : Prop := ∃ (I : Its) (a : Option Addr) (c : Nat), e = .returned (.tuple #[]) ∧ I.cs = cs ∧ RStep w B p s D (setR D i { o with sees := I, wa := a, wc := c, wr := o.wr ++ [key] }) w'
theorem op_blk {w : World} {B p s : Nat} {D : RDB} (h : RdbAt w B p s D) {o : RTx} (ho : o ∈ D.op) {g : Nat} (hg : D.oa = some ⟨g, 0, none⟩) : s ∉ o.wv.ownBlock.toList ∧ g ∉ o.wv.ownBlock.toList ∧ p ∉ o.wv.ownBlock.toList := by
  have hnd := h.nd
  have hgo : D.ov.ownBlock = some g := by unfold RDB.ov; rw [ov_of, hg]; rfl
  refine ⟨fun hb => ?_, fun hb => ?_, fun hb => ?_⟩ <;> (have hm := mem_wrB2 ho (by simpa using hb); simp [RDB.own, hm, hgo] at hnd)
set_option maxRecDepth 100000 in
set_option maxHeartbeats 8000000 in
theorem put_r19 {w : World} {B p s : Nat} {D : RDB} (h : RdbAt w B p s D) (hB : B ≤ w.heap.size) {t : Int} {i : Nat} {o : RTx} (hf : findR D.op t = some i) (ho : D.op[i]? = some o) (hl1 : o.sees.l.length < 50000) (hl2 : o.wr.length < 50000) (x : It) (h1 : SlRd .i32 w x.vec) (h2 : SlRd .u8 w x.tag) :
    Calls Tryz.prog 52 #[.pointer (some ⟨s, 0, none⟩), .int .u64 t, .agg #[.int .u64 x.key, x.vec.v, x.tag.v]] w (PutRTo B p s D i o (withC o.sees.cs x.c) x.key w) := by
  obtain ⟨i0, hi, hz0, hz1, hz2⟩ := info_parts infoU64
  have O1 : Only [] w (w.alloc (.cells #[.int .u64 x.key, .slice x.vec.a x.vec.xs.length x.vec.c, .slice x.tag.a x.tag.xs.length x.tag.c] tIt)) := (Only.refl [] w).alloc _
  have B1 := Lib.hid ((Below.refl w.heap.size w).alloc (Nat.le_refl _) (.cells #[.int .u64 x.key, .slice x.vec.a x.vec.xs.length x.vec.c, .slice x.tag.a x.tag.xs.length x.tag.c] tIt))
  have R1 := Lib.hid (Row.made w #[.int .u64 x.key, .slice x.vec.a x.vec.xs.length x.vec.c, .slice x.tag.a x.tag.xs.length x.tag.c] tIt)
  have H := Lib.hid (h.only O1 (by simp))
  have Z0 : Hid (B ≤ (w.alloc (.cells #[.int .u64 x.key, .slice x.vec.a x.vec.xs.length x.vec.c, .slice x.tag.a x.tag.xs.length x.tag.c] tIt)).heap.size) := Lib.hid (Nat.le_trans hB O1.size)
  have V1 := Lib.hid (h1.only O1 (by simp))
  have V2 := Lib.hid (h2.only O1 (by simp))
  have XN : Hid (w.heap.size ∉ D.own p s) := Lib.hid fun hm => by have := h.lt _ hm; omega
  have XB : Hid (w.heap.size < (w.alloc (.cells #[.int .u64 x.key, .slice x.vec.a x.vec.xs.length x.vec.c, .slice x.tag.a x.tag.xs.length x.tag.c] tIt)).heap.size) := Lib.hid (by simp)
  have TH := Lib.hid (find_ref (t := t) H.out)
  rw [findV_some hf] at TH
  have HO := Lib.hid ho
  have OM : Hid (o ∈ D.op) := Lib.hid (List.mem_of_getElem? ho)
  have L1 := Lib.hid hl1
  have L2 := Lib.hid hl2
  have WL : Hid (o.wr.length < 50000) := Lib.hid hl2
  have IL0 := (List.getElem?_eq_some_iff.1 ho).1
  have HN := Lib.hid h.fine.len
  obtain ⟨g, eg, hcap, _⟩ := h.at_ ho
  have EG := Lib.hid eg
  obtain ⟨m, hm⟩ : ∃ m, D.op.length = m := ⟨_, rfl⟩
  have HM := Lib.hid hm
  obtain ⟨oc, hoc⟩ : ∃ oc, D.oc = oc := ⟨_, rfl⟩
  have HOC := Lib.hid hoc
  have IL : Hid (i < m) := Lib.hid (by omega)
  have OVE : Hid (D.ov = .slice (some ⟨g, 0, none⟩) m oc) := Lib.hid (by unfold RDB.ov; rw [eg, hm, hoc])
  clear h hB hf ho hl1 hl2 IL0 eg hcap hm hoc h1 h2 O1
  unfold Sl.v
  go_enter Tryz.func52, Tryz.ntmps52
  go_wp2_with fail
  generalize w.alloc (.cells #[.int .u64 x.key, .slice x.vec.a x.vec.xs.length x.vec.c, .slice x.tag.a x.tag.xs.length x.tag.c] tIt) = w1 at *
  refine TH.out.mono ?_
  rintro _ w2 ⟨rfl, hw⟩
  subst w2
  have HB := Z0
  have SB : Hid (∀ y, Only [] w1 y → y.cell? ⟨w.heap.size, 0, none⟩ = some (.int .u64 x.key) ∧ y.cell? ⟨w.heap.size, 1, none⟩ = some (.slice x.vec.a x.vec.xs.length x.vec.c) ∧ y.cell? ⟨w.heap.size, 2, none⟩ = some (.slice x.tag.a x.tag.xs.length x.tag.c)) := Lib.hid fun y hy => ⟨(R1.out.only hy (by simp)).cell 0, (R1.out.only hy (by simp)).cell 1, (R1.out.only hy (by simp)).cell 2⟩
  have SO : Hid (∀ y, Only [] w1 y → y.cell? ⟨s, 2, none⟩ = some (.slice (some ⟨g, 0, none⟩) m oc) ∧ y.cell? ⟨g, i * 4 + 1, none⟩ = some (.slice o.sees.a o.sees.l.length o.sees.c) ∧ y.frozen? ⟨g, i * 4 + 1, none⟩ = false) := Lib.hid fun y hy => by
    have h := H.out.only hy (by simp)
    obtain ⟨g2, eg, _, hc⟩ := h.at_ HO.out
    rw [EG.out] at eg
    cases eg
    refine ⟨by rw [← OVE.out]; exact h.srow.cell 2, hc 1 (by omega), ?_⟩
    have ho := h.oown
    rw [OVE.out, HM.out] at ho
    exact World.ownsRow.frozenAt ho _
  have CL : Hid (∀ y, Only [] w1 y → Calls Tryz.prog 78 #[.slice o.sees.a o.sees.l.length o.sees.c, .agg #[.int .u64 x.key, .slice x.vec.a x.vec.xs.length x.vec.c, .slice x.tag.a x.tag.xs.length x.tag.c]] y (ListRTo (withC o.sees.cs x.c) o.sees.bs y)) := Lib.hid fun y hy => with_on (x := x) ((H.out.only hy (by simp)).sees o OM.out) (by have := L1.out; omega) (V1.out.only hy (by simp)) (V2.out.only hy (by simp))
  unfold ListRTo at CL
  have FIN : Hid (∀ y I, Only [] w1 y → RsAt y I → I.cs = withC o.sees.cs x.c → (∀ b ∈ I.bs, b ∈ o.sees.bs ∨ w1.heap.size ≤ b) → RStep w1 B p s D (setR D i { o with sees := I }) (y.setCell ⟨g, i * 4 + 1, none⟩ I.v)) := Lib.hid fun y I hy hI hc hb =>
    H.out.setOp HB.out (x := { o with sees := I }) HO.out rfl 1 I.v (by omega) rfl (hy.mono (by simp)) ((H.out.only hy (by simp)).wown o OM.out) (.inl rfl) hI (fun b h => (hb b h).imp (fun h => List.mem_append_right _ (mem_opR OM.out (.inl h))) id) ((H.out.only hy (by simp)).since o OM.out) (fun b h => .inl (List.mem_append_right _ (mem_opR OM.out (.inr h)))) (fun b h1 h2 => by have := (H.out.wown o OM.out).lt b h1; omega)
      ⟨by have h1 : I.l.length = I.cs.length := by simp [Its.cs]
          have h2 : o.sees.l.length = o.sees.cs.length := by simp [Its.cs]
          have := L1.out
          have := withC_len o.sees.cs x.c
          rw [h1, hc]
          omega, by have := L2.out; show o.wr.length ≤ 100000; omega, ((H.out.fine.ops o OM.out).2.2.2)⟩ EG.out
  go_upto_region 2 with fail
  refine region_fin (by kernel_rfl) 10 [] (frPa _ _ _ _ _ _ _ _ _ _ _ _ _ _ _ _ _ _ _ _ _ _ _ _ _ _ _ _ _) (SPa w1 B p s D g i m oc o x) (RPa w1 B p s D g i m oc o x) (fun i y y' => Only (KPa w1 B p s D g i m oc o x i) y y') (by kernel_rfl) 17 17 (by decide) (by kernel_rfl) (EPa w1 B p s D g i m oc o x) ?hfr ?hT (fun _ => undef) rfl ?hS ?hst ?hend
  case hfr =>
    refine fun i o d u v ho => each_op (M := fun _ o => o.dst = some d → (frPa _ _ _ _ _ _ _ _ _ _ _ _ _ _ _ _ _ _ _ _ _ _ _ _ _ _ _ _ _ u).put (some d) v = frPa _ _ _ _ _ _ _ _ _ _ _ _ _ _ _ _ _ _ _ _ _ _ _ _ _ _ _ _ _ (upd u d v)) ?_ i o ho
    refine ⟨?_, ?_, ?_, ?_, ?_, ?_, ?_, ?_, ?_, ?_, ?_, ?_, ?_, ?_, ?_, ?_, ?_, ?_, trivial⟩
    all_goals
      intro h
      first
        | (cases h; done)
        | (cases h; rfl)
  case hT =>
    intro i j v y y' hk hne hb k h
    match j, hk, hne, hb, h with
    | 0, _, _, _, h => exact h
    | 1, _, _, _, h => exact h
    | 2, _, _, _, h => exact h
    | 3, _, _, _, h => exact h
    | 4, _, _, _, h => exact h
    | 5, _, _, _, h => exact h
    | 6, _, _, _, h => exact h
    | 7, _, _, _, h => exact h
    | 8, _, _, _, h => exact h
    | 9, _, _, _, h => exact h
    | 10, _, _, _, h => exact h
    | 11, _, _, _, h => exact h
    | 12, _, _, _, h => exact h
    | 13, _, _, _, h => exact h
    | 14, hk, hne, hb, h =>
      obtain ⟨I, e, h1, h2, h3⟩ := h
      exact ⟨I, e, h1.only k (by simp [KPa]), h2, h3⟩
    | 15, _, _, _, h => exact h
    | 16, _, _, _, h => exact h
    | m + 17, _, _, _, h => exact trivial
  case hS =>
    exact (Only.refl [] w1).drew
  case hst =>
    refine each_op ⟨?_, ?_, ?_, ?_, ?_, ?_, ?_, ?_, ?_, ?_, ?_, ?_, ?_, ?_, ?_, ?_, ?_, ?_, trivial⟩
    case refine_1 =>
      intro b u y hb1 hb2 hs hd
      have HS := Lib.hid hs
      clear hs hb1 hb2
      unfold frPa
      clear hd 
      go_wp2_with fail
      exact ⟨rfl, _, rfl, fin_no (by decide) ⟨by simpa using HS.out, Only.refl _ _, rfl⟩⟩
    case refine_2 =>
      intro b u y hb1 hb2 hs hd
      have e0 : u 10 = .pointer (some ⟨s, 0, none⟩) := hd 0 (by kernel_rfl)
      have HS := Lib.hid hs
      clear hs hb1 hb2
      unfold frPa
      rw [e0]
      clear hd e0
      go_wp2_with fail
      exact ⟨rfl, _, rfl, fin_no (by decide) ⟨by simpa using HS.out, Only.refl _ _, rfl⟩⟩
    case refine_3 =>
      intro b u y hb1 hb2 hs hd
      have e1 : u 11 = .pointer (some ⟨s, 0, none⟩) := hd 1 (by kernel_rfl)
      have HS := Lib.hid hs
      clear hs hb1 hb2
      unfold frPa
      rw [e1]
      clear hd e1
      go_wp2_with fail
      exact ⟨rfl, _, rfl, fin_no (by decide) ⟨by simpa using HS.out, Only.refl _ _, rfl⟩⟩
    case refine_4 =>
      intro b u y hb1 hb2 hs hd
      have e2 : u 12 = .pointer (some ⟨s, 2, none⟩) := hd 2 (by kernel_rfl)
      have c0 : y.cell? ⟨s, 2, none⟩ = some (.slice (some ⟨g, 0, none⟩) m oc) := (SO.out y hs).1
      have HS := Lib.hid hs
      clear hs hb1 hb2
      unfold frPa
      rw [e2]
      clear hd e2
      go_wp2_with fail
      exact ⟨rfl, _, rfl, fin_no (by decide) ⟨by simpa using HS.out, Only.refl _ _, rfl⟩⟩
    case refine_5 =>
      intro b u y hb1 hb2 hs hd
      have HS := Lib.hid hs
      clear hs hb1 hb2
      unfold frPa
      clear hd 
      go_wp2_with fail
      exact ⟨rfl, _, rfl, fin_no (by decide) ⟨by simpa using HS.out, Only.refl _ _, rfl⟩⟩
    case refine_6 =>
      intro b u y hb1 hb2 hs hd
      have HS := Lib.hid hs
      clear hs hb1 hb2
      unfold frPa
      clear hd 
      go_wp2_with fail
      exact ⟨rfl, _, rfl, fin_no (by decide) ⟨by simpa using HS.out, Only.refl _ _, rfl⟩⟩
    case refine_7 =>
      intro b u y hb1 hb2 hs hd
      have e5 : u 15 = .pointer (some ⟨s, 0, none⟩) := hd 5 (by kernel_rfl)
      have HS := Lib.hid hs
      clear hs hb1 hb2
      unfold frPa
      rw [e5]
      clear hd e5
      go_wp2_with fail
      exact ⟨rfl, _, rfl, fin_no (by decide) ⟨by simpa using HS.out, Only.refl _ _, rfl⟩⟩
    case refine_8 =>
      intro b u y hb1 hb2 hs hd
      have e6 : u 16 = .pointer (some ⟨s, 0, none⟩) := hd 6 (by kernel_rfl)
      have HS := Lib.hid hs
      clear hs hb1 hb2
      unfold frPa
      rw [e6]
      clear hd e6
      go_wp2_with fail
      exact ⟨rfl, _, rfl, fin_no (by decide) ⟨by simpa using HS.out, Only.refl _ _, rfl⟩⟩
    case refine_9 =>
      intro b u y hb1 hb2 hs hd
      have e7 : u 17 = .pointer (some ⟨s, 2, none⟩) := hd 7 (by kernel_rfl)
      have c0 : y.cell? ⟨s, 2, none⟩ = some (.slice (some ⟨g, 0, none⟩) m oc) := (SO.out y hs).1
      have HS := Lib.hid hs
      clear hs hb1 hb2
      unfold frPa
      rw [e7]
      clear hd e7
      go_wp2_with fail
      exact ⟨rfl, _, rfl, fin_no (by decide) ⟨by simpa using HS.out, Only.refl _ _, rfl⟩⟩
    case refine_10 =>
      intro b u y hb1 hb2 hs hd
      have HS := Lib.hid hs
      clear hs hb1 hb2
      unfold frPa
      clear hd 
      go_wp2_with fail
      exact ⟨rfl, _, rfl, fin_no (by decide) ⟨by simpa using HS.out, Only.refl _ _, rfl⟩⟩
    case refine_11 =>
      intro b u y hb1 hb2 hs hd
      have e8 : u 18 = .slice (some ⟨g, 0, none⟩) m oc := hd 8 (by kernel_rfl)
      have e9 : u 19 = .int .i64 (i : Int) := hd 9 (by kernel_rfl)
      have il := IL.out
      have i3 : (i : Int) < (m : Int) := by omega
      have HS := Lib.hid hs
      clear hs hb1 hb2
      unfold frPa
      rw [e8, e9]
      clear hd e8 e9
      go_wp2_with fail
      exact ⟨rfl, _, rfl, fin_no (by decide) ⟨by simpa using HS.out, Only.refl _ _, rfl⟩⟩
    case refine_12 =>
      intro b u y hb1 hb2 hs hd
      have e10 : u 20 = .pointer (some ⟨g, i * 4, none⟩) := hd 10 (by kernel_rfl)
      have HS := Lib.hid hs
      clear hs hb1 hb2
      unfold frPa
      rw [e10]
      clear hd e10
      go_wp2_with fail
      exact ⟨rfl, _, rfl, fin_no (by decide) ⟨by simpa using HS.out, Only.refl _ _, rfl⟩⟩
    case refine_13 =>
      intro b u y hb1 hb2 hs hd
      have e11 : u 21 = .pointer (some ⟨g, i * 4 + 1, none⟩) := hd 11 (by kernel_rfl)
      have c0 : y.cell? ⟨g, i * 4 + 1, none⟩ = some (.slice o.sees.a o.sees.l.length o.sees.c) := (SO.out y hs).2.1
      have HS := Lib.hid hs
      clear hs hb1 hb2
      unfold frPa
      rw [e11]
      clear hd e11
      go_wp2_with fail
      exact ⟨rfl, _, rfl, fin_no (by decide) ⟨by simpa using HS.out, Only.refl _ _, rfl⟩⟩
    case refine_14 =>
      intro b u y hb1 hb2 hs hd
      have r0 := (SB.out y hs).1
      have r1 := (SB.out y hs).2.1
      have r2 := (SB.out y hs).2.2
      have HS := Lib.hid hs
      clear hs hb1 hb2
      unfold frPa
      clear hd 
      go_wp2_with fail
      exact ⟨rfl, _, rfl, fin_no (by decide) ⟨by simpa using HS.out, Only.refl _ _, rfl⟩⟩
    case refine_15 =>
      intro b u y hb1 hb2 hs hd
      have e12 : u 22 = .slice o.sees.a o.sees.l.length o.sees.c := hd 12 (by kernel_rfl)
      have e13 : u 23 = .agg #[.int .u64 x.key, .slice x.vec.a x.vec.xs.length x.vec.c, .slice x.tag.a x.tag.xs.length x.tag.c] := hd 13 (by kernel_rfl)
      have HS := Lib.hid hs
      have L := CL.out y hs
      clear hs hb1 hb2
      unfold frPa
      rw [e12, e13]
      clear hd e12 e13
      go_wp2_with fail
      refine L.mono ?_
      rintro _ y2 ⟨I, rfl, h1, h2, h3, h4⟩
      have N : Hid (Only [] w1 y2) := Lib.hid (HS.out.below h4)
      have N2 : Hid (∃ J : Its, I.v = J.v ∧ RsAt y2 J ∧ J.cs = withC o.sees.cs x.c ∧ ∀ b ∈ J.bs, b ∈ o.sees.bs ∨ w1.heap.size ≤ b) := Lib.hid ⟨I, rfl, h1, h2, fun b hb => (h3 b hb).imp id (fun h => Nat.le_trans HS.out.size h)⟩
      have N3 : Hid (Only [] y y2) := Lib.hid ((Only.refl [] y).below h4)
      clear h1 h2 h3 h4
      unfold Its.v at N2 ⊢
      go_wp2_with fail
      exact ⟨rfl, _, rfl, fin_no (by decide) ⟨N.out, N3.out, N2.out⟩⟩
    case refine_16 =>
      intro b u y hb1 hb2 hs hd
      have e3 : u 13 = .slice (some ⟨g, 0, none⟩) m oc := hd 3 (by kernel_rfl)
      have e4 : u 14 = .int .i64 (i : Int) := hd 4 (by kernel_rfl)
      have il := IL.out
      have i3 : (i : Int) < (m : Int) := by omega
      have HS := Lib.hid hs
      clear hs hb1 hb2
      unfold frPa
      rw [e3, e4]
      clear hd e3 e4
      go_wp2_with fail
      exact ⟨rfl, _, rfl, fin_no (by decide) ⟨by simpa using HS.out, Only.refl _ _, rfl⟩⟩
    case refine_17 =>
      intro b u y hb1 hb2 hs hd
      have e15 : u 25 = .pointer (some ⟨g, i * 4, none⟩) := hd 15 (by kernel_rfl)
      have HS := Lib.hid hs
      clear hs hb1 hb2
      unfold frPa
      rw [e15]
      clear hd e15
      go_wp2_with fail
      exact ⟨rfl, _, rfl, fin_no (by decide) ⟨by simpa using HS.out, Only.refl _ _, rfl⟩⟩
    case refine_18 =>
      intro b u y hb1 hb2 hs hd
      have e16 : u 26 = .pointer (some ⟨g, i * 4 + 1, none⟩) := hd 16 (by kernel_rfl)
      obtain ⟨I, e14, hI, hc, hb⟩ : ∃ I : Its, u 24 = I.v ∧ RsAt y I ∧ I.cs = withC o.sees.cs x.c ∧ ∀ b ∈ I.bs, b ∈ o.sees.bs ∨ w1.heap.size ≤ b := hd 14 (by kernel_rfl)
      have N : Hid (EPa w1 B p s D g i m oc o x (y.setCell ⟨g, i * 4 + 1, none⟩ I.v)) := Lib.hid ⟨I, hc, FIN.out y I hs hI hc hb⟩
      have c0 : y.cell? ⟨g, i * 4 + 1, none⟩ = some (.slice o.sees.a o.sees.l.length o.sees.c) := (SO.out y hs).2.1
      have fz : y.frozen? ⟨g, i * 4 + 1, none⟩ = false := (SO.out y hs).2.2
      unfold Its.v at e14 N
      unfold frPa
      rw [e16]
      rw [e14]
      clear hd e16 e14 hI hc hb hs hb1 hb2
      go_wp2_with fail
      exact ⟨rfl, rfl, fin_yes rfl N.out⟩
  case hend =>
    intro u y hE
    obtain ⟨I, hc1, hst⟩ := hE
    have C1 := Lib.hid hc1
    have ST := Lib.hid hst
    clear hc1 hst
    unfold frPa
    obtain ⟨o2, ho2⟩ : ∃ o2, ({ o with sees := I } : RTx) = o2 := ⟨_, rfl⟩
    obtain ⟨D2, hD2⟩ : ∃ D2, setR D i { o with sees := I } = D2 := ⟨_, rfl⟩
    have H2 : Hid (RdbAt y B p s D2) := Lib.hid (by rw [← hD2]; exact ST.out.db)
    have HO2 : Hid (D2.op[i]? = some o2) := Lib.hid (by rw [← hD2, ← ho2]; show (D.op.set i _)[i]? = _; rw [List.getElem?_set_self (by rw [HM.out]; exact IL.out)])
    have EG2 : Hid (D2.oa = some ⟨g, 0, none⟩) := Lib.hid (by rw [← hD2]; exact EG.out)
    have OV2 : Hid (D2.ov = .slice (some ⟨g, 0, none⟩) m oc) := Lib.hid (by rw [← hD2, ← OVE.out]; unfold RDB.ov setR; simp)
    have M2 : Hid (D2.op.length = m) := Lib.hid (by rw [← hD2, ← HM.out]; unfold setR; simp)
    have E2 : Hid (o2.wa = o.wa ∧ o2.wc = o.wc ∧ o2.wr = o.wr ∧ o2.sees = I ∧ o2.since = o.since ∧ o2.n = o.n) := Lib.hid (by rw [← ho2]; exact ⟨rfl, rfl, rfl, rfl, rfl, rfl⟩)
    have WL2 : Hid (o2.wr.length < 50000) := Lib.hid (by rw [E2.out.2.2.1]; exact L2.out)
    have DONE : Hid (∀ a c y2, RStep y B p s D2 (setR D2 i { o2 with wa := a, wc := c, wr := o2.wr ++ [x.key] }) y2 → PutRTo B p s D i o (withC o.sees.cs x.c) x.key w (.returned (.tuple #[])) y2) := Lib.hid fun a c y2 hst => by
      refine ⟨I, a, c, rfl, C1.out, ?_⟩
      have e : setR D2 i { o2 with wa := a, wc := c, wr := o2.wr ++ [x.key] } = setR D i { o with sees := I, wa := a, wc := c, wr := o.wr ++ [x.key] } := by
        rw [← hD2, ← ho2]
        unfold setR
        simp
      rw [e] at hst
      rw [← hD2] at hst
      exact RStep.after B1.out (ST.out.trans hst)
    have SB2 : Hid (y.cell? ⟨w.heap.size, 0, none⟩ = some (.int .u64 x.key) ∧ w.heap.size < y.heap.size ∧ w.heap.size ∉ D.own p s) := Lib.hid ⟨(R1.out.only ST.out.only (fun h => by have := H.out.lt _ h; have := XN.out; exact XN.out h)).cell 0, Nat.lt_of_lt_of_le XB.out ST.out.only.size, XN.out⟩
    have WN : Hid (∀ b, o2.wv.ownBlock = some b → b ≠ w.heap.size) := Lib.hid fun b hb e => XN.out (by rw [← e]; rw [show o2.wv = o.wv by rw [← ho2]; rfl] at hb; simp [RDB.own, mem_wrB2 OM.out hb])
    clear hD2 ho2
    clear H HO OM EG OVE HM WL SO CL FIN HB SB
    have H := H2
    have OM : Hid (o2 ∈ D2.op) := Lib.hid (List.mem_of_getElem? HO2.out)
    have WL := WL2
    have HB : Hid (B ≤ y.heap.size) := Lib.hid (Nat.le_trans Z0.out ST.out.only.size)
    have SO : Hid (∀ z, Only o2.wv.ownBlock.toList y z → z.cell? ⟨s, 2, none⟩ = some (.slice (some ⟨g, 0, none⟩) m oc) ∧ z.cell? ⟨g, i * 4 + 2, none⟩ = some (.slice o2.wa o2.wr.length o2.wc) ∧ z.frozen? ⟨g, i * 4 + 2, none⟩ = false) := Lib.hid fun z hz => by
      obtain ⟨n1, n2, n3⟩ := op_blk H.out OM.out EG2.out
      obtain ⟨g2, eg, _, hc⟩ := H.out.at_ HO2.out
      rw [EG2.out] at eg
      cases eg
      have hgo : D2.ov.ownBlock = some g := by rw [OV2.out]; rfl
      have hgl := (H.out.oown.lt g hgo).2
      refine ⟨by rw [← OV2.out]; exact (H.out.srow.only hz n1).cell 2, by rw [hz.cell hgl n2]; exact hc 2 (by omega), ?_⟩
      have ho := own_keep (w' := z) H.out.oown (fun b hb => by rw [hgo] at hb; cases hb; exact hz.block g hgl n2)
      rw [OV2.out, M2.out] at ho
      exact World.ownsRow.frozenAt ho _
    have FIN : Hid (∀ z a c, Only o2.wv.ownBlock.toList y z → z.ownsRow B tU 1 (.slice a (o2.wr.length + 1) c) (o2.wr.length + 1) ((o2.wr ++ [x.key]).map (Value.int .u64)) → ((Value.slice a (o2.wr.length + 1) c).ownBlock = o2.wv.ownBlock ∨ ∀ b, (Value.slice a (o2.wr.length + 1) c).ownBlock = some b → y.heap.size ≤ b) → RStep y B p s D2 (setR D2 i { o2 with wa := a, wc := c, wr := o2.wr ++ [x.key] }) (z.setCell ⟨g, i * 4 + 2, none⟩ (.slice a (o2.wr.length + 1) c))) := Lib.hid fun z a c hz hv hf => by
      have ex : ({ o2 with wa := a, wc := c, wr := o2.wr ++ [x.key] } : RTx).wv = .slice a (o2.wr.length + 1) c := by unfold RTx.wv; simp
      have rd := fun b (hb : b ∈ D2.reads) (hm : b ∈ o2.wv.ownBlock.toList) => H.out.ap b (by simp [RDB.own, mem_wrB2 OM.out (show o2.wv.ownBlock = some b by simpa using hm)]) hb
      refine H.out.setOp HB.out (x := { o2 with wa := a, wc := c, wr := o2.wr ++ [x.key] }) HO2.out rfl 2 _ (by omega) (by unfold RTx.cells; rw [ex]; rfl) hz (by rw [ex]; simpa using hv) (by rw [ex]; exact hf) ((H.out.sees o2 OM.out).only hz fun b hb => rd b (List.mem_append_right _ (mem_opR OM.out (.inl hb)))) (fun b hb => .inl (List.mem_append_right _ (mem_opR OM.out (.inl hb)))) ((H.out.since o2 OM.out).only hz fun b hb => rd b (List.mem_append_right _ (mem_opR OM.out (.inr hb)))) (fun b hb => .inl (List.mem_append_right _ (mem_opR OM.out (.inr hb)))) (fun b h1 h2 => ⟨fun hm => ?_, fun hm => ?_⟩) ⟨(H.out.fine.ops o2 OM.out).2.1, by have := WL.out; simp; omega, (H.out.fine.ops o2 OM.out).2.2.2⟩ EG2.out
      · have := H.out.ltr b (List.mem_append_right _ (mem_opR OM.out (.inl hm))); omega
      · have := H.out.ltr b (List.mem_append_right _ (mem_opR OM.out (.inr hm))); omega
    have SB : Hid (∀ z, Only o2.wv.ownBlock.toList y z → z.cell? ⟨w.heap.size, 0, none⟩ = some (.int .u64 x.key)) := Lib.hid fun z hz => by rw [hz.cell SB2.out.2.1 (fun hm => WN.out _ (by simpa using hm) rfl)]; exact SB2.out.1
    go_upto_region 3 with fail
    refine region_fin (by kernel_rfl) 10 [] (frPb _ _ _ _ _ _ _ _ _ _ _ _ _ _ _ _ _ _ _ _ _ _ _ _ _ _ _) (SPb y B p s D2 w.heap.size g i m oc o2 x.key) (RPb y B p s D2 w.heap.size g i m oc o2 x.key) (fun i z z' => Only (KPb y B p s D2 w.heap.size g i m oc o2 x.key i) z z') (by kernel_rfl) 19 16 (by decide) (by kernel_rfl) (EPb y B p s D2 w.heap.size g i m oc o2 x.key) ?hfr ?hT (fun _ => undef) rfl ?hS ?hst ?hend
    case hfr =>
      refine fun i o d u v ho => each_op (M := fun _ o => o.dst = some d → (frPb _ _ _ _ _ _ _ _ _ _ _ _ _ _ _ _ _ _ _ _ _ _ _ _ _ _ _ u).put (some d) v = frPb _ _ _ _ _ _ _ _ _ _ _ _ _ _ _ _ _ _ _ _ _ _ _ _ _ _ _ (upd u d v)) ?_ i o ho
      refine ⟨?_, ?_, ?_, ?_, ?_, ?_, ?_, ?_, ?_, ?_, ?_, ?_, ?_, ?_, ?_, ?_, ?_, ?_, ?_, ?_, trivial⟩
      all_goals
        intro h
        first
          | (cases h; done)
          | (cases h; rfl)
    case hT =>
      intro i j v z z' hk hne hb k h
      match j, hk, hne, hb, h with
      | 0, _, _, _, h => exact h
      | 1, _, _, _, h => exact h
      | 2, _, _, _, h => exact h
      | 3, _, _, _, h => exact h
      | 4, _, _, _, h => exact h
      | 5, _, _, _, h => exact h
      | 6, _, _, _, h => exact h
      | 7, _, _, _, h => exact h
      | 8, _, _, _, h => exact h
      | 9, _, _, _, h => exact h
      | 10, _, _, _, h => exact h
      | 11, _, _, _, h => exact h
      | 12, _, _, _, h => exact h
      | 13, _, _, _, h => exact h
      | 14, _, _, _, h => exact h
      | 15, hk, hne, hb, h =>
        obtain ⟨q, e, hr, hq⟩ := h
        refine ⟨q, e, hr.only k (fun hm => ?_), hq⟩
        unfold KPb at hm
        split at hm
        · have := (H.out.wown o2 OM.out).lt q (by simpa using hm); omega
        · simp at hm
      | 16, hk, hne, hb, h =>
        obtain ⟨h1, h2⟩ := h
        have hn : i ≠ 16 := fun e => hne e.symm
        refine ⟨own_keep h1 fun b hb => k.block b (h1.lt b hb).2 (by unfold KPb; rw [if_neg hn]; simp), h2⟩
      | 17, _, _, _, h => exact h
      | 18, _, _, _, h => exact h
      | m + 19, _, _, _, h => exact trivial
    case hS =>
      exact (Only.refl [] y).drew
    case hst =>
      refine each_op ⟨?_, ?_, ?_, ?_, ?_, ?_, ?_, ?_, ?_, ?_, ?_, ?_, ?_, ?_, ?_, ?_, ?_, ?_, ?_, ?_, trivial⟩
      case refine_1 =>
        intro b u z hb1 hb2 hs hd
        have HS := Lib.hid hs
        clear hs hb1 hb2
        unfold frPb
        clear hd 
        go_wp2_with fail
        exact ⟨rfl, _, rfl, fin_no (by decide) ⟨by simpa using HS.out, Only.refl _ _, rfl⟩⟩
      case refine_2 =>
        intro b u z hb1 hb2 hs hd
        have e0 : u 27 = .pointer (some ⟨s, 0, none⟩) := hd 0 (by kernel_rfl)
        have HS := Lib.hid hs
        clear hs hb1 hb2
        unfold frPb
        rw [e0]
        clear hd e0
        go_wp2_with fail
        exact ⟨rfl, _, rfl, fin_no (by decide) ⟨by simpa using HS.out, Only.refl _ _, rfl⟩⟩
      case refine_3 =>
        intro b u z hb1 hb2 hs hd
        have e1 : u 28 = .pointer (some ⟨s, 0, none⟩) := hd 1 (by kernel_rfl)
        have HS := Lib.hid hs
        clear hs hb1 hb2
        unfold frPb
        rw [e1]
        clear hd e1
        go_wp2_with fail
        exact ⟨rfl, _, rfl, fin_no (by decide) ⟨by simpa using HS.out, Only.refl _ _, rfl⟩⟩
      case refine_4 =>
        intro b u z hb1 hb2 hs hd
        have e2 : u 29 = .pointer (some ⟨s, 2, none⟩) := hd 2 (by kernel_rfl)
        have SW := SPb_wide hs
        have c0 : z.cell? ⟨s, 2, none⟩ = some (.slice (some ⟨g, 0, none⟩) m oc) := (SO.out z SW).1
        clear SW
        have HS := Lib.hid hs
        clear hs hb1 hb2
        unfold frPb
        rw [e2]
        clear hd e2
        go_wp2_with fail
        exact ⟨rfl, _, rfl, fin_no (by decide) ⟨by simpa using HS.out, Only.refl _ _, rfl⟩⟩
      case refine_5 =>
        intro b u z hb1 hb2 hs hd
        have HS := Lib.hid hs
        clear hs hb1 hb2
        unfold frPb
        clear hd 
        go_wp2_with fail
        exact ⟨rfl, _, rfl, fin_no (by decide) ⟨by simpa using HS.out, Only.refl _ _, rfl⟩⟩
      case refine_6 =>
        intro b u z hb1 hb2 hs hd
        have HS := Lib.hid hs
        clear hs hb1 hb2
        unfold frPb
        clear hd 
        go_wp2_with fail
        exact ⟨rfl, _, rfl, fin_no (by decide) ⟨by simpa using HS.out, Only.refl _ _, rfl⟩⟩
      case refine_7 =>
        intro b u z hb1 hb2 hs hd
        have e5 : u 32 = .pointer (some ⟨s, 0, none⟩) := hd 5 (by kernel_rfl)
        have HS := Lib.hid hs
        clear hs hb1 hb2
        unfold frPb
        rw [e5]
        clear hd e5
        go_wp2_with fail
        exact ⟨rfl, _, rfl, fin_no (by decide) ⟨by simpa using HS.out, Only.refl _ _, rfl⟩⟩
      case refine_8 =>
        intro b u z hb1 hb2 hs hd
        have e6 : u 33 = .pointer (some ⟨s, 0, none⟩) := hd 6 (by kernel_rfl)
        have HS := Lib.hid hs
        clear hs hb1 hb2
        unfold frPb
        rw [e6]
        clear hd e6
        go_wp2_with fail
        exact ⟨rfl, _, rfl, fin_no (by decide) ⟨by simpa using HS.out, Only.refl _ _, rfl⟩⟩
      case refine_9 =>
        intro b u z hb1 hb2 hs hd
        have e7 : u 34 = .pointer (some ⟨s, 2, none⟩) := hd 7 (by kernel_rfl)
        have SW := SPb_wide hs
        have c0 : z.cell? ⟨s, 2, none⟩ = some (.slice (some ⟨g, 0, none⟩) m oc) := (SO.out z SW).1
        clear SW
        have HS := Lib.hid hs
        clear hs hb1 hb2
        unfold frPb
        rw [e7]
        clear hd e7
        go_wp2_with fail
        exact ⟨rfl, _, rfl, fin_no (by decide) ⟨by simpa using HS.out, Only.refl _ _, rfl⟩⟩
      case refine_10 =>
        intro b u z hb1 hb2 hs hd
        have HS := Lib.hid hs
        clear hs hb1 hb2
        unfold frPb
        clear hd 
        go_wp2_with fail
        exact ⟨rfl, _, rfl, fin_no (by decide) ⟨by simpa using HS.out, Only.refl _ _, rfl⟩⟩
      case refine_11 =>
        intro b u z hb1 hb2 hs hd
        have e8 : u 35 = .slice (some ⟨g, 0, none⟩) m oc := hd 8 (by kernel_rfl)
        have e9 : u 36 = .int .i64 (i : Int) := hd 9 (by kernel_rfl)
        have il := IL.out
        have i3 : (i : Int) < (m : Int) := by omega
        have HS := Lib.hid hs
        clear hs hb1 hb2
        unfold frPb
        rw [e8, e9]
        clear hd e8 e9
        go_wp2_with fail
        exact ⟨rfl, _, rfl, fin_no (by decide) ⟨by simpa using HS.out, Only.refl _ _, rfl⟩⟩
      case refine_12 =>
        intro b u z hb1 hb2 hs hd
        have e10 : u 37 = .pointer (some ⟨g, i * 4, none⟩) := hd 10 (by kernel_rfl)
        have HS := Lib.hid hs
        clear hs hb1 hb2
        unfold frPb
        rw [e10]
        clear hd e10
        go_wp2_with fail
        exact ⟨rfl, _, rfl, fin_no (by decide) ⟨by simpa using HS.out, Only.refl _ _, rfl⟩⟩
      case refine_13 =>
        intro b u z hb1 hb2 hs hd
        have e11 : u 38 = .pointer (some ⟨g, i * 4 + 2, none⟩) := hd 11 (by kernel_rfl)
        have SW := SPb_wide hs
        have c0 : z.cell? ⟨g, i * 4 + 2, none⟩ = some (.slice o2.wa o2.wr.length o2.wc) := (SO.out z SW).2.1
        clear SW
        have HS := Lib.hid hs
        clear hs hb1 hb2
        unfold frPb
        rw [e11]
        clear hd e11
        go_wp2_with fail
        exact ⟨rfl, _, rfl, fin_no (by decide) ⟨by simpa using HS.out, Only.refl _ _, rfl⟩⟩
      case refine_14 =>
        intro b u z hb1 hb2 hs hd
        have HS := Lib.hid hs
        clear hs hb1 hb2
        unfold frPb
        clear hd 
        go_wp2_with fail
        exact ⟨rfl, _, rfl, fin_no (by decide) ⟨by simpa using HS.out, Only.refl _ _, rfl⟩⟩
      case refine_15 =>
        intro b u z hb1 hb2 hs hd
        have e13 : u 40 = .pointer (some ⟨w.heap.size, 0, none⟩) := hd 13 (by kernel_rfl)
        have SW := SPb_wide hs
        have r0 := SB.out z SW
        clear SW
        have HS := Lib.hid hs
        clear hs hb1 hb2
        unfold frPb
        rw [e13]
        clear hd e13
        go_wp2_with fail
        exact ⟨rfl, _, rfl, fin_no (by decide) ⟨by simpa using HS.out, Only.refl _ _, rfl⟩⟩
      case refine_16 =>
        intro b u z hb1 hb2 hs hd
        have e14 : u 41 = .int .u64 x.key := hd 14 (by kernel_rfl)
        have HS := Lib.hid hs
        clear hs hb1 hb2
        unfold frPb
        rw [e14]
        clear hd e14
        go_wp2_with fail
        have SW := SPb_wide HS.out
        have SS : Hid (SPb y B p s D2 w.heap.size g i m oc o2 x.key b (z.alloc (.cells #[.int .u64 x.key] tU))) := Lib.hid (SPb_alloc HS.out _)
        exact ⟨rfl, _, rfl, fin_no (by decide) ⟨by simpa using SS.out, (Only.refl [] z).alloc _, ⟨_, rfl, Row.made _ _ _, SW.size⟩⟩⟩
      case refine_17 =>
        intro b u z hb1 hb2 hs hd
        have e12 : u 39 = .slice o2.wa o2.wr.length o2.wc := hd 12 (by kernel_rfl)
        have hb0 : b = false := by
          cases b with
          | false => rfl
          | true => exact absurd rfl (hb1 rfl).2
        subst hb0
        have HS : Hid (Only [] y z) := Lib.hid hs
        obtain ⟨q, eq, hr, hq⟩ : ∃ q, u 42 = .slice (some ⟨q, 0, none⟩) 1 1 ∧ Row z q #[.int .u64 x.key] tU ∧ y.heap.size ≤ q := hd 15 (by kernel_rfl)
        have OV := (H.out.only HS.out (by simp)).wown o2 OM.out
        have OV0 := (H.out.wown o2 OM.out).lt
        unfold RTx.wv at OV
        unfold frPb
        rw [e12]
        rw [eq]
        clear hd e12 eq hs hb1 hb2
        refine wpList_append_at rfl (.tmp 39) (.tmp 42) 54 rfl B tU i0 _ 1 8 Tryz.underlying54 hi hz0 hz1 hz2 rfl (by decide) _ o2.wr.length (o2.wr.map (Value.int .u64)) rfl OV ⟨q, 0, none⟩ 1 1 [.int .u64 x.key] rfl rfl ?cells ?one (by have := WL.out; unfold maxLen; omega) (by have := WL.out; omega) (Nat.le_trans HB.out HS.out.size) ?more
        case cells =>
          intro j z hjz
          rw [add_plain, Nat.zero_add, hr.cell j]
          simpa using hjz
        case one => intro z hz; simp at hz; subst hz; rfl
        case more =>
          intro v' z2 hown' hgrow hfr
          replace hgrow : z.grownBy z2 o2.wv.ownBlock := hgrow
          replace hfr : v'.ownBlock = o2.wv.ownBlock ∨ ∀ g, v'.ownBlock = some g → z.heap.size ≤ g := hfr
          have T1 : Only o2.wv.ownBlock.toList z z2 := ⟨hgrow.os, hgrow.tape, hgrow.output, hgrow.size, fun b hb hn => hgrow.block b hb (fun e => hn (by rw [← e]; simp))⟩
          have T2 : Only o2.wv.ownBlock.toList y z2 := (HS.out.mono (by simp)).trans T1 (fun b hb => .inl hb)
          refine ⟨rfl, _, rfl, fin_no (by decide) ⟨T2, T1, ?_, ?_⟩⟩
          · simpa using hown'
          · exact hfr.imp id fun h b hb => Nat.le_trans HS.out.size (h b hb)
      case refine_18 =>
        intro b u z hb1 hb2 hs hd
        have e3 : u 30 = .slice (some ⟨g, 0, none⟩) m oc := hd 3 (by kernel_rfl)
        have e4 : u 31 = .int .i64 (i : Int) := hd 4 (by kernel_rfl)
        have il := IL.out
        have i3 : (i : Int) < (m : Int) := by omega
        have HS := Lib.hid hs
        clear hs hb1 hb2
        unfold frPb
        rw [e3, e4]
        clear hd e3 e4
        go_wp2_with fail
        exact ⟨rfl, _, rfl, fin_no (by decide) ⟨by simpa using HS.out, Only.refl _ _, rfl⟩⟩
      case refine_19 =>
        intro b u z hb1 hb2 hs hd
        have e17 : u 44 = .pointer (some ⟨g, i * 4, none⟩) := hd 17 (by kernel_rfl)
        have HS := Lib.hid hs
        clear hs hb1 hb2
        unfold frPb
        rw [e17]
        clear hd e17
        go_wp2_with fail
        exact ⟨rfl, _, rfl, fin_no (by decide) ⟨by simpa using HS.out, Only.refl _ _, rfl⟩⟩
      case refine_20 =>
        intro b u z hb1 hb2 hs hd
        have e18 : u 45 = .pointer (some ⟨g, i * 4 + 2, none⟩) := hd 18 (by kernel_rfl)
        have hb0 : b = true := hb2 (by kernel_rfl)
        subst hb0
        obtain ⟨hv, hf⟩ : z.ownsRow B tU 1 (u 43) (o2.wr.length + 1) ((o2.wr ++ [x.key]).map (Value.int .u64)) ∧ ((u 43).ownBlock = o2.wv.ownBlock ∨ ∀ b, (u 43).ownBlock = some b → y.heap.size ≤ b) := hd 16 (by kernel_rfl)
        obtain ⟨a, c, e9, _⟩ := own_shape hv
        rw [e9] at hv hf
        have HS : Hid (Only o2.wv.ownBlock.toList y z) := Lib.hid hs
        have N : Hid (EPb y B p s D2 w.heap.size g i m oc o2 x.key (z.setCell ⟨g, i * 4 + 2, none⟩ (.slice a (o2.wr.length + 1) c))) := Lib.hid ⟨a, c, FIN.out z a c HS.out hv hf⟩
        have c0 : z.cell? ⟨g, i * 4 + 2, none⟩ = some (.slice o2.wa o2.wr.length o2.wc) := (SO.out z HS.out).2.1
        have fz : z.frozen? ⟨g, i * 4 + 2, none⟩ = false := (SO.out z HS.out).2.2
        unfold frPb
        rw [e18]
        rw [e9]
        clear hd e18 e9 hv hf hs hb1 hb2
        go_wp2_with fail
        exact ⟨rfl, rfl, fin_yes rfl N.out⟩
    case hend =>
      intro u z hE
      obtain ⟨a, c, hst⟩ := hE
      have N := Lib.hid (DONE.out a c z hst)
      clear hst
      unfold frPb
      go_wp2_with fail
      refine bodyPost_ret (results_none rfl _ _ _) rfl ?_
      exact N.out
end Go.Proofs.YtmbmkfhdiljalaaGreat
