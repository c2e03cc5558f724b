/- Plain, the document's side: Delete (printed by gen_rput.py). -/
import Derived.Test.YtmbmkfhdiljalaaGreatRfQ
namespace Go.Proofs.YtmbmkfhdiljalaaGreat
open Go.RowKit Go.ChangeShapes Go.WideShapes Go.ChangeAt
set_option linter.unusedVariables false
set_option linter.unusedSimpArgs false

def frDa (x0 x1 x2 x3 x4 x5 x6 x7 x8 x9 x27 x28 x29 x30 x31 x32 x33 x34 x35 x36 x37 x38 x39 x40 x41 x42 x43 x44 : Value) (u : Nat → Value) : Act := ⟨#[x0, x1, x2, x3, x4, x5, x6, x7, x8, x9, u 10, u 11, u 12, u 13, u 14, u 15, u 16, u 17, u 18, u 19, u 20, u 21, u 22, u 23, u 24, u 25, u 26, x27, x28, x29, x30, x31, x32, x33, x34, x35, x36, x37, x38, x39, x40, x41, x42, x43, x44], []⟩
def RDa (w0 : World) (B p s : Nat) (D : RDB) (g i m oc : Nat) (o : RTx) (key : Int) : Nat → Value → World → Prop
  | 0, v, _ => v = .pointer (some ⟨s, 0, none⟩)
  | 1, v, _ => v = .pointer (some ⟨s, 0, none⟩)
  | 2, v, _ => v = .pointer (some ⟨s, 2, none⟩)
  | 3, v, _ => v = .slice (some ⟨g, 0, none⟩) m oc
  | 4, v, _ => v = .int .i64 (i : Int)
  | 5, v, _ => v = .pointer (some ⟨s, 0, none⟩)
  | 6, v, _ => v = .pointer (some ⟨s, 0, none⟩)
  | 7, v, _ => v = .pointer (some ⟨s, 2, none⟩)
  | 8, v, _ => v = .slice (some ⟨g, 0, none⟩) m oc
  | 9, v, _ => v = .int .i64 (i : Int)
  | 10, v, _ => v = .pointer (some ⟨g, i * 4, none⟩)
  | 11, v, _ => v = .pointer (some ⟨g, i * 4 + 1, none⟩)
  | 12, v, _ => v = .slice o.sees.a o.sees.l.length o.sees.c
  | 13, v, _ => v = .int .u64 key
  | 14, v, w => ∃ I : Its, v = I.v ∧ RsAt w I ∧ I.cs = withoutC o.sees.cs key ∧ ∀ b ∈ I.bs, b ∈ o.sees.bs ∨ w0.heap.size ≤ b
  | 15, v, _ => v = .pointer (some ⟨g, i * 4, none⟩)
  | 16, v, _ => v = .pointer (some ⟨g, i * 4 + 1, none⟩)
  | _, _, _ => True
def SDa (w0 : World) (B p s : Nat) (D : RDB) (g i m oc : Nat) (o : RTx) (key : Int) (_ : Bool) (w : World) : Prop := Only [] w0 w
def EDa (w0 : World) (B p s : Nat) (D : RDB) (g i m oc : Nat) (o : RTx) (key : Int) (w : World) : Prop := ∃ I : Its, I.cs = withoutC o.sees.cs key ∧ RStep w0 B p s D (setR D i { o with sees := I }) w
def KDa (w0 : World) (B p s : Nat) (D : RDB) (g i m oc : Nat) (o : RTx) (key : Int) : Nat → List Nat := fun _ => []
def frDb (x0 x1 x2 x3 x4 x5 x6 x7 x8 x9 x10 x11 x12 x13 x14 x15 x16 x17 x18 x19 x20 x21 x22 x23 x24 x25 x26 : Value) (u : Nat → Value) : Act := ⟨#[x0, x1, x2, x3, x4, x5, x6, x7, x8, x9, x10, x11, x12, x13, x14, x15, x16, x17, x18, x19, x20, x21, x22, x23, x24, x25, x26, u 27, u 28, u 29, u 30, u 31, u 32, u 33, u 34, u 35, u 36, u 37, u 38, u 39, u 40, u 41, u 42, u 43, u 44], []⟩
def RDb (w0 : World) (B p s : Nat) (D : RDB) (g i m oc : Nat) (o : RTx) (key : Int) : Nat → Value → World → Prop
  | 0, v, _ => v = .pointer (some ⟨s, 0, none⟩)
  | 1, v, _ => v = .pointer (some ⟨s, 0, none⟩)
  | 2, v, _ => v = .pointer (some ⟨s, 2, none⟩)
  | 3, v, _ => v = .slice (some ⟨g, 0, none⟩) m oc
  | 4, v, _ => v = .int .i64 (i : Int)
  | 5, v, _ => v = .pointer (some ⟨s, 0, none⟩)
  | 6, v, _ => v = .pointer (some ⟨s, 0, none⟩)
  | 7, v, _ => v = .pointer (some ⟨s, 2, none⟩)
  | 8, v, _ => v = .slice (some ⟨g, 0, none⟩) m oc
  | 9, v, _ => v = .int .i64 (i : Int)
  | 10, v, _ => v = .pointer (some ⟨g, i * 4, none⟩)
  | 11, v, _ => v = .pointer (some ⟨g, i * 4 + 2, none⟩)
  | 12, v, _ => v = .slice o.wa o.wr.length o.wc
  | 13, v, _ => v = .int .u64 key
  | 14, v, w => ∃ q, v = .slice (some ⟨q, 0, none⟩) 1 1 ∧ Row w q #[.int .u64 key] tU ∧ w0.heap.size ≤ q
  | 15, v, w => w.ownsRow B tU 1 v (o.wr.length + 1) ((o.wr ++ [key]).map (Value.int .u64)) ∧ (v.ownBlock = o.wv.ownBlock ∨ ∀ b, v.ownBlock = some b → w0.heap.size ≤ b)
  | 16, v, _ => v = .pointer (some ⟨g, i * 4, none⟩)
  | 17, v, _ => v = .pointer (some ⟨g, i * 4 + 2, none⟩)
  | _, _, _ => True
def SDb (w0 : World) (B p s : Nat) (D : RDB) (g i m oc : Nat) (o : RTx) (key : Int) : Bool → World → Prop
  | false, w => Only [] w0 w
  | true, w => Only o.wv.ownBlock.toList w0 w
def EDb (w0 : World) (B p s : Nat) (D : RDB) (g i m oc : Nat) (o : RTx) (key : Int) (w : World) : Prop := ∃ (a : Option Addr) (c : Nat), RStep w0 B p s D (setR D i { o with wa := a, wc := c, wr := o.wr ++ [key] }) w
def KDb (w0 : World) (B p s : Nat) (D : RDB) (g i m oc : Nat) (o : RTx) (key : Int) : Nat → List Nat := fun j => if j = 15 then o.wv.ownBlock.toList else []
theorem SDb_wide {w0 w : World} {B p s g i m oc : Nat} {D : RDB} {o : RTx} {key : Int} {b : Bool} (h : SDb w0 B p s D g i m oc o key b w) : Only o.wv.ownBlock.toList w0 w := by
  cases b with
  | false => exact Only.mono h (by simp)
  | true => exact h
theorem SDb_alloc {w0 w : World} {B p s g i m oc : Nat} {D : RDB} {o : RTx} {key : Int} {b : Bool} (h : SDb w0 B p s D g i m oc o key b w) (x : Obj) : SDb w0 B p s D g i m oc o key b (w.alloc x) := by
  cases b with
  | false => exact Only.alloc h x
  | true => exact Only.alloc h x
/-- What Delete leaves. -/
def DeleteRTo (B p s : Nat) (D : RDB) (i : Nat) (o : RTx) (cs : List Rc) (key : Int) (w : World) (e : Ending) (w' : World) : Prop := ∃ (I : Its) (a : Option Addr) (c : Nat), e = .returned (.tuple #[]) ∧ I.cs = cs ∧ RStep w B p s D (setR D i { o with sees := I, wa := a, wc := c, wr := o.wr ++ [key] }) w'
set_option maxRecDepth 100000 in
set_option maxHeartbeats 8000000 in
theorem delete_r19 {w : World} {B p s : Nat} {D : RDB} (h : RdbAt w B p s D) (hB : B ≤ w.heap.size) {t : Int} {i : Nat} {o : RTx} (hf : findR D.op t = some i) (ho : D.op[i]? = some o) (hl1 : o.sees.l.length < 50000) (hl2 : o.wr.length < 50000) (key : Int) :
    Calls Tryz.prog 54 #[.pointer (some ⟨s, 0, none⟩), .int .u64 t, .int .u64 key] w (DeleteRTo B p s D i o (withoutC o.sees.cs key) key w) := by
  obtain ⟨i0, hi, hz0, hz1, hz2⟩ := info_parts infoU64
  have H := Lib.hid h
  have Z0 := Lib.hid hB
  have TH := Lib.hid (find_ref (t := t) H.out)
  rw [findV_some hf] at TH
  have HO := Lib.hid ho
  have OM : Hid (o ∈ D.op) := Lib.hid (List.mem_of_getElem? ho)
  have L1 := Lib.hid hl1
  have L2 := Lib.hid hl2
  have WL : Hid (o.wr.length < 50000) := Lib.hid hl2
  have IL0 := (List.getElem?_eq_some_iff.1 ho).1
  have HN := Lib.hid h.fine.len
  obtain ⟨g, eg, hcap, _⟩ := h.at_ ho
  have EG := Lib.hid eg
  obtain ⟨m, hm⟩ : ∃ m, D.op.length = m := ⟨_, rfl⟩
  have HM := Lib.hid hm
  obtain ⟨oc, hoc⟩ : ∃ oc, D.oc = oc := ⟨_, rfl⟩
  have HOC := Lib.hid hoc
  have IL : Hid (i < m) := Lib.hid (by omega)
  have OVE : Hid (D.ov = .slice (some ⟨g, 0, none⟩) m oc) := Lib.hid (by unfold RDB.ov; rw [eg, hm, hoc])
  clear h hB hf ho hl1 hl2 IL0 eg hcap hm hoc
  skip
  go_enter Tryz.func54, Tryz.ntmps54
  go_wp2_with fail
  refine TH.out.mono ?_
  rintro _ w2 ⟨rfl, hw⟩
  subst w2
  have HB := Z0
  have SO : Hid (∀ y, Only [] w y → y.cell? ⟨s, 2, none⟩ = some (.slice (some ⟨g, 0, none⟩) m oc) ∧ y.cell? ⟨g, i * 4 + 1, none⟩ = some (.slice o.sees.a o.sees.l.length o.sees.c) ∧ y.frozen? ⟨g, i * 4 + 1, none⟩ = false) := Lib.hid fun y hy => by
    have h := H.out.only hy (by simp)
    obtain ⟨g2, eg, _, hc⟩ := h.at_ HO.out
    rw [EG.out] at eg
    cases eg
    refine ⟨by rw [← OVE.out]; exact h.srow.cell 2, hc 1 (by omega), ?_⟩
    have ho := h.oown
    rw [OVE.out, HM.out] at ho
    exact World.ownsRow.frozenAt ho _
  have CL : Hid (∀ y, Only [] w y → Calls Tryz.prog 79 #[.slice o.sees.a o.sees.l.length o.sees.c, .int .u64 key] y (ListRTo (withoutC o.sees.cs key) o.sees.bs y)) := Lib.hid fun y hy => without_on ((H.out.only hy (by simp)).sees o OM.out) (by have := L1.out; omega)
  unfold ListRTo at CL
  have FIN : Hid (∀ y I, Only [] w y → RsAt y I → I.cs = withoutC o.sees.cs key → (∀ b ∈ I.bs, b ∈ o.sees.bs ∨ w.heap.size ≤ b) → RStep w B p s D (setR D i { o with sees := I }) (y.setCell ⟨g, i * 4 + 1, none⟩ I.v)) := Lib.hid fun y I hy hI hc hb =>
    H.out.setOp HB.out (x := { o with sees := I }) HO.out rfl 1 I.v (by omega) rfl (hy.mono (by simp)) ((H.out.only hy (by simp)).wown o OM.out) (.inl rfl) hI (fun b h => (hb b h).imp (fun h => List.mem_append_right _ (mem_opR OM.out (.inl h))) id) ((H.out.only hy (by simp)).since o OM.out) (fun b h => .inl (List.mem_append_right _ (mem_opR OM.out (.inr h)))) (fun b h1 h2 => by have := (H.out.wown o OM.out).lt b h1; omega)
      ⟨by have h1 : I.l.length = I.cs.length := by simp [Its.cs]
          have h2 : o.sees.l.length = o.sees.cs.length := by simp [Its.cs]
          have := L1.out
          have := withoutC_len o.sees.cs key
          rw [h1, hc]
          omega, by have := L2.out; show o.wr.length ≤ 100000; omega, ((H.out.fine.ops o OM.out).2.2.2)⟩ EG.out
  go_upto_region 1 with fail
  refine region_fin (by kernel_rfl) 10 [] (frDa _ _ _ _ _ _ _ _ _ _ _ _ _ _ _ _ _ _ _ _ _ _ _ _ _ _ _ _) (SDa w B p s D g i m oc o key) (RDa w B p s D g i m oc o key) (fun i y y' => Only (KDa w B p s D g i m oc o key i) y y') (by kernel_rfl) 17 17 (by decide) (by kernel_rfl) (EDa w B p s D g i m oc o key) ?hfr ?hT (fun _ => undef) rfl ?hS ?hst ?hend
  case hfr =>
    refine fun i o d u v ho => each_op (M := fun _ o => o.dst = some d → (frDa _ _ _ _ _ _ _ _ _ _ _ _ _ _ _ _ _ _ _ _ _ _ _ _ _ _ _ _ u).put (some d) v = frDa _ _ _ _ _ _ _ _ _ _ _ _ _ _ _ _ _ _ _ _ _ _ _ _ _ _ _ _ (upd u d v)) ?_ i o ho
    refine ⟨?_, ?_, ?_, ?_, ?_, ?_, ?_, ?_, ?_, ?_, ?_, ?_, ?_, ?_, ?_, ?_, ?_, ?_, trivial⟩
    all_goals
      intro h
      first
        | (cases h; done)
        | (cases h; rfl)
  case hT =>
    intro i j v y y' hk hne hb k h
    match j, hk, hne, hb, h with
    | 0, _, _, _, h => exact h
    | 1, _, _, _, h => exact h
    | 2, _, _, _, h => exact h
    | 3, _, _, _, h => exact h
    | 4, _, _, _, h => exact h
    | 5, _, _, _, h => exact h
    | 6, _, _, _, h => exact h
    | 7, _, _, _, h => exact h
    | 8, _, _, _, h => exact h
    | 9, _, _, _, h => exact h
    | 10, _, _, _, h => exact h
    | 11, _, _, _, h => exact h
    | 12, _, _, _, h => exact h
    | 13, _, _, _, h => exact h
    | 14, hk, hne, hb, h =>
      obtain ⟨I, e, h1, h2, h3⟩ := h
      exact ⟨I, e, h1.only k (by simp [KDa]), h2, h3⟩
    | 15, _, _, _, h => exact h
    | 16, _, _, _, h => exact h
    | m + 17, _, _, _, h => exact trivial
  case hS =>
    exact (Only.refl [] w).drew
  case hst =>
    refine each_op ⟨?_, ?_, ?_, ?_, ?_, ?_, ?_, ?_, ?_, ?_, ?_, ?_, ?_, ?_, ?_, ?_, ?_, ?_, trivial⟩
    case refine_1 =>
      intro b u y hb1 hb2 hs hd
      have HS := Lib.hid hs
      clear hs hb1 hb2
      unfold frDa
      clear hd 
      go_wp2_with fail
      exact ⟨rfl, _, rfl, fin_no (by decide) ⟨by simpa using HS.out, Only.refl _ _, rfl⟩⟩
    case refine_2 =>
      intro b u y hb1 hb2 hs hd
      have e0 : u 10 = .pointer (some ⟨s, 0, none⟩) := hd 0 (by kernel_rfl)
      have HS := Lib.hid hs
      clear hs hb1 hb2
      unfold frDa
      rw [e0]
      clear hd e0
      go_wp2_with fail
      exact ⟨rfl, _, rfl, fin_no (by decide) ⟨by simpa using HS.out, Only.refl _ _, rfl⟩⟩
    case refine_3 =>
      intro b u y hb1 hb2 hs hd
      have e1 : u 11 = .pointer (some ⟨s, 0, none⟩) := hd 1 (by kernel_rfl)
      have HS := Lib.hid hs
      clear hs hb1 hb2
      unfold frDa
      rw [e1]
      clear hd e1
      go_wp2_with fail
      exact ⟨rfl, _, rfl, fin_no (by decide) ⟨by simpa using HS.out, Only.refl _ _, rfl⟩⟩
    case refine_4 =>
      intro b u y hb1 hb2 hs hd
      have e2 : u 12 = .pointer (some ⟨s, 2, none⟩) := hd 2 (by kernel_rfl)
      have c0 : y.cell? ⟨s, 2, none⟩ = some (.slice (some ⟨g, 0, none⟩) m oc) := (SO.out y hs).1
      have HS := Lib.hid hs
      clear hs hb1 hb2
      unfold frDa
      rw [e2]
      clear hd e2
      go_wp2_with fail
      exact ⟨rfl, _, rfl, fin_no (by decide) ⟨by simpa using HS.out, Only.refl _ _, rfl⟩⟩
    case refine_5 =>
      intro b u y hb1 hb2 hs hd
      have HS := Lib.hid hs
      clear hs hb1 hb2
      unfold frDa
      clear hd 
      go_wp2_with fail
      exact ⟨rfl, _, rfl, fin_no (by decide) ⟨by simpa using HS.out, Only.refl _ _, rfl⟩⟩
    case refine_6 =>
      intro b u y hb1 hb2 hs hd
      have HS := Lib.hid hs
      clear hs hb1 hb2
      unfold frDa
      clear hd 
      go_wp2_with fail
      exact ⟨rfl, _, rfl, fin_no (by decide) ⟨by simpa using HS.out, Only.refl _ _, rfl⟩⟩
    case refine_7 =>
      intro b u y hb1 hb2 hs hd
      have e5 : u 15 = .pointer (some ⟨s, 0, none⟩) := hd 5 (by kernel_rfl)
      have HS := Lib.hid hs
      clear hs hb1 hb2
      unfold frDa
      rw [e5]
      clear hd e5
      go_wp2_with fail
      exact ⟨rfl, _, rfl, fin_no (by decide) ⟨by simpa using HS.out, Only.refl _ _, rfl⟩⟩
    case refine_8 =>
      intro b u y hb1 hb2 hs hd
      have e6 : u 16 = .pointer (some ⟨s, 0, none⟩) := hd 6 (by kernel_rfl)
      have HS := Lib.hid hs
      clear hs hb1 hb2
      unfold frDa
      rw [e6]
      clear hd e6
      go_wp2_with fail
      exact ⟨rfl, _, rfl, fin_no (by decide) ⟨by simpa using HS.out, Only.refl _ _, rfl⟩⟩
    case refine_9 =>
      intro b u y hb1 hb2 hs hd
      have e7 : u 17 = .pointer (some ⟨s, 2, none⟩) := hd 7 (by kernel_rfl)
      have c0 : y.cell? ⟨s, 2, none⟩ = some (.slice (some ⟨g, 0, none⟩) m oc) := (SO.out y hs).1
      have HS := Lib.hid hs
      clear hs hb1 hb2
      unfold frDa
      rw [e7]
      clear hd e7
      go_wp2_with fail
      exact ⟨rfl, _, rfl, fin_no (by decide) ⟨by simpa using HS.out, Only.refl _ _, rfl⟩⟩
    case refine_10 =>
      intro b u y hb1 hb2 hs hd
      have HS := Lib.hid hs
      clear hs hb1 hb2
      unfold frDa
      clear hd 
      go_wp2_with fail
      exact ⟨rfl, _, rfl, fin_no (by decide) ⟨by simpa using HS.out, Only.refl _ _, rfl⟩⟩
    case refine_11 =>
      intro b u y hb1 hb2 hs hd
      have e8 : u 18 = .slice (some ⟨g, 0, none⟩) m oc := hd 8 (by kernel_rfl)
      have e9 : u 19 = .int .i64 (i : Int) := hd 9 (by kernel_rfl)
      have il := IL.out
      have i3 : (i : Int) < (m : Int) := by omega
      have HS := Lib.hid hs
      clear hs hb1 hb2
      unfold frDa
      rw [e8, e9]
      clear hd e8 e9
      go_wp2_with fail
      exact ⟨rfl, _, rfl, fin_no (by decide) ⟨by simpa using HS.out, Only.refl _ _, rfl⟩⟩
    case refine_12 =>
      intro b u y hb1 hb2 hs hd
      have e10 : u 20 = .pointer (some ⟨g, i * 4, none⟩) := hd 10 (by kernel_rfl)
      have HS := Lib.hid hs
      clear hs hb1 hb2
      unfold frDa
      rw [e10]
      clear hd e10
      go_wp2_with fail
      exact ⟨rfl, _, rfl, fin_no (by decide) ⟨by simpa using HS.out, Only.refl _ _, rfl⟩⟩
    case refine_13 =>
      intro b u y hb1 hb2 hs hd
      have e11 : u 21 = .pointer (some ⟨g, i * 4 + 1, none⟩) := hd 11 (by kernel_rfl)
      have c0 : y.cell? ⟨g, i * 4 + 1, none⟩ = some (.slice o.sees.a o.sees.l.length o.sees.c) := (SO.out y hs).2.1
      have HS := Lib.hid hs
      clear hs hb1 hb2
      unfold frDa
      rw [e11]
      clear hd e11
      go_wp2_with fail
      exact ⟨rfl, _, rfl, fin_no (by decide) ⟨by simpa using HS.out, Only.refl _ _, rfl⟩⟩
    case refine_14 =>
      intro b u y hb1 hb2 hs hd
      have HS := Lib.hid hs
      clear hs hb1 hb2
      unfold frDa
      clear hd 
      go_wp2_with fail
      exact ⟨rfl, _, rfl, fin_no (by decide) ⟨by simpa using HS.out, Only.refl _ _, rfl⟩⟩
    case refine_15 =>
      intro b u y hb1 hb2 hs hd
      have e12 : u 22 = .slice o.sees.a o.sees.l.length o.sees.c := hd 12 (by kernel_rfl)
      have e13 : u 23 = .int .u64 key := hd 13 (by kernel_rfl)
      have HS := Lib.hid hs
      have L := CL.out y hs
      clear hs hb1 hb2
      unfold frDa
      rw [e12, e13]
      clear hd e12 e13
      go_wp2_with fail
      refine L.mono ?_
      rintro _ y2 ⟨I, rfl, h1, h2, h3, h4⟩
      have N : Hid (Only [] w y2) := Lib.hid (HS.out.below h4)
      have N2 : Hid (∃ J : Its, I.v = J.v ∧ RsAt y2 J ∧ J.cs = withoutC o.sees.cs key ∧ ∀ b ∈ J.bs, b ∈ o.sees.bs ∨ w.heap.size ≤ b) := Lib.hid ⟨I, rfl, h1, h2, fun b hb => (h3 b hb).imp id (fun h => Nat.le_trans HS.out.size h)⟩
      have N3 : Hid (Only [] y y2) := Lib.hid ((Only.refl [] y).below h4)
      clear h1 h2 h3 h4
      unfold Its.v at N2 ⊢
      go_wp2_with fail
      exact ⟨rfl, _, rfl, fin_no (by decide) ⟨N.out, N3.out, N2.out⟩⟩
    case refine_16 =>
      intro b u y hb1 hb2 hs hd
      have e3 : u 13 = .slice (some ⟨g, 0, none⟩) m oc := hd 3 (by kernel_rfl)
      have e4 : u 14 = .int .i64 (i : Int) := hd 4 (by kernel_rfl)
      have il := IL.out
      have i3 : (i : Int) < (m : Int) := by omega
      have HS := Lib.hid hs
      clear hs hb1 hb2
      unfold frDa
      rw [e3, e4]
      clear hd e3 e4
      go_wp2_with fail
      exact ⟨rfl, _, rfl, fin_no (by decide) ⟨by simpa using HS.out, Only.refl _ _, rfl⟩⟩
    case refine_17 =>
      intro b u y hb1 hb2 hs hd
      have e15 : u 25 = .pointer (some ⟨g, i * 4, none⟩) := hd 15 (by kernel_rfl)
      have HS := Lib.hid hs
      clear hs hb1 hb2
      unfold frDa
      rw [e15]
      clear hd e15
      go_wp2_with fail
      exact ⟨rfl, _, rfl, fin_no (by decide) ⟨by simpa using HS.out, Only.refl _ _, rfl⟩⟩
    case refine_18 =>
      intro b u y hb1 hb2 hs hd
      have e16 : u 26 = .pointer (some ⟨g, i * 4 + 1, none⟩) := hd 16 (by kernel_rfl)
      obtain ⟨I, e14, hI, hc, hb⟩ : ∃ I : Its, u 24 = I.v ∧ RsAt y I ∧ I.cs = withoutC o.sees.cs key ∧ ∀ b ∈ I.bs, b ∈ o.sees.bs ∨ w.heap.size ≤ b := hd 14 (by kernel_rfl)
      have N : Hid (EDa w B p s D g i m oc o key (y.setCell ⟨g, i * 4 + 1, none⟩ I.v)) := Lib.hid ⟨I, hc, FIN.out y I hs hI hc hb⟩
      have c0 : y.cell? ⟨g, i * 4 + 1, none⟩ = some (.slice o.sees.a o.sees.l.length o.sees.c) := (SO.out y hs).2.1
      have fz : y.frozen? ⟨g, i * 4 + 1, none⟩ = false := (SO.out y hs).2.2
      unfold Its.v at e14 N
      unfold frDa
      rw [e16]
      rw [e14]
      clear hd e16 e14 hI hc hb hs hb1 hb2
      go_wp2_with fail
      exact ⟨rfl, rfl, fin_yes rfl N.out⟩
  case hend =>
    intro u y hE
    obtain ⟨I, hc1, hst⟩ := hE
    have C1 := Lib.hid hc1
    have ST := Lib.hid hst
    clear hc1 hst
    unfold frDa
    obtain ⟨o2, ho2⟩ : ∃ o2, ({ o with sees := I } : RTx) = o2 := ⟨_, rfl⟩
    obtain ⟨D2, hD2⟩ : ∃ D2, setR D i { o with sees := I } = D2 := ⟨_, rfl⟩
    have H2 : Hid (RdbAt y B p s D2) := Lib.hid (by rw [← hD2]; exact ST.out.db)
    have HO2 : Hid (D2.op[i]? = some o2) := Lib.hid (by rw [← hD2, ← ho2]; show (D.op.set i _)[i]? = _; rw [List.getElem?_set_self (by rw [HM.out]; exact IL.out)])
    have EG2 : Hid (D2.oa = some ⟨g, 0, none⟩) := Lib.hid (by rw [← hD2]; exact EG.out)
    have OV2 : Hid (D2.ov = .slice (some ⟨g, 0, none⟩) m oc) := Lib.hid (by rw [← hD2, ← OVE.out]; unfold RDB.ov setR; simp)
    have M2 : Hid (D2.op.length = m) := Lib.hid (by rw [← hD2, ← HM.out]; unfold setR; simp)
    have E2 : Hid (o2.wa = o.wa ∧ o2.wc = o.wc ∧ o2.wr = o.wr ∧ o2.sees = I ∧ o2.since = o.since ∧ o2.n = o.n) := Lib.hid (by rw [← ho2]; exact ⟨rfl, rfl, rfl, rfl, rfl, rfl⟩)
    have WL2 : Hid (o2.wr.length < 50000) := Lib.hid (by rw [E2.out.2.2.1]; exact L2.out)
    have DONE : Hid (∀ a c y2, RStep y B p s D2 (setR D2 i { o2 with wa := a, wc := c, wr := o2.wr ++ [key] }) y2 → DeleteRTo B p s D i o (withoutC o.sees.cs key) key w (.returned (.tuple #[])) y2) := Lib.hid fun a c y2 hst => by
      refine ⟨I, a, c, rfl, C1.out, ?_⟩
      have e : setR D2 i { o2 with wa := a, wc := c, wr := o2.wr ++ [key] } = setR D i { o with sees := I, wa := a, wc := c, wr := o.wr ++ [key] } := by
        rw [← hD2, ← ho2]
        unfold setR
        simp
      rw [e] at hst
      rw [← hD2] at hst
      exact ST.out.trans hst
    clear hD2 ho2
    clear H HO OM EG OVE HM WL SO CL FIN HB
    have H := H2
    have OM : Hid (o2 ∈ D2.op) := Lib.hid (List.mem_of_getElem? HO2.out)
    have WL := WL2
    have HB : Hid (B ≤ y.heap.size) := Lib.hid (Nat.le_trans Z0.out ST.out.only.size)
    have SO : Hid (∀ z, Only o2.wv.ownBlock.toList y z → z.cell? ⟨s, 2, none⟩ = some (.slice (some ⟨g, 0, none⟩) m oc) ∧ z.cell? ⟨g, i * 4 + 2, none⟩ = some (.slice o2.wa o2.wr.length o2.wc) ∧ z.frozen? ⟨g, i * 4 + 2, none⟩ = false) := Lib.hid fun z hz => by
      obtain ⟨n1, n2, n3⟩ := op_blk H.out OM.out EG2.out
      obtain ⟨g2, eg, _, hc⟩ := H.out.at_ HO2.out
      rw [EG2.out] at eg
      cases eg
      have hgo : D2.ov.ownBlock = some g := by rw [OV2.out]; rfl
      have hgl := (H.out.oown.lt g hgo).2
      refine ⟨by rw [← OV2.out]; exact (H.out.srow.only hz n1).cell 2, by rw [hz.cell hgl n2]; exact hc 2 (by omega), ?_⟩
      have ho := own_keep (w' := z) H.out.oown (fun b hb => by rw [hgo] at hb; cases hb; exact hz.block g hgl n2)
      rw [OV2.out, M2.out] at ho
      exact World.ownsRow.frozenAt ho _
    have FIN : Hid (∀ z a c, Only o2.wv.ownBlock.toList y z → z.ownsRow B tU 1 (.slice a (o2.wr.length + 1) c) (o2.wr.length + 1) ((o2.wr ++ [key]).map (Value.int .u64)) → ((Value.slice a (o2.wr.length + 1) c).ownBlock = o2.wv.ownBlock ∨ ∀ b, (Value.slice a (o2.wr.length + 1) c).ownBlock = some b → y.heap.size ≤ b) → RStep y B p s D2 (setR D2 i { o2 with wa := a, wc := c, wr := o2.wr ++ [key] }) (z.setCell ⟨g, i * 4 + 2, none⟩ (.slice a (o2.wr.length + 1) c))) := Lib.hid fun z a c hz hv hf => by
      have ex : ({ o2 with wa := a, wc := c, wr := o2.wr ++ [key] } : RTx).wv = .slice a (o2.wr.length + 1) c := by unfold RTx.wv; simp
      have rd := fun b (hb : b ∈ D2.reads) (hm : b ∈ o2.wv.ownBlock.toList) => H.out.ap b (by simp [RDB.own, mem_wrB2 OM.out (show o2.wv.ownBlock = some b by simpa using hm)]) hb
      refine H.out.setOp HB.out (x := { o2 with wa := a, wc := c, wr := o2.wr ++ [key] }) HO2.out rfl 2 _ (by omega) (by unfold RTx.cells; rw [ex]; rfl) hz (by rw [ex]; simpa using hv) (by rw [ex]; exact hf) ((H.out.sees o2 OM.out).only hz fun b hb => rd b (List.mem_append_right _ (mem_opR OM.out (.inl hb)))) (fun b hb => .inl (List.mem_append_right _ (mem_opR OM.out (.inl hb)))) ((H.out.since o2 OM.out).only hz fun b hb => rd b (List.mem_append_right _ (mem_opR OM.out (.inr hb)))) (fun b hb => .inl (List.mem_append_right _ (mem_opR OM.out (.inr hb)))) (fun b h1 h2 => ⟨fun hm => ?_, fun hm => ?_⟩) ⟨(H.out.fine.ops o2 OM.out).2.1, by have := WL.out; simp; omega, (H.out.fine.ops o2 OM.out).2.2.2⟩ EG2.out
      · have := H.out.ltr b (List.mem_append_right _ (mem_opR OM.out (.inl hm))); omega
      · have := H.out.ltr b (List.mem_append_right _ (mem_opR OM.out (.inr hm))); omega
    go_upto_region 2 with fail
    refine region_fin (by kernel_rfl) 10 [] (frDb _ _ _ _ _ _ _ _ _ _ _ _ _ _ _ _ _ _ _ _ _ _ _ _ _ _ _) (SDb y B p s D2 g i m oc o2 key) (RDb y B p s D2 g i m oc o2 key) (fun i z z' => Only (KDb y B p s D2 g i m oc o2 key i) z z') (by kernel_rfl) 18 15 (by decide) (by kernel_rfl) (EDb y B p s D2 g i m oc o2 key) ?hfr ?hT (fun _ => undef) rfl ?hS ?hst ?hend
    case hfr =>
      refine fun i o d u v ho => each_op (M := fun _ o => o.dst = some d → (frDb _ _ _ _ _ _ _ _ _ _ _ _ _ _ _ _ _ _ _ _ _ _ _ _ _ _ _ u).put (some d) v = frDb _ _ _ _ _ _ _ _ _ _ _ _ _ _ _ _ _ _ _ _ _ _ _ _ _ _ _ (upd u d v)) ?_ i o ho
      refine ⟨?_, ?_, ?_, ?_, ?_, ?_, ?_, ?_, ?_, ?_, ?_, ?_, ?_, ?_, ?_, ?_, ?_, ?_, ?_, trivial⟩
      all_goals
        intro h
        first
          | (cases h; done)
          | (cases h; rfl)
    case hT =>
      intro i j v z z' hk hne hb k h
      match j, hk, hne, hb, h with
      | 0, _, _, _, h => exact h
      | 1, _, _, _, h => exact h
      | 2, _, _, _, h => exact h
      | 3, _, _, _, h => exact h
      | 4, _, _, _, h => exact h
      | 5, _, _, _, h => exact h
      | 6, _, _, _, h => exact h
      | 7, _, _, _, h => exact h
      | 8, _, _, _, h => exact h
      | 9, _, _, _, h => exact h
      | 10, _, _, _, h => exact h
      | 11, _, _, _, h => exact h
      | 12, _, _, _, h => exact h
      | 13, _, _, _, h => exact h
      | 14, hk, hne, hb, h =>
        obtain ⟨q, e, hr, hq⟩ := h
        refine ⟨q, e, hr.only k (fun hm => ?_), hq⟩
        unfold KDb at hm
        split at hm
        · have := (H.out.wown o2 OM.out).lt q (by simpa using hm); omega
        · simp at hm
      | 15, hk, hne, hb, h =>
        obtain ⟨h1, h2⟩ := h
        have hn : i ≠ 15 := fun e => hne e.symm
        refine ⟨own_keep h1 fun b hb => k.block b (h1.lt b hb).2 (by unfold KDb; rw [if_neg hn]; simp), h2⟩
      | 16, _, _, _, h => exact h
      | 17, _, _, _, h => exact h
      | m + 18, _, _, _, h => exact trivial
    case hS =>
      exact (Only.refl [] y).drew
    case hst =>
      refine each_op ⟨?_, ?_, ?_, ?_, ?_, ?_, ?_, ?_, ?_, ?_, ?_, ?_, ?_, ?_, ?_, ?_, ?_, ?_, ?_, trivial⟩
      case refine_1 =>
        intro b u z hb1 hb2 hs hd
        have HS := Lib.hid hs
        clear hs hb1 hb2
        unfold frDb
        clear hd 
        go_wp2_with fail
        exact ⟨rfl, _, rfl, fin_no (by decide) ⟨by simpa using HS.out, Only.refl _ _, rfl⟩⟩
      case refine_2 =>
        intro b u z hb1 hb2 hs hd
        have e0 : u 27 = .pointer (some ⟨s, 0, none⟩) := hd 0 (by kernel_rfl)
        have HS := Lib.hid hs
        clear hs hb1 hb2
        unfold frDb
        rw [e0]
        clear hd e0
        go_wp2_with fail
        exact ⟨rfl, _, rfl, fin_no (by decide) ⟨by simpa using HS.out, Only.refl _ _, rfl⟩⟩
      case refine_3 =>
        intro b u z hb1 hb2 hs hd
        have e1 : u 28 = .pointer (some ⟨s, 0, none⟩) := hd 1 (by kernel_rfl)
        have HS := Lib.hid hs
        clear hs hb1 hb2
        unfold frDb
        rw [e1]
        clear hd e1
        go_wp2_with fail
        exact ⟨rfl, _, rfl, fin_no (by decide) ⟨by simpa using HS.out, Only.refl _ _, rfl⟩⟩
      case refine_4 =>
        intro b u z hb1 hb2 hs hd
        have e2 : u 29 = .pointer (some ⟨s, 2, none⟩) := hd 2 (by kernel_rfl)
        have SW := SDb_wide hs
        have c0 : z.cell? ⟨s, 2, none⟩ = some (.slice (some ⟨g, 0, none⟩) m oc) := (SO.out z SW).1
        clear SW
        have HS := Lib.hid hs
        clear hs hb1 hb2
        unfold frDb
        rw [e2]
        clear hd e2
        go_wp2_with fail
        exact ⟨rfl, _, rfl, fin_no (by decide) ⟨by simpa using HS.out, Only.refl _ _, rfl⟩⟩
      case refine_5 =>
        intro b u z hb1 hb2 hs hd
        have HS := Lib.hid hs
        clear hs hb1 hb2
        unfold frDb
        clear hd 
        go_wp2_with fail
        exact ⟨rfl, _, rfl, fin_no (by decide) ⟨by simpa using HS.out, Only.refl _ _, rfl⟩⟩
      case refine_6 =>
        intro b u z hb1 hb2 hs hd
        have HS := Lib.hid hs
        clear hs hb1 hb2
        unfold frDb
        clear hd 
        go_wp2_with fail
        exact ⟨rfl, _, rfl, fin_no (by decide) ⟨by simpa using HS.out, Only.refl _ _, rfl⟩⟩
      case refine_7 =>
        intro b u z hb1 hb2 hs hd
        have e5 : u 32 = .pointer (some ⟨s, 0, none⟩) := hd 5 (by kernel_rfl)
        have HS := Lib.hid hs
        clear hs hb1 hb2
        unfold frDb
        rw [e5]
        clear hd e5
        go_wp2_with fail
        exact ⟨rfl, _, rfl, fin_no (by decide) ⟨by simpa using HS.out, Only.refl _ _, rfl⟩⟩
      case refine_8 =>
        intro b u z hb1 hb2 hs hd
        have e6 : u 33 = .pointer (some ⟨s, 0, none⟩) := hd 6 (by kernel_rfl)
        have HS := Lib.hid hs
        clear hs hb1 hb2
        unfold frDb
        rw [e6]
        clear hd e6
        go_wp2_with fail
        exact ⟨rfl, _, rfl, fin_no (by decide) ⟨by simpa using HS.out, Only.refl _ _, rfl⟩⟩
      case refine_9 =>
        intro b u z hb1 hb2 hs hd
        have e7 : u 34 = .pointer (some ⟨s, 2, none⟩) := hd 7 (by kernel_rfl)
        have SW := SDb_wide hs
        have c0 : z.cell? ⟨s, 2, none⟩ = some (.slice (some ⟨g, 0, none⟩) m oc) := (SO.out z SW).1
        clear SW
        have HS := Lib.hid hs
        clear hs hb1 hb2
        unfold frDb
        rw [e7]
        clear hd e7
        go_wp2_with fail
        exact ⟨rfl, _, rfl, fin_no (by decide) ⟨by simpa using HS.out, Only.refl _ _, rfl⟩⟩
      case refine_10 =>
        intro b u z hb1 hb2 hs hd
        have HS := Lib.hid hs
        clear hs hb1 hb2
        unfold frDb
        clear hd 
        go_wp2_with fail
        exact ⟨rfl, _, rfl, fin_no (by decide) ⟨by simpa using HS.out, Only.refl _ _, rfl⟩⟩
      case refine_11 =>
        intro b u z hb1 hb2 hs hd
        have e8 : u 35 = .slice (some ⟨g, 0, none⟩) m oc := hd 8 (by kernel_rfl)
        have e9 : u 36 = .int .i64 (i : Int) := hd 9 (by kernel_rfl)
        have il := IL.out
        have i3 : (i : Int) < (m : Int) := by omega
        have HS := Lib.hid hs
        clear hs hb1 hb2
        unfold frDb
        rw [e8, e9]
        clear hd e8 e9
        go_wp2_with fail
        exact ⟨rfl, _, rfl, fin_no (by decide) ⟨by simpa using HS.out, Only.refl _ _, rfl⟩⟩
      case refine_12 =>
        intro b u z hb1 hb2 hs hd
        have e10 : u 37 = .pointer (some ⟨g, i * 4, none⟩) := hd 10 (by kernel_rfl)
        have HS := Lib.hid hs
        clear hs hb1 hb2
        unfold frDb
        rw [e10]
        clear hd e10
        go_wp2_with fail
        exact ⟨rfl, _, rfl, fin_no (by decide) ⟨by simpa using HS.out, Only.refl _ _, rfl⟩⟩
      case refine_13 =>
        intro b u z hb1 hb2 hs hd
        have e11 : u 38 = .pointer (some ⟨g, i * 4 + 2, none⟩) := hd 11 (by kernel_rfl)
        have SW := SDb_wide hs
        have c0 : z.cell? ⟨g, i * 4 + 2, none⟩ = some (.slice o2.wa o2.wr.length o2.wc) := (SO.out z SW).2.1
        clear SW
        have HS := Lib.hid hs
        clear hs hb1 hb2
        unfold frDb
        rw [e11]
        clear hd e11
        go_wp2_with fail
        exact ⟨rfl, _, rfl, fin_no (by decide) ⟨by simpa using HS.out, Only.refl _ _, rfl⟩⟩
      case refine_14 =>
        intro b u z hb1 hb2 hs hd
        have HS := Lib.hid hs
        clear hs hb1 hb2
        unfold frDb
        clear hd 
        go_wp2_with fail
        exact ⟨rfl, _, rfl, fin_no (by decide) ⟨by simpa using HS.out, Only.refl _ _, rfl⟩⟩
      case refine_15 =>
        intro b u z hb1 hb2 hs hd
        have e13 : u 40 = .int .u64 key := hd 13 (by kernel_rfl)
        have HS := Lib.hid hs
        clear hs hb1 hb2
        unfold frDb
        rw [e13]
        clear hd e13
        go_wp2_with fail
        have SW := SDb_wide HS.out
        have SS : Hid (SDb y B p s D2 g i m oc o2 key b (z.alloc (.cells #[.int .u64 key] tU))) := Lib.hid (SDb_alloc HS.out _)
        exact ⟨rfl, _, rfl, fin_no (by decide) ⟨by simpa using SS.out, (Only.refl [] z).alloc _, ⟨_, rfl, Row.made _ _ _, SW.size⟩⟩⟩
      case refine_16 =>
        intro b u z hb1 hb2 hs hd
        have e12 : u 39 = .slice o2.wa o2.wr.length o2.wc := hd 12 (by kernel_rfl)
        have hb0 : b = false := by
          cases b with
          | false => rfl
          | true => exact absurd rfl (hb1 rfl).2
        subst hb0
        have HS : Hid (Only [] y z) := Lib.hid hs
        obtain ⟨q, eq, hr, hq⟩ : ∃ q, u 41 = .slice (some ⟨q, 0, none⟩) 1 1 ∧ Row z q #[.int .u64 key] tU ∧ y.heap.size ≤ q := hd 14 (by kernel_rfl)
        have OV := (H.out.only HS.out (by simp)).wown o2 OM.out
        have OV0 := (H.out.wown o2 OM.out).lt
        unfold RTx.wv at OV
        unfold frDb
        rw [e12]
        rw [eq]
        clear hd e12 eq hs hb1 hb2
        refine wpList_append_at rfl (.tmp 39) (.tmp 41) 54 rfl B tU i0 _ 1 8 Tryz.underlying54 hi hz0 hz1 hz2 rfl (by decide) _ o2.wr.length (o2.wr.map (Value.int .u64)) rfl OV ⟨q, 0, none⟩ 1 1 [.int .u64 key] rfl rfl ?cells ?one (by have := WL.out; unfold maxLen; omega) (by have := WL.out; omega) (Nat.le_trans HB.out HS.out.size) ?more
        case cells =>
          intro j z hjz
          rw [add_plain, Nat.zero_add, hr.cell j]
          simpa using hjz
        case one => intro z hz; simp at hz; subst hz; rfl
        case more =>
          intro v' z2 hown' hgrow hfr
          replace hgrow : z.grownBy z2 o2.wv.ownBlock := hgrow
          replace hfr : v'.ownBlock = o2.wv.ownBlock ∨ ∀ g, v'.ownBlock = some g → z.heap.size ≤ g := hfr
          have T1 : Only o2.wv.ownBlock.toList z z2 := ⟨hgrow.os, hgrow.tape, hgrow.output, hgrow.size, fun b hb hn => hgrow.block b hb (fun e => hn (by rw [← e]; simp))⟩
          have T2 : Only o2.wv.ownBlock.toList y z2 := (HS.out.mono (by simp)).trans T1 (fun b hb => .inl hb)
          refine ⟨rfl, _, rfl, fin_no (by decide) ⟨T2, T1, ?_, ?_⟩⟩
          · simpa using hown'
          · exact hfr.imp id fun h b hb => Nat.le_trans HS.out.size (h b hb)
      case refine_17 =>
        intro b u z hb1 hb2 hs hd
        have e3 : u 30 = .slice (some ⟨g, 0, none⟩) m oc := hd 3 (by kernel_rfl)
        have e4 : u 31 = .int .i64 (i : Int) := hd 4 (by kernel_rfl)
        have il := IL.out
        have i3 : (i : Int) < (m : Int) := by omega
        have HS := Lib.hid hs
        clear hs hb1 hb2
        unfold frDb
        rw [e3, e4]
        clear hd e3 e4
        go_wp2_with fail
        exact ⟨rfl, _, rfl, fin_no (by decide) ⟨by simpa using HS.out, Only.refl _ _, rfl⟩⟩
      case refine_18 =>
        intro b u z hb1 hb2 hs hd
        have e16 : u 43 = .pointer (some ⟨g, i * 4, none⟩) := hd 16 (by kernel_rfl)
        have HS := Lib.hid hs
        clear hs hb1 hb2
        unfold frDb
        rw [e16]
        clear hd e16
        go_wp2_with fail
        exact ⟨rfl, _, rfl, fin_no (by decide) ⟨by simpa using HS.out, Only.refl _ _, rfl⟩⟩
      case refine_19 =>
        intro b u z hb1 hb2 hs hd
        have e17 : u 44 = .pointer (some ⟨g, i * 4 + 2, none⟩) := hd 17 (by kernel_rfl)
        have hb0 : b = true := hb2 (by kernel_rfl)
        subst hb0
        obtain ⟨hv, hf⟩ : z.ownsRow B tU 1 (u 42) (o2.wr.length + 1) ((o2.wr ++ [key]).map (Value.int .u64)) ∧ ((u 42).ownBlock = o2.wv.ownBlock ∨ ∀ b, (u 42).ownBlock = some b → y.heap.size ≤ b) := hd 15 (by kernel_rfl)
        obtain ⟨a, c, e9, _⟩ := own_shape hv
        rw [e9] at hv hf
        have HS : Hid (Only o2.wv.ownBlock.toList y z) := Lib.hid hs
        have N : Hid (EDb y B p s D2 g i m oc o2 key (z.setCell ⟨g, i * 4 + 2, none⟩ (.slice a (o2.wr.length + 1) c))) := Lib.hid ⟨a, c, FIN.out z a c HS.out hv hf⟩
        have c0 : z.cell? ⟨g, i * 4 + 2, none⟩ = some (.slice o2.wa o2.wr.length o2.wc) := (SO.out z HS.out).2.1
        have fz : z.frozen? ⟨g, i * 4 + 2, none⟩ = false := (SO.out z HS.out).2.2
        unfold frDb
        rw [e17]
        rw [e9]
        clear hd e17 e9 hv hf hs hb1 hb2
        go_wp2_with fail
        exact ⟨rfl, rfl, fin_yes rfl N.out⟩
    case hend =>
      intro u z hE
      obtain ⟨a, c, hst⟩ := hE
      have N := Lib.hid (DONE.out a c z hst)
      clear hst
      unfold frDb
      go_wp2_with fail
      refine bodyPost_ret (results_none rfl _ _ _) rfl ?_
      exact N.out
end Go.Proofs.YtmbmkfhdiljalaaGreat

/- Plain, the document's side: Abort. -/
namespace Go.Proofs.YtmbmkfhdiljalaaGreat
open Go.RowKit Go.ChangeShapes Go.WideShapes Go.ChangeAt
set_option linter.unusedVariables false
set_option linter.unusedSimpArgs false

def shutR (D : RDB) (i : Nat) (a : Option Addr) (c : Nat) : RDB := { D with op := D.op.take i ++ D.op.drop (i + 1), oa := a, oc := c }
/-- A piece of the row of open ones, as a source. -/
theorem RdbAt.opsrc {w : World} {B p s : Nat} {D : RDB} (h : RdbAt w B p s D) {g : Nat} (hg : D.oa = some ⟨g, 0, none⟩) {lo k : Nat} (hk : lo + k ≤ D.op.length) (c : Nat) : SrcOf w (.slice (some ⟨g, lo * 4, none⟩) k c) k 4 (txL ((D.op.drop lo).take k)) := by
  have hl : ((D.op.drop lo).take k).length = k := by simp; omega
  refine .inr ⟨_, c, rfl, by rw [txL_len, hl], fun j u hj => ?_⟩
  have hj' := (List.getElem?_eq_some_iff.1 hj).1
  rw [txL_len, hl] at hj'
  have e : (txL ((D.op.drop lo).take k))[j]? = (txL D.op)[lo * 4 + j]? := by
    have h1 : D.op = D.op.take lo ++ ((D.op.drop lo).take k ++ (D.op.drop lo).drop k) := by rw [List.take_append_drop, List.take_append_drop]
    conv => rhs; rw [h1]
    rw [txL_append, txL_append, List.getElem?_append_right (by rw [txL_len]; simp; omega), List.getElem?_append_left (by rw [txL_len, txL_len, hl]; simp; omega)]
    congr 1
    rw [txL_len]
    simp
    omega
  have ho := h.oown
  have e2 : D.ov = .slice (some ⟨g, 0, none⟩) D.op.length D.oc := by unfold RDB.ov; rw [hg]
  rw [e2] at ho
  rw [add_plain, ho.cellAt _ (by omega), ← e, hj]
theorem txL_one (l : List RTx) : ∀ u ∈ txL l, u.oneCell' = true := by
  intro u hu
  obtain ⟨x, hx, hu⟩ := List.mem_flatMap.1 hu
  simp [RTx.cells] at hu
  rcases hu with rfl | rfl | rfl | rfl <;> simp [Value.oneCell', Its.v, RTx.wv, Sl.v]
theorem wrB2_sub {l m : List RTx} (h : l.Sublist m) : (wrB2 l).Sublist (wrB2 m) := by
  induction h with
  | slnil => exact List.Sublist.refl _
  | cons a _ ih => rw [wrB2_cons]; exact ih.trans (List.sublist_append_right _ _)
  | cons_cons a _ ih => rw [wrB2_cons, wrB2_cons]; exact ih.append_left _
/-- The row of keys of what is gone is the DB's no longer. -/
def GoneR (D : RDB) (i : Nat) (a : Option Addr) (c p s : Nat) : Prop := ∀ o, D.op[i]? = some o → ∀ b, o.wv.ownBlock = some b → b ∉ (shutR D i a c).own p s
theorem RdbAt.erased {w y : World} {B p s : Nat} {D : RDB} (h : RdbAt w B p s D) (hB : B ≤ w.heap.size) {i : Nat} (hi : i < D.op.length) {a : Option Addr} {c n : Nat} (k : Below w.heap.size w y)
    (hv : y.ownsRow w.heap.size tRt 4 (.slice a n c) n (txL (D.op.take i) ++ txL (D.op.drop (i + 1)))) :
    RStep w B p s D (shutR D i a c) (y.setCell ⟨s, 2, none⟩ (.slice a n c)) ∧ Only [s] w (y.setCell ⟨s, 2, none⟩ (.slice a n c)) ∧ GoneR D i a c p s := by
  have hn : n = (D.op.take i ++ D.op.drop (i + 1)).length := by
    have := hv.1
    rw [← txL_append, txL_len] at this
    omega
  have hnd := h.nd
  have hsl := h.srow.lt
  have e3 : (shutR D i a c).ov = .slice a n c := by unfold RDB.ov shutR; rw [hn]
  have ky : Only [] w y := (Only.refl [] w).below k
  have k2 : Only [s] y (y.setCell ⟨s, 2, none⟩ (.slice a n c)) := (Only.refl [s] y).setCell (.inl (by simp)) _
  have kall : Only [s] w (y.setCell ⟨s, 2, none⟩ (.slice a n c)) := (ky.mono (by simp)).trans k2 (fun b hb => .inl hb)
  have hps : p ≠ s := fun e => by simp [RDB.own, e] at hnd
  have sub : ∀ z ∈ D.op.take i ++ D.op.drop (i + 1), z ∈ D.op := fun z hz => by
    rcases List.mem_append.1 hz with hz | hz
    · exact List.mem_of_mem_take hz
    · exact List.mem_of_mem_drop hz
  have hlsub : (D.op.take i ++ D.op.drop (i + 1)).Sublist D.op := by
    rw [← List.eraseIdx_eq_take_drop_succ]
    exact List.eraseIdx_sublist ..
  have rs : ∀ b ∈ D.reads, b ∉ [s] := fun b hb hm => by
    simp at hm
    subst hm
    exact h.ap _ (by simp [RDB.own]) hb
  have vb : ∀ b, (Value.slice a n c).ownBlock = some b → w.heap.size ≤ b := fun b hb => (hv.lt b hb).1
  have own' : (shutR D i a c).own p s = p :: s :: ((Value.slice a n c).ownBlock.toList ++ wrB2 (D.op.take i ++ D.op.drop (i + 1))) := by
    unfold RDB.own; rw [e3]; rfl
  have wsub : (wrB2 (D.op.take i ++ D.op.drop (i + 1))).Sublist (wrB2 D.op) := wrB2_sub hlsub
  have wm : ∀ b ∈ wrB2 (D.op.take i ++ D.op.drop (i + 1)), b ∈ D.own p s := fun b hb => by
    have := wsub.mem hb
    simp [RDB.own, this]
  have rd : ∀ b ∈ (shutR D i a c).reads, b ∈ D.reads := fun b hb => by
    rcases List.mem_append.1 hb with hb | hb
    · exact List.mem_append_left _ hb
    · obtain ⟨z, hz, hb⟩ := List.mem_flatMap.1 hb
      exact List.mem_append_right _ (List.mem_flatMap.2 ⟨z, sub z hz, hb⟩)
  refine ⟨?_, kall, fun o ho b hb hm => ?_⟩
  rotate_left
  · obtain ⟨A, C, hl, _, hA⟩ := set_split ho o
    subst hA
    have hbo : b ∈ D.own p s := by simp [RDB.own, mem_wrB2 (List.mem_of_getElem? ho) hb]
    have hlt := h.lt b hbo
    rw [own'] at hm
    have hnd2 := hnd
    unfold RDB.own at hnd2
    rw [hl, wrB2_append, wrB2_cons, hb] at hnd2
    have e1 : D.op.take A.length = A := by rw [hl]; simp
    have e2 : D.op.drop (A.length + 1) = C := by rw [hl]; simp
    rw [e1, e2, wrB2_append] at hm
    simp only [List.mem_cons, List.mem_append, Option.mem_toList] at hm
    rcases hm with rfl | rfl | hm | hm | hm
    · simp at hnd2
    · simp at hnd2
    · have := vb b hm; omega
    · have h9 := hnd2
      simp only [List.nodup_cons, List.nodup_append] at h9
      exact h9.2.2.2.1.2.2 b hm b (by simp) rfl
    · have h9 := hnd2
      simp only [List.nodup_cons, List.nodup_append] at h9
      exact h9.2.2.2.1.2.1.2.2 b (by simp) b hm rfl
  refine h.renew hB (h.row.only kall (by simpa using hps)) ?_ ?_ ?_ (h.done.only kall fun b hb => rs b (List.mem_append_left _ hb)) ?_ ?_ ?_ ?_ (fun b hb => .inl (rd b hb)) ?_ ?_ (kall.mono fun b hb => .inl (by simp at hb; simp [RDB.own, hb]))
  · rw [e3]
    have := (h.srow.only ky (by simp)).set 2 (.slice a n c)
    simpa [shutR] using this
  · rw [e3]
    show World.ownsRow _ _ _ _ _ (D.op.take i ++ D.op.drop (i + 1)).length (txL (D.op.take i ++ D.op.drop (i + 1)))
    rw [← hn, txL_append]
    exact own_mono (own_keep hv fun b hb => k2.block b (hv.lt b hb).2 (by simp; rintro rfl; have := vb _ hb; omega)) hB
  · intro z hz
    have hz := sub z hz
    exact own_keep (h.wown z hz) fun b hb => kall.block b ((h.wown z hz).lt b hb).2 (by simp; rintro rfl; simp [RDB.own, mem_wrB2 hz hb] at hnd)
  · exact fun z hz => (h.sees z (sub z hz)).only kall fun b hb => rs b (List.mem_append_right _ (mem_opR (sub z hz) (.inl hb)))
  · exact fun z hz => (h.since z (sub z hz)).only kall fun b hb => rs b (List.mem_append_right _ (mem_opR (sub z hz) (.inr hb)))
  · rw [own']
    have h2 : (p :: s :: wrB2 (D.op.take i ++ D.op.drop (i + 1))).Nodup := List.Nodup.sublist (((wsub.trans (List.sublist_append_right _ _)).cons_cons _).cons_cons _) hnd
    cases hb : (Value.slice a n c).ownBlock with
    | none => simpa using h2
    | some b =>
      have hge := vb b hb
      have n1 : b ∉ wrB2 (D.op.take i ++ D.op.drop (i + 1)) := fun hm => by have := h.lt b (wm b hm); omega
      have n2 : p ≠ b := fun e => by have := h.lt p (by simp [RDB.own]); omega
      have n3 : s ≠ b := fun e => by omega
      simp only [Option.toList_some, List.singleton_append, List.nodup_cons, List.mem_cons, not_or] at h2 ⊢
      exact ⟨⟨h2.1.1, n2, h2.1.2⟩, ⟨n3, h2.2.1⟩, n1, h2.2.2⟩
  · intro b hb
    rw [own'] at hb
    simp only [List.mem_cons, List.mem_append, Option.mem_toList] at hb
    rcases hb with rfl | rfl | hb | hb
    · exact .inl (by simp [RDB.own])
    · exact .inl (by simp [RDB.own])
    · exact .inr (vb b hb)
    · exact .inl (wm b hb)
  · intro b hb hge hm
    have := h.ltr b (rd b hm)
    omega
  · have hf := h.fine
    refine ⟨hf.dim, hf.begun, ?_, hf.done, fun z hz => hf.ops z (sub z hz)⟩
    have := hlsub.length_le
    have := hf.len
    show (D.op.take i ++ D.op.drop (i + 1)).length ≤ 8
    omega
/-- What Abort leaves. -/
def AbortRTo (B p s : Nat) (D : RDB) (i : Nat) (w : World) (e : Ending) (w' : World) : Prop := e = .returned (.tuple #[]) ∧ ∃ a c, RStep w B p s D (shutR D i a c) w' ∧ Only [s] w w' ∧ GoneR D i a c p s
set_option maxRecDepth 100000 in
set_option maxHeartbeats 4000000 in
theorem abort_r19 {w : World} {B p s : Nat} {D : RDB} (h : RdbAt w B p s D) (hB : B ≤ w.heap.size) {t : Int} {i : Nat} {o : RTx} (hf : findR D.op t = some i) (ho : D.op[i]? = some o) :
    Calls Tryz.prog 57 #[.pointer (some ⟨s, 0, none⟩), .int .u64 t] w (AbortRTo B p s D i w) := by
  obtain ⟨i0, hi, hz0, hz1, hz2⟩ := info_parts infoRt
  have TH := Lib.hid (find_ref (t := t) h)
  rw [findV_some hf] at TH
  have H := Lib.hid h
  have Z0 := Lib.hid hB
  have IL0 := (List.getElem?_eq_some_iff.1 ho).1
  have HN := Lib.hid h.fine.len
  obtain ⟨g, eg, hcap, _⟩ := h.at_ ho
  have EG := Lib.hid eg
  have gl : g < w.heap.size := (h.oown.lt g (by unfold RDB.ov; rw [ov_of, eg]; rfl)).2
  have GL := Lib.hid gl
  have s2 : w.cell? ⟨s, 2, none⟩ = some (.slice (some ⟨g, 0, none⟩) D.op.length D.oc) := by
    have := h.srow.cell 2
    unfold RDB.ov at this
    rw [eg] at this
    exact this
  have sl : s < w.heap.size := h.srow.lt
  have SC : Hid (∀ y, Below w.heap.size w y → y.cell? ⟨s, 2, none⟩ = some (.slice (some ⟨g, 0, none⟩) D.op.length D.oc) ∧ y.frozen? ⟨s, 2, none⟩ = false) := Lib.hid fun y hb => ⟨by rw [hb.cell (p := ⟨s, 2, none⟩) sl]; exact s2, by rw [hb.frozen (p := ⟨s, 2, none⟩) sl]; exact h.srow.free 2⟩
  have CM : Hid (D.oc ≤ maxLen) := Lib.hid (by
    have := h.oown
    rcases this.2 with ⟨e, _⟩ | ⟨g2, cap, cur, e, _, _, _, hm, _⟩
    · unfold RDB.ov at e; rw [eg] at e; cases e
    · unfold RDB.ov at e
      simp only [Value.slice.injEq] at e
      rw [e.2.2]; exact hm)
  obtain ⟨m, hm⟩ : ∃ m, D.op.length = m := ⟨_, rfl⟩
  have HM := Lib.hid hm
  obtain ⟨c, hcc⟩ : ∃ c, D.oc = c := ⟨_, rfl⟩
  have HC := Lib.hid hcc
  rw [hm, hcc] at s2 hcap
  rw [hm, hcc] at SC
  rw [hcc] at CM
  rw [hm] at HN IL0
  have e1 : IntKind.i64.wrap ((i : Int) + 1) = ((i + 1 : Nat) : Int) := w_inc _ (by have := HN.out; omega)
  have k1 : (i : Int) ≤ (c : Int) := by omega
  have k2 : ((i + 1 : Nat) : Int) ≤ (m : Int) := by omega
  have k3 : (m : Int) ≤ (c : Int) := by omega
  have k4 : (0 : Int) ≤ (i : Int) := by omega
  have k5 : (0 : Int) ≤ ((i + 1 : Nat) : Int) := by omega
  have k6 : i ≤ c := by omega
  have k7 : i + 1 ≤ m := by omega
  have k8 : m ≤ c := by omega
  have EM : Hid (World.ownsRow (w.alloc (.cells #[] tRt)) w.heap.size tRt 4 (.slice (some ⟨w.heap.size, 0, none⟩) 0 0) 0 []) := Lib.hid (World.ownsRow_lit w #[] 0 (Nat.le_refl _) (by simp) rfl)
  have SR : Hid (∀ y', Below w.heap.size w y' → SrcOf y' (.slice (some ⟨g, 0, none⟩) i c) i 4 (txL (D.op.take i))) := Lib.hid fun y' hb => by
    have := (H.out.below hb).opsrc EG.out (lo := 0) (k := i) (by rw [HM.out]; omega) c
    simpa using this
  have SR2 : Hid (∀ y' c', Below w.heap.size w y' → SrcOf y' (.slice (some ⟨g, (i + 1) * 4, none⟩) (m - (i + 1)) c') (m - (i + 1)) 4 (txL (D.op.drop (i + 1)))) := Lib.hid fun y' c' hb => by
    have := (H.out.below hb).opsrc EG.out (lo := i + 1) (k := m - (i + 1)) (by rw [HM.out]; omega) c'
    rwa [List.take_of_length_le (by rw [List.length_drop, HM.out]; exact Nat.le_refl _)] at this
  have SR3 : Hid (∀ y', Below w.heap.size w y' → c = i + 1 → m = i + 1 → SrcOf y' (.slice (some ⟨g, 0, none⟩) 0 0) 0 4 (txL (D.op.drop (i + 1)))) := Lib.hid fun y' hb e e2 => by
    have e3 : D.op.drop (i + 1) = [] := List.drop_eq_nil_of_le (by rw [HM.out]; omega)
    rw [e3]
    exact .inr ⟨_, _, rfl, rfl, fun j u hj => by simp [txL] at hj⟩
  have HI := Lib.hid IL0
  clear h hB hf ho eg hm hcc gl sl IL0
  by_cases hcp : c = i + 1
  · subst hcp
    obtain rfl : m = i + 1 := by omega
    go_enter Tryz.func57, Tryz.ntmps57
    go_wp2_with fail
    refine TH.out.mono ?_
    rintro _ w2 ⟨rfl, hw⟩
    subst w2
    have d0 : (w.alloc (.cells #[] 59)).cell? ⟨s, 2, none⟩ = some (.slice (some ⟨g, 0, none⟩) (i + 1) (i + 1)) := (SC.out _ ((Below.refl _ _).alloc (Nat.le_refl _) _)).1
    go_wp2_with (at_builtin; refine wpList_append_src rfl (.tmp 9) (.tmp 15) 45 rfl w.heap.size tRt i0 _ 4 80 Tryz.underlying45 hi hz0 hz1 hz2 rfl (by decide) _ 0 [] rfl EM.out _ i (txL (D.op.take i)) rfl (SR.out _ ((Below.refl _ _).alloc (Nat.le_refl _) _)) (txL_one _) (by have := HN.out; unfold maxLen; omega) (by have := HN.out; omega) (by simp) ?more)
    case more =>
      intro v1 w3 hown' hgrow
      have B3 : Hid (Below w.heap.size w w3) := Lib.hid (((Below.refl _ _).alloc (Nat.le_refl _) _).grown hgrow (by simp) (fun b hb => by simp [Act.eval, Value.ownBlock] at hb; omega))
      try rw [Nat.zero_add, List.nil_append] at hown'
      have O3 := Lib.hid hown'
      obtain ⟨p1, n1, cc1, rfl⟩ : ∃ a n c, v1 = .slice a n c := by obtain ⟨a, b, e, _⟩ := own_shape hown'; exact ⟨_, _, _, e⟩
      have d2 := (SC.out _ B3.out).1
      clear hown' hgrow d0
      go_wp2_with (at_builtin; refine wpList_append_src rfl (.tmp 18) (.tmp 25) 45 rfl w.heap.size tRt i0 _ 4 80 Tryz.underlying45 hi hz0 hz1 hz2 rfl (by decide) _ i (txL (D.op.take i)) rfl O3.out _ 0 (txL (D.op.drop (i + 1))) rfl (SR3.out _ B3.out (by first | rfl | trivial) (by first | rfl | trivial)) (txL_one _) (by have := HN.out; unfold maxLen; omega) (by have := HN.out; omega) B3.out.size ?more)
      case more =>
        intro v2 w4 hown' hgrow
        have B4 : Hid (Below w.heap.size w w4) := Lib.hid (B3.out.grown hgrow B3.out.size (fun b hb => (O3.out.lt b (by simpa [Act.eval] using hb)).1))
        obtain ⟨p2, cc2, rfl, _⟩ := own_shape hown'
        have N : Hid (AbortRTo B p s D i w (.returned (.tuple #[])) (w4.setCell ⟨s, 2, none⟩ (.slice p2 (i + 0) cc2))) := Lib.hid ⟨rfl, p2, cc2, H.out.erased Z0.out (by rw [HM.out]; exact HI.out) B4.out hown'⟩
        have d3 := (SC.out _ B4.out).1
        have f3 := (SC.out _ B4.out).2
        simp only [Nat.add_zero] at N ⊢
        clear hown' hgrow d2
        go_wp2_with fail
        refine bodyPost_ret (results_none rfl _ _ _) rfl ?_
        exact N.out
  · go_enter Tryz.func57, Tryz.ntmps57
    go_wp2_with fail
    refine TH.out.mono ?_
    rintro _ w2 ⟨rfl, hw⟩
    subst w2
    have d0 : (w.alloc (.cells #[] 59)).cell? ⟨s, 2, none⟩ = some (.slice (some ⟨g, 0, none⟩) m c) := (SC.out _ ((Below.refl _ _).alloc (Nat.le_refl _) _)).1
    go_wp2_with (at_builtin; refine wpList_append_src rfl (.tmp 9) (.tmp 15) 45 rfl w.heap.size tRt i0 _ 4 80 Tryz.underlying45 hi hz0 hz1 hz2 rfl (by decide) _ 0 [] rfl EM.out _ i (txL (D.op.take i)) rfl (SR.out _ ((Below.refl _ _).alloc (Nat.le_refl _) _)) (txL_one _) (by have := HN.out; unfold maxLen; omega) (by have := HN.out; omega) (by simp) ?more)
    case more =>
      intro v1 w3 hown' hgrow
      have B3 : Hid (Below w.heap.size w w3) := Lib.hid (((Below.refl _ _).alloc (Nat.le_refl _) _).grown hgrow (by simp) (fun b hb => by simp [Act.eval, Value.ownBlock] at hb; omega))
      try rw [Nat.zero_add, List.nil_append] at hown'
      have O3 := Lib.hid hown'
      obtain ⟨p1, n1, cc1, rfl⟩ : ∃ a n c, v1 = .slice a n c := by obtain ⟨a, b, e, _⟩ := own_shape hown'; exact ⟨_, _, _, e⟩
      have d2 := (SC.out _ B3.out).1
      clear hown' hgrow d0
      go_wp2_with (at_builtin; refine wpList_append_src rfl (.tmp 18) (.tmp 25) 45 rfl w.heap.size tRt i0 _ 4 80 Tryz.underlying45 hi hz0 hz1 hz2 rfl (by decide) _ i (txL (D.op.take i)) rfl O3.out _ (m - (i + 1)) (txL (D.op.drop (i + 1))) rfl (SR2.out _ _ B3.out) (txL_one _) (by have := HN.out; unfold maxLen; omega) (by have := HN.out; omega) B3.out.size ?more)
      case more =>
        intro v2 w4 hown' hgrow
        have B4 : Hid (Below w.heap.size w w4) := Lib.hid (B3.out.grown hgrow B3.out.size (fun b hb => (O3.out.lt b (by simpa [Act.eval] using hb)).1))
        obtain ⟨p2, cc2, rfl, _⟩ := own_shape hown'
        have N : Hid (AbortRTo B p s D i w (.returned (.tuple #[])) (w4.setCell ⟨s, 2, none⟩ (.slice p2 (i + (m - (i + 1))) cc2))) := Lib.hid ⟨rfl, p2, cc2, H.out.erased Z0.out (by rw [HM.out]; exact HI.out) B4.out hown'⟩
        have d3 := (SC.out _ B4.out).1
        have f3 := (SC.out _ B4.out).2
        clear hown' hgrow d2
        generalize i + (m - (i + 1)) = q at *
        go_wp2_with fail
        refine bodyPost_ret (results_none rfl _ _ _) rfl ?_
        exact N.out
end Go.Proofs.YtmbmkfhdiljalaaGreat
