/- Plain: sees, Get. -/
import Derived.Test.YtmbmkfhdiljalaaPlG
namespace Go.Proofs.Ytmbmkfhdiljalaa
open Go.RowKit Go.Shelf
set_option linter.unusedVariables false
set_option linter.unusedSimpArgs false

def lkV (l : List (Int × Ver)) (key : Int) : Option Ver := (l.find? fun x => decide (x.1 = key)).map (·.2)
theorem lk_wrL (l : List (Int × Ver)) (key : Int) : lk key (wrL l) = (lkV l key).map Ver.val := by
  unfold wrL lkV
  rw [lk_map (fun x : Int × Ver => x.1) (fun x => x.2.val)]
  cases l.find? fun x => decide (x.1 = key) with
  | none => rfl
  | some x => rfl
def seesR (D : PDB) (o : PTx) (key : Int) : Option Ver := match lkV o.wr key with
  | some v => some v
  | none => asofL (vsOf D.all key).vs o.start
theorem wpList_look_ok {P : Program} {w : World} {ops : Array Oper} {rest : List Oper} {o : Oper} {a : Act} {Q : Exit → Act → World → Prop} (hg : o.guard = none) (m x : Operand) (t : TypeId) (hop : o.op = Op.lookup t m x true) (kt et : TypeId) (q : IntKind) (ht : P.underlying t = some (.map kt et)) (hk : P.underlying kt = some (.int q)) (z : Value) (hz : ∀ w, (zeroValue et).run P w = .ok z w)
    (b : Nat) (L : List (Int × Value)) (hm : a.eval m = .map (some b)) (hown : MapAt w b q L) (key : Int) (hx : a.eval x = .int q key) (val : Value) (c : Bool) (hv : (lk key L).getD z = val) (hc : (lk key L).isSome = c)
    (hK : wpList P ops Q rest (a.put o.dst (.tuple #[val, .bool c])) w) : wpList P ops Q (o :: rest) a w :=
  wpList_look_at w hg m x t true hop kt et q ht hk z hz b L hm hown key hx (by rw [if_pos rfl, hv, hc]; exact hK)
theorem results_item_tmp {fn : Func} {p u : Tmp} (h : fn.results = #[.cell p tIt, .tmp u]) (tmps : Array Value) (w : World) (g : Nat) (R : Array Value) (hR : R.size = 3) (hp : tmps.getD p undef = .pointer (some ⟨g, 0, none⟩)) (hg : Row w g R tIt) : (results fn tmps).run Try.prog w = .ok (.tuple #[.agg R, tmps.getD u undef]) w := by
  have hp' : tmps[p]?.getD undef = .pointer (some ⟨g, 0, none⟩) := by simpa using hp
  simp only [results, h]
  simp [Sem.run_bind, hp', asAddr, Result.andThen, run_loadVar_row w g _ _ _ _ _ hg Try.underlying35 rfl (by rw [show (Try.prog.info? tIt).map (·.size) = some 3 from by kernel_rfl, hR])]
theorem itemV_size (r : Option Ver) : (itemV r).size = 3 := by cases r <;> rfl
set_option maxRecDepth 100000 in
set_option maxHeartbeats 4000000 in
theorem sees_on {w : World} {B p ba bo : Nat} {D : PDB} (h : DbAt w B p ba bo D) {o : PTx} (ho : o ∈ D.op) (key : Int) (hl : (vsOf D.all key).vs.length ≤ 1000000) :
    Calls Try.prog 21 #[.pointer (some ⟨p, 0, none⟩), .pointer (some ⟨o.bt, 0, none⟩), .int .u64 key] w (AsOfTo (seesR D o key) w) := by
  have H := Lib.hid h
  have HL := Lib.hid hl
  have OT := Lib.hid (h.oa o ho).1
  have t1 : (w.alloc (.cells #[.int .u64 0, .slice none 0 0, .slice none 0 0] tIt)).cell? ⟨o.bt, 1, none⟩ = some (.map (some o.bm)) := (OT.out.only ((Only.refl [] w).alloc _) (by simp)).cell 1
  have OM := Lib.hid (h.oa o ho).2
  have LW := Lib.hid (lk_wrL o.wr key)
  clear h hl
  go_enter Try.func21, Try.ntmps21
  cases hv : lkV o.wr key with
  | some v =>
    have SR : Hid (seesR D o key = some v) := Lib.hid (by simp [seesR, hv])
    have L1 : Hid ((lk key (wrL o.wr)).getD (.agg #[.int .u64 0, .bool false, .int .u64 0, .slice none 0 0, .slice none 0 0]) = v.val ∧ (lk key (wrL o.wr)).isSome = true) := Lib.hid (by rw [LW.out, hv]; exact ⟨rfl, rfl⟩)
    have M1 := Lib.hid (OM.out.only ((Only.refl [] w).alloc (.cells #[.int .u64 0, .slice none 0 0, .slice none 0 0] tIt)) (by simp))
    unfold Ver.val at L1
    clear hv LW
    unfold Sl.v at L1
    go_upto_region 2 with (at_lookup; refine wpList_look_ok rfl (.tmp 14) (.tmp 15) tMvr rfl 22 tVr .u64 Try.underlying56 Try.underlying22 _ zeroVr o.bm (wrL o.wr) rfl M1.out key rfl _ _ L1.out.1 L1.out.2 ?_)
    have R6 : Hid (Row ((w.alloc (.cells #[.int .u64 0, .slice none 0 0, .slice none 0 0] tIt)).alloc (.cells #[.int .u64 v.at_, .bool v.gone, .int .u64 v.key, .slice v.vec.a v.vec.xs.length v.vec.c, .slice v.tag.a v.tag.xs.length v.tag.c] tVr)) w.heap.size (itemV none) tIt) := Lib.hid ((Row.made w _ _).only ((Only.refl [] _).alloc _) (by simp))
    have K1 : Hid (Only [] w ((w.alloc (.cells #[.int .u64 0, .slice none 0 0, .slice none 0 0] tIt)).alloc (.cells #[.int .u64 v.at_, .bool v.gone, .int .u64 v.key, .slice v.vec.a v.vec.xs.length v.vec.c, .slice v.tag.a v.tag.xs.length v.tag.c] tVr))) := Lib.hid (((Only.refl [] w).alloc _).alloc _)
    have R8 : Hid (Row ((w.alloc (.cells #[.int .u64 0, .slice none 0 0, .slice none 0 0] tIt)).alloc (.cells #[.int .u64 v.at_, .bool v.gone, .int .u64 v.key, .slice v.vec.a v.vec.xs.length v.vec.c, .slice v.tag.a v.tag.xs.length v.tag.c] tVr)) (w.heap.size + 1) #[.int .u64 v.at_, .bool v.gone, .int .u64 v.key, .slice v.vec.a v.vec.xs.length v.vec.c, .slice v.tag.a v.tag.xs.length v.tag.c] tVr) := Lib.hid (by
      have h3 := Row.made (w.alloc (.cells #[.int .u64 0, .slice none 0 0, .slice none 0 0] tIt)) #[.int .u64 v.at_, .bool v.gone, .int .u64 v.key, .slice v.vec.a v.vec.xs.length v.vec.c, .slice v.tag.a v.tag.xs.length v.tag.c] tVr
      rwa [World.size_alloc] at h3)
    have SZ : Hid (w.heap.size + 1 + 1 = ((w.alloc (.cells #[.int .u64 0, .slice none 0 0, .slice none 0 0] tIt)).alloc (.cells #[.int .u64 v.at_, .bool v.gone, .int .u64 v.key, .slice v.vec.a v.vec.xs.length v.vec.c, .slice v.tag.a v.tag.xs.length v.tag.c] tVr)).heap.size) := Lib.hid (by simp)
    generalize ((w.alloc (.cells #[.int .u64 0, .slice none 0 0, .slice none 0 0] tIt)).alloc (.cells #[.int .u64 v.at_, .bool v.gone, .int .u64 v.key, .slice v.vec.a v.vec.xs.length v.vec.c, .slice v.tag.a v.tag.xs.length v.tag.c] tVr)) = w1 at *
    have OT1 := Lib.hid (OT.out.only K1.out (by simp))
    clear t1 M1
    have NE : Hid (w.heap.size < w.heap.size + 1) := Lib.hid (by omega)
    have LT : Hid (∀ b, b < w.heap.size → b < w1.heap.size) := Lib.hid (fun b hb => by have := K1.out.size; omega)
    obtain ⟨b6, hb6⟩ : ∃ b6, w.heap.size = b6 := ⟨_, rfl⟩
    have E6 := Lib.hid hb6
    rw [hb6] at R6 R8 SZ ⊢
    clear hb6
    have ⟨x0, x1, x2⟩ : w1.cell? ⟨b6, 0, none⟩ = some (.int .u64 0) ∧ w1.cell? ⟨b6, 1, none⟩ = some (.slice none 0 0) ∧ w1.cell? ⟨b6, 2, none⟩ = some (.slice none 0 0) := ⟨R6.out.cell 0, R6.out.cell 1, R6.out.cell 2⟩
    have ⟨y0, y1, y2⟩ : w1.frozen? ⟨b6, 0, none⟩ = false ∧ w1.frozen? ⟨b6, 1, none⟩ = false ∧ w1.frozen? ⟨b6, 2, none⟩ = false := ⟨R6.out.free 0, R6.out.free 1, R6.out.free 2⟩
    have ⟨z1, z2, z3, z4⟩ : w1.cell? ⟨b6 + 1, 1, none⟩ = some (.bool v.gone) ∧ w1.cell? ⟨b6 + 1, 2, none⟩ = some (.int .u64 v.key) ∧ w1.cell? ⟨b6 + 1, 3, none⟩ = some (.slice v.vec.a v.vec.xs.length v.vec.c) ∧ w1.cell? ⟨b6 + 1, 4, none⟩ = some (.slice v.tag.a v.tag.xs.length v.tag.c) := ⟨R8.out.cell 1, R8.out.cell 2, R8.out.cell 3, R8.out.cell 4⟩
    have N : Hid (AsOfTo (some v) w (.returned (.tuple #[.agg (itemV (some v)), .bool (!v.gone)])) (((w1.setCell ⟨b6, 0, none⟩ (.int .u64 v.key)).setCell ⟨b6, 1, none⟩ v.vec.v).setCell ⟨b6, 2, none⟩ v.tag.v).drew ∧ Row (((w1.setCell ⟨b6, 0, none⟩ (.int .u64 v.key)).setCell ⟨b6, 1, none⟩ v.vec.v).setCell ⟨b6, 2, none⟩ v.tag.v).drew b6 (itemV (some v)) tIt) := Lib.hid (by
      have K4 : Only [b6] w1 (((w1.setCell ⟨b6, 0, none⟩ (.int .u64 v.key)).setCell ⟨b6, 1, none⟩ v.vec.v).setCell ⟨b6, 2, none⟩ v.tag.v).drew := ((((Only.refl [b6] w1).setCell (.inl (by simp)) _).setCell (.inl (by simp)) _).setCell (.inl (by simp)) _).drew
      have h6 := ((R6.out.set 0 (.int .u64 v.key)).set 1 v.vec.v).set 2 v.tag.v
      refine ⟨⟨rfl, ?_⟩, ?_⟩
      · exact (K1.out.trans (K4.mono (fun i hi => .inl hi) : Only [b6] _ _) (fun i hi => by simp at hi; subst hi; exact .inr (by have := E6.out; omega))).toBelow (Nat.le_refl _) (by simp)
      · exact (by simpa [itemV] using h6 : Row _ b6 (itemV (some v)) tIt).only (Only.refl [] _).drew (by simp))
    unfold Sl.v at N
    go_wp2_with fail
    go_region
    all_goals
      go_wp2_with fail
      refine bodyPost_ret (results_item_tmp rfl _ _ b6 (itemV (some v)) rfl rfl N.out.2) rfl ?_
      rw [SR.out]
      exact N.out.1
  | none =>
    have SR : Hid (seesR D o key = asofL (vsOf D.all key).vs o.start) := Lib.hid (by simp [seesR, hv])
    have L1 : Hid ((lk key (wrL o.wr)).getD (.agg #[.int .u64 0, .bool false, .int .u64 0, .slice none 0 0, .slice none 0 0]) = .agg #[.int .u64 0, .bool false, .int .u64 0, .slice none 0 0, .slice none 0 0] ∧ (lk key (wrL o.wr)).isSome = false) := Lib.hid (by rw [LW.out, hv]; exact ⟨rfl, rfl⟩)
    have M1 := Lib.hid (OM.out.only ((Only.refl [] w).alloc (.cells #[.int .u64 0, .slice none 0 0, .slice none 0 0] tIt)) (by simp))
    clear hv LW
    go_upto_region 2 with (at_lookup; refine wpList_look_ok rfl (.tmp 14) (.tmp 15) tMvr rfl 22 tVr .u64 Try.underlying56 Try.underlying22 _ zeroVr o.bm (wrL o.wr) rfl M1.out key rfl _ _ L1.out.1 L1.out.2 ?_)
    have R6 : Hid (Row ((w.alloc (.cells #[.int .u64 0, .slice none 0 0, .slice none 0 0] tIt)).alloc (.cells #[.int .u64 0, .bool false, .int .u64 0, .slice none 0 0, .slice none 0 0] tVr)) w.heap.size (itemV none) tIt) := Lib.hid ((Row.made w _ _).only ((Only.refl [] _).alloc _) (by simp))
    have K1 : Hid (Only [] w ((w.alloc (.cells #[.int .u64 0, .slice none 0 0, .slice none 0 0] tIt)).alloc (.cells #[.int .u64 0, .bool false, .int .u64 0, .slice none 0 0, .slice none 0 0] tVr))) := Lib.hid (((Only.refl [] w).alloc _).alloc _)
    have R8 : Hid (Row ((w.alloc (.cells #[.int .u64 0, .slice none 0 0, .slice none 0 0] tIt)).alloc (.cells #[.int .u64 0, .bool false, .int .u64 0, .slice none 0 0, .slice none 0 0] tVr)) (w.heap.size + 1) #[.int .u64 0, .bool false, .int .u64 0, .slice none 0 0, .slice none 0 0] tVr) := Lib.hid (by
      have h3 := Row.made (w.alloc (.cells #[.int .u64 0, .slice none 0 0, .slice none 0 0] tIt)) #[.int .u64 0, .bool false, .int .u64 0, .slice none 0 0, .slice none 0 0] tVr
      rwa [World.size_alloc] at h3)
    have SZ : Hid (w.heap.size + 1 + 1 = ((w.alloc (.cells #[.int .u64 0, .slice none 0 0, .slice none 0 0] tIt)).alloc (.cells #[.int .u64 0, .bool false, .int .u64 0, .slice none 0 0, .slice none 0 0] tVr)).heap.size) := Lib.hid (by simp)
    generalize ((w.alloc (.cells #[.int .u64 0, .slice none 0 0, .slice none 0 0] tIt)).alloc (.cells #[.int .u64 0, .bool false, .int .u64 0, .slice none 0 0, .slice none 0 0] tVr)) = w1 at *
    have OT1 := Lib.hid (OT.out.only K1.out (by simp))
    clear t1 M1
    have NE : Hid (w.heap.size < w.heap.size + 1) := Lib.hid (by omega)
    have LT : Hid (∀ b, b < w.heap.size → b < w1.heap.size) := Lib.hid (fun b hb => by have := K1.out.size; omega)
    obtain ⟨b6, hb6⟩ : ∃ b6, w.heap.size = b6 := ⟨_, rfl⟩
    have E6 := Lib.hid hb6
    rw [hb6] at R6 R8 SZ ⊢
    clear hb6
    have ⟨x0, x1, x2⟩ : w1.cell? ⟨b6, 0, none⟩ = some (.int .u64 0) ∧ w1.cell? ⟨b6, 1, none⟩ = some (.slice none 0 0) ∧ w1.cell? ⟨b6, 2, none⟩ = some (.slice none 0 0) := ⟨R6.out.cell 0, R6.out.cell 1, R6.out.cell 2⟩
    have ⟨y0, y1, y2⟩ : w1.frozen? ⟨b6, 0, none⟩ = false ∧ w1.frozen? ⟨b6, 1, none⟩ = false ∧ w1.frozen? ⟨b6, 2, none⟩ = false := ⟨R6.out.free 0, R6.out.free 1, R6.out.free 2⟩
    have u0 : w1.cell? ⟨o.bt, 0, none⟩ = some (.int .u64 o.start) := OT1.out.cell 0
    have AS := Lib.hid (asof_on (H.out.only K1.out (by simp)) o.start key HL.out)
    go_wp2_with fail
    refine AS.out.mono ?_
    rintro _ w2 ⟨rfl, hb⟩
    have R62 := Lib.hid (R6.out.only ((Only.refl [] w1).below hb) (by simp))
    have HB := Lib.hid hb
    have ⟨c0, c1, c2⟩ : w2.cell? ⟨b6, 0, none⟩ = some (.int .u64 0) ∧ w2.cell? ⟨b6, 1, none⟩ = some (.slice none 0 0) ∧ w2.cell? ⟨b6, 2, none⟩ = some (.slice none 0 0) := ⟨R62.out.cell 0, R62.out.cell 1, R62.out.cell 2⟩
    have ⟨f0, f1, f2⟩ : w2.frozen? ⟨b6, 0, none⟩ = false ∧ w2.frozen? ⟨b6, 1, none⟩ = false ∧ w2.frozen? ⟨b6, 2, none⟩ = false := ⟨R62.out.free 0, R62.out.free 1, R62.out.free 2⟩
    clear hb x0 x1 x2 y0 y1 y2 u0
    obtain ⟨k, a1, n1, d1, a2, n2, d2, hI⟩ : ∃ k a1 n1 d1 a2 n2 d2, itemV (asofL (vsOf D.all key).vs o.start) = #[.int .u64 k, .slice a1 n1 d1, .slice a2 n2 d2] := by
      cases asofL (vsOf D.all key).vs o.start with
      | none => exact ⟨_, _, _, _, _, _, _, rfl⟩
      | some x => exact ⟨_, _, _, _, _, _, _, rfl⟩
    have HII := Lib.hid hI
    have N : Hid (Below w.heap.size w (((w2.setCell ⟨b6, 0, none⟩ (.int .u64 k)).setCell ⟨b6, 1, none⟩ (.slice a1 n1 d1)).setCell ⟨b6, 2, none⟩ (.slice a2 n2 d2)) ∧ Row (((w2.setCell ⟨b6, 0, none⟩ (.int .u64 k)).setCell ⟨b6, 1, none⟩ (.slice a1 n1 d1)).setCell ⟨b6, 2, none⟩ (.slice a2 n2 d2)) b6 (itemV (asofL (vsOf D.all key).vs o.start)) tIt) := Lib.hid (by
      have K2 : Only [] w w2 := K1.out.below HB.out
      have K4 : Only [b6] w2 (((w2.setCell ⟨b6, 0, none⟩ (.int .u64 k)).setCell ⟨b6, 1, none⟩ (.slice a1 n1 d1)).setCell ⟨b6, 2, none⟩ (.slice a2 n2 d2)) := (((Only.refl [b6] w2).setCell (.inl (by simp)) _).setCell (.inl (by simp)) _).setCell (.inl (by simp)) _
      have h6 := ((R62.out.set 0 (.int .u64 k)).set 1 (.slice a1 n1 d1)).set 2 (.slice a2 n2 d2)
      refine ⟨?_, ?_⟩
      · exact (K2.trans K4 (fun i hi => by simp at hi; subst hi; exact .inr (by have := E6.out; omega))).toBelow (Nat.le_refl _) (by simp)
      · rw [HII.out]
        simpa [itemV] using h6)
    rw [hI]
    go_wp2_with fail
    refine bodyPost_ret (results_item_tmp rfl _ _ b6 (itemV (asofL (vsOf D.all key).vs o.start)) (itemV_size _) rfl N.out.2) rfl ?_
    rw [SR.out]
    exact ⟨rfl, N.out.1⟩
end Go.Proofs.Ytmbmkfhdiljalaa
