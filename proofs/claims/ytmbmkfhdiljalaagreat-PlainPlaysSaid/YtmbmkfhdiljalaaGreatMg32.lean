/- Plain, the document's side: Get, MayDelete. -/
import Derived.Test.YtmbmkfhdiljalaaGreatMg31
import Derived.Test.YtmbmkfhdiljalaaGreatMg19
namespace Go.Proofs.YtmbmkfhdiljalaaGreat
open Go.RowKit Go.ChangeShapes Go.WideShapes Go.ChangeAt
set_option linter.unusedVariables false
set_option linter.unusedSimpArgs false

theorem findV_some {l : List RTx} {t : Int} {i : Nat} (h : findR l t = some i) : findV l t = (i : Int) := by unfold findV; rw [h]
theorem findV_none {l : List RTx} {t : Int} (h : findR l t = none) : findV l t = -1 := by unfold findV; rw [h]
theorem get_r_no {w : World} {B p s : Nat} {D : RDB} (h : RdbAt w B p s D) {t : Int} (hf : findR D.op t = none) (key : Int) : Calls Tryz.prog 29 #[.pointer (some ⟨s, 0, none⟩), .int .u64 t, .int .u64 key] w (RefTo (.tuple #[.agg (itemV none), .int .i64 12]) w) := by
  have TH := Lib.hid (find_ref (t := t) (h.only ((Only.refl [] w).alloc (.cells #[.int .u64 0, .slice none 0 0, .slice none 0 0] tIt)) (by simp)))
  rw [findV_none hf] at TH
  have R0 := Lib.hid (Row.made w #[.int .u64 0, .slice none 0 0, .slice none 0 0] tIt)
  clear h hf
  go_enter Tryz.func29, Tryz.ntmps29
  go_wp2_with fail
  refine TH.out.mono ?_
  rintro _ w1 ⟨rfl, hw⟩
  subst w1
  have B0 : Hid (Below w.heap.size w (w.alloc (.cells #[.int .u64 0, .slice none 0 0, .slice none 0 0] tIt))) := Lib.hid ((Below.refl _ _).alloc (Nat.le_refl _) _)
  have fz := R0.out.free 0
  have fz1 := R0.out.free 1
  have fz2 := R0.out.free 2
  have c0 := R0.out.cell 0
  have c1 := R0.out.cell 1
  have c2 := R0.out.cell 2
  simp only [List.getElem?_toArray, List.getElem?_cons_zero, List.getElem?_cons_succ] at c0 c1 c2
  have R1 := Lib.hid (((R0.out.set 0 (.int .u64 0)).set 1 (.slice none 0 0)).set 2 (.slice none 0 0))
  generalize w.alloc (.cells #[.int .u64 0, .slice none 0 0, .slice none 0 0] tIt) = w1 at *
  go_wp2_with fail
  refine bodyPost_ret (results_item_tmp rfl _ _ w.heap.size (itemV none) rfl rfl ?_) rfl ?_
  · exact R1.out
  · exact ⟨rfl, ((((Only.refl [w.heap.size] w1).setCell (by simp) _).setCell (by simp) _).setCell (by simp) _ |>.toBelow B0.out.size (by simp)) |> B0.out.trans⟩
def GetRTo (I : Its) (key : Int) (w : World) (e : Ending) (w' : World) : Prop := Below w.heap.size w w' ∧
  ((isAt I.cs (placeC I.cs key) key = false ∧ e = .returned (.tuple #[.agg (itemV none), .int .i64 7])) ∨
  ∃ x, I.l[placeC I.cs key]? = some x ∧ x.key = key ∧ e = .returned (.tuple #[.agg #[.int .u64 x.key, x.vec.v, x.tag.v], .int .i64 0]))
set_option maxHeartbeats 4000000 in
theorem get_r_at {w : World} {B p s : Nat} {D : RDB} (h : RdbAt w B p s D) {t : Int} {i : Nat} {o : RTx} (hf : findR D.op t = some i) (ho : D.op[i]? = some o) (key : Int) :
    Calls Tryz.prog 29 #[.pointer (some ⟨s, 0, none⟩), .int .u64 t, .int .u64 key] w (GetRTo o.sees key w) := by
  have O1 : Only [] w (w.alloc (.cells #[.int .u64 0, .slice none 0 0, .slice none 0 0] tIt)) := (Only.refl [] w).alloc _
  have h' := h.only O1 (by simp)
  have TH := Lib.hid (find_ref (t := t) h')
  rw [findV_some hf] at TH
  have hs := h'.sees o (List.mem_of_getElem? ho)
  have hll := (h.fine.ops o (List.mem_of_getElem? ho)).2.1
  have PL := Lib.hid (place_on (k := key) hs (by omega))
  have R0 := Lib.hid (Row.made w #[.int .u64 0, .slice none 0 0, .slice none 0 0] tIt)
  have B0 : Hid (Below w.heap.size w (w.alloc (.cells #[.int .u64 0, .slice none 0 0, .slice none 0 0] tIt))) := Lib.hid ((Below.refl _ _).alloc (Nat.le_refl _) _)
  obtain ⟨g, eg, hcap, hc⟩ := h'.at_ ho
  have x1 : (w.alloc (.cells #[.int .u64 0, .slice none 0 0, .slice none 0 0] tIt)).cell? ⟨g, i * 4 + 1, none⟩ = some o.sees.v := hc 1 (by omega)
  have s2 : (w.alloc (.cells #[.int .u64 0, .slice none 0 0, .slice none 0 0] tIt)).cell? ⟨s, 2, none⟩ = some (.slice (some ⟨g, 0, none⟩) D.op.length D.oc) := by
    have := h'.srow.cell 2
    unfold RDB.ov at this
    rw [eg] at this
    exact this
  have il : i < D.op.length := (List.getElem?_eq_some_iff.1 ho).1
  have i1 : ((i : Int) < 0) = False := by simp
  have i2 : decide ((i : Int) < 0) = false := decide_eq_false (by omega)
  have i3 : (i : Int) < (D.op.length : Int) := by omega
  have HS := Lib.hid hs
  obtain ⟨a, ha⟩ : ∃ a, o.sees.a = a := ⟨_, rfl⟩
  have HA := Lib.hid ha
  obtain ⟨m, hm⟩ : ∃ m, o.sees.l.length = m := ⟨_, rfl⟩
  have HM := Lib.hid hm
  obtain ⟨q, hq⟩ : ∃ q, placeC o.sees.cs key = q := ⟨_, rfl⟩
  have HQ := Lib.hid hq
  have QM : q ≤ m := by have := placeC_le o.sees.cs key; rw [hq] at this; simp [Its.cs] at this; omega
  unfold Its.v at PL x1
  rw [hm, ha] at PL x1
  rw [hq] at PL
  have CL : Hid (o.sees.cs.length = m) := Lib.hid (by simp [Its.cs, hm])
  generalize o.sees.c = c at PL x1
  generalize D.oc = oc at s2 hcap
  generalize D.op.length = n at s2 hcap il i3
  clear h h' hf ho hs hll hc eg O1 ha hm hq
  have fz := R0.out.free 0
  have fz1 := R0.out.free 1
  have fz2 := R0.out.free 2
  have c0 := R0.out.cell 0
  have c1 := R0.out.cell 1
  have c2 := R0.out.cell 2
  simp only [List.getElem?_toArray, List.getElem?_cons_zero, List.getElem?_cons_succ] at c0 c1 c2
  have R1 := Lib.hid fun z y v => (((R0.out.set 0 z).set 1 y).set 2 v)
  go_enter Tryz.func29, Tryz.ntmps29
  go_wp2_with fail
  refine TH.out.mono ?_
  rintro _ w1 ⟨rfl, hw⟩
  subst w1
  generalize w.alloc (.cells #[.int .u64 0, .slice none 0 0, .slice none 0 0] tIt) = w1 at *
  go_wp2_with fail
  refine PL.out.mono ?_
  rintro _ w2 ⟨rfl, hw⟩
  subst w2
  have K1 : Hid (∀ z y v, Below w.heap.size w (((w1.setCell ⟨w.heap.size, 0, none⟩ z).setCell ⟨w.heap.size, 1, none⟩ y).setCell ⟨w.heap.size, 2, none⟩ v)) := Lib.hid fun z y v => ((((Only.refl [w.heap.size] w1).setCell (p := ⟨w.heap.size, 0, none⟩) (by simp) _).setCell (p := ⟨w.heap.size, 1, none⟩) (by simp) _).setCell (p := ⟨w.heap.size, 2, none⟩) (by simp) _ |>.toBelow B0.out.size (by simp)) |> B0.out.trans
  have NONE : Hid (isAt o.sees.cs q key = false → GetRTo o.sees key w (.returned (.tuple #[.agg (itemV none), .int .i64 7])) (((w1.setCell ⟨w.heap.size, 0, none⟩ (.int .u64 0)).setCell ⟨w.heap.size, 1, none⟩ (.slice none 0 0)).setCell ⟨w.heap.size, 2, none⟩ (.slice none 0 0))) := Lib.hid fun hn => ⟨K1.out _ _ _, .inl ⟨by rw [HQ.out]; exact hn, rfl⟩⟩
  by_cases hqm : q = m
  · subst hqm
    have NO : Hid (isAt o.sees.cs q key = false) := Lib.hid (by unfold isAt; rw [List.getElem?_eq_none (by rw [CL.out]; exact Nat.le_refl _)])
    go_wp2_with fail
    refine bodyPost_ret (results_item_tmp rfl _ _ w.heap.size (itemV none) rfl rfl ?_) rfl ?_
    · exact R1.out _ _ _
    · exact NONE.out NO.out
  · have hlt : q < m := by omega
    have q1 : ((q : Int) == (m : Int)) = false := by simp; omega
    have q2 : decide ((q : Int) = (m : Int)) = false := decide_eq_false (by omega)
    have q3 : decide (q = m) = false := decide_eq_false (by omega)
    obtain ⟨x, hx⟩ : ∃ x, o.sees.l[q]? = some x := ⟨_, List.getElem?_eq_getElem (by rw [HM.out]; exact hlt)⟩
    obtain ⟨g', eg, hc⟩ := HS.out.cell hx
    have y0 : w1.cell? ⟨g', q * 3, none⟩ = some (.int .u64 x.key) := hc 0 (by omega)
    have y1 : w1.cell? ⟨g', q * 3 + 1, none⟩ = some x.vec.v := hc 1 (by omega)
    have y2 : w1.cell? ⟨g', q * 3 + 2, none⟩ = some x.tag.v := hc 2 (by omega)
    rw [HA.out] at eg
    subst eg
    have HX := Lib.hid hx
    have b1 : decide ((q : Int) < (m : Int)) = true := decide_eq_true (by omega)
    have b2 : decide (q < m) = true := decide_eq_true hlt
    clear hc hx
    by_cases hk : x.key = key
    · have OK : Hid (GetRTo o.sees key w (.returned (.tuple #[.agg #[.int .u64 x.key, x.vec.v, x.tag.v], .int .i64 0])) (((w1.setCell ⟨w.heap.size, 0, none⟩ (.int .u64 x.key)).setCell ⟨w.heap.size, 1, none⟩ x.vec.v).setCell ⟨w.heap.size, 2, none⟩ x.tag.v)) := Lib.hid ⟨K1.out _ _ _, .inr ⟨x, by rw [HQ.out]; exact HX.out, hk, rfl⟩⟩
      have RR := Lib.hid (R1.out (.int .u64 x.key) x.vec.v x.tag.v)
      rw [hk] at y0 OK RR
      clear hk
      unfold Sl.v at y1 y2 OK RR
      go_wp2_with fail
      refine bodyPost_ret (results_item_tmp rfl _ _ w.heap.size #[.int .u64 key, .slice x.vec.a x.vec.xs.length x.vec.c, .slice x.tag.a x.tag.xs.length x.tag.c] rfl rfl ?_) rfl ?_
      · exact RR.out
      · exact OK.out
    · have f1 : (x.key == key) = false := by simpa using hk
      have f2 : decide (x.key = key) = false := decide_eq_false hk
      have NO : Hid (isAt o.sees.cs q key = false) := Lib.hid (by unfold isAt; rw [cs_get HX.out]; exact decide_eq_false hk)
      generalize x.key = z at y0 f1 f2
      clear hk y1 y2
      go_wp2_with fail
      refine bodyPost_ret (results_item_tmp rfl _ _ w.heap.size (itemV none) rfl rfl ?_) rfl ?_
      · exact R1.out _ _ _
      · exact NONE.out NO.out
end Go.Proofs.YtmbmkfhdiljalaaGreat

/- Plain, the document's side: MayDelete, MayPut, has, New. -/
namespace Go.Proofs.YtmbmkfhdiljalaaGreat
open Go.RowKit Go.ChangeShapes Go.WideShapes Go.ChangeAt
set_option linter.unusedVariables false
set_option linter.unusedSimpArgs false

theorem below_store3 {w w1 : World} (h : Below w.heap.size w w1) (o : Obj) (a b c : Value) : Below w.heap.size w ((((w1.alloc o).setCell ⟨w1.heap.size, 0, none⟩ a).setCell ⟨w1.heap.size, 1, none⟩ b).setCell ⟨w1.heap.size, 2, none⟩ c) := by
  have k : Only [w1.heap.size] w1 ((((w1.alloc o).setCell ⟨w1.heap.size, 0, none⟩ a).setCell ⟨w1.heap.size, 1, none⟩ b).setCell ⟨w1.heap.size, 2, none⟩ c) :=
    (((((Only.refl [w1.heap.size] w1).alloc o).setCell (p := ⟨w1.heap.size, 0, none⟩) (.inl (by simp)) a).setCell (p := ⟨w1.heap.size, 1, none⟩) (.inl (by simp)) b).setCell (p := ⟨w1.heap.size, 2, none⟩) (.inl (by simp)) c)
  exact h.trans (k.toBelow h.size (by simp; exact h.size))
theorem maydel_no {w : World} {B p s : Nat} {D : RDB} (h : RdbAt w B p s D) {t : Int} (hf : findR D.op t = none) (key : Int) : Calls Tryz.prog 53 #[.pointer (some ⟨s, 0, none⟩), .int .u64 t, .int .u64 key] w (RefTo (.int .i64 12) w) := by
  have TH := Lib.hid (get_r_no h hf key)
  unfold RefTo at TH
  clear h hf
  go_enter Tryz.func53, Tryz.ntmps53
  go_wp2_with fail
  refine TH.out.mono ?_
  rintro _ w1 ⟨rfl, hb⟩
  have BB := Lib.hid hb
  have R0 := Lib.hid (Row.made w1 #[.int .u64 0, .slice none 0 0, .slice none 0 0] tIt)
  have fz := R0.out.free 0
  have fz1 := R0.out.free 1
  have fz2 := R0.out.free 2
  clear hb TH
  unfold itemV
  go_wp2_with fail
  go_ret
  exact ⟨rfl, BB.out.alloc BB.out.size _⟩
theorem maydel_at {w : World} {B p s : Nat} {D : RDB} (h : RdbAt w B p s D) {t : Int} {i : Nat} {o : RTx} (hf : findR D.op t = some i) (ho : D.op[i]? = some o) (key : Int) :
    Calls Tryz.prog 53 #[.pointer (some ⟨s, 0, none⟩), .int .u64 t, .int .u64 key] w (RefTo (.int .i64 (if isAt o.sees.cs (placeC o.sees.cs key) key then 0 else 7)) w) := by
  have TH := Lib.hid (get_r_at h hf ho key)
  unfold GetRTo at TH
  obtain ⟨r, hr⟩ : ∃ r : Int, (if isAt o.sees.cs (placeC o.sees.cs key) key then 0 else 7) = r := ⟨_, rfl⟩
  rw [hr]
  have HR := Lib.hid hr
  clear h hf ho hr
  go_enter Tryz.func53, Tryz.ntmps53
  go_wp2_with fail
  refine TH.out.mono ?_
  rintro _ w1 ⟨hb, ⟨hn, rfl⟩ | ⟨x, hx, hk, rfl⟩⟩
  · have BB := Lib.hid hb
    have R0 := Lib.hid (Row.made w1 #[.int .u64 0, .slice none 0 0, .slice none 0 0] tIt)
    have fz := R0.out.free 0
    have fz1 := R0.out.free 1
    have fz2 := R0.out.free 2
    obtain rfl : r = 7 := by rw [← HR.out, hn]; rfl
    clear hb TH hn
    unfold itemV
    go_wp2_with fail
    go_ret
    exact ⟨rfl, BB.out.alloc BB.out.size _⟩
  · have BB := Lib.hid hb
    have R0 := Lib.hid (Row.made w1 #[.int .u64 0, .slice none 0 0, .slice none 0 0] tIt)
    have fz := R0.out.free 0
    have fz1 := R0.out.free 1
    have fz2 := R0.out.free 2
    have hn : isAt o.sees.cs (placeC o.sees.cs key) key = true := by unfold isAt; rw [cs_get hx]; exact decide_eq_true hk
    obtain rfl : r = 0 := by rw [← HR.out, hn]; rfl
    clear hb TH hn hx hk
    unfold Sl.v
    go_wp2_with fail
    go_ret
    exact ⟨rfl, BB.out.alloc BB.out.size _⟩
/-- What MayPut says. -/
def mayPutV (D : RDB) (t : Int) (n m : Nat) : Int := if findR D.op t = none then 12 else if (n : Int) ≠ D.dim then 9 else if 1024 < m then 3 else 0
set_option maxHeartbeats 2000000 in
theorem mayput_on {w : World} {B p s : Nat} {D : RDB} (h : RdbAt w B p s D) {t : Int} {x : It} :
    Calls Tryz.prog 51 #[.pointer (some ⟨s, 0, none⟩), .int .u64 t, .agg #[.int .u64 x.key, x.vec.v, x.tag.v]] w (RefTo (.int .i64 (mayPutV D t x.vec.xs.length x.tag.xs.length)) w) := by
  unfold Sl.v
  obtain ⟨m, hm⟩ : ∃ m, x.tag.xs.length = m := ⟨_, rfl⟩
  obtain ⟨n, hn⟩ : ∃ n, x.vec.xs.length = n := ⟨_, rfl⟩
  rw [hm, hn]
  generalize x.vec.a = a1
  generalize x.vec.c = d1
  generalize x.tag.a = a2
  generalize x.tag.c = d2
  generalize x.key = key
  have O1 : Only [] w (w.alloc (.cells #[.int .u64 key, .slice a1 n d1, .slice a2 m d2] tIt)) := (Only.refl [] w).alloc _
  have TH := Lib.hid (find_ref (t := t) (h.only O1 (by simp)))
  have B0 : Hid (Below w.heap.size w (w.alloc (.cells #[.int .u64 key, .slice a1 n d1, .slice a2 m d2] tIt))) := Lib.hid ((Below.refl _ _).alloc (Nat.le_refl _) _)
  have s0 : (w.alloc (.cells #[.int .u64 key, .slice a1 n d1, .slice a2 m d2] tIt)).cell? ⟨s, 0, none⟩ = some (.int .i64 D.dim) := (h.only O1 (by simp)).srow.cell 0
  have R0 := Row.made w #[.int .u64 key, .slice a1 n d1, .slice a2 m d2] tIt
  have r1 := R0.cell 1
  have r2 := R0.cell 2
  simp only [List.getElem?_toArray, List.getElem?_cons_zero, List.getElem?_cons_succ] at r1 r2
  clear h O1 R0 hm hn
  cases hf : findR D.op t with
  | none =>
    rw [findV_none hf] at TH
    have HR : Hid (mayPutV D t n m = 12) := Lib.hid (by unfold mayPutV; rw [if_pos hf])
    clear hf
    go_enter Tryz.func51, Tryz.ntmps51
    go_wp2_with fail
    refine TH.out.mono ?_
    rintro _ w1 ⟨rfl, hw⟩
    subst w1
    go_wp2_with fail
    go_ret
    exact ⟨by rw [HR.out]; rfl, B0.out⟩
  | some i =>
    rw [findV_some hf] at TH
    have i2 : decide ((i : Int) < 0) = false := decide_eq_false (by omega)
    by_cases hd : (n : Int) = D.dim
    · by_cases hm : 1024 < m
      · have HR : Hid (mayPutV D t n m = 3) := Lib.hid (by unfold mayPutV; rw [if_neg (by rw [hf]; simp), if_neg (by simpa using hd), if_pos hm])
        have q1 : decide ((1024 : Int) < (m : Int)) = true := decide_eq_true (by omega)
        have q2 : (1024 : Int) < (m : Int) := by omega
        rw [← hd] at s0
        clear hf hd hm
        go_enter Tryz.func51, Tryz.ntmps51
        go_wp2_with fail
        refine TH.out.mono ?_
        rintro _ w1 ⟨rfl, hw⟩
        subst w1
        generalize w.alloc (.cells #[.int .u64 key, .slice a1 n d1, .slice a2 m d2] tIt) = w1 at *
        go_upto_region 3 with fail
        go_quiet (fail)
        go_wp2_with fail
        go_ret
        exact ⟨by rw [HR.out]; rfl, ((Only.refl [] w1).drewN _ |>.toBelow B0.out.size (by simp)) |> B0.out.trans⟩
      · have HR : Hid (mayPutV D t n m = 0) := Lib.hid (by unfold mayPutV; rw [if_neg (by rw [hf]; simp), if_neg (by simpa using hd), if_neg hm])
        have q1 : decide ((1024 : Int) < (m : Int)) = false := decide_eq_false (by omega)
        have q2 : ¬ (1024 : Int) < (m : Int) := by omega
        rw [← hd] at s0
        clear hf hd hm
        go_enter Tryz.func51, Tryz.ntmps51
        go_wp2_with fail
        refine TH.out.mono ?_
        rintro _ w1 ⟨rfl, hw⟩
        subst w1
        generalize w.alloc (.cells #[.int .u64 key, .slice a1 n d1, .slice a2 m d2] tIt) = w1 at *
        go_upto_region 3 with fail
        go_quiet (fail)
        go_wp2_with fail
        go_ret
        exact ⟨by rw [HR.out]; rfl, ((Only.refl [] w1).drewN _ |>.toBelow B0.out.size (by simp)) |> B0.out.trans⟩
    · have HR : Hid (mayPutV D t n m = 9) := Lib.hid (by unfold mayPutV; rw [if_neg (by rw [hf]; simp), if_pos hd])
      have q1 : ((n : Int) == D.dim) = false := by simpa using hd
      have q2 : decide ((n : Int) = D.dim) = false := decide_eq_false hd
      generalize D.dim = dd at s0 q1 q2
      clear hf hd
      go_enter Tryz.func51, Tryz.ntmps51
      go_wp2_with fail
      refine TH.out.mono ?_
      rintro _ w1 ⟨rfl, hw⟩
      subst w1
      generalize w.alloc (.cells #[.int .u64 key, .slice a1 n d1, .slice a2 m d2] tIt) = w1 at *
      go_upto_region 3 with fail
      go_quiet (fail)
      go_wp2_with fail
      go_ret
      exact ⟨by rw [HR.out]; rfl, ((Only.refl [] w1).drewN _ |>.toBelow B0.out.size (by simp)) |> B0.out.trans⟩
end Go.Proofs.YtmbmkfhdiljalaaGreat
