/- Plain: rows of records; list (printed by gen_list.py). -/
import Derived.Test.YtmbmkfhdiljalaaGreatPlR
import Derived.Test.YtmbmkfhdiljalaaGreatPlQ
import Derived.Test.YtmbmkfhdiljalaaGreatMg14
import Derived.Test.YtmbmkfhdiljalaaGreatMg13
namespace Go.Proofs.YtmbmkfhdiljalaaGreat
open Go.RowKit Go.ChangeShapes Go.WideShapes Go.ChangeAt
set_option linter.unusedVariables false
set_option linter.unusedSimpArgs false

/-- A record that was copied. -/
structure It where
  key : Int
  vec : Sl
  tag : Sl
abbrev Rc := Int × List Int × List Int
def It.c (x : It) : Rc := (x.key, x.vec.xs, x.tag.xs)
def It.cells (x : It) : List Value := [.int .u64 x.key, x.vec.v, x.tag.v]
def It.bs (x : It) : List Nat := x.vec.bs ++ x.tag.bs
def itL (l : List It) : List Value := l.flatMap It.cells
theorem itL_append (a b : List It) : itL (a ++ b) = itL a ++ itL b := by simp [itL]
theorem itL_len (l : List It) : (itL l).length = l.length * 3 := by
  induction l with
  | nil => rfl
  | cons x l ih =>
    show (x.cells ++ itL l).length = _
    rw [List.length_append, ih]
    simp [It.cells]
    omega
theorem itL_get (l : List It) : ∀ (j : Nat) (x : It), l[j]? = some x → ∀ i, i < 3 → (itL l)[j * 3 + i]? = x.cells[i]? := by
  induction l with
  | nil => intro j x h; simp at h
  | cons y l ih =>
    intro j x h i hi
    show (y.cells ++ itL l)[j * 3 + i]? = _
    cases j with
    | zero =>
      simp only [List.getElem?_cons_zero, Option.some.injEq] at h
      subst h
      rw [List.getElem?_append_left (by simp [It.cells]; omega)]
      simp
    | succ j =>
      rw [List.getElem?_append_right (by simp [It.cells]; omega)]
      have e : (j + 1) * 3 + i - y.cells.length = j * 3 + i := by simp [It.cells]; omega
      rw [e]
      exact ih j x (by simpa using h) i hi
/-- A ROW OF RECORDS of the call's own, from B on. -/
structure ItsAt (w : World) (B : Nat) (v : Value) (its : List It) : Prop where
  own : w.ownsRow B tIt 3 v its.length (itL its)
  each : ∀ x ∈ its, SlAt .i32 w x.vec ∧ SlAt .u8 w x.tag
  ge : ∀ x ∈ its, ∀ b ∈ x.bs, B ≤ b
  ap : ∀ x ∈ its, ∀ b ∈ x.bs, v.ownBlock ≠ some b
theorem ItsAt.only {G : List Nat} {w w' : World} {B : Nat} {v : Value} {its : List It} (h : ItsAt w B v its) (k : Only G w w') (h1 : ∀ g, v.ownBlock = some g → g ∉ G) (h2 : ∀ x ∈ its, ∀ b ∈ x.bs, b ∉ G) : ItsAt w' B v its :=
  ⟨own_keep h.own fun g hg => k.block g (h.own.lt g hg).2 (h1 g hg), fun x hx => ⟨(h.each x hx).1.only k fun b hb => h2 x hx b (List.mem_append_left _ hb), (h.each x hx).2.only k fun b hb => h2 x hx b (List.mem_append_right _ hb)⟩, h.ge, h.ap⟩
theorem ItsAt.lt {w : World} {B : Nat} {v : Value} {its : List It} (h : ItsAt w B v its) : ∀ x ∈ its, ∀ b ∈ x.bs, b < w.heap.size := fun x hx b hb => by
  rcases List.mem_append.1 hb with hb | hb
  · exact (h.each x hx).1.lt b hb
  · exact (h.each x hx).2.lt b hb
theorem ItsAt.below {w w' : World} {B : Nat} {v : Value} {its : List It} (h : ItsAt w B v its) (k : Below w.heap.size w w') : ItsAt w' B v its :=
  h.only ((Only.refl [] w).below k) (by simp) (by simp)
theorem infoIt : (Tryz.prog.info? tIt).map (fun i => (i.zero, i.size, i.bytes)) = some (some (.agg #[.int .u64 0, .slice none 0 0, .slice none 0 0]), 3, 56) := by kernel_rfl
/-- What a version shows. -/
def visC (r : Option Ver) : Option Rc := match r with
  | some v => if v.gone then none else some (v.key, v.vec.xs, v.tag.xs)
  | none => none
theorem visC_none {r : Option Ver} (h : visC r = none) : okV r = false := by
  cases r with
  | none => rfl
  | some v =>
    unfold visC at h
    simp only at h
    split at h
    · rename_i hg; simp [okV, hg]
    · cases h
theorem visC_some {r : Option Ver} {c : Rc} (h : visC r = some c) : ∃ v, r = some v ∧ v.gone = false ∧ c = (v.key, v.vec.xs, v.tag.xs) := by
  cases r with
  | none => cases h
  | some v =>
    unfold visC at h
    simp only at h
    split at h
    · cases h
    · rename_i hg
      exact ⟨v, rfl, by simpa using hg, by simpa using h.symm⟩
/-- A row of keys. -/
def KeysAt (w : World) (a : Option Addr) (zs : List Int) : Prop := zs = [] ∨ ∃ g, a = some ⟨g, 0, none⟩ ∧ ∀ k, k < zs.length → w.cell? ⟨g, k, none⟩ = some (.int .u64 (zs[k]?.getD 0))
theorem KeysAt.below {w w' : World} {a : Option Addr} {zs : List Int} (h : KeysAt w a zs) (k : Below w.heap.size w w') : KeysAt w' a zs := by
  rcases h with h | ⟨g, e, h⟩
  · exact .inl h
  · refine .inr ⟨g, e, fun j hj => ?_⟩
    have hc := h j hj
    rw [k.cell (World.block_lt_of_cell? w _ hc)]
    exact hc
def CompTo2 (B : Nat) (ys : List Int) (w : World) (e : Ending) (w' : World) : Prop := ∃ (a : Option Addr) (c : Nat) (zs : List Int), e = .returned (.slice a zs.length c) ∧ zs.Pairwise (· < ·) ∧ (∀ x, x ∈ zs ↔ x ∈ ys) ∧ KeysAt w' a zs ∧ Below B w w' ∧ zs.length ≤ ys.length
theorem compact_any {B : Nat} {v : Value} {ys : List Int} {w : World} (hB : B ≤ w.heap.size) (h : w.ownsRow B 30 1 v ys.length (ys.map (Value.int .u64))) (hs : ys.Pairwise (· ≤ ·)) (hn : ys.length ≤ 1000000) :
    Calls Tryz.prog 75 #[v] w (CompTo2 B ys w) := by
  have h0 := h
  rcases h.2 with ⟨rfl, hz⟩ | ⟨g, cap, cur, rfl, hb, hg, hc, hm, hcs, ht⟩
  · have hx : ys = [] := List.length_eq_zero_iff.1 hz
    subst hx
    have C : Calls Tryz.prog 75 #[.slice none 0 0] w (fun e w' => e = .returned (.slice none 0 0) ∧ w' = w) := by
      go_enter Tryz.func75, Tryz.ntmps75
      go_wp2_with fail
      go_ret
      exact ⟨rfl, rfl⟩
    refine C.mono ?_
    rintro e w' ⟨he, rfl⟩
    exact ⟨none, 0, [], he, List.Pairwise.nil, fun x => Iff.rfl, .inl rfl, Below.refl _ _, Nat.le_refl _⟩
  · have hu : UA w B g cap ys.length ys.toArray := by unfold UA; simpa using h0
    have hsort : ∀ i j, i < j → j < ys.length → ys.toArray[i]! ≤ ys.toArray[j]! := fun i j hij hj => by
      rw [getElem!_pos ys.toArray i (by simp; omega), getElem!_pos ys.toArray j (by simpa using hj)]
      simpa using List.pairwise_iff_getElem.1 hs i j (by omega) hj hij
    refine (compact_arr hn hu hsort).mono ?_
    rintro e w' ⟨m, c, zs, he, hl, hp, hmem, hcell, ho, hmn⟩
    refine ⟨some ⟨g, 0, none⟩, c, zs, by rw [he, hl], hp, fun x => ?_, .inr ⟨g, rfl, fun k hk => hcell k (by omega)⟩, ho.toBelow hB (by simpa using hu.ge), by omega⟩
    rw [hmem x, List.mem_iff_getElem]
    constructor
    · rintro ⟨k, hk, he⟩
      rw [getElem!_pos ys.toArray k (by simpa using hk)] at he
      exact ⟨k, hk, by simpa using he⟩
    · rintro ⟨k, hk, he⟩
      exact ⟨k, hk, by rw [getElem!_pos ys.toArray k (by simpa using hk)]; simpa using he⟩
def ListTo (all more : List Int) (r : Int → Option Ver) (w : World) (e : Ending) (w' : World) : Prop := ∃ (v : Value) (its : List It) (zs : List Int), e = .returned v ∧ ItsAt w' w.heap.size v its ∧ its.map It.c = zs.filterMap (fun k => visC (r k)) ∧ zs.Pairwise (· < ·) ∧ (∀ x, x ∈ zs ↔ x ∈ all ∨ x ∈ more) ∧ its.length ≤ 1000000 ∧ Below w.heap.size w w'
theorem take_filter {zs : List Int} {k : Nat} {z : Int} (f : Int → Option Rc) (h : zs[k]? = some z) : (zs.take (k + 1)).filterMap f = (zs.take k).filterMap f ++ (f z).toList := by
  have hk := (List.getElem?_eq_some_iff.1 h).1
  rw [List.take_succ_eq_append_getElem hk, List.filterMap_append]
  have e : zs[k] = z := by rw [List.getElem?_eq_getElem hk] at h; simpa using h
  rw [e]
  cases hf : f z <;> simp [hf]

set_option maxRecDepth 100000 in
set_option maxHeartbeats 16000000 in
theorem list_all {w : World} {B p ba bo : Nat} {D : PDB} (h : DbAt w B p ba bo D) {bx : Nat} {mv : Option Nat} {M : List (Int × Value)} (hM : MapV w (.map mv) .u64 M) {r : Int → Option Ver} (hn : D.all.length + M.length ≤ 1000000)
    (hr : ∀ k v, r k = some v → VerAt w v) (LKh : ∀ y k, Below w.heap.size w y → Calls Tryz.prog 45 #[.int .u64 k, .pointer (some ⟨bx, 0, none⟩)] y (AsOfTo (r k) y)) :
    Calls Tryz.prog 44 #[.pointer (some ⟨p, 0, none⟩), .func (.func 45) #[] #[.pointer (some ⟨bx, 0, none⟩)], .map mv] w (ListTo (D.all.map (·.1)) (M.map (·.1)) r w) := by
  obtain ⟨i0, hi, hz0, hz1, hz2⟩ := info_parts infoIt
  have LK := Lib.hid LKh
  have HR := Lib.hid hr
  have HN := Lib.hid hn
  have HM := Lib.hid hM
  have HA := Lib.hid h.am
  have c3 : w.cell? ⟨p, 3, none⟩ = some (.map (some ba)) := h.row.cell 3
  clear h hr hn LKh hM
  unfold AsOfTo at LK
  go_enter Tryz.func44, Tryz.ntmps44
  go_wp2_with fail
  refine (keys_vs_any _ _).mono ?_
  rintro _ w1 ⟨rfl, hw1⟩
  have B1 : Hid (Below w.heap.size w w1) := Lib.hid (by subst hw1; exact (Below.refl _ _).alloc (Nat.le_refl _) _)
  have C : Hid (Calls Tryz.prog 70 #[.func (.func 85) #[] #[.pointer (some ⟨w.heap.size, 0, none⟩)]] w1 (AppTo (fun ys => ys.Perm ((vsL D.all).map (·.1))) w1.heap.size [] (.slice none 0 0) w1)) := Lib.hid (by
    have hrow : Row w1 w.heap.size #[.map (some ba)] tMvs := by subst hw1; exact Row.made _ _ _
    exact collect_any w1 (keys_stops_vs 3 (by omega) w.heap.size (.map (some ba)) (vsL D.all) w1 hrow.lt (hrow.cell 0) (.inr ⟨ba, rfl, HA.out.only ((Only.refl [] w).below B1.out) (by simp)⟩)) keys_vs_enters (by have := HN.out; simp [vsL]; omega))
  clear hw1 c3
  unfold AppTo at C
  go_wp2_with fail
  refine C.out.mono ?_
  rintro _ w2 ⟨ks, v2, hp2, rfl, ho2, _, hb⟩
  have B2 : Hid (Below w.heap.size w w2) := Lib.hid (B1.out.trans (hb.mono B1.out.size))
  have P2 : Hid (ks.Perm (D.all.map (·.1)) ∧ ks.length = D.all.length) := Lib.hid (by
    have : (vsL D.all).map (·.1) = D.all.map (·.1) := by simp [vsL]
    rw [this] at hp2
    exact ⟨hp2, by have := hp2.length_eq; simpa using this⟩)
  have O2 : Hid (w2.ownsRow w.heap.size tU 1 v2 ks.length (ks.map (Value.int .u64))) := Lib.hid (own_mono (by simpa using ho2) B1.out.size)
  obtain ⟨p2, n2, c2, rfl⟩ : ∃ p n c, v2 = .slice p n c := by obtain ⟨a, b, e, _⟩ := own_shape ho2; exact ⟨_, _, _, e⟩
  clear hb C ho2 hp2
  go_wp2_with fail
  refine (keys_vr_any _ _).mono ?_
  rintro _ w3 ⟨rfl, hw3⟩
  have B3 : Hid (Below w.heap.size w w3) := Lib.hid (by subst hw3; exact B2.out.trans ((Below.refl _ _).alloc B2.out.size _))
  have C : Hid (Calls Tryz.prog 72 #[.slice p2 n2 c2, .func (.func 86) #[] #[.pointer (some ⟨w2.heap.size, 0, none⟩)]] w3 (AppTo (fun ys => ys.Perm (M.map (·.1))) w.heap.size ks (.slice p2 n2 c2) w3)) := Lib.hid (by
    have hrow : Row w3 w2.heap.size #[.map mv] tMvr := by subst hw3; exact Row.made _ _ _
    have ho3 : w3.ownsRow w.heap.size tU 1 (.slice p2 n2 c2) ks.length (ks.map (Value.int .u64)) := by subst hw3; exact O2.out.alloc _
    exact callsIn_wide.1 (appendSeq_in 4 (by omega) w.heap.size ks p2 n2 c2 w3 B3.out.size ho3 (keys_stops_vr 3 (by omega) w2.heap.size (.map mv) M w3 hrow.lt (hrow.cell 0) (HM.out.only ((Only.refl [] w).below B3.out) (by simp))) keys_vr_enters (by have := HN.out; have := P2.out.2; omega)))
  clear hw3
  unfold AppTo at C
  go_wp2_with fail
  refine C.out.mono ?_
  rintro _ w4 ⟨ms, v4, hp4, rfl, ho4, _, hb⟩
  have B4 : Hid (Below w.heap.size w w4) := Lib.hid (B3.out.trans (hb.mono (Nat.le_refl _)))
  have P4 : Hid (ms.Perm (M.map (·.1)) ∧ ms.length = M.length) := Lib.hid ⟨hp4, by have := hp4.length_eq; simpa using this⟩
  have O4 : Hid (w4.ownsRow w.heap.size tU 1 v4 (ks ++ ms).length ((ks ++ ms).map (Value.int .u64))) := Lib.hid (by simpa using ho4)
  have S := Lib.hid (sort_any B4.out.size O4.out (by have := HN.out; have := P4.out.2; have := P2.out.2; simp; omega))
  unfold SortTo at S
  obtain ⟨p4, n4, c4, rfl⟩ : ∃ p n c, v4 = .slice p n c := by obtain ⟨a, b, e, _⟩ := own_shape ho4; exact ⟨_, _, _, e⟩
  clear hb C ho4 hp4 O2
  go_wp2_with fail
  refine S.out.mono ?_
  rintro _ w5 ⟨rfl, ys, hp5, hs5, ho5, hb⟩
  have B5 : Hid (Below w.heap.size w w5) := Lib.hid (B4.out.trans hb)
  have hl5 : ys.length = (ks ++ ms).length := hp5.length_eq
  have P5 : Hid (∀ x, x ∈ ys ↔ x ∈ D.all.map (·.1) ∨ x ∈ M.map (·.1)) := Lib.hid (fun x => by rw [hp5.mem_iff, List.mem_append, P2.out.1.mem_iff, P4.out.1.mem_iff])
  have L5 : Hid (ys.length ≤ 1000000) := Lib.hid (by have := HN.out; have := P4.out.2; have := P2.out.2; simp at hl5; omega)
  have C := Lib.hid (compact_any (ys := ys) B5.out.size (by rw [hl5]; exact ho5) hs5 L5.out)
  unfold CompTo2 at C
  clear hb S hp5 hs5 ho5 O4 P2 P4 hl5
  go_wp2_with fail
  refine C.out.mono ?_
  rintro _ w6 ⟨a6, c6, zs, rfl, hz, hm, hk, hb, hle⟩
  have B6 : Hid (Below w.heap.size w w6) := Lib.hid (B5.out.trans hb)
  have ZS : Hid (zs.Pairwise (· < ·) ∧ ∀ x, x ∈ zs ↔ x ∈ D.all.map (·.1) ∨ x ∈ M.map (·.1)) := Lib.hid ⟨hz, fun x => (hm x).trans (P5.out x)⟩
  have KA := Lib.hid hk
  obtain ⟨m, hmm⟩ : ∃ m, zs.length = m := ⟨_, rfl⟩
  have LM := Lib.hid hmm
  have LM2 : Hid (m ≤ 1000000) := Lib.hid (by have := L5.out; omega)
  have I0 : Hid (ItsAt w6 w.heap.size (.slice none 0 0) []) := Lib.hid ⟨World.ownsRow_nil _ _ _ _, by simp, by simp, by simp⟩
  rw [hmm]
  clear hz hm hk hb hle C P5 L5 hmm
  go_wp2_with fail
  go_loopw [8, 28] (fun u8 u28 wr => ∃ (k : Nat) (pv : Option Addr) (nv cv : Nat), (u8 = .slice pv nv cv ∧ u28 = .int .i64 (k : Int)) ∧ Hid (k ≤ m) ∧ Hid (∃ its, ItsAt wr w.heap.size (.slice pv nv cv) its ∧ its.map It.c = (zs.take k).filterMap (fun k => visC (r k))) ∧ Hid (Below w6.heap.size w6 wr ∧ ∀ g, (Value.slice pv nv cv).ownBlock = some g → w6.heap.size ≤ g)) (fun _ u _ => m - (intOf u).toNat)
  case atStart => exact ⟨0, none, 0, 0, ⟨rfl, rfl⟩, Lib.hid (Nat.zero_le _), Lib.hid ⟨[], I0.out, by simp⟩, Lib.hid ⟨Below.refl _ _, fun g hg => by simp [Value.ownBlock] at hg⟩⟩
  case round =>
    obtain ⟨k, pv, nv, cv, ⟨rfl, rfl⟩, HK, hI, HB0⟩ := hrel
    have HB : Hid (KeysAt wr a6 zs ∧ Below w.heap.size w wr) := Lib.hid ⟨KA.out.below HB0.out.1, B6.out.trans (HB0.out.1.mono B6.out.size)⟩
    clear I0
    obtain ⟨its, hi1, hi2⟩ := hI.out
    have HI := Lib.hid hi1
    have HC := Lib.hid hi2
    clear hi1 hi2 hI
    by_cases hk : k < m
    · have d1 : decide ((k : Int) < (m : Int)) = true := decide_eq_true (by omega)
      have d1' : decide (k < m) = true := decide_eq_true hk
      have km := hk
      have e1 : IntKind.i64.wrap ((k : Int) + 1) = ((k + 1 : Nat) : Int) := w_inc _ (by have := LM2.out; omega)
      obtain ⟨z, hz⟩ : ∃ z, zs[k]? = some z := ⟨_, List.getElem?_eq_getElem (by rw [LM.out]; exact hk)⟩
      have HZ := Lib.hid hz
      obtain ⟨g6, rfl, hg⟩ := HB.out.1.resolve_left (by intro e; rw [e] at hz; simp at hz)
      have c1 : wr.cell? ⟨g6, k, none⟩ = some (.int .u64 z) := by rw [hg k (by rw [LM.out]; exact hk), hz]; rfl
      have LK1 := Lib.hid (LK.out wr z HB.out.2)
      clear hg hz hk
      cases hv : visC (r z) with
      | none =>
        have HV := Lib.hid hv
        have hok := visC_none hv
        obtain ⟨q, b1, m1, d1, b2, m2, d2, hit⟩ := itemV_shape (r z)
        rw [hok, hit] at LK1
        clear hok hit hv
        go_wp2_with fail
        refine LK1.out.mono ?_
        rintro _ w7 ⟨rfl, hb⟩
        have B7 : Hid (Below wr.heap.size wr (w7.alloc (.cells #[.int .u64 q, .slice b1 m1 d1, .slice b2 m2 d2] tIt))) := Lib.hid (hb.alloc hb.size _)
        clear hb LK1 c1
        go_wp2_with fail
        generalize w7.alloc (.cells #[.int .u64 q, .slice b1 m1 d1, .slice b2 m2 d2] tIt) = w8 at *
        go_roundw
        case rel => exact ⟨k + 1, pv, nv, cv, ⟨rfl, by go_num⟩, Lib.hid (by omega), Lib.hid ⟨its, HI.out.below B7.out, by rw [take_filter _ HZ.out, HV.out, HC.out]; simp⟩, Lib.hid ⟨HB0.out.1.trans (B7.out.mono HB0.out.1.size), HB0.out.2⟩⟩
        case measure => simp [intOf]; omega
      | some cc =>
        obtain ⟨v, hrv, hg, hcc⟩ := visC_some hv
        have HV : Hid (visC (r z) = some (v.key, v.vec.xs, v.tag.xs)) := Lib.hid (by rw [hv, hcc])
        have VA := Lib.hid ((HR.out z v hrv).only ((Only.refl [] w).below HB.out.2) (by simp))
        rw [show itemV (r z) = #[.int .u64 v.key, v.vec.v, v.tag.v] by rw [hrv]; rfl, show okV (r z) = true by rw [hrv]; simp [okV, hg]] at LK1
        clear hv hrv hg hcc cc
        unfold Sl.v at LK1
        go_wp2_with fail
        refine LK1.out.mono ?_
        rintro _ w7 ⟨rfl, hb⟩
        have K7 : Hid (Only [] wr (w7.alloc (.cells #[.int .u64 v.key, .slice v.vec.a v.vec.xs.length v.vec.c, .slice v.tag.a v.tag.xs.length v.tag.c] tIt))) := Lib.hid (((Only.refl [] wr).below hb).alloc _)
        have S7 := Lib.hid hb.size
        have R7 := Lib.hid (Row.made w7 #[.int .u64 v.key, .slice v.vec.a v.vec.xs.length v.vec.c, .slice v.tag.a v.tag.xs.length v.tag.c] tIt)
        clear hb LK1 c1
        go_upto_region 10 with fail
        generalize hw8 : w7.alloc (.cells #[.int .u64 v.key, .slice v.vec.a v.vec.xs.length v.vec.c, .slice v.tag.a v.tag.xs.length v.tag.c] tIt) = w8 at *
        clear hw8
        have x0 : w8.cell? ⟨w7.heap.size, 0, none⟩ = some (.int .u64 v.key) := R7.out.cell 0
        have x1 : w8.cell? ⟨w7.heap.size, 1, none⟩ = some (.slice v.vec.a v.vec.xs.length v.vec.c) := R7.out.cell 1
        have x2 : w8.cell? ⟨w7.heap.size, 2, none⟩ = some (.slice v.tag.a v.tag.xs.length v.tag.c) := R7.out.cell 2
        have OW := Lib.hid (own_on (key := v.key) (VA.out.vec.only K7.out (by simp)).rd (VA.out.tag.only K7.out (by simp)).rd)
        unfold OwnTo at OW
        unfold Sl.v at OW
        go_wp2_with fail
        refine OW.out.mono ?_
        rintro _ w9 ⟨s1, s2, rfl, x3, x4, m1, m2, fr, hb⟩
        have K9 : Hid (Only [] wr w9) := Lib.hid (K7.out.below hb)
        have I9 : Hid (ItsAt w9 w.heap.size (.slice pv nv cv) its) := Lib.hid (HI.out.only K9.out (by simp) (by simp))
        have NS : Hid (SlAt .i32 w9 s1 ∧ SlAt .u8 w9 s2) := Lib.hid ⟨m1, m2⟩
        have FR : Hid (∀ b ∈ s1.bs ++ s2.bs, wr.heap.size ≤ b) := Lib.hid (fun b hb' => Nat.le_trans K7.out.size (fr b hb'))
        have EX : Hid (s1.xs = v.vec.xs ∧ s2.xs = v.tag.xs) := Lib.hid ⟨x3, x4⟩
        have IL : Hid (its.length ≤ 1000000) := Lib.hid (by
          have h1 := congrArg List.length HC.out
          have h2 := List.length_filterMap_le (fun k => visC (r k)) (zs.take k)
          have h3 : (zs.take k).length ≤ zs.length := by simp; omega
          have := LM.out
          have := LM2.out
          simp only [List.length_map] at h1
          omega)
        clear hb m1 m2 fr x0 x1 x2 x3 x4 OW
        go_wp2_with (at_builtin; refine wpList_append_at rfl (.tmp 39) (.tmp 42) 44 rfl w.heap.size tIt i0 _ 3 56 Tryz.underlying44 hi hz0 hz1 hz2 rfl (by decide) (.slice pv nv cv) its.length (itL its) rfl (I9.out.own.alloc _) ⟨w9.heap.size, 0, none⟩ 1 1 [.int .u64 v.key, s1.v, s2.v] rfl rfl ?cells (by intro u hu; simp at hu; rcases hu with rfl | rfl | rfl <;> simp [Value.oneCell', Sl.v]) (by have := IL.out; unfold maxLen; omega) (by have := IL.out; omega) (by have := K9.out.size; have := HB.out.2.size; simp; omega) ?more)
        case cells =>
          intro j u hj
          have hr := Row.made w9 #[.int .u64 v.key, s1.v, s2.v] tIt
          rw [add_plain, Nat.zero_add]
          exact (hr.cell j).trans (by simpa using hj)
        case more =>
          intro v' w10 hown' hgrow hfr
          have hsh := own_shape hown'
          obtain ⟨p', c', rfl, _⟩ := hsh
          have hgs := hgrow.size
          have KG : Hid (Only ((Value.slice pv nv cv).ownBlock.toList) w9 w10) := Lib.hid (((Only.refl _ w9).alloc _).grown hgrow (fun b hb => .inl (by rw [hb]; simp)))
          have hlt9 : ∀ b, b ∈ s1.bs ++ s2.bs → b < w9.heap.size := fun b hb => by
            rcases List.mem_append.1 hb with hb | hb
            · exact NS.out.1.lt b hb
            · exact NS.out.2.lt b hb
          have hob : ∀ g, (Value.slice pv nv cv).ownBlock = some g → g < wr.heap.size := fun g hg => (HI.out.own.lt g hg).2
          have NI : Hid (ItsAt w10 w.heap.size (.slice p' (its.length + 1) c') (its ++ [⟨v.key, s1, s2⟩])) := Lib.hid (by
            have hnot : ∀ x ∈ its ++ [(⟨v.key, s1, s2⟩ : It)], ∀ b ∈ x.bs, b ∉ (Value.slice pv nv cv).ownBlock.toList := by
              intro x hx b hb hmem
              simp only [Option.mem_toList] at hmem
              rcases List.mem_append.1 hx with hx | hx
              · exact HI.out.ap x hx b hb hmem
              · simp only [List.mem_singleton] at hx
                subst hx
                have := FR.out b hb
                have := hob b hmem
                omega
            refine ⟨by simpa [itL_append, itL, It.cells] using hown', ?_, ?_, ?_⟩
            · intro x hx
              have hn := hnot x hx
              rcases List.mem_append.1 hx with hx | hx
              · exact ⟨(I9.out.each x hx).1.only KG.out fun b hb => hn b (List.mem_append_left _ hb), (I9.out.each x hx).2.only KG.out fun b hb => hn b (List.mem_append_right _ hb)⟩
              · simp only [List.mem_singleton] at hx
                subst hx
                exact ⟨NS.out.1.only KG.out fun b hb => hn b (List.mem_append_left _ hb), NS.out.2.only KG.out fun b hb => hn b (List.mem_append_right _ hb)⟩
            · intro x hx b hb
              rcases List.mem_append.1 hx with hx | hx
              · exact HI.out.ge x hx b hb
              · simp only [List.mem_singleton] at hx
                subst hx
                have := FR.out b hb
                have := HB.out.2.size
                omega
            · intro x hx b hb he
              rcases hfr with h1 | h1
              · rw [h1] at he
                exact hnot x hx b hb (by rw [he]; simp)
              · have h2 := h1 b he
                try simp only [World.size_alloc] at h2
                rcases List.mem_append.1 hx with hx | hx
                · have := I9.out.lt x hx b hb; omega
                · simp only [List.mem_singleton] at hx
                  subst hx
                  have := hlt9 b hb
                  omega)
          have BB : Hid (Below w6.heap.size w6 w10 ∧ ∀ g, (Value.slice p' (its.length + 1) c').ownBlock = some g → w6.heap.size ≤ g) := Lib.hid ⟨HB0.out.1.trans ((K9.out.toBelow HB0.out.1.size (by simp)).trans (KG.out.toBelow (by have := K9.out.size; have := HB0.out.1.size; omega) (by
            intro b hb
            simp only [Option.mem_toList] at hb
            exact HB0.out.2 b hb))), fun g hg => by
              rcases hfr with h1 | h1
              · rw [h1] at hg
                exact HB0.out.2 g hg
              · have h2 := h1 g hg
                try simp only [World.size_alloc] at h2
                have := K9.out.size
                have := HB0.out.1.size
                omega⟩
          clear hown' hgrow hfr hgs hlt9 hob
          go_wp2_with fail
          go_roundw
          case rel => exact ⟨k + 1, p', its.length + 1, c', ⟨rfl, by go_num⟩, Lib.hid (by omega), Lib.hid ⟨_, NI.out, by rw [take_filter _ HZ.out, HV.out, List.map_append, HC.out, ← EX.out.1, ← EX.out.2]; rfl⟩, BB⟩
          case measure => simp [intOf]; omega
    · have d1 : decide ((k : Int) < (m : Int)) = false := decide_eq_false (by omega)
      have d1' : decide (k < m) = false := decide_eq_false hk
      have HKm : Hid (zs.take k = zs) := Lib.hid (List.take_of_length_le (by rw [LM.out]; omega))
      clear hk
      go_wp2_with fail
      go_ret
      exact ⟨_, its, zs, rfl, HI.out, by rw [HC.out, HKm.out], ZS.out.1, ZS.out.2, by
        have h1 := congrArg List.length HC.out
        have h2 := List.length_filterMap_le (fun k => visC (r k)) (zs.take k)
        have h3 : (zs.take k).length ≤ zs.length := by simp; omega
        have := LM.out
        have := LM2.out
        simp only [List.length_map] at h1
        omega, HB.out.2⟩

set_option maxRecDepth 100000 in
set_option maxHeartbeats 16000000 in
theorem list_seen {w : World} {B p ba bo : Nat} {D : PDB} (h : DbAt w B p ba bo D) {bx cx : Nat} {mv : Option Nat} {M : List (Int × Value)} (hM : MapV w (.map mv) .u64 M) {r : Int → Option Ver} (hn : D.all.length + M.length ≤ 1000000)
    (hr : ∀ k v, r k = some v → VerAt w v) (LKh : ∀ y k, Below w.heap.size w y → Calls Tryz.prog 82 #[.int .u64 k, .pointer (some ⟨bx, 0, none⟩), .pointer (some ⟨cx, 0, none⟩)] y (AsOfTo (r k) y)) :
    Calls Tryz.prog 44 #[.pointer (some ⟨p, 0, none⟩), .func (.func 82) #[] #[.pointer (some ⟨bx, 0, none⟩), .pointer (some ⟨cx, 0, none⟩)], .map mv] w (ListTo (D.all.map (·.1)) (M.map (·.1)) r w) := by
  obtain ⟨i0, hi, hz0, hz1, hz2⟩ := info_parts infoIt
  have LK := Lib.hid LKh
  have HR := Lib.hid hr
  have HN := Lib.hid hn
  have HM := Lib.hid hM
  have HA := Lib.hid h.am
  have c3 : w.cell? ⟨p, 3, none⟩ = some (.map (some ba)) := h.row.cell 3
  clear h hr hn LKh hM
  unfold AsOfTo at LK
  go_enter Tryz.func44, Tryz.ntmps44
  go_wp2_with fail
  refine (keys_vs_any _ _).mono ?_
  rintro _ w1 ⟨rfl, hw1⟩
  have B1 : Hid (Below w.heap.size w w1) := Lib.hid (by subst hw1; exact (Below.refl _ _).alloc (Nat.le_refl _) _)
  have C : Hid (Calls Tryz.prog 70 #[.func (.func 85) #[] #[.pointer (some ⟨w.heap.size, 0, none⟩)]] w1 (AppTo (fun ys => ys.Perm ((vsL D.all).map (·.1))) w1.heap.size [] (.slice none 0 0) w1)) := Lib.hid (by
    have hrow : Row w1 w.heap.size #[.map (some ba)] tMvs := by subst hw1; exact Row.made _ _ _
    exact collect_any w1 (keys_stops_vs 3 (by omega) w.heap.size (.map (some ba)) (vsL D.all) w1 hrow.lt (hrow.cell 0) (.inr ⟨ba, rfl, HA.out.only ((Only.refl [] w).below B1.out) (by simp)⟩)) keys_vs_enters (by have := HN.out; simp [vsL]; omega))
  clear hw1 c3
  unfold AppTo at C
  go_wp2_with fail
  refine C.out.mono ?_
  rintro _ w2 ⟨ks, v2, hp2, rfl, ho2, _, hb⟩
  have B2 : Hid (Below w.heap.size w w2) := Lib.hid (B1.out.trans (hb.mono B1.out.size))
  have P2 : Hid (ks.Perm (D.all.map (·.1)) ∧ ks.length = D.all.length) := Lib.hid (by
    have : (vsL D.all).map (·.1) = D.all.map (·.1) := by simp [vsL]
    rw [this] at hp2
    exact ⟨hp2, by have := hp2.length_eq; simpa using this⟩)
  have O2 : Hid (w2.ownsRow w.heap.size tU 1 v2 ks.length (ks.map (Value.int .u64))) := Lib.hid (own_mono (by simpa using ho2) B1.out.size)
  obtain ⟨p2, n2, c2, rfl⟩ : ∃ p n c, v2 = .slice p n c := by obtain ⟨a, b, e, _⟩ := own_shape ho2; exact ⟨_, _, _, e⟩
  clear hb C ho2 hp2
  go_wp2_with fail
  refine (keys_vr_any _ _).mono ?_
  rintro _ w3 ⟨rfl, hw3⟩
  have B3 : Hid (Below w.heap.size w w3) := Lib.hid (by subst hw3; exact B2.out.trans ((Below.refl _ _).alloc B2.out.size _))
  have C : Hid (Calls Tryz.prog 72 #[.slice p2 n2 c2, .func (.func 86) #[] #[.pointer (some ⟨w2.heap.size, 0, none⟩)]] w3 (AppTo (fun ys => ys.Perm (M.map (·.1))) w.heap.size ks (.slice p2 n2 c2) w3)) := Lib.hid (by
    have hrow : Row w3 w2.heap.size #[.map mv] tMvr := by subst hw3; exact Row.made _ _ _
    have ho3 : w3.ownsRow w.heap.size tU 1 (.slice p2 n2 c2) ks.length (ks.map (Value.int .u64)) := by subst hw3; exact O2.out.alloc _
    exact callsIn_wide.1 (appendSeq_in 4 (by omega) w.heap.size ks p2 n2 c2 w3 B3.out.size ho3 (keys_stops_vr 3 (by omega) w2.heap.size (.map mv) M w3 hrow.lt (hrow.cell 0) (HM.out.only ((Only.refl [] w).below B3.out) (by simp))) keys_vr_enters (by have := HN.out; have := P2.out.2; omega)))
  clear hw3
  unfold AppTo at C
  go_wp2_with fail
  refine C.out.mono ?_
  rintro _ w4 ⟨ms, v4, hp4, rfl, ho4, _, hb⟩
  have B4 : Hid (Below w.heap.size w w4) := Lib.hid (B3.out.trans (hb.mono (Nat.le_refl _)))
  have P4 : Hid (ms.Perm (M.map (·.1)) ∧ ms.length = M.length) := Lib.hid ⟨hp4, by have := hp4.length_eq; simpa using this⟩
  have O4 : Hid (w4.ownsRow w.heap.size tU 1 v4 (ks ++ ms).length ((ks ++ ms).map (Value.int .u64))) := Lib.hid (by simpa using ho4)
  have S := Lib.hid (sort_any B4.out.size O4.out (by have := HN.out; have := P4.out.2; have := P2.out.2; simp; omega))
  unfold SortTo at S
  obtain ⟨p4, n4, c4, rfl⟩ : ∃ p n c, v4 = .slice p n c := by obtain ⟨a, b, e, _⟩ := own_shape ho4; exact ⟨_, _, _, e⟩
  clear hb C ho4 hp4 O2
  go_wp2_with fail
  refine S.out.mono ?_
  rintro _ w5 ⟨rfl, ys, hp5, hs5, ho5, hb⟩
  have B5 : Hid (Below w.heap.size w w5) := Lib.hid (B4.out.trans hb)
  have hl5 : ys.length = (ks ++ ms).length := hp5.length_eq
  have P5 : Hid (∀ x, x ∈ ys ↔ x ∈ D.all.map (·.1) ∨ x ∈ M.map (·.1)) := Lib.hid (fun x => by rw [hp5.mem_iff, List.mem_append, P2.out.1.mem_iff, P4.out.1.mem_iff])
  have L5 : Hid (ys.length ≤ 1000000) := Lib.hid (by have := HN.out; have := P4.out.2; have := P2.out.2; simp at hl5; omega)
  have C := Lib.hid (compact_any (ys := ys) B5.out.size (by rw [hl5]; exact ho5) hs5 L5.out)
  unfold CompTo2 at C
  clear hb S hp5 hs5 ho5 O4 P2 P4 hl5
  go_wp2_with fail
  refine C.out.mono ?_
  rintro _ w6 ⟨a6, c6, zs, rfl, hz, hm, hk, hb, hle⟩
  have B6 : Hid (Below w.heap.size w w6) := Lib.hid (B5.out.trans hb)
  have ZS : Hid (zs.Pairwise (· < ·) ∧ ∀ x, x ∈ zs ↔ x ∈ D.all.map (·.1) ∨ x ∈ M.map (·.1)) := Lib.hid ⟨hz, fun x => (hm x).trans (P5.out x)⟩
  have KA := Lib.hid hk
  obtain ⟨m, hmm⟩ : ∃ m, zs.length = m := ⟨_, rfl⟩
  have LM := Lib.hid hmm
  have LM2 : Hid (m ≤ 1000000) := Lib.hid (by have := L5.out; omega)
  have I0 : Hid (ItsAt w6 w.heap.size (.slice none 0 0) []) := Lib.hid ⟨World.ownsRow_nil _ _ _ _, by simp, by simp, by simp⟩
  rw [hmm]
  clear hz hm hk hb hle C P5 L5 hmm
  go_wp2_with fail
  go_loopw [8, 28] (fun u8 u28 wr => ∃ (k : Nat) (pv : Option Addr) (nv cv : Nat), (u8 = .slice pv nv cv ∧ u28 = .int .i64 (k : Int)) ∧ Hid (k ≤ m) ∧ Hid (∃ its, ItsAt wr w.heap.size (.slice pv nv cv) its ∧ its.map It.c = (zs.take k).filterMap (fun k => visC (r k))) ∧ Hid (Below w6.heap.size w6 wr ∧ ∀ g, (Value.slice pv nv cv).ownBlock = some g → w6.heap.size ≤ g)) (fun _ u _ => m - (intOf u).toNat)
  case atStart => exact ⟨0, none, 0, 0, ⟨rfl, rfl⟩, Lib.hid (Nat.zero_le _), Lib.hid ⟨[], I0.out, by simp⟩, Lib.hid ⟨Below.refl _ _, fun g hg => by simp [Value.ownBlock] at hg⟩⟩
  case round =>
    obtain ⟨k, pv, nv, cv, ⟨rfl, rfl⟩, HK, hI, HB0⟩ := hrel
    have HB : Hid (KeysAt wr a6 zs ∧ Below w.heap.size w wr) := Lib.hid ⟨KA.out.below HB0.out.1, B6.out.trans (HB0.out.1.mono B6.out.size)⟩
    clear I0
    obtain ⟨its, hi1, hi2⟩ := hI.out
    have HI := Lib.hid hi1
    have HC := Lib.hid hi2
    clear hi1 hi2 hI
    by_cases hk : k < m
    · have d1 : decide ((k : Int) < (m : Int)) = true := decide_eq_true (by omega)
      have d1' : decide (k < m) = true := decide_eq_true hk
      have km := hk
      have e1 : IntKind.i64.wrap ((k : Int) + 1) = ((k + 1 : Nat) : Int) := w_inc _ (by have := LM2.out; omega)
      obtain ⟨z, hz⟩ : ∃ z, zs[k]? = some z := ⟨_, List.getElem?_eq_getElem (by rw [LM.out]; exact hk)⟩
      have HZ := Lib.hid hz
      obtain ⟨g6, rfl, hg⟩ := HB.out.1.resolve_left (by intro e; rw [e] at hz; simp at hz)
      have c1 : wr.cell? ⟨g6, k, none⟩ = some (.int .u64 z) := by rw [hg k (by rw [LM.out]; exact hk), hz]; rfl
      have LK1 := Lib.hid (LK.out wr z HB.out.2)
      clear hg hz hk
      cases hv : visC (r z) with
      | none =>
        have HV := Lib.hid hv
        have hok := visC_none hv
        obtain ⟨q, b1, m1, d1, b2, m2, d2, hit⟩ := itemV_shape (r z)
        rw [hok, hit] at LK1
        clear hok hit hv
        go_wp2_with fail
        refine LK1.out.mono ?_
        rintro _ w7 ⟨rfl, hb⟩
        have B7 : Hid (Below wr.heap.size wr (w7.alloc (.cells #[.int .u64 q, .slice b1 m1 d1, .slice b2 m2 d2] tIt))) := Lib.hid (hb.alloc hb.size _)
        clear hb LK1 c1
        go_wp2_with fail
        generalize w7.alloc (.cells #[.int .u64 q, .slice b1 m1 d1, .slice b2 m2 d2] tIt) = w8 at *
        go_roundw
        case rel => exact ⟨k + 1, pv, nv, cv, ⟨rfl, by go_num⟩, Lib.hid (by omega), Lib.hid ⟨its, HI.out.below B7.out, by rw [take_filter _ HZ.out, HV.out, HC.out]; simp⟩, Lib.hid ⟨HB0.out.1.trans (B7.out.mono HB0.out.1.size), HB0.out.2⟩⟩
        case measure => simp [intOf]; omega
      | some cc =>
        obtain ⟨v, hrv, hg, hcc⟩ := visC_some hv
        have HV : Hid (visC (r z) = some (v.key, v.vec.xs, v.tag.xs)) := Lib.hid (by rw [hv, hcc])
        have VA := Lib.hid ((HR.out z v hrv).only ((Only.refl [] w).below HB.out.2) (by simp))
        rw [show itemV (r z) = #[.int .u64 v.key, v.vec.v, v.tag.v] by rw [hrv]; rfl, show okV (r z) = true by rw [hrv]; simp [okV, hg]] at LK1
        clear hv hrv hg hcc cc
        unfold Sl.v at LK1
        go_wp2_with fail
        refine LK1.out.mono ?_
        rintro _ w7 ⟨rfl, hb⟩
        have K7 : Hid (Only [] wr (w7.alloc (.cells #[.int .u64 v.key, .slice v.vec.a v.vec.xs.length v.vec.c, .slice v.tag.a v.tag.xs.length v.tag.c] tIt))) := Lib.hid (((Only.refl [] wr).below hb).alloc _)
        have S7 := Lib.hid hb.size
        have R7 := Lib.hid (Row.made w7 #[.int .u64 v.key, .slice v.vec.a v.vec.xs.length v.vec.c, .slice v.tag.a v.tag.xs.length v.tag.c] tIt)
        clear hb LK1 c1
        go_upto_region 10 with fail
        generalize hw8 : w7.alloc (.cells #[.int .u64 v.key, .slice v.vec.a v.vec.xs.length v.vec.c, .slice v.tag.a v.tag.xs.length v.tag.c] tIt) = w8 at *
        clear hw8
        have x0 : w8.cell? ⟨w7.heap.size, 0, none⟩ = some (.int .u64 v.key) := R7.out.cell 0
        have x1 : w8.cell? ⟨w7.heap.size, 1, none⟩ = some (.slice v.vec.a v.vec.xs.length v.vec.c) := R7.out.cell 1
        have x2 : w8.cell? ⟨w7.heap.size, 2, none⟩ = some (.slice v.tag.a v.tag.xs.length v.tag.c) := R7.out.cell 2
        have OW := Lib.hid (own_on (key := v.key) (VA.out.vec.only K7.out (by simp)).rd (VA.out.tag.only K7.out (by simp)).rd)
        unfold OwnTo at OW
        unfold Sl.v at OW
        go_wp2_with fail
        refine OW.out.mono ?_
        rintro _ w9 ⟨s1, s2, rfl, x3, x4, m1, m2, fr, hb⟩
        have K9 : Hid (Only [] wr w9) := Lib.hid (K7.out.below hb)
        have I9 : Hid (ItsAt w9 w.heap.size (.slice pv nv cv) its) := Lib.hid (HI.out.only K9.out (by simp) (by simp))
        have NS : Hid (SlAt .i32 w9 s1 ∧ SlAt .u8 w9 s2) := Lib.hid ⟨m1, m2⟩
        have FR : Hid (∀ b ∈ s1.bs ++ s2.bs, wr.heap.size ≤ b) := Lib.hid (fun b hb' => Nat.le_trans K7.out.size (fr b hb'))
        have EX : Hid (s1.xs = v.vec.xs ∧ s2.xs = v.tag.xs) := Lib.hid ⟨x3, x4⟩
        have IL : Hid (its.length ≤ 1000000) := Lib.hid (by
          have h1 := congrArg List.length HC.out
          have h2 := List.length_filterMap_le (fun k => visC (r k)) (zs.take k)
          have h3 : (zs.take k).length ≤ zs.length := by simp; omega
          have := LM.out
          have := LM2.out
          simp only [List.length_map] at h1
          omega)
        clear hb m1 m2 fr x0 x1 x2 x3 x4 OW
        go_wp2_with (at_builtin; refine wpList_append_at rfl (.tmp 39) (.tmp 42) 44 rfl w.heap.size tIt i0 _ 3 56 Tryz.underlying44 hi hz0 hz1 hz2 rfl (by decide) (.slice pv nv cv) its.length (itL its) rfl (I9.out.own.alloc _) ⟨w9.heap.size, 0, none⟩ 1 1 [.int .u64 v.key, s1.v, s2.v] rfl rfl ?cells (by intro u hu; simp at hu; rcases hu with rfl | rfl | rfl <;> simp [Value.oneCell', Sl.v]) (by have := IL.out; unfold maxLen; omega) (by have := IL.out; omega) (by have := K9.out.size; have := HB.out.2.size; simp; omega) ?more)
        case cells =>
          intro j u hj
          have hr := Row.made w9 #[.int .u64 v.key, s1.v, s2.v] tIt
          rw [add_plain, Nat.zero_add]
          exact (hr.cell j).trans (by simpa using hj)
        case more =>
          intro v' w10 hown' hgrow hfr
          have hsh := own_shape hown'
          obtain ⟨p', c', rfl, _⟩ := hsh
          have hgs := hgrow.size
          have KG : Hid (Only ((Value.slice pv nv cv).ownBlock.toList) w9 w10) := Lib.hid (((Only.refl _ w9).alloc _).grown hgrow (fun b hb => .inl (by rw [hb]; simp)))
          have hlt9 : ∀ b, b ∈ s1.bs ++ s2.bs → b < w9.heap.size := fun b hb => by
            rcases List.mem_append.1 hb with hb | hb
            · exact NS.out.1.lt b hb
            · exact NS.out.2.lt b hb
          have hob : ∀ g, (Value.slice pv nv cv).ownBlock = some g → g < wr.heap.size := fun g hg => (HI.out.own.lt g hg).2
          have NI : Hid (ItsAt w10 w.heap.size (.slice p' (its.length + 1) c') (its ++ [⟨v.key, s1, s2⟩])) := Lib.hid (by
            have hnot : ∀ x ∈ its ++ [(⟨v.key, s1, s2⟩ : It)], ∀ b ∈ x.bs, b ∉ (Value.slice pv nv cv).ownBlock.toList := by
              intro x hx b hb hmem
              simp only [Option.mem_toList] at hmem
              rcases List.mem_append.1 hx with hx | hx
              · exact HI.out.ap x hx b hb hmem
              · simp only [List.mem_singleton] at hx
                subst hx
                have := FR.out b hb
                have := hob b hmem
                omega
            refine ⟨by simpa [itL_append, itL, It.cells] using hown', ?_, ?_, ?_⟩
            · intro x hx
              have hn := hnot x hx
              rcases List.mem_append.1 hx with hx | hx
              · exact ⟨(I9.out.each x hx).1.only KG.out fun b hb => hn b (List.mem_append_left _ hb), (I9.out.each x hx).2.only KG.out fun b hb => hn b (List.mem_append_right _ hb)⟩
              · simp only [List.mem_singleton] at hx
                subst hx
                exact ⟨NS.out.1.only KG.out fun b hb => hn b (List.mem_append_left _ hb), NS.out.2.only KG.out fun b hb => hn b (List.mem_append_right _ hb)⟩
            · intro x hx b hb
              rcases List.mem_append.1 hx with hx | hx
              · exact HI.out.ge x hx b hb
              · simp only [List.mem_singleton] at hx
                subst hx
                have := FR.out b hb
                have := HB.out.2.size
                omega
            · intro x hx b hb he
              rcases hfr with h1 | h1
              · rw [h1] at he
                exact hnot x hx b hb (by rw [he]; simp)
              · have h2 := h1 b he
                try simp only [World.size_alloc] at h2
                rcases List.mem_append.1 hx with hx | hx
                · have := I9.out.lt x hx b hb; omega
                · simp only [List.mem_singleton] at hx
                  subst hx
                  have := hlt9 b hb
                  omega)
          have BB : Hid (Below w6.heap.size w6 w10 ∧ ∀ g, (Value.slice p' (its.length + 1) c').ownBlock = some g → w6.heap.size ≤ g) := Lib.hid ⟨HB0.out.1.trans ((K9.out.toBelow HB0.out.1.size (by simp)).trans (KG.out.toBelow (by have := K9.out.size; have := HB0.out.1.size; omega) (by
            intro b hb
            simp only [Option.mem_toList] at hb
            exact HB0.out.2 b hb))), fun g hg => by
              rcases hfr with h1 | h1
              · rw [h1] at hg
                exact HB0.out.2 g hg
              · have h2 := h1 g hg
                try simp only [World.size_alloc] at h2
                have := K9.out.size
                have := HB0.out.1.size
                omega⟩
          clear hown' hgrow hfr hgs hlt9 hob
          go_wp2_with fail
          go_roundw
          case rel => exact ⟨k + 1, p', its.length + 1, c', ⟨rfl, by go_num⟩, Lib.hid (by omega), Lib.hid ⟨_, NI.out, by rw [take_filter _ HZ.out, HV.out, List.map_append, HC.out, ← EX.out.1, ← EX.out.2]; rfl⟩, BB⟩
          case measure => simp [intOf]; omega
    · have d1 : decide ((k : Int) < (m : Int)) = false := decide_eq_false (by omega)
      have d1' : decide (k < m) = false := decide_eq_false hk
      have HKm : Hid (zs.take k = zs) := Lib.hid (List.take_of_length_le (by rw [LM.out]; omega))
      clear hk
      go_wp2_with fail
      go_ret
      exact ⟨_, its, zs, rfl, HI.out, by rw [HC.out, HKm.out], ZS.out.1, ZS.out.2, by
        have h1 := congrArg List.length HC.out
        have h2 := List.length_filterMap_le (fun k => visC (r k)) (zs.take k)
        have h3 : (zs.take k).length ≤ zs.length := by simp; omega
        have := LM.out
        have := LM2.out
        simp only [List.length_map] at h1
        omega, HB.out.2⟩
end Go.Proofs.YtmbmkfhdiljalaaGreat

/- Plain: All, seen, Txns, Dim, Abort, Crash. -/
namespace Go.Proofs.YtmbmkfhdiljalaaGreat
open Go.RowKit Go.ChangeShapes Go.WideShapes Go.ChangeAt
set_option linter.unusedVariables false
set_option linter.unusedSimpArgs false

/-- The numbers that are looked at are small. -/
structure Small (D : PDB) : Prop where
  keys : D.all.length ≤ 400000
  vers : ∀ k, (vsOf D.all k).vs.length ≤ 400000
  wr : ∀ o ∈ D.op, o.wr.length ≤ 400000
  ops : D.op.length ≤ 8
def lastR (D : PDB) (k : Int) : Option Ver := asofL (vsOf D.all k).vs D.last
theorem lastR_at {w : World} {B p ba bo : Nat} {D : PDB} (h : DbAt w B p ba bo D) {k : Int} {v : Ver} (hv : lastR D k = some v) : VerAt w v := (vsOf_at h k).each v (asofL_mem hv)
theorem ListTo.base {all more : List Int} {r : Int → Option Ver} {w y : World} {e : Ending} {w' : World} (h : ListTo all more r y e w') (k : Below w.heap.size w y) : ListTo all more r w e w' := by
  obtain ⟨v, its, zs, he, hi, hc, hz, hm, hl, hb⟩ := h
  exact ⟨v, its, zs, he, ⟨own_mono hi.own k.size, hi.each, fun x hx b hb => Nat.le_trans k.size (hi.ge x hx b hb), hi.ap⟩, hc, hz, hm, hl, k.trans (hb.mono k.size)⟩
set_option maxHeartbeats 2000000 in
theorem all_on {w : World} {B p ba bo : Nat} {D : PDB} (h : DbAt w B p ba bo D) (hs : Small D) :
    Calls Tryz.prog 16 #[.pointer (some ⟨p, 0, none⟩)] w (ListTo (D.all.map (·.1)) [] (lastR D) w) := by
  have K1 : Hid (Below w.heap.size w (w.alloc (.cells #[.pointer (some ⟨p, 0, none⟩)] 23))) := Lib.hid ((Below.refl _ _).alloc (Nat.le_refl _) _)
  have O1 : Only [] w (w.alloc (.cells #[.pointer (some ⟨p, 0, none⟩)] 23)) := (Only.refl [] w).alloc _
  have R1 := Lib.hid (Row.made w #[.pointer (some ⟨p, 0, none⟩)] 23)
  have b0 : (w.alloc (.cells #[.pointer (some ⟨p, 0, none⟩)] 23)).cell? ⟨w.heap.size, 0, none⟩ = some (.pointer (some ⟨p, 0, none⟩)) := R1.out.cell 0
  have L := Lib.hid (list_all (bx := w.heap.size) (mv := none) (M := []) (r := lastR D) (h.only O1 (by simp)) (MapV.no _ _) (by have := hs.keys; simp; omega) (fun k v hv => (lastR_at h hv).only O1 (by simp))
    (fun y k hy => all1_on ((h.only O1 (by simp)).only ((Only.refl [] _).below hy) (by simp)) (R1.out.only ((Only.refl [] _).below hy) (by simp)) k (by have := hs.vers k; omega)))
  unfold ListTo at L
  clear h hs O1 R1
  go_enter Tryz.func16, Tryz.ntmps16
  go_wp2_with fail
  generalize w.alloc (.cells #[.pointer (some ⟨p, 0, none⟩)] 23) = w1 at *
  refine L.out.mono ?_
  rintro _ w2 ⟨v, its, zs, rfl, h1⟩
  have H1 := Lib.hid h1
  clear h1 L b0
  go_wp2_with fail
  go_ret
  exact ListTo.base ⟨v, its, zs, rfl, H1.out⟩ K1.out
theorem seen_small {D : PDB} (hs : Small D) {o : PTx} (ho : o ∈ D.op) : D.all.length + (wrL o.wr).length ≤ 1000000 := by
  have := hs.keys
  have := hs.wr o ho
  simp [wrL]
  omega
set_option maxRecDepth 100000 in
set_option maxHeartbeats 4000000 in
theorem seen_on {w : World} {B p ba bo : Nat} {D : PDB} (h : DbAt w B p ba bo D) (hs : Small D) {o : PTx} (ho : o ∈ D.op) :
    Calls Tryz.prog 61 #[.pointer (some ⟨p, 0, none⟩), .pointer (some ⟨o.bt, 0, none⟩)] w (ListTo (D.all.map (·.1)) (o.wr.map (·.1)) (seesR D o) w) := by
  have O1 : Only [] w ((w.alloc (.cells #[.pointer (some ⟨p, 0, none⟩)] 23)).alloc (.cells #[.pointer (some ⟨o.bt, 0, none⟩)] 81)) := ((Only.refl [] w).alloc _).alloc _
  have R1 := Lib.hid ((Row.made w #[.pointer (some ⟨p, 0, none⟩)] 23).only ((Only.refl [] _).alloc (.cells #[.pointer (some ⟨o.bt, 0, none⟩)] 81)) (by simp))
  have R2 := Lib.hid (Row.made (w.alloc (.cells #[.pointer (some ⟨p, 0, none⟩)] 23)) #[.pointer (some ⟨o.bt, 0, none⟩)] 81)
  rw [show (w.alloc (.cells #[.pointer (some ⟨p, 0, none⟩)] 23)).heap.size = w.heap.size + 1 by simp] at R2
  have HD := Lib.hid (h.only O1 (by simp))
  have OT := Lib.hid ((h.oa o ho).1.only O1 (by simp))
  have OM := Lib.hid ((h.oa o ho).2.only O1 (by simp))
  have HO := Lib.hid O1
  have HS := Lib.hid hs
  have HM := Lib.hid ho
  have HL := Lib.hid h
  clear h hs ho O1
  go_enter Tryz.func61, Tryz.ntmps61
  go_upto_region 1 with fail
  generalize (w.alloc (.cells #[.pointer (some ⟨p, 0, none⟩)] 23)).alloc (.cells #[.pointer (some ⟨o.bt, 0, none⟩)] 81) = w1 at *
  have L : Hid (∀ y, Only [] w1 y → Calls Tryz.prog 44 #[.pointer (some ⟨p, 0, none⟩), .func (.func 82) #[] #[.pointer (some ⟨w.heap.size, 0, none⟩), .pointer (some ⟨w.heap.size + 1, 0, none⟩)], .map (some o.bm)] y (ListTo (D.all.map (·.1)) ((wrL o.wr).map (·.1)) (seesR D o) y)) := Lib.hid fun y hy => list_seen (bx := w.heap.size) (cx := w.heap.size + 1) (M := wrL o.wr) (r := seesR D o) (HD.out.only hy (by simp)) (.inr ⟨o.bm, rfl, OM.out.only hy (by simp)⟩) (seen_small HS.out HM.out) (fun k v hv => ((seesR_at HL.out HM.out hv).only HO.out (by simp)).only hy (by simp))
    (fun y2 k hy2 => seen1_on ((HD.out.only hy (by simp)).only ((Only.refl [] _).below hy2) (by simp)) HM.out ((R1.out.only hy (by simp)).only ((Only.refl [] _).below hy2) (by simp)) ((R2.out.only hy (by simp)).only ((Only.refl [] _).below hy2) (by simp)) k (by have := HS.out.vers k; omega))
  unfold ListTo at L
  have SO : Hid (∀ y, Only [] w1 y → y.cell? ⟨w.heap.size, 0, none⟩ = some (.pointer (some ⟨p, 0, none⟩)) ∧ y.cell? ⟨w.heap.size + 1, 0, none⟩ = some (.pointer (some ⟨o.bt, 0, none⟩)) ∧ y.cell? ⟨o.bt, 1, none⟩ = some (.map (some o.bm))) := Lib.hid fun y hy => ⟨(R1.out.only hy (by simp)).cell 0, (R2.out.only hy (by simp)).cell 0, (OT.out.only hy (by simp)).cell 1⟩
  go_region_held3 (fun y => y.cell? ⟨w.heap.size, 0, none⟩ = some (.pointer (some ⟨p, 0, none⟩)) ∧ y.cell? ⟨w.heap.size + 1, 0, none⟩ = some (.pointer (some ⟨o.bt, 0, none⟩)) ∧ y.cell? ⟨o.bt, 1, none⟩ = some (.map (some o.bm)))
    (first
      | exact SO.out _ X2.out
      | exact SO.out _ ((Only.refl [] w1).drew.mono (by simp)))
    (first | ((with_reducible refine (L.out w1.drew ((Only.refl [] w1).drew)).mono ?_); rintro _ w2 ⟨v, its, zs, rfl, h1⟩; have X2 : Hid (Only [] w1 w2) := Lib.hid ((Only.refl [] w1).drew.below h1.2.2.2.2.2); have H1 := Lib.hid h1; clear h1))
  all_goals
    go_wp2_with fail
    go_ret
    have hm : (wrL o.wr).map (·.1) = o.wr.map (·.1) := by simp [wrL]
    have h2 := H1.out
    rw [hm] at h2
    exact ListTo.base (y := w1.drew) ⟨v, its, zs, rfl, h2⟩ ((HO.out.drew).toBelow (Nat.le_refl _) (by simp))
theorem dim_on {w : World} {B p ba bo : Nat} {D : PDB} (h : DbAt w B p ba bo D) : Calls Tryz.prog 19 #[.pointer (some ⟨p, 0, none⟩)] w fun e w' => e = .returned (.int .i64 D.dim) ∧ w' = w := by
  have c0 : w.cell? ⟨p, 0, none⟩ = some (.int .i64 D.dim) := h.row.cell 0
  clear h
  go_enter Tryz.func19, Tryz.ntmps19
  go_wp2_with fail
  go_ret
  exact ⟨rfl, rfl⟩
/-- The numbers of what is open, by rising numbers. -/
def NumsTo (L : List Int) (w : World) (e : Ending) (w' : World) : Prop := ∃ (v : Value) (ys : List Int), e = .returned v ∧ ys.Perm L ∧ ys.Pairwise (· ≤ ·) ∧ w'.ownsRow w.heap.size tU 1 v ys.length (ys.map (Value.int .u64)) ∧ Below w.heap.size w w'
set_option maxHeartbeats 2000000 in
theorem sorted_px {Bm bo : Nat} {L : List (Int × Value)} {w : World} (hm : Row w Bm #[.map (some bo)] tMpx) (hM : MapAt w bo .u64 L) (hl : L.length ≤ 1000000) :
    Calls Tryz.prog 47 #[.func (.func 77) #[] #[.pointer (some ⟨Bm, 0, none⟩)]] w (NumsTo (L.map (·.1)) w) := by
  have C := Lib.hid (collect_any w (keys_stops_px 3 (by omega) Bm (.map (some bo)) L w hm.lt (hm.cell 0) (.inr ⟨bo, rfl, hM⟩)) keys_px_enters hl)
  have HL := Lib.hid hl
  unfold AppTo at C
  clear hm hM hl
  go_enter Tryz.func47, Tryz.ntmps47
  go_wp2_with fail
  refine C.out.mono ?_
  rintro _ w1 ⟨xs, v, hp, rfl, ho, _, hb⟩
  have PX := Lib.hid hp
  have B1 := Lib.hid hb
  have XL : Hid (xs.length ≤ 1000000) := Lib.hid (by have := hp.length_eq; rw [List.length_map] at this; have := HL.out; omega)
  obtain ⟨p1, n1, c1, rfl⟩ : ∃ p n c, v = .slice p n c := by obtain ⟨a, b, e, _⟩ := own_shape ho; exact ⟨_, _, _, e⟩
  have S := Lib.hid (sort_any (B := w.heap.size) hb.size (by simpa using ho) XL.out)
  unfold SortTo at S
  clear hp hb ho C
  go_wp2_with fail
  refine S.out.mono ?_
  rintro _ w2 ⟨rfl, ys, hp, hs, ho, hb⟩
  have H2 : Hid (ys.Perm (L.map (·.1)) ∧ ys.Pairwise (· ≤ ·) ∧ w2.ownsRow w.heap.size tU 1 (.slice p1 n1 c1) ys.length (ys.map (Value.int .u64)) ∧ Below w.heap.size w w2) := Lib.hid ⟨hp.trans PX.out, hs, by rw [hp.length_eq]; exact ho, B1.out.trans hb⟩
  clear hp hs ho hb S
  go_wp2_with fail
  go_ret
  exact ⟨_, ys, rfl, H2.out⟩
set_option maxHeartbeats 2000000 in
theorem txns_on {w : World} {B p ba bo : Nat} {D : PDB} (h : DbAt w B p ba bo D) (hs : Small D) :
    Calls Tryz.prog 17 #[.pointer (some ⟨p, 0, none⟩)] w (NumsTo (D.op.map (·.n)) w) := by
  have c4 : w.cell? ⟨p, 4, none⟩ = some (.map (some bo)) := h.row.cell 4
  have OM := Lib.hid h.om
  have HS := Lib.hid hs.ops
  clear h hs
  go_enter Tryz.func17, Tryz.ntmps17
  go_wp2_with fail
  refine (keys_px_any _ _).mono ?_
  rintro _ w1 ⟨rfl, hw1⟩
  have B1 : Hid (Below w.heap.size w w1) := Lib.hid (by subst hw1; exact (Below.refl _ _).alloc (Nat.le_refl _) _)
  have C := Lib.hid (sorted_px (Bm := w.heap.size) (bo := bo) (L := pxL D.op) (w := w1) (by subst hw1; exact Row.made _ _ _) (OM.out.only ((Only.refl [] w).below B1.out) (by simp)) (by have := HS.out; simp [pxL]; omega))
  unfold NumsTo at C
  clear hw1 c4
  go_wp2_with fail
  refine C.out.mono ?_
  rintro _ w2 ⟨v, ys, rfl, h1, h2, h3, h4⟩
  have H2 : Hid (ys.Perm (D.op.map (·.n)) ∧ ys.Pairwise (· ≤ ·) ∧ w2.ownsRow w.heap.size tU 1 v ys.length (ys.map (Value.int .u64)) ∧ Below w.heap.size w w2) := Lib.hid ⟨by rw [show (pxL D.op).map (·.1) = D.op.map (·.n) by simp [pxL, Function.comp_def]] at h1; exact h1, h2, own_mono h3 B1.out.size, B1.out.trans (h4.mono B1.out.size)⟩
  clear h1 h2 h3 h4 C
  go_wp2_with fail
  go_ret
  exact ⟨v, ys, rfl, H2.out⟩
end Go.Proofs.YtmbmkfhdiljalaaGreat
