/- Plain: DeleteFunc over rows of records; Range. -/
import Derived.Test.YtmbmkfhdiljalaaGreatMg18
namespace Go.Proofs.YtmbmkfhdiljalaaGreat
open Go.RowKit Go.ChangeShapes Go.WideShapes Go.ChangeAt
set_option linter.unusedVariables false
set_option linter.unusedSimpArgs false

theorem run_clear_cells {P : Program} (n : Nat) (w : World) (t e ty : TypeId) (z : Value) (ht : P.underlying t = some (.slice e)) (hv : ∀ w, (zeroValue e).run P w = .ok z w) (h1 : ∀ u ∈ (Builtin.zeroCells z.cells n).toList, u.oneCell' = true) (b o c : Nat) (hn : 0 < n)
    (hc : ∀ j, j < (Builtin.zeroCells z.cells n).toList.length → (w.cell? ⟨b, o + j, none⟩).isSome = true) (hf : ∀ j, w.frozen? ⟨b, o + j, none⟩ = false) :
    (Builtin.clear_ #[t] ty #[.slice (some ⟨b, o, none⟩) n c]).run P w = .ok (.tuple #[]) (w.setCells b o (Builtin.zeroCells z.cells n).toList) := by
  have hst := run_storeCells_cells (P := P) b o (Builtin.zeroCells z.cells n).toList 0 w (by simpa using hc) (fun j _ => by simpa using hf j) h1
  simp only [Nat.add_zero] at hst
  obtain ⟨m, rfl⟩ : ∃ m, n = m + 1 := ⟨n - 1, by omega⟩
  simp [Builtin.clear_, run_underlying ht, hv, hst]
theorem zeroIt (w : World) : (zeroValue tIt).run Tryz.prog w = .ok (.agg #[.int .u64 0, .slice none 0 0, .slice none 0 0]) w := by kernel_rfl
theorem zeroIt_cells (n : Nat) : (Builtin.zeroCells (Value.agg #[.int .u64 0, .slice none 0 0, .slice none 0 0]).cells n).toList.length = n * 3 ∧ ∀ u ∈ (Builtin.zeroCells (Value.agg #[.int .u64 0, .slice none 0 0, .slice none 0 0]).cells n).toList, u.oneCell' = true := by
  have hc : (Value.agg #[.int .u64 0, .slice none 0 0, .slice none 0 0]).cells = #[.int .u64 0, .slice none 0 0, .slice none 0 0] := by kernel_rfl
  rw [hc]
  constructor
  · simp [Builtin.zeroCells]
  · intro u hu
    simp only [Builtin.zeroCells, Array.toList_map, List.mem_map] at hu
    obtain ⟨i, _, rfl⟩ := hu
    have h3 : i % 3 < 3 := Nat.mod_lt _ (by omega)
    have : i % 3 = 0 ∨ i % 3 = 1 ∨ i % 3 = 2 := by omega
    rcases this with h | h | h <;> simp [h, Value.oneCell']
/-- A row of records that is only read. -/
structure RdAt (w : World) (B : Nat) (a : Option Addr) (its : List It) : Prop where
  row : its = [] ∨ ∃ g, a = some ⟨g, 0, none⟩ ∧ g < w.heap.size ∧ B ≤ g ∧ (∀ j x, its[j]? = some x → ∀ i, i < 3 → w.cell? ⟨g, j * 3 + i, none⟩ = x.cells[i]?) ∧ ∀ x ∈ its, ∀ b ∈ x.bs, b ≠ g
  each : ∀ x ∈ its, SlAt .i32 w x.vec ∧ SlAt .u8 w x.tag
  ge : ∀ x ∈ its, ∀ b ∈ x.bs, B ≤ b
theorem ItsAt.rd {w : World} {B : Nat} {a : Option Addr} {n c : Nat} {its : List It} (h : ItsAt w B (.slice a n c) its) : RdAt w B a its := by
  refine ⟨?_, h.each, h.ge⟩
  rcases h.own.2 with ⟨hv, h0⟩ | ⟨g, cap, cur, hv, hb, hg, hc, _⟩
  · exact .inl (List.length_eq_zero_iff.1 h0)
  · simp only [Value.slice.injEq] at hv
    obtain ⟨rfl, rfl, rfl⟩ := hv
    refine .inr ⟨g, rfl, (Array.getElem?_eq_some_iff.1 hg).1, hb, fun j x hx i hi => ?_, fun x hx b hb e => h.ap x hx b hb (by simp [Value.ownBlock, e])⟩
    have hj := (List.getElem?_eq_some_iff.1 hx).1
    have := h.own.cellAt (j * 3 + i) (by omega)
    rw [this, itL_get its j x hx i hi]
def IRow (w : World) (B g cap n : Nat) (its : List It) : Prop := w.ownsRow B tIt 3 (.slice (some ⟨g, 0, none⟩) n cap) n (itL its)
theorem IRow.len {w : World} {B g cap n : Nat} {its : List It} (h : IRow w B g cap n its) : its.length = n := by
  have := h.1
  rw [itL_len] at this
  omega
theorem IRow.cell {w : World} {B g cap n : Nat} {its : List It} (h : IRow w B g cap n its) {j : Nat} {x : It} (hx : its[j]? = some x) (i : Nat) (hi : i < 3) : w.cell? ⟨g, j * 3 + i, none⟩ = x.cells[i]? := by
  have hj := (List.getElem?_eq_some_iff.1 hx).1
  have hl := h.len
  rw [World.ownsRow.cellAt h (j * 3 + i) (by omega), itL_get its j x hx i hi]
theorem IRow.free {w : World} {B g cap n : Nat} {its : List It} (h : IRow w B g cap n its) (k : Nat) : w.frozen? ⟨g, k, none⟩ = false := World.ownsRow.frozenAt h k
theorem IRow.only {w w' : World} {B g cap n : Nat} {its : List It} {G : List Nat} (h : IRow w B g cap n its) (k : Only G w w') (hg : g ∉ G) : IRow w' B g cap n its :=
  own_keep h fun b hb => by
    simp [Value.ownBlock] at hb
    subst hb
    exact k.block _ (World.ownsRow.lt h _ rfl).2 hg
theorem itL_set (its : List It) : ∀ (i : Nat) (x : It), i < its.length → itL (its.set i x) = (((itL its).set (i * 3) (.int .u64 x.key)).set (i * 3 + 1) x.vec.v).set (i * 3 + 2) x.tag.v := by
  induction its with
  | nil => intro i x h; simp at h
  | cons y l ih =>
    intro i x h
    cases i with
    | zero => simp [itL, It.cells]
    | succ i =>
      have h2 := ih i x (by simpa using h)
      show y.cells ++ itL (l.set i x) = _
      rw [h2]
      show _ = (((y.cells ++ itL l).set ((i + 1) * 3) _).set ((i + 1) * 3 + 1) _).set ((i + 1) * 3 + 2) _
      have e : y.cells.length = 3 := rfl
      rw [List.set_append_right _ _ (by omega), List.set_append_right _ _ (by omega), List.set_append_right _ _ (by omega), e]
      rw [show (i + 1) * 3 - 3 = i * 3 by omega, show (i + 1) * 3 + 1 - 3 = i * 3 + 1 by omega, show (i + 1) * 3 + 2 - 3 = i * 3 + 2 by omega]
theorem IRow.put {w : World} {B g cap n : Nat} {its : List It} (h : IRow w B g cap n its) (i : Nat) (x : It) (hi : i < n) :
    IRow (((w.setCell ⟨g, i * 3, none⟩ (.int .u64 x.key)).setCell ⟨g, i * 3 + 1, none⟩ x.vec.v).setCell ⟨g, i * 3 + 2, none⟩ x.tag.v) B g cap n (its.set i x) ∧ Only [g] w (((w.setCell ⟨g, i * 3, none⟩ (.int .u64 x.key)).setCell ⟨g, i * 3 + 1, none⟩ x.vec.v).setCell ⟨g, i * 3 + 2, none⟩ x.tag.v) := by
  refine ⟨?_, ((((Only.refl [g] w).setCell (.inl (by simp)) _).setCell (.inl (by simp)) _).setCell (.inl (by simp)) _)⟩
  unfold IRow
  rw [itL_set its i x (by rw [h.len]; exact hi)]
  exact (World.ownsRow.stored (World.ownsRow.stored (World.ownsRow.stored h (i * 3) (.int .u64 x.key)).1 (i * 3 + 1) x.vec.v).1 (i * 3 + 2) x.tag.v).1
/-- Outside the range. -/
def outR (lo hi : Int) (x : It) : Bool := decide (x.key < lo) || decide (hi < x.key)
theorem range1_on {w : World} {fb tb : Nat} {lo hi : Int} (h1 : Row w fb #[.int .u64 lo] 30) (h2 : Row w tb #[.int .u64 hi] 30) (x : It) :
    Calls Tryz.prog 62 #[.agg #[.int .u64 x.key, x.vec.v, x.tag.v], .pointer (some ⟨fb, 0, none⟩), .pointer (some ⟨tb, 0, none⟩)] w fun e w' => e = .returned (.bool (outR lo hi x)) ∧ Below w.heap.size w w' := by
  have H1 := Lib.hid (h1.only ((Only.refl [] w).alloc (.cells #[.int .u64 x.key, x.vec.v, x.tag.v] tIt)) (by simp))
  have H2 := Lib.hid (h2.only ((Only.refl [] w).alloc (.cells #[.int .u64 x.key, x.vec.v, x.tag.v] tIt)) (by simp))
  have R := Lib.hid (Row.made w #[.int .u64 x.key, x.vec.v, x.tag.v] tIt)
  have c1 : (w.alloc (.cells #[.int .u64 x.key, x.vec.v, x.tag.v] tIt)).cell? ⟨fb, 0, none⟩ = some (.int .u64 lo) := H1.out.cell 0
  have c2 : (w.alloc (.cells #[.int .u64 x.key, x.vec.v, x.tag.v] tIt)).cell? ⟨tb, 0, none⟩ = some (.int .u64 hi) := H2.out.cell 0
  have K : Hid (Below w.heap.size w (w.alloc (.cells #[.int .u64 x.key, x.vec.v, x.tag.v] tIt))) := Lib.hid ((Below.refl _ _).alloc (Nat.le_refl _) _)
  obtain ⟨k, hk⟩ : ∃ k, x.key = k := ⟨_, rfl⟩
  have HK := Lib.hid hk
  rw [hk] at R c1 c2 K ⊢
  clear h1 h2 hk H1 H2
  unfold Sl.v at R c1 c2 K ⊢
  by_cases ha : k < lo
  · have d1 : decide (k < lo) = true := decide_eq_true ha
    have OR : Hid (outR lo hi x = true) := Lib.hid (by unfold outR; rw [HK.out, d1]; rfl)
    clear ha
    go_enter Tryz.func62, Tryz.ntmps62
    go_wp2_with fail
    go_ret
    exact ⟨by rw [OR.out]; rfl, K.out⟩
  · have d1 : decide (k < lo) = false := decide_eq_false ha
    cases hb : decide (hi < k) with
    | true =>
      have OR : Hid (outR lo hi x = true) := Lib.hid (by unfold outR; rw [HK.out, hb]; simp)
      go_enter Tryz.func62, Tryz.ntmps62
      go_wp2_with fail
      go_ret
      exact ⟨by rw [OR.out]; rfl, K.out⟩
    | false =>
      have OR : Hid (outR lo hi x = false) := Lib.hid (by unfold outR; rw [HK.out, hb, d1]; rfl)
      go_enter Tryz.func62, Tryz.ntmps62
      go_wp2_with fail
      go_ret
      exact ⟨by rw [OR.out]; rfl, K.out⟩
/-! ### IndexFunc, DeleteFunc -/
def IxTo (F : It → Bool) (its : List It) (w : World) (e : Ending) (w' : World) : Prop := ∃ i : Int, e = .returned (.int .i64 i) ∧ Below w.heap.size w w' ∧
  ((i = -1 ∧ ∀ x ∈ its, F x = false) ∨ ∃ j : Nat, i = (j : Int) ∧ j < its.length ∧ (∀ k x, k < j → its[k]? = some x → F x = false) ∧ ∀ x, its[j]? = some x → F x = true)
set_option maxRecDepth 100000 in
set_option maxHeartbeats 4000000 in
theorem index_on {w : World} {B g cap n fb tb : Nat} {its : List It} {F : It → Bool} (h : IRow w B g cap n its) (hn : n ≤ 1000000)
    (LKh : ∀ y x, Below w.heap.size w y → Calls Tryz.prog 62 #[.agg #[.int .u64 x.key, x.vec.v, x.tag.v], .pointer (some ⟨fb, 0, none⟩), .pointer (some ⟨tb, 0, none⟩)] y fun e w' => e = .returned (.bool (F x)) ∧ Below y.heap.size y w') :
    Calls Tryz.prog 81 #[.slice (some ⟨g, 0, none⟩) n cap, .func (.func 62) #[] #[.pointer (some ⟨fb, 0, none⟩), .pointer (some ⟨tb, 0, none⟩)]] w (IxTo F its w) := by
  have HR := Lib.hid h
  have HL := Lib.hid h.len
  have LK := Lib.hid LKh
  have HN := Lib.hid hn
  clear h LKh hn
  go_enter Tryz.func81, Tryz.ntmps81
  go_wp2_with fail
  go_loopw [8] (fun u wr => ∃ k : Nat, u = .int .i64 (k : Int) ∧ Hid (k ≤ n) ∧ Hid (Below w.heap.size w wr) ∧ Hid (∀ i x, i < k → its[i]? = some x → F x = false)) (fun u _ => n - (intOf u).toNat)
  case atStart => exact ⟨0, rfl, Lib.hid (Nat.zero_le _), Lib.hid (Below.refl _ _), Lib.hid (fun i x h => by omega)⟩
  case round =>
    obtain ⟨k, rfl, HK, HB, HF⟩ := hrel
    by_cases hk : k < n
    · have d1 : decide ((k : Int) < (n : Int)) = true := decide_eq_true (by omega)
      have d1' : decide (k < n) = true := decide_eq_true hk
      have km := hk
      have e1 : IntKind.i64.wrap ((k : Int) + 1) = ((k + 1 : Nat) : Int) := w_inc _ (by have := HN.out; omega)
      obtain ⟨x, hx⟩ : ∃ x, its[k]? = some x := ⟨_, List.getElem?_eq_getElem (by rw [HL.out]; exact hk)⟩
      have HX := Lib.hid hx
      have RW := Lib.hid (HR.out.only ((Only.refl [] w).below HB.out) (by simp))
      have c0 : wr.cell? ⟨g, k * 3, none⟩ = some (.int .u64 x.key) := RW.out.cell hx 0 (by omega)
      have c1 : wr.cell? ⟨g, k * 3 + 1, none⟩ = some x.vec.v := RW.out.cell hx 1 (by omega)
      have c2 : wr.cell? ⟨g, k * 3 + 2, none⟩ = some x.tag.v := RW.out.cell hx 2 (by omega)
      have LK1 := Lib.hid (LK.out wr x HB.out)
      clear hx hk
      unfold Sl.v at c1 c2 LK1
      cases hF : F x with
      | true =>
        have HFX := Lib.hid hF
        rw [hF] at LK1
        clear hF
        go_wp2_with fail
        refine LK1.out.mono ?_
        rintro _ w2 ⟨rfl, hb⟩
        have B2 := Lib.hid (HB.out.trans (hb.mono HB.out.size))
        clear hb LK1 c0 c1 c2
        go_wp2_with fail
        go_ret
        exact ⟨_, rfl, B2.out, .inr ⟨k, rfl, by rw [HL.out]; exact km, HF.out, fun y hy => by rw [HX.out] at hy; cases hy; exact HFX.out⟩⟩
      | false =>
        have HFX := Lib.hid hF
        rw [hF] at LK1
        clear hF
        go_wp2_with fail
        refine LK1.out.mono ?_
        rintro _ w2 ⟨rfl, hb⟩
        have B2 := Lib.hid (HB.out.trans (hb.mono HB.out.size))
        clear hb LK1 c0 c1 c2
        go_wp2_with fail
        go_roundw
        case rel => exact ⟨k + 1, by go_num, Lib.hid (by omega), B2, Lib.hid (fun i y h1 h2 => by
          by_cases e : i < k
          · exact HF.out i y e h2
          · obtain rfl : i = k := by omega
            rw [HX.out] at h2; cases h2; exact HFX.out)⟩
        case measure => simp [intOf]; omega
    · have d1 : decide ((k : Int) < (n : Int)) = false := decide_eq_false (by omega)
      have d1' : decide (k < n) = false := decide_eq_false hk
      have HKm : Hid (k = n) := Lib.hid (by have := HK.out; omega)
      clear hk
      go_wp2_with fail
      go_ret
      exact ⟨-1, rfl, HB.out, .inl ⟨rfl, fun x hx => by
        obtain ⟨i, hi⟩ := List.mem_iff_getElem?.1 hx
        exact HF.out i x (by have := (List.getElem?_eq_some_iff.1 hi).1; rw [HL.out] at this; rw [HKm.out]; exact this) hi⟩⟩
theorem filter_take {l : List It} {j : Nat} {x : It} (p : It → Bool) (h : l[j]? = some x) : (l.take (j + 1)).filter p = (l.take j).filter p ++ (if p x then [x] else []) := by
  have hk := (List.getElem?_eq_some_iff.1 h).1
  rw [List.take_succ_eq_append_getElem hk, List.filter_append]
  have e : l[j] = x := by rw [List.getElem?_eq_getElem hk] at h; simpa using h
  rw [e]
  cases hf : p x <;> simp [hf]
/-- Up to j all have been looked at; what stays stands ahead of i. -/
structure DlInv (F : It → Bool) (its cur : List It) (i j : Nat) : Prop where
  ij : i < j
  len : cur.length = its.length
  head : cur.take i = (its.take j).filter fun x => !F x
  rest : ∀ k, j ≤ k → cur[k]? = its[k]?
theorem DlInv.skip {F : It → Bool} {its cur : List It} {i j : Nat} {x : It} (h : DlInv F its cur i j) (hx : its[j]? = some x) (hF : F x = true) : DlInv F its cur i (j + 1) :=
  ⟨by have := h.ij; omega, h.len, by rw [filter_take _ hx, h.head, hF]; simp, fun k hk => h.rest k (by omega)⟩
theorem DlInv.keep {F : It → Bool} {its cur : List It} {i j : Nat} {x : It} (h : DlInv F its cur i j) (hx : its[j]? = some x) (hF : F x = false) : DlInv F its (cur.set i x) (i + 1) (j + 1) := by
  have hj := (List.getElem?_eq_some_iff.1 hx).1
  have hi : i < cur.length := by have := h.ij; have := h.len; omega
  refine ⟨by have := h.ij; omega, by simp [h.len], ?_, fun k hk => ?_⟩
  · rw [filter_take _ hx, ← h.head, hF]
    rw [List.take_succ_eq_append_getElem (by simpa using hi)]
    rw [List.take_set, List.set_eq_of_length_le (by simp; omega)]
    simp
  · rw [List.getElem?_set_ne (by have := h.ij; omega)]
    exact h.rest k (by omega)
def DelTo (F : It → Bool) (its : List It) (B : Nat) (w : World) (e : Ending) (w' : World) : Prop := ∃ (a : Option Addr) (c : Nat), e = .returned (.slice a (its.filter fun x => !F x).length c) ∧ (its.filter fun x => !F x).length ≤ c ∧ RdAt w' B a (its.filter fun x => !F x) ∧ Below B w w'
set_option maxRecDepth 100000 in
set_option maxHeartbeats 8000000 in
theorem delete_on {w : World} {B g cap n fb tb : Nat} {its : List It} {F : It → Bool} (hB : B ≤ w.heap.size) (hI : ItsAt w B (.slice (some ⟨g, 0, none⟩) n cap) its) (h : IRow w B g cap n its) (hn : n ≤ 1000000) (hfb : fb ≠ g) (htb : tb ≠ g)
    (LKh : ∀ y x, Only [g] w y → Calls Tryz.prog 62 #[.agg #[.int .u64 x.key, x.vec.v, x.tag.v], .pointer (some ⟨fb, 0, none⟩), .pointer (some ⟨tb, 0, none⟩)] y fun e w' => e = .returned (.bool (F x)) ∧ Below y.heap.size y w') :
    Calls Tryz.prog 60 #[.slice (some ⟨g, 0, none⟩) n cap, .func (.func 62) #[] #[.pointer (some ⟨fb, 0, none⟩), .pointer (some ⟨tb, 0, none⟩)]] w (DelTo F its B w) := by
  have HI := Lib.hid hI
  have HR := Lib.hid h
  have HL := Lib.hid h.len
  have HC : Hid (n ≤ cap) := Lib.hid (by obtain ⟨p, c, e, h1, _⟩ := own_shape h; simp only [Value.slice.injEq] at e; omega)
  have LK := Lib.hid LKh
  have HN := Lib.hid hn
  have HBB := Lib.hid hB
  have HG : Hid (B ≤ g ∧ g < w.heap.size) := Lib.hid (World.ownsRow.lt h _ rfl)
  have IX := Lib.hid (index_on h hn (fun y x hy => LKh y x (((Only.refl [] w).below hy).mono (by simp))))
  unfold IxTo at IX
  clear h LKh hn hB hI hfb htb
  go_enter Tryz.func60, Tryz.ntmps60
  go_wp2_with fail
  refine IX.out.mono ?_
  rintro _ w1 ⟨i, rfl, hb, hc⟩
  have B1 := Lib.hid hb
  clear hb IX
  rcases hc with ⟨rfl, hall⟩ | ⟨j, rfl, hj, hlo, hat⟩
  · have HA := Lib.hid hall
    clear hall
    go_wp2_with fail
    go_ret
    have hf : (its.filter fun x => !F x) = its := List.filter_eq_self.2 fun x hx => by rw [HA.out x hx]; rfl
    refine ⟨some ⟨g, 0, none⟩, cap, by rw [hf, HL.out]; rfl, by rw [hf, HL.out]; exact HC.out, by rw [hf]; exact (HI.out.below B1.out).rd, B1.out.mono HBB.out⟩
  · have HJ := Lib.hid hj
    have dj : decide ((j : Int) = -1) = false := decide_eq_false (by omega)
    have dj' : ((j : Int) == -1) = false := by simp <;> omega
    obtain ⟨x0, hx0⟩ : ∃ x, its[j]? = some x := ⟨_, List.getElem?_eq_getElem hj⟩
    have J0 : Hid (DlInv F its its j (j + 1)) := Lib.hid ⟨by omega, rfl, by
      rw [filter_take _ hx0, hat x0 hx0]
      simp only [Bool.not_true, Bool.false_eq_true, if_false, List.append_nil]
      refine (List.filter_eq_self.2 fun x hx => ?_).symm
      obtain ⟨k, hk, rfl⟩ := List.mem_iff_getElem.1 hx
      have hk2 : k < j := by simp at hk; omega
      rw [List.getElem_take, hlo k _ hk2 (List.getElem?_eq_getElem (by omega))]
      rfl, fun k _ => rfl⟩
    have U0 : Hid (IRow w1 B g cap n its ∧ Only [g] w w1) := Lib.hid ⟨HR.out.only ((Only.refl [] w).below B1.out) (by simp), ((Only.refl [] w).below B1.out).mono (by simp)⟩
    have ej : IntKind.i64.wrap ((j : Int) + 1) = ((j + 1 : Nat) : Int) := w_inc _ (by have := HN.out; have := HL.out; omega)
    clear hlo hat hj hx0
    go_wp2_with fail
    go_loopw [5, 6] (fun u v wr => ∃ i k : Nat, (u = .int .i64 (i : Int) ∧ v = .int .i64 (k : Int)) ∧ Hid (k ≤ n) ∧ Hid (∃ cur, DlInv F its cur i k ∧ IRow wr B g cap n cur ∧ Only [g] w wr ∧ ∀ x ∈ cur, x ∈ its)) (fun _ v _ => n - (intOf v).toNat)
    case atStart => exact ⟨j, j + 1, ⟨rfl, by go_num⟩, Lib.hid (by have := HJ.out; have := HL.out; omega), Lib.hid ⟨its, J0.out, U0.out.1, U0.out.2, fun x hx => hx⟩⟩
    case round =>
      obtain ⟨i, k, ⟨rfl, rfl⟩, HK, hR⟩ := hrel
      clear J0 U0
      obtain ⟨cur, hd, hu, ho, hm⟩ := hR.out
      have HD := Lib.hid hd
      have HU := Lib.hid hu
      have HO := Lib.hid ho
      have HM := Lib.hid hm
      clear hd hu ho hm hR
      by_cases hk : k < n
      · have d1 : decide ((k : Int) < (n : Int)) = true := decide_eq_true (by omega)
        have d1' : decide (k < n) = true := decide_eq_true hk
        have km := hk
        have e1 : IntKind.i64.wrap ((k : Int) + 1) = ((k + 1 : Nat) : Int) := w_inc _ (by have := HN.out; omega)
        have e2 : IntKind.i64.wrap ((i : Int) + 1) = ((i + 1 : Nat) : Int) := w_inc _ (by have := HN.out; have := HD.out.ij; omega)
        have im : i < n := by have := HD.out.ij; omega
        obtain ⟨x, hx⟩ : ∃ x, its[k]? = some x := ⟨_, List.getElem?_eq_getElem (by rw [HL.out]; exact hk)⟩
        have HX := Lib.hid hx
        have hxc : cur[k]? = some x := by rw [HD.out.rest k (Nat.le_refl _)]; exact hx
        have c0 : wr.cell? ⟨g, k * 3, none⟩ = some (.int .u64 x.key) := HU.out.cell hxc 0 (by omega)
        have c1 : wr.cell? ⟨g, k * 3 + 1, none⟩ = some x.vec.v := HU.out.cell hxc 1 (by omega)
        have c2 : wr.cell? ⟨g, k * 3 + 2, none⟩ = some x.tag.v := HU.out.cell hxc 2 (by omega)
        have R2 := Lib.hid (Row.made wr #[.int .u64 x.key, x.vec.v, x.tag.v] tIt)
        have K2 : Hid (Only [] wr (wr.alloc (.cells #[.int .u64 x.key, x.vec.v, x.tag.v] tIt))) := Lib.hid ((Only.refl [] wr).alloc _)
        have LK1 := Lib.hid (LK.out (wr.alloc (.cells #[.int .u64 x.key, x.vec.v, x.tag.v] tIt)) x (HO.out.trans K2.out (by simp)))
        have NG : Hid (g ≠ wr.heap.size) := Lib.hid (by have := HG.out; have := HO.out.size; omega)
        clear hx hk hxc
        unfold Sl.v at c1 c2 LK1 R2 K2
        go_upto_region 8 with fail
        generalize wr.alloc (.cells #[.int .u64 x.key, .slice x.vec.a x.vec.xs.length x.vec.c, .slice x.tag.a x.tag.xs.length x.tag.c] tIt) = w2 at *
        clear c0 c1 c2
        have b0 : w2.cell? ⟨wr.heap.size, 0, none⟩ = some (.int .u64 x.key) := R2.out.cell 0
        have b1 : w2.cell? ⟨wr.heap.size, 1, none⟩ = some (.slice x.vec.a x.vec.xs.length x.vec.c) := R2.out.cell 1
        have b2 : w2.cell? ⟨wr.heap.size, 2, none⟩ = some (.slice x.tag.a x.tag.xs.length x.tag.c) := R2.out.cell 2
        cases hF : F x with
        | true =>
          have HFX := Lib.hid hF
          rw [hF] at LK1
          clear hF
          go_wp2_with fail
          refine LK1.out.mono ?_
          rintro _ w3 ⟨rfl, hb⟩
          have K3 := Lib.hid (K2.out.below hb)
          clear hb LK1 b0 b1 b2
          go_wp2_with fail
          go_roundw
          case rel => exact ⟨i, k + 1, ⟨rfl, by go_num⟩, Lib.hid (by omega), Lib.hid ⟨cur, HD.out.skip HX.out HFX.out, HU.out.only K3.out (by simp), HO.out.trans K3.out (by simp), HM.out⟩⟩
          case measure => simp [intOf]; omega
        | false =>
          have HFX := Lib.hid hF
          rw [hF] at LK1
          clear hF
          go_wp2_with fail
          refine LK1.out.mono ?_
          rintro _ w3 ⟨rfl, hb⟩
          have K3 := Lib.hid (K2.out.below hb)
          have R3 := Lib.hid (R2.out.only ((Only.refl [] w2).below hb) (by simp))
          clear hb LK1 b0 b1 b2
          have b0 : w3.cell? ⟨wr.heap.size, 0, none⟩ = some (.int .u64 x.key) := R3.out.cell 0
          have b1 : w3.cell? ⟨wr.heap.size, 1, none⟩ = some (.slice x.vec.a x.vec.xs.length x.vec.c) := R3.out.cell 1
          have b2 : w3.cell? ⟨wr.heap.size, 2, none⟩ = some (.slice x.tag.a x.tag.xs.length x.tag.c) := R3.out.cell 2
          have U3 := Lib.hid (HU.out.only K3.out (by simp))
          obtain ⟨xi, hxi⟩ : ∃ y, cur[i]? = some y := ⟨_, List.getElem?_eq_getElem (by rw [HU.out.len]; exact im)⟩
          have g0 : w3.cell? ⟨g, i * 3, none⟩ = some (.int .u64 xi.key) := U3.out.cell hxi 0 (by omega)
          have g1 : w3.cell? ⟨g, i * 3 + 1, none⟩ = some xi.vec.v := U3.out.cell hxi 1 (by omega)
          have g2 : w3.cell? ⟨g, i * 3 + 2, none⟩ = some xi.tag.v := U3.out.cell hxi 2 (by omega)
          have f0 := U3.out.free (i * 3)
          have f1 := U3.out.free (i * 3 + 1)
          have f2 := U3.out.free (i * 3 + 2)
          have P := Lib.hid (U3.out.put i x im)
          unfold Sl.v at P
          clear hxi
          go_wp2_with fail
          go_roundw
          case rel => exact ⟨i + 1, k + 1, ⟨by go_num, by go_num⟩, Lib.hid (by omega), Lib.hid ⟨_, HD.out.keep HX.out HFX.out, P.out.1, (HO.out.trans K3.out (by simp)).trans P.out.2 (by simp), fun y hy => by
            rcases List.mem_or_eq_of_mem_set hy with h | h
            · exact HM.out y h
            · rw [h]; exact List.mem_of_getElem? HX.out⟩⟩
          case measure => simp [intOf]; omega
      · have d1 : decide ((k : Int) < (n : Int)) = false := decide_eq_false (by omega)
        have d1' : decide (k < n) = false := decide_eq_false hk
        have HKm : Hid (k = n) := Lib.hid (by have := HK.out; omega)
        clear hk
        have im : i < n := by have := HD.out.ij; have := HKm.out; omega
        have im' : i ≤ n := by omega
        have icap : i ≤ cap := by have := HC.out; omega
        have ic : ¬ cap = i := by have := HC.out; omega
        obtain ⟨rr, hrr⟩ : ∃ rr, n - i = rr := ⟨_, rfl⟩
        have hz := zeroIt_cells rr
        have hcl : ∀ ty, (Builtin.clear_ #[44] ty #[.slice (some ⟨g, i * 3, none⟩) rr (cap - i)]).run Tryz.prog wr = .ok (.tuple #[]) (wr.setCells g (i * 3) (Builtin.zeroCells (Value.agg #[.int .u64 0, .slice none 0 0, .slice none 0 0]).cells rr).toList) := fun ty =>
          run_clear_cells rr wr _ tIt ty _ Tryz.underlying44 zeroIt hz.2 g (i * 3) _ (by omega) (fun j hj => by
            rw [hz.1] at hj
            have hlen : (itL cur).length = n * 3 := by rw [itL_len, HU.out.len]
            rw [World.ownsRow.cellAt HU.out (i * 3 + j) (by omega), List.getElem?_eq_getElem (by omega)]
            rfl) (fun j => HU.out.free _)
        have PO : Hid (Only [g] w (wr.setCells g (i * 3) (Builtin.zeroCells (Value.agg #[.int .u64 0, .slice none 0 0, .slice none 0 0]).cells rr).toList)) := Lib.hid (only_setCells g _ _ HO.out)
        have PC : Hid (∀ j x, j < i → cur[j]? = some x → ∀ q, q < 3 → (wr.setCells g (i * 3) (Builtin.zeroCells (Value.agg #[.int .u64 0, .slice none 0 0, .slice none 0 0]).cells rr).toList).cell? ⟨g, j * 3 + q, none⟩ = x.cells[q]?) := Lib.hid fun j x hj hx q hq => by
          rw [World.cell?_setCells_out g _ (i * 3) wr ⟨g, j * 3 + q, none⟩ (fun _ _ => .inl (by show j * 3 + q < i * 3; omega))]
          exact HU.out.cell hx q hq
        generalize wr.setCells g (i * 3) (Builtin.zeroCells (Value.agg #[.int .u64 0, .slice none 0 0, .slice none 0 0]).cells rr).toList = w5 at *
        clear hz
        go_wp2_with fail
        go_ret
        have hf : cur.take i = its.filter fun x => !F x := by
          rw [HD.out.head, List.take_of_length_le (by rw [HKm.out, HL.out]; exact Nat.le_refl _)]
        have hlen : (its.filter fun x => !F x).length = i := by rw [← hf]; simp; rw [HU.out.len]; omega
        have hmem : ∀ x ∈ its.filter fun x => !F x, x ∈ its := fun x hx => (List.mem_filter.1 hx).1
        have hgb : ∀ x ∈ its, ∀ b ∈ x.bs, b ≠ g := fun x hx b hb e => HI.out.ap x hx b hb (by simp [Value.ownBlock, e])
        refine ⟨some ⟨g, 0, none⟩, cap, by rw [hlen]; rfl, by rw [hlen]; exact icap, ⟨.inr ⟨g, rfl, Nat.lt_of_lt_of_le HG.out.2 PO.out.size, HG.out.1, fun j x hx q hq => ?_, fun x hx b hb => hgb x (hmem x hx) b hb⟩, fun x hx => ?_, fun x hx => HI.out.ge x (hmem x hx)⟩, PO.out.toBelow HBB.out (by simpa using HG.out.1)⟩
        · have hj := (List.getElem?_eq_some_iff.1 hx).1
          rw [← hf, List.getElem?_take] at hx
          split at hx
          · rename_i hji
            exact PC.out j x hji hx q hq
          · cases hx
        · have he := HI.out.each x (hmem x hx)
          exact ⟨he.1.only PO.out fun b hb => by simpa using hgb x (hmem x hx) b (List.mem_append_left _ hb), he.2.only PO.out fun b hb => by simpa using hgb x (hmem x hx) b (List.mem_append_right _ hb)⟩
end Go.Proofs.YtmbmkfhdiljalaaGreat

/- Plain: Range. -/
namespace Go.Proofs.YtmbmkfhdiljalaaGreat
open Go.RowKit Go.ChangeShapes Go.WideShapes Go.ChangeAt
set_option linter.unusedVariables false
set_option linter.unusedSimpArgs false

theorem index_nil (w : World) (fn : Value) : Calls Tryz.prog 81 #[.slice none 0 0, fn] w fun e w' => e = .returned (.int .i64 (-1)) ∧ w' = w := by
  go_enter Tryz.func81, Tryz.ntmps81
  go_wp2_with fail
  go_loopw [8] (fun u wr => u = .int .i64 0 ∧ Hid (wr = w)) (fun _ _ => 0)
  case atStart => exact ⟨rfl, Lib.hid rfl⟩
  case round =>
    obtain ⟨rfl, hr⟩ := hrel
    have hy9 := hr.out
    clear hr
    rename World => y9
    subst y9
    go_wp2_with fail
    go_ret
    exact ⟨rfl, rfl⟩
theorem delete_nil (w : World) (fn : Value) : Calls Tryz.prog 60 #[.slice none 0 0, fn] w fun e w' => e = .returned (.slice none 0 0) ∧ w' = w := by
  go_enter Tryz.func60, Tryz.ntmps60
  go_wp2_with fail
  refine (index_nil _ _).mono ?_
  rintro _ w1 ⟨rfl, hw1⟩
  subst w1
  go_wp2_with fail
  go_ret
  exact ⟨rfl, rfl⟩
theorem delete_any {w : World} {B fb tb : Nat} {v : Value} {its : List It} {F : It → Bool} (hB : B ≤ w.heap.size) (hI : ItsAt w B v its) (hn : its.length ≤ 1000000) (hfb : fb < B) (htb : tb < B)
    (LKh : ∀ G y x, Only G w y → (∀ b ∈ G, B ≤ b) → Calls Tryz.prog 62 #[.agg #[.int .u64 x.key, x.vec.v, x.tag.v], .pointer (some ⟨fb, 0, none⟩), .pointer (some ⟨tb, 0, none⟩)] y fun e w' => e = .returned (.bool (F x)) ∧ Below y.heap.size y w') :
    Calls Tryz.prog 60 #[v, .func (.func 62) #[] #[.pointer (some ⟨fb, 0, none⟩), .pointer (some ⟨tb, 0, none⟩)]] w (DelTo F its B w) := by
  have hI0 := hI
  rcases hI.own.2 with ⟨rfl, h0⟩ | ⟨g, cap, cur, rfl, hb, hg, hc, hm, hcs, ht⟩
  · have : its = [] := List.length_eq_zero_iff.1 h0
    subst this
    refine (delete_nil w _).mono ?_
    rintro e w' ⟨he, rfl⟩
    exact ⟨none, 0, he, Nat.le_refl _, ⟨.inl rfl, by simp, by simp⟩, Below.refl _ _⟩
  · have hr : IRow w B g cap its.length its := hI0.own
    exact delete_on hB hI0 hr hn (by omega) (by omega) fun y x hy => LKh [g] y x hy (by simpa using hb)
def keepR (lo hi : Int) (c : Rc) : Bool := !(decide (c.1 < lo) || decide (hi < c.1))
def RangeTo (L : List Rc) (lo hi most : Int) (w : World) (e : Ending) (w' : World) : Prop := ∃ (a : Option Addr) (c : Nat) (its : List It), e = .returned (.tuple #[.slice a its.length c, .int .i64 0]) ∧ RdAt w' w.heap.size a its ∧ its.map It.c = (L.filter (keepR lo hi)).take most.toNat ∧ Below w.heap.size w w'
theorem RdAt.take {w : World} {B : Nat} {a : Option Addr} {its : List It} (h : RdAt w B a its) (k : Nat) : RdAt w B a (its.take k) := by
  refine ⟨?_, fun x hx => h.each x (List.mem_of_mem_take hx), fun x hx => h.ge x (List.mem_of_mem_take hx)⟩
  rcases h.row with rfl | ⟨g, e, hl, hb, hc, hx⟩
  · exact .inl (by simp)
  · exact .inr ⟨g, e, hl, hb, fun j x hj i hi => hc j x (by rw [List.getElem?_take] at hj; split at hj; exact hj; cases hj) i hi, fun x hx' => hx x (List.mem_of_mem_take hx')⟩
theorem map_filter_c (lo hi : Int) (its : List It) : (its.filter fun x => !outR lo hi x).map It.c = (its.map It.c).filter (keepR lo hi) := by
  rw [List.filter_map]
  rfl
set_option maxRecDepth 100000 in
set_option maxHeartbeats 4000000 in
theorem range_on {w : World} {B p ba bo : Nat} {D : PDB} (h : DbAt w B p ba bo D) (hs : Small D) {n : Int} {o : PTx} (ho : findP n D.op = some o) (lo hi most : Int) (hm1 : -9223372036854775808 ≤ most) (hm2 : most ≤ 9223372036854775807) :
    Calls Tryz.prog 31 #[.pointer (some ⟨p, 0, none⟩), .int .u64 n, .int .u64 lo, .int .u64 hi, .int .i64 most] w (fun e w' => ∃ zs : List Int, zs.Pairwise (· < ·) ∧ (∀ x, x ∈ zs ↔ x ∈ D.all.map (·.1) ∨ x ∈ o.wr.map (·.1)) ∧ RangeTo (zs.filterMap fun k => visC (seesR D o k)) lo hi most w e w') := by
  obtain ⟨hom, rfl⟩ := findP_some ho
  have O1 : Only [] w ((w.alloc (.cells #[.int .u64 lo] 30)).alloc (.cells #[.int .u64 hi] 30)) := ((Only.refl [] w).alloc _).alloc _
  have R1 := Lib.hid ((Row.made w #[.int .u64 lo] 30).only ((Only.refl [] _).alloc (.cells #[.int .u64 hi] 30)) (by simp))
  have R2 := Lib.hid (Row.made (w.alloc (.cells #[.int .u64 lo] 30)) #[.int .u64 hi] 30)
  rw [show (w.alloc (.cells #[.int .u64 lo] 30)).heap.size = w.heap.size + 1 by simp] at R2
  have S1 : Hid (((w.alloc (.cells #[.int .u64 lo] 30)).alloc (.cells #[.int .u64 hi] 30)).heap.size = w.heap.size + 2) := Lib.hid (by simp)
  have HO := Lib.hid O1
  have HD := Lib.hid (h.only O1 (by simp))
  have HS := Lib.hid hs
  have HM := Lib.hid hom
  have HFi := Lib.hid ho
  have HMo := Lib.hid (And.intro hm1 hm2)
  clear h hs ho hom O1 hm1 hm2
  go_enter Tryz.func31, Tryz.ntmps31
  go_wp2_with fail
  generalize (w.alloc (.cells #[.int .u64 lo] 30)).alloc (.cells #[.int .u64 hi] 30) = w1 at *
  refine (find_yes HD.out HFi.out).mono ?_
  rintro _ w2 ⟨rfl, hw⟩
  subst w2
  have L := Lib.hid (seen_on HD.out HS.out HM.out)
  unfold ListTo at L
  go_wp2_with fail
  refine L.out.mono ?_
  rintro _ w3 ⟨v, its, zs, rfl, hi1, hc, hz, hmem, hil, hb⟩
  have B3 := Lib.hid hb
  have II := Lib.hid hi1
  have CC := Lib.hid hc
  have ZZ := Lib.hid (And.intro hz hmem)
  have IL := Lib.hid hil
  clear hil
  have DL := Lib.hid (delete_any (fb := w.heap.size) (tb := w.heap.size + 1) (F := outR lo hi) B3.out.size II.out IL.out (by have := S1.out; omega) (by have := S1.out; omega) (fun G y x hy hG => range1_on ((R1.out.only ((Only.refl [] w1).below B3.out) (by simp)).only hy (fun hm => by have := hG _ hm; have := S1.out; omega)) ((R2.out.only ((Only.refl [] w1).below B3.out) (by simp)).only hy (fun hm => by have := hG _ hm; have := S1.out; omega)) x))
  unfold DelTo at DL
  obtain ⟨p3, n3, c3, rfl⟩ : ∃ p n c, v = .slice p n c := by obtain ⟨a, b, e, _⟩ := own_shape hi1.own; exact ⟨_, _, _, e⟩
  clear hi1 hc hz hmem hb L
  go_wp2_with fail
  refine DL.out.mono ?_
  rintro _ w4 ⟨a, c, rfl, hlc, hrd, hb⟩
  have B4 : Hid (Below w1.heap.size w1 w4) := Lib.hid (B3.out.trans hb)
  have RD := Lib.hid hrd
  have LC := Lib.hid hlc
  have MC : Hid ((its.filter fun x => !outR lo hi x).map It.c = (zs.filterMap fun k => visC (seesR D o k)).filter (keepR lo hi)) := Lib.hid (by rw [map_filter_c, CC.out])
  generalize (its.filter fun x => !outR lo hi x) = L2 at *
  clear hb hrd hlc DL
  obtain ⟨m, hm⟩ : ∃ m, L2.length = m := ⟨_, rfl⟩
  have LM := Lib.hid hm
  rw [hm] at LC ⊢
  clear hm
  obtain ⟨k, hk⟩ : ∃ k : Nat, min m most.toNat = k := ⟨_, rfl⟩
  have HKK := Lib.hid hk
  have hmin : min (m : Int) (max 0 most) = (k : Int) := by omega
  have kc : k ≤ c := by have := LC.out; omega
  clear hk
  go_wp2_with fail
  go_ret2
  refine ⟨zs, ZZ.out.1, ZZ.out.2, a, c, L2.take k, ?_, ?_, ?_, ?_⟩
  · have : (L2.take k).length = k := by simp; have := LM.out; have := HKK.out; omega
    rw [this]
    rfl
  · have h9 := RD.out.take k
    exact ⟨by
      rcases h9.row with h | ⟨g, e, h1, h2, h3⟩
      · exact .inl h
      · exact .inr ⟨g, e, h1, by have := S1.out; omega, h3⟩, h9.each, fun x hx b hb => by have := h9.ge x hx b hb; have := S1.out; omega⟩
  · rw [List.map_take, MC.out]
    have hl : ((zs.filterMap fun k => visC (seesR D o k)).filter (keepR lo hi)).length = m := by rw [← MC.out, List.length_map, LM.out]
    rw [← HKK.out, ← hl]
    rw [List.take_eq_take_iff]
    omega
  · exact (HO.out.toBelow (Nat.le_refl _) (by simp)).trans (B4.out.mono (by have := S1.out; omega))
end Go.Proofs.YtmbmkfhdiljalaaGreat

/- Plain: the refusals of a DB; Abort, Crash, Delete (printed by gen_refuse.py). -/
namespace Go.Proofs.YtmbmkfhdiljalaaGreat
open Go.RowKit Go.ChangeShapes Go.WideShapes Go.ChangeAt
set_option linter.unusedVariables false
set_option linter.unusedSimpArgs false

def RefTo (v : Value) (w : World) (e : Ending) (w' : World) : Prop := e = .returned v ∧ Below w.heap.size w w'
theorem get_no {w : World} {B p ba bo : Nat} {D : PDB} (h : DbAt w B p ba bo D) {n : Int} (ho : findP n D.op = none) (key : Int) : Calls Tryz.prog 20 #[.pointer (some ⟨p, 0, none⟩), .int .u64 n, .int .u64 key] w (RefTo (.tuple #[.agg (itemV none), .int .i64 12]) w) := by
  have TH := Lib.hid (find_no (h.only ((Only.refl [] w).alloc (.cells #[.int .u64 0, .slice none 0 0, .slice none 0 0] tIt)) (by simp)) ho)
  have R0 := Lib.hid (Row.made w #[.int .u64 0, .slice none 0 0, .slice none 0 0] tIt)
  clear h ho
  go_enter Tryz.func20, Tryz.ntmps20
  go_wp2_with fail
  refine TH.out.mono ?_
  rintro _ w1 ⟨rfl, hw⟩
  subst w1
  have B0 : Hid (Below w.heap.size w (w.alloc (.cells #[.int .u64 0, .slice none 0 0, .slice none 0 0] tIt))) := Lib.hid ((Below.refl _ _).alloc (Nat.le_refl _) _)
  have fz := R0.out.free 0
  have fz1 := R0.out.free 1
  have fz2 := R0.out.free 2
  have c0 := R0.out.cell 0
  have c1 := R0.out.cell 1
  have c2 := R0.out.cell 2
  simp only [List.getElem?_toArray, List.getElem?_cons_zero, List.getElem?_cons_succ] at c0 c1 c2
  have R1 := Lib.hid (((R0.out.set 0 (.int .u64 0)).set 1 (.slice none 0 0)).set 2 (.slice none 0 0))
  generalize w.alloc (.cells #[.int .u64 0, .slice none 0 0, .slice none 0 0] tIt) = w1 at *
  go_wp2_with fail
  refine bodyPost_ret (results_item_tmp rfl _ _ w.heap.size (itemV none) rfl rfl ?_) rfl ?_
  · exact R1.out
  · exact ⟨rfl, ((((Only.refl [w.heap.size] w1).setCell (by simp) _).setCell (by simp) _).setCell (by simp) _ |>.toBelow B0.out.size (by simp)) |> B0.out.trans⟩
theorem range_no {w : World} {B p ba bo : Nat} {D : PDB} (h : DbAt w B p ba bo D) {n : Int} (ho : findP n D.op = none) (a b c : Int) : Calls Tryz.prog 31 #[.pointer (some ⟨p, 0, none⟩), .int .u64 n, .int .u64 a, .int .u64 b, .int .i64 c] w (RefTo (.tuple #[.slice none 0 0, .int .i64 12]) w) := by
  have TH : Hid (∀ y, Below w.heap.size w y → _) := Lib.hid fun y k => find_no (h.only ((Only.refl [] w).below k) (by simp)) ho
  clear h ho
  go_enter Tryz.func31, Tryz.ntmps31
  go_wp2_with fail
  refine (TH.out _ (((Below.refl _ _).alloc (Nat.le_refl _) _).alloc (by simp) _)).mono ?_
  rintro _ w1 ⟨rfl, hw⟩
  subst w1
  go_wp2_with fail
  go_ret2
  exact ⟨rfl, ((Below.refl _ _).alloc (Nat.le_refl _) _).alloc (by simp) _⟩
theorem knn_no {w : World} {B p ba bo : Nat} {D : PDB} (h : DbAt w B p ba bo D) {n : Int} (ho : findP n D.op = none) (k : Int) (q : Value) : Calls Tryz.prog 33 #[.pointer (some ⟨p, 0, none⟩), .int .u64 n, q, .int .i64 k] w fun e w' => e = .returned (.tuple #[.slice none 0 0, .int .i64 12]) ∧ w' = w := by
  have TH := Lib.hid (find_no h ho)
  clear h ho
  go_enter Tryz.func33, Tryz.ntmps33
  go_wp2_with fail
  refine TH.out.mono ?_
  rintro _ w1 ⟨rfl, hw⟩
  subst w1
  go_wp2_with fail
  go_ret2
  exact ⟨rfl, rfl⟩
theorem put_no {w : World} {B p ba bo : Nat} {D : PDB} (h : DbAt w B p ba bo D) {n : Int} (ho : findP n D.op = none) (key : Int) (a b : Value) : Calls Tryz.prog 14 #[.pointer (some ⟨p, 0, none⟩), .int .u64 n, .agg #[.int .u64 key, a, b]] w (RefTo (.int .i64 12) w) := by
  have TH : Hid (∀ y, Below w.heap.size w y → _) := Lib.hid fun y k => find_no (h.only ((Only.refl [] w).below k) (by simp)) ho
  clear h ho
  go_enter Tryz.func14, Tryz.ntmps14
  go_wp2_with fail
  refine (TH.out _ ((Below.refl _ _).alloc (Nat.le_refl _) _)).mono ?_
  rintro _ w1 ⟨rfl, hw⟩
  subst w1
  go_wp2_with fail
  go_ret
  exact ⟨rfl, (Below.refl _ _).alloc (Nat.le_refl _) _⟩
theorem delete_no {w : World} {B p ba bo : Nat} {D : PDB} (h : DbAt w B p ba bo D) {n : Int} (ho : findP n D.op = none) (key : Int) : Calls Tryz.prog 24 #[.pointer (some ⟨p, 0, none⟩), .int .u64 n, .int .u64 key] w fun e w' => e = .returned (.int .i64 12) ∧ w' = w := by
  have TH := Lib.hid (find_no h ho)
  clear h ho
  go_enter Tryz.func24, Tryz.ntmps24
  go_wp2_with fail
  refine TH.out.mono ?_
  rintro _ w1 ⟨rfl, hw⟩
  subst w1
  go_wp2_with fail
  go_ret
  exact ⟨rfl, rfl⟩
theorem commit_no {w : World} {B p ba bo : Nat} {D : PDB} (h : DbAt w B p ba bo D) {n : Int} (ho : findP n D.op = none) : Calls Tryz.prog 15 #[.pointer (some ⟨p, 0, none⟩), .int .u64 n] w fun e w' => e = .returned (.int .i64 12) ∧ w' = w := by
  have TH := Lib.hid (find_no h ho)
  clear h ho
  go_enter Tryz.func15, Tryz.ntmps15
  go_wp2_with fail
  refine TH.out.mono ?_
  rintro _ w1 ⟨rfl, hw⟩
  subst w1
  go_wp2_with fail
  go_ret
  exact ⟨rfl, rfl⟩
theorem abort_no {w : World} {B p ba bo : Nat} {D : PDB} (h : DbAt w B p ba bo D) {n : Int} (ho : findP n D.op = none) : Calls Tryz.prog 27 #[.pointer (some ⟨p, 0, none⟩), .int .u64 n] w fun e w' => e = .returned (.int .i64 12) ∧ w' = w := by
  have TH := Lib.hid (find_no h ho)
  clear h ho
  go_enter Tryz.func27, Tryz.ntmps27
  go_wp2_with fail
  refine TH.out.mono ?_
  rintro _ w1 ⟨rfl, hw⟩
  subst w1
  go_wp2_with fail
  go_ret
  exact ⟨rfl, rfl⟩
theorem item_long {key : Int} {vec tag : Sl} {w : World} (h1 : 0 < vec.xs.length) (h2 : vec.xs.length ≤ 4096) (h3 : 1024 < tag.xs.length) :
    Calls Tryz.prog 41 #[.agg #[.int .u64 key, vec.v, tag.v]] w fun e w' => e = .returned (.int .i64 3) ∧ Below w.heap.size w w' := by
  obtain ⟨va, vc, xs⟩ := vec
  obtain ⟨ta, tc, ys⟩ := tag
  unfold Sl.v
  simp only at h1 h2 h3
  obtain ⟨n, hn⟩ : ∃ n, xs.length = n := ⟨_, rfl⟩
  obtain ⟨m, hm⟩ : ∃ m, ys.length = m := ⟨_, rfl⟩
  simp only [hn, hm] at h1 h2 h3 ⊢
  have d1 : ((n : Int) == 0) = false := by simpa using (show (n : Int) ≠ 0 by omega)
  have d1' : decide ((n : Int) = 0) = false := decide_eq_false (by omega)
  have d2 : decide ((4096 : Int) < (n : Int)) = false := decide_eq_false (by omega)
  have d2' : decide (4096 < n) = false := decide_eq_false (by omega)
  have d3 : decide ((1024 : Int) < (m : Int)) = true := decide_eq_true (by omega)
  have d3' : decide (1024 < m) = true := decide_eq_true (by omega)
  have d4 : ((n == 0) = false) := by simpa using (show n ≠ 0 by omega)
  have d5 : decide (n = 0) = false := decide_eq_false (by omega)
  clear hn hm
  go_enter Tryz.func41, Tryz.ntmps41
  go_wp2_with fail
  go_ret
  exact ⟨rfl, (Below.refl _ _).alloc (Nat.le_refl _) _⟩
set_option maxHeartbeats 2000000 in
theorem put_bad {w : World} {B p ba bo : Nat} {D : PDB} {n key : Int} {o : PTx} {va ta : Sl} (h : DbAt w B p ba bo D) (ho : findP n D.op = some o) (hlen : va.xs.length ≤ 1000000) (c : Int) (hd : ((va.xs.length : Int) ≠ D.dim ∧ c = 9) ∨ ((va.xs.length : Int) = D.dim ∧ 1024 < ta.xs.length ∧ c = 3)) :
    Calls Tryz.prog 14 #[.pointer (some ⟨p, 0, none⟩), .int .u64 n, .agg #[.int .u64 key, va.v, ta.v]] w (RefTo (.int .i64 c) w) := by
  obtain ⟨hom, rfl⟩ := findP_some ho
  have FI : Hid (∀ y, Only [] w y → Calls Tryz.prog 40 #[.pointer (some ⟨p, 0, none⟩), .int .u64 o.n] y fun e w' => e = .returned (.tuple #[.pointer (some ⟨o.bt, 0, none⟩), .int .i64 0]) ∧ w' = y) := Lib.hid fun y k => find_yes (h.only k (by simp)) ho
  have C0 : Hid (∀ y, Only [] w y → y.cell? ⟨p, 0, none⟩ = some (.int .i64 D.dim)) := Lib.hid fun y k => (h.row.only k (by simp)).cell 0
  have hdim := h.fine.dim
  rcases hd with ⟨hd, rfl⟩ | ⟨hd, ht, rfl⟩
  · obtain ⟨a1, n1, c1, hv1⟩ : ∃ a n c, va.v = .slice a n c := ⟨_, _, _, rfl⟩
    obtain ⟨a2, n2, c2, hv2⟩ : ∃ a n c, ta.v = .slice a n c := ⟨_, _, _, rfl⟩
    have hn1 : n1 = va.xs.length := by unfold Sl.v at hv1; simp only [Value.slice.injEq] at hv1; exact hv1.2.1.symm
    rw [hv1, hv2]
    rw [← hn1] at hd
    obtain ⟨dim, hdm⟩ : ∃ dim, D.dim = dim := ⟨_, rfl⟩
    rw [hdm] at hd C0
    have q1 : ((n1 : Int) == dim) = false := by simpa using hd
    have q2 : decide ((n1 : Int) = dim) = false := decide_eq_false hd
    have q3 : ((n1 : Int) != dim) = true := by simpa using hd
    clear h ho hom hv1 hv2 hdim hlen hn1 hd hdm
    have R1 : Hid (Row (w.alloc (.cells #[.int .u64 key, .slice a1 n1 c1, .slice a2 n2 c2] tIt)) w.heap.size #[.int .u64 key, .slice a1 n1 c1, .slice a2 n2 c2] tIt) := Lib.hid (Row.made w _ _)
    have K1 : Hid (Only [] w (w.alloc (.cells #[.int .u64 key, .slice a1 n1 c1, .slice a2 n2 c2] tIt))) := Lib.hid ((Only.refl [] w).alloc _)
    go_enter Tryz.func14, Tryz.ntmps14
    go_wp2_with fail
    refine (FI.out _ K1.out).mono ?_
    rintro _ w2 ⟨rfl, hw⟩
    subst w2
    generalize w.alloc (.cells #[.int .u64 key, .slice a1 n1 c1, .slice a2 n2 c2] tIt) = w1 at *
    have e1 : w1.cell? ⟨w.heap.size, 1, none⟩ = some (.slice a1 n1 c1) := R1.out.cell 1
    have e2 := C0.out w1 K1.out
    go_wp2_with fail
    go_quiet (fail)
    go_wp2_with fail
    go_ret
    exact ⟨rfl, (K1.out.drewN _).toBelow (Nat.le_refl _) (by simp)⟩
  · have IM : Hid (∀ y : World, Calls Tryz.prog 41 #[.agg #[.int .u64 key, va.v, ta.v]] y fun e w' => e = .returned (.int .i64 3) ∧ Below y.heap.size y w') := Lib.hid fun y => item_long (by omega) (by omega) ht
    obtain ⟨a1, n1, c1, hv1⟩ : ∃ a n c, va.v = .slice a n c := ⟨_, _, _, rfl⟩
    obtain ⟨a2, n2, c2, hv2⟩ : ∃ a n c, ta.v = .slice a n c := ⟨_, _, _, rfl⟩
    have hn1 : n1 = va.xs.length := by unfold Sl.v at hv1; simp only [Value.slice.injEq] at hv1; exact hv1.2.1.symm
    rw [hv1, hv2] at IM ⊢
    rw [← hn1] at hd
    obtain ⟨dim, hdm⟩ : ∃ dim, D.dim = dim := ⟨_, rfl⟩
    rw [hdm] at hd C0
    subst hd
    clear h ho hom hv1 hv2 hdim hlen hn1 hdm ht
    have R1 : Hid (Row (w.alloc (.cells #[.int .u64 key, .slice a1 n1 c1, .slice a2 n2 c2] tIt)) w.heap.size #[.int .u64 key, .slice a1 n1 c1, .slice a2 n2 c2] tIt) := Lib.hid (Row.made w _ _)
    have K1 : Hid (Only [] w (w.alloc (.cells #[.int .u64 key, .slice a1 n1 c1, .slice a2 n2 c2] tIt))) := Lib.hid ((Only.refl [] w).alloc _)
    go_enter Tryz.func14, Tryz.ntmps14
    go_wp2_with fail
    refine (FI.out _ K1.out).mono ?_
    rintro _ w2 ⟨rfl, hw⟩
    subst w2
    generalize w.alloc (.cells #[.int .u64 key, .slice a1 n1 c1, .slice a2 n2 c2] tIt) = w1 at *
    have e1 : w1.cell? ⟨w.heap.size, 1, none⟩ = some (.slice a1 n1 c1) := R1.out.cell 1
    have e2 := C0.out w1 K1.out
    go_wp2_with fail
    go_quiet (fail)
    have K2 : Hid (Only [] w (w1.drewN nq)) := Lib.hid (K1.out.drewN nq)
    have R2 : Hid (Row (w1.drewN nq) w.heap.size #[.int .u64 key, .slice a1 n1 c1, .slice a2 n2 c2] tIt) := Lib.hid (R1.out.only ((Only.refl [] _).drewN nq) (by simp))
    clear e1 e2 R1 K1 FI
    generalize w1.drewN nq = w2 at *
    have e0 := R2.out.cell 0
    have e1 := R2.out.cell 1
    have e2 := R2.out.cell 2
    simp only [List.getElem?_toArray, List.getElem?_cons_zero, List.getElem?_cons_succ] at e0 e1 e2
    go_wp2_with fail
    refine (IM.out _).mono ?_
    rintro _ w3 ⟨rfl, hb⟩
    have K3 : Hid (Only [] w w3) := Lib.hid (K2.out.below hb)
    clear hb e0 e1 e2
    go_wp2_with fail
    go_ret
    exact ⟨rfl, K3.out.toBelow (Nat.le_refl _) (by simp)⟩
theorem begin_full {w : World} {B p ba bo : Nat} {D : PDB} (h : DbAt w B p ba bo D) (hl : 8 ≤ D.op.length) (hl2 : D.op.length ≤ 1000) :
    Calls Tryz.prog 13 #[.pointer (some ⟨p, 0, none⟩)] w fun e w' => e = .returned (.tuple #[.int .u64 0, .int .i64 5]) ∧ w' = w := by
  have c4 : w.cell? ⟨p, 4, none⟩ = some (.map (some bo)) := h.row.cell 4
  have TH := Lib.hid (there_on h.row)
  have HH := Lib.hid h.om
  have hlen : (8 : Int) ≤ ((pxL D.op).length : Int) := by simp [pxL]; omega
  have hlen2 : ¬ ((pxL D.op).length : Int) < 8 := by omega
  clear h
  go_enter Tryz.func13, Tryz.ntmps13
  go_wp2_with fail
  refine TH.out.mono ?_
  rintro _ w1 ⟨rfl, hw⟩
  subst w1
  go_wp2_with (at_len; refine wpList_len_at _ rfl (.tmp 12) tMpx rfl 30 81 .u64 Tryz.underlying62 bo (pxL D.op) rfl HH.out ?_)
  go_ret2
  exact ⟨rfl, rfl⟩
/-- A call that leaves another DB at the same place. -/
def DbTo (v : Value) (B p : Nat) (D' : PDB) (F H : List Nat) (w : World) (e : Ending) (w' : World) : Prop := ∃ F' H', e = .returned v ∧ DbF w' B p D' F' H' ∧ Only F w w' ∧ Kept F F' w ∧ Kept H H' w
set_option maxHeartbeats 2000000 in
theorem abort_on {w : World} {B p : Nat} {D : PDB} {F H : List Nat} (h : DbF w B p D F H) {n : Int} {o : PTx} (ho : findP n D.op = some o) :
    Calls Tryz.prog 27 #[.pointer (some ⟨p, 0, none⟩), .int .u64 n] w (DbTo (.int .i64 0) B p (shutP D n) F H w) := by
  obtain ⟨ba, bo, h, rfl, rfl⟩ := h
  have FI := Lib.hid (find_yes h ho)
  have c4 : w.cell? ⟨p, 4, none⟩ = some (.map (some bo)) := h.row.cell 4
  have HH := Lib.hid h
  clear h ho
  go_enter Tryz.func27, Tryz.ntmps27
  go_wp2_with fail
  refine FI.out.mono ?_
  rintro _ w1 ⟨rfl, hw⟩
  subst w1
  go_wp2_with (at_delete; refine wpList_delete_at _ rfl (.tmp 18) (.tmp 19) tMpx 30 rfl 81 .u64 Tryz.underlying62 Tryz.underlying30 bo (pxL D.op) rfl HH.out.om n rfl ?_; intro w2 hm2 ho2 hs2)
  have N := Lib.hid (HH.out.shut n ho2 hm2)
  have O2 := Lib.hid ho2
  clear hm2 ho2 hs2
  go_wp2_with fail
  go_ret
  exact ⟨_, _, rfl, ⟨ba, bo, N.out.1, rfl, rfl⟩, O2.out.mono (by intro i hi; simp at hi; subst hi; exact .inl (by simp [PDB.own])), fun b hb => .inl (N.out.2.1 b hb), fun b hb => .inl (N.out.2.2 b hb)⟩
end Go.Proofs.YtmbmkfhdiljalaaGreat
