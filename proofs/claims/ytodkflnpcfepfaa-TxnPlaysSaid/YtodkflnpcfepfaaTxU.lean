/- The document's manager in memory; find, has, Open, Base. -/
import Derived.Test.YtodkflnpcfepfaaTxT
namespace Go.Proofs.Ytodkflnpcfepfaa
open Go.RowKit Go.ChangeShapes Go.WideShapes Go.ChangeAt
set_option linter.unusedVariables false
set_option linter.unusedSimpArgs false

abbrev tRf : TypeId := 52
abbrev tRt : TypeId := 56
structure RT where
  n : Int
  start : Int
  at_ : Int
  op : Bool
  keys : List Int
  ka : Option Addr
  kc : Nat
structure Rf where
  ep : Int
  last : Int
  all : List RT
def RT.kv (x : RT) : Value := .slice x.ka x.keys.length x.kc
def RT.cells (x : RT) : List Value := [.int .u64 x.n, .int .u64 x.start, .int .u64 x.at_, .bool x.op, x.kv, .bool false]
def allL (l : List RT) : List Value := l.flatMap RT.cells
def Rf.base (R : Rf) : Int := R.ep * 4294967296
theorem allL_append (a b : List RT) : allL (a ++ b) = allL a ++ allL b := by simp [allL]
theorem allL_len (l : List RT) : (allL l).length = l.length * 6 := by
  induction l with
  | nil => rfl
  | cons x l ih =>
    show (x.cells ++ allL l).length = _
    rw [List.length_append, ih]
    simp [RT.cells]
    omega
theorem allL_get (l : List RT) : ∀ (j : Nat) (x : RT), l[j]? = some x → ∀ i, i < 6 → (allL l)[j * 6 + i]? = x.cells[i]? := by
  induction l with
  | nil => intro j x h; simp at h
  | cons y l ih =>
    intro j x h i hi
    show (y.cells ++ allL l)[j * 6 + i]? = _
    cases j with
    | zero =>
      simp only [List.getElem?_cons_zero, Option.some.injEq] at h
      subst h
      rw [List.getElem?_append_left (by simp [RT.cells]; omega)]
      simp
    | succ j =>
      rw [List.getElem?_append_right (by simp [RT.cells]; omega)]
      have e : (j + 1) * 6 + i - y.cells.length = j * 6 + i := by simp [RT.cells]; omega
      rw [e]
      exact ih j x (by simpa using h) i hi
def keyB (l : List RT) : List Nat := l.flatMap fun x => x.kv.ownBlock.toList
def Rf.blocks (R : Rf) (p : Nat) (av : Value) : List Nat := p :: (av.ownBlock.toList ++ keyB R.all)
structure Rf.Fine (R : Rf) : Prop where
  ep0 : 0 ≤ R.ep ∧ R.ep < 4294967296
  last0 : 0 ≤ R.last ∧ R.last ≤ 1000
  len : R.all.length ≤ 1000
  each : ∀ x ∈ R.all, (0 ≤ x.n ∧ x.n < 18446744073709551616) ∧ (0 ≤ x.start ∧ x.start ≤ 1000) ∧ (0 ≤ x.at_ ∧ x.at_ ≤ R.last) ∧ x.keys.length ≤ 1000
structure RfAt (w : World) (B p : Nat) (av : Value) (R : Rf) : Prop where
  row : Row w p #[.int .u32 R.ep, av, .int .u64 R.last] tRf
  own : w.ownsRow B tRt 6 av R.all.length (allL R.all)
  keys : ∀ x ∈ R.all, w.ownsRow B tU 1 x.kv x.keys.length (x.keys.map (Value.int .u64))
  nd : (R.blocks p av).Nodup
  ge : ∀ b ∈ R.blocks p av, B ≤ b
  fine : R.Fine
def RfF (w : World) (B p : Nat) (R : Rf) (F : List Nat) : Prop := ∃ av, RfAt w B p av R ∧ F = R.blocks p av
theorem mem_keyB {l : List RT} {x : RT} (h : x ∈ l) {g : Nat} (hg : x.kv.ownBlock = some g) : g ∈ keyB l := List.mem_flatMap.2 ⟨x, h, by simp [hg]⟩
theorem RfAt.lt {w : World} {B p : Nat} {av : Value} {R : Rf} (h : RfAt w B p av R) : ∀ b ∈ R.blocks p av, b < w.heap.size := by
  intro b hb
  simp only [Rf.blocks, List.mem_cons, List.mem_append] at hb
  rcases hb with rfl | hb | hb
  · exact h.row.lt
  · exact (h.own.lt b (by simpa using hb)).2
  · obtain ⟨x, hx, hb⟩ := List.mem_flatMap.1 hb
    exact ((h.keys x hx).lt b (by simpa using hb)).2
theorem RfAt.only {G : List Nat} {w w' : World} {B p : Nat} {av : Value} {R : Rf} (h : RfAt w B p av R) (k : Only G w w') (hG : ∀ b ∈ G, b ∉ R.blocks p av) : RfAt w' B p av R := by
  have hn : ∀ b, b ∈ R.blocks p av → b ∉ G := fun b hb hg => hG b hg hb
  have hb0 : p ∈ R.blocks p av := by simp [Rf.blocks]
  have hb1 : ∀ g, av.ownBlock = some g → g ∈ R.blocks p av := fun g hg => by simp [Rf.blocks, hg]
  have hb2 : ∀ b, b ∈ keyB R.all → b ∈ R.blocks p av := fun b hb => by simp [Rf.blocks, hb]
  exact ⟨h.row.only k (hn _ hb0), own_keep h.own (fun g hg => k.block g (h.own.lt g hg).2 (hn _ (hb1 g hg))),
    fun x hx => own_keep (h.keys x hx) (fun g hg => k.block g ((h.keys x hx).lt g hg).2 (hn _ (hb2 g (mem_keyB hx hg)))), h.nd, h.ge, h.fine⟩
theorem RfF.only {G F : List Nat} {w w' : World} {B p : Nat} {R : Rf} (h : RfF w B p R F) (k : Only G w w') (hG : ∀ b ∈ G, b ∉ F) : RfF w' B p R F := by
  obtain ⟨av, h, rfl⟩ := h
  exact ⟨av, h.only k hG, rfl⟩
theorem RfF.lt {F : List Nat} {w : World} {B p : Nat} {R : Rf} (h : RfF w B p R F) : ∀ b ∈ F, b < w.heap.size := by
  obtain ⟨av, h, rfl⟩ := h
  exact h.lt
theorem RfF.ge {F : List Nat} {w : World} {B p : Nat} {R : Rf} (h : RfF w B p R F) : ∀ b ∈ F, B ≤ b := by
  obtain ⟨av, h, rfl⟩ := h
  exact h.ge
/-- The cells of the transaction at a place. -/
structure RAt (w : World) (g : Nat) (j : Nat) (x : RT) : Prop where
  c0 : w.cell? ⟨g, j * 6, none⟩ = some (.int .u64 x.n)
  c1 : w.cell? ⟨g, j * 6 + 1, none⟩ = some (.int .u64 x.start)
  c2 : w.cell? ⟨g, j * 6 + 2, none⟩ = some (.int .u64 x.at_)
  c3 : w.cell? ⟨g, j * 6 + 3, none⟩ = some (.bool x.op)
  c4 : w.cell? ⟨g, j * 6 + 4, none⟩ = some (.slice x.ka x.keys.length x.kc)
theorem RfAt.at_ {w : World} {B p : Nat} {av : Value} {R : Rf} (h : RfAt w B p av R) {j : Nat} {x : RT} (hx : R.all[j]? = some x) : ∃ g c, av = .slice (some ⟨g, 0, none⟩) R.all.length c ∧ R.all.length ≤ c ∧ B ≤ g ∧ RAt w g j x := by
  have hlt : j < R.all.length := (List.getElem?_eq_some_iff.1 hx).1
  rcases h.own.2 with ⟨_, h0⟩ | ⟨g, cap, cur, e, hb, hgh, hnc, _⟩
  · omega
  · have ho := h.own
    rw [e] at ho
    have hc : ∀ i, i < 6 → w.cell? ⟨g, j * 6 + i, none⟩ = x.cells[i]? := fun i hi => by
      rw [World.ownsRow.cellAt ho (j * 6 + i) (by omega)]
      exact allL_get R.all j x hx i hi
    exact ⟨g, cap, e, hnc, hb, hc 0 (by omega), hc 1 (by omega), hc 2 (by omega), hc 3 (by omega), hc 4 (by omega)⟩
theorem RfAt.av_shape {w : World} {B p : Nat} {av : Value} {R : Rf} (h : RfAt w B p av R) : ∃ a c, av = .slice a R.all.length c := by
  rcases h.own.2 with ⟨e, h0⟩ | ⟨g, cap, cur, e, _⟩
  · exact ⟨none, 0, by rw [e, h0]⟩
  · exact ⟨_, _, e⟩
set_option maxHeartbeats 1000000 in
theorem base_ref {w : World} {B p : Nat} {av : Value} {R : Rf} (h : RfAt w B p av R) : Calls Try.prog 36 #[.pointer (some ⟨p, 0, none⟩)] w fun e w' => e = .returned (.int .u64 R.base) ∧ w' = w := by
  have c0 : w.cell? ⟨p, 0, none⟩ = some (.int .u32 R.ep) := h.row.cell 0
  obtain ⟨e0, e1⟩ := h.fine.ep0
  unfold Rf.base
  generalize R.ep = ep at *
  clear h
  go_enter Try.func36, Try.ntmps36
  go_wp2_with fail
  go_ret
  exact ⟨rfl, rfl⟩
theorem has_any (a : Option Addr) (n c : Nat) (ys : List Int) (k : Int) (w : World) (hy : ys.length = n) (h : Ints .u64 w (.slice a n c) ys) (hn : n ≤ 1000000) :
    Calls Try.prog 38 #[.slice a n c, .int .u64 k] w fun e w' => e = .returned (.bool (decide (k ∈ ys))) ∧ w' = w := by
  have HY := Lib.hid hy
  have H := Lib.hid h
  obtain ⟨R, hR⟩ : ∃ R, R = decide (k ∈ ys) := ⟨_, rfl⟩
  rw [← hR]
  have HR := Lib.hid hR
  clear hy h hR
  go_enter Try.func38, Try.ntmps38
  go_wp2_with fail
  go_loopw [5] (fun u wr => ∃ i : Nat, i ≤ n ∧ u = .int .i64 i ∧ Hid (∀ j, j < i → at0 ys j ≠ k) ∧ Hid (wr = w)) (fun u _ => n - (intOf u).toNat)
  case atStart => exact ⟨0, by omega, rfl, Lib.hid (fun j hj => by omega), Lib.hid rfl⟩
  case round =>
    obtain ⟨i, hi, rfl, HN, hw⟩ := hrel
    have hw2 := hw.out
    rename World => w3
    subst w3
    by_cases hlt : i < n
    · have d1 : decide ((i : Int) < (n : Int)) = true := decide_eq_true (by omega)
      have d1' : decide (i < n) = true := decide_eq_true hlt
      obtain ⟨b1, o1, c1, hv1, hc1⟩ := H.out.shape (by rw [HY.out]; omega)
      rw [HY.out] at hv1
      simp only [Value.slice.injEq] at hv1
      obtain ⟨rfl, _, rfl⟩ := hv1
      have C1 := hc1 i (by rw [HY.out]; omega)
      clear hc1
      have e0 : ys[i]?.getD 0 = at0 ys i := rfl
      rw [e0] at C1
      by_cases he : at0 ys i = k
      · have HF : Hid (k ∈ ys) := Lib.hid (by
          rw [← he]
          unfold at0
          rw [List.getElem?_eq_getElem (by rw [HY.out]; exact hlt)]
          exact List.getElem_mem _)
        rw [he] at C1
        clear he e0
        go_wp2_with fail
        go_ret
        exact ⟨ret_bool (by rw [HR.out, decide_eq_true HF.out]), rfl⟩
      · have f1 : (at0 ys i == k) = false := by simpa using he
        have f2 : decide (at0 ys i = k) = false := decide_eq_false he
        have HE := Lib.hid he
        generalize hz : at0 ys i = z at *
        have HZ := Lib.hid hz
        clear he e0 hz
        go_wp2_with fail
        go_roundw
        case rel => exact ⟨i + 1, by omega, by go_num, Lib.hid (fun j hj => by
          by_cases e : j = i
          · rw [e, HZ.out]; exact HE.out
          · exact HN.out j (by omega)), Lib.hid (by first | rfl | trivial)⟩
        case measure => simp [intOf]; omega
    · have d1 : decide ((i : Int) < (n : Int)) = false := decide_eq_false (by omega)
      have d1' : decide (i < n) = false := decide_eq_false hlt
      have HL := Lib.hid hlt
      clear hlt
      go_wp2_with fail
      go_ret
      refine ⟨ret_bool ?_, rfl⟩
      rw [HR.out]
      symm
      rw [decide_eq_false_iff_not]
      intro hm
      obtain ⟨j, hj, he⟩ := List.getElem_of_mem hm
      have hl := HL.out
      refine HN.out j (by rw [HY.out] at hj; omega) ?_
      unfold at0
      rw [List.getElem?_eq_getElem hj]
      exact he
end Go.Proofs.Ytodkflnpcfepfaa
