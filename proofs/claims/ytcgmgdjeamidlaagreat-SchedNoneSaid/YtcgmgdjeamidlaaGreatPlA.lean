/- Plain: what it holds, in memory: slices that are only read, versions, rows of versions, transactions, a DB. -/
import Derived.Test.YtcgmgdjeamidlaaGreatMapB
namespace Go.Proofs.YtcgmgdjeamidlaaGreat
open Go.RowKit Go.ChangeShapes Go.WideShapes Go.ChangeAt
set_option linter.unusedVariables false
set_option linter.unusedSimpArgs false

abbrev tDb : TypeId := 108
abbrev tVr : TypeId := 288
abbrev tPx : TypeId := 285
abbrev tIt : TypeId := 37
/-- A slice of integers that is only read. -/
structure Sl where
  a : Option Addr
  c : Nat
  xs : List Int
def Sl.v (s : Sl) : Value := .slice s.a s.xs.length s.c
def Sl.bs (s : Sl) : List Nat := (s.a.map (·.block)).toList
def Sl.no : Sl := ⟨none, 0, []⟩
structure SlAt (q : IntKind) (w : World) (s : Sl) : Prop where
  ints : Ints q w s.v s.xs
  lt : ∀ b ∈ s.bs, b < w.heap.size
  nn : s.a = none → s.xs = [] ∧ s.c = 0
  le : s.xs.length ≤ 1000000
  row : ∀ b ∈ s.bs, ∃ cs T, Row w b cs T
/-- The same, of a slice that came in: nothing is said of the objects it lies in. -/
structure SlRd (q : IntKind) (w : World) (s : Sl) : Prop where
  ints : Ints q w s.v s.xs
  lt : s.xs ≠ [] → ∀ b ∈ s.bs, b < w.heap.size
  nn : s.a = none → s.xs = [] ∧ s.c = 0
  le : s.xs.length ≤ 1000000
theorem SlAt.rd {q : IntKind} {w : World} {s : Sl} (h : SlAt q w s) : SlRd q w s := ⟨h.ints, fun _ => h.lt, h.nn, h.le⟩
instance SlAt.coe (q : IntKind) (w : World) (s : Sl) : Coe (SlAt q w s) (SlRd q w s) := ⟨SlAt.rd⟩
theorem SlRd.only {q : IntKind} {G : List Nat} {w w' : World} {s : Sl} (h : SlRd q w s) (k : Only G w w') (hG : s.xs ≠ [] → ∀ b ∈ s.bs, b ∉ G) : SlRd q w' s := by
  refine ⟨?_, fun he b hb => Nat.lt_of_lt_of_le (h.lt he b hb) k.size, h.nn, h.le⟩
  rcases h.ints with h1 | ⟨b, off, cap, e, hc⟩
  · exact .inl h1
  · refine .inr ⟨b, off, cap, e, fun i hi => ?_⟩
    have hb : b ∈ s.bs := by
      unfold Sl.v at e
      simp only [Value.slice.injEq] at e
      simp [Sl.bs, e.1]
    have he : s.xs ≠ [] := fun e => by rw [e] at hi; simp at hi
    rw [k.cell (h.lt he b hb) (hG he b hb)]
    exact hc i hi
theorem SlAt.no (q : IntKind) (w : World) : SlAt q w Sl.no := ⟨.inl ⟨rfl, _, _, rfl⟩, by simp [Sl.bs, Sl.no], fun _ => ⟨rfl, rfl⟩, by simp [Sl.no], by simp [Sl.bs, Sl.no]⟩
theorem SlAt.only {q : IntKind} {G : List Nat} {w w' : World} {s : Sl} (h : SlAt q w s) (k : Only G w w') (hG : ∀ b ∈ s.bs, b ∉ G) : SlAt q w' s := by
  refine ⟨?_, fun b hb => Nat.lt_of_lt_of_le (h.lt b hb) k.size, h.nn, h.le, fun b hb => by
    obtain ⟨cs, T, hr⟩ := h.row b hb
    exact ⟨cs, T, hr.only k (hG b hb)⟩⟩
  rcases h.ints with h1 | ⟨b, off, cap, e, hc⟩
  · exact .inl h1
  · refine .inr ⟨b, off, cap, e, fun i hi => ?_⟩
    have hb : b ∈ s.bs := by
      unfold Sl.v at e
      simp only [Value.slice.injEq] at e
      simp [Sl.bs, e.1]
    rw [k.cell (h.lt b hb) (hG b hb)]
    exact hc i hi
theorem SlRd.src {q : IntKind} {w : World} {s : Sl} (h : SlRd q w s) : SrcOf w s.v s.xs.length 1 (s.xs.map (Value.int q)) := by
  rcases h.ints with ⟨h1, a, c, e⟩ | ⟨b, off, cap, e, hc⟩
  · unfold Sl.v at e ⊢
    cases ha : s.a with
    | none =>
      obtain ⟨e1, e2⟩ := h.nn ha
      exact .inl ⟨by rw [e1, e2]; rfl, by rw [e1]; rfl, by rw [e1]; rfl⟩
    | some ad => exact .inr ⟨ad, s.c, rfl, by simp, fun j u hj => by rw [h1] at hj; simp at hj⟩
  · refine .inr ⟨⟨b, off, none⟩, cap, e, by simp, fun j u hj => ?_⟩
    rw [List.getElem?_map, Option.map_eq_some_iff] at hj
    obtain ⟨z, hz, rfl⟩ := hj
    have hj' := (List.getElem?_eq_some_iff.1 hz).1
    rw [add_plain, hc j hj', hz]
    rfl
theorem SlAt.src {q : IntKind} {w : World} {s : Sl} (h : SlAt q w s) : SrcOf w s.v s.xs.length 1 (s.xs.map (Value.int q)) := h.rd.src
/-- A version of a record. -/
structure Ver where
  at_ : Int
  gone : Bool
  key : Int
  vec : Sl
  tag : Sl
def Ver.cells (v : Ver) : List Value := [.int .u64 v.at_, .bool v.gone, .int .u64 v.key, v.vec.v, v.tag.v]
def Ver.val (v : Ver) : Value := .agg #[.int .u64 v.at_, .bool v.gone, .int .u64 v.key, v.vec.v, v.tag.v]
def Ver.bs (v : Ver) : List Nat := v.vec.bs ++ v.tag.bs
structure VerAt (w : World) (v : Ver) : Prop where
  vec : SlAt .i32 w v.vec
  tag : SlAt .u8 w v.tag
theorem VerAt.only {G : List Nat} {w w' : World} {v : Ver} (h : VerAt w v) (k : Only G w w') (hG : ∀ b ∈ v.bs, b ∉ G) : VerAt w' v :=
  ⟨h.vec.only k fun b hb => hG b (List.mem_append_left _ hb), h.tag.only k fun b hb => hG b (List.mem_append_right _ hb)⟩
theorem VerAt.lt {w : World} {v : Ver} (h : VerAt w v) : ∀ b ∈ v.bs, b < w.heap.size := fun b hb => by
  rcases List.mem_append.1 hb with hb | hb
  · exact h.vec.lt b hb
  · exact h.tag.lt b hb
def verL (vs : List Ver) : List Value := vs.flatMap Ver.cells
theorem verL_append (a b : List Ver) : verL (a ++ b) = verL a ++ verL b := by simp [verL]
theorem verL_len (l : List Ver) : (verL l).length = l.length * 5 := by
  induction l with
  | nil => rfl
  | cons x l ih =>
    show (x.cells ++ verL l).length = _
    rw [List.length_append, ih]
    simp [Ver.cells]
    omega
theorem verL_get (l : List Ver) : ∀ (j : Nat) (x : Ver), l[j]? = some x → ∀ i, i < 5 → (verL l)[j * 5 + i]? = x.cells[i]? := by
  induction l with
  | nil => intro j x h; simp at h
  | cons y l ih =>
    intro j x h i hi
    show (y.cells ++ verL l)[j * 5 + i]? = _
    cases j with
    | zero =>
      simp only [List.getElem?_cons_zero, Option.some.injEq] at h
      subst h
      rw [List.getElem?_append_left (by simp [Ver.cells]; omega)]
      simp
    | succ j =>
      rw [List.getElem?_append_right (by simp [Ver.cells]; omega)]
      have e : (j + 1) * 5 + i - y.cells.length = j * 5 + i := by simp [Ver.cells]; omega
      rw [e]
      exact ih j x (by simpa using h) i hi
/-- A key's versions: a row that is only read. -/
structure Vs where
  a : Option Addr
  c : Nat
  vs : List Ver
def Vs.v (V : Vs) : Value := .slice V.a V.vs.length V.c
def Vs.bs (V : Vs) : List Nat := (V.a.map (·.block)).toList ++ V.vs.flatMap Ver.bs
def Vs.no : Vs := ⟨none, 0, []⟩
structure VsAt (w : World) (V : Vs) : Prop where
  src : SrcOf w V.v V.vs.length 5 (verL V.vs)
  lt : ∀ ad, V.a = some ad → ad.block < w.heap.size
  each : ∀ v ∈ V.vs, VerAt w v
  cap : V.vs.length ≤ V.c ∧ V.c ≤ maxLen
  plain : ∀ ad, V.a = some ad → ad.spot = none
theorem VsAt.no (w : World) : VsAt w Vs.no := ⟨.inl ⟨rfl, rfl, rfl⟩, by simp [Vs.no], by simp [Vs.no], by simp [Vs.no], by simp [Vs.no]⟩
theorem VsAt.ltb {w : World} {V : Vs} (h : VsAt w V) : ∀ b ∈ V.bs, b < w.heap.size := fun b hb => by
  rcases List.mem_append.1 hb with hb | hb
  · cases ha : V.a with
    | none => rw [ha] at hb; simp at hb
    | some ad =>
      rw [ha] at hb
      simp at hb
      subst hb
      exact h.lt ad ha
  · obtain ⟨v, hv, hb⟩ := List.mem_flatMap.1 hb
    exact (h.each v hv).lt b hb
theorem cell_only {G : List Nat} {w w' : World} (k : Only G w w') {a : Addr} (hs : a.spot = none) (hl : a.block < w.heap.size) (hG : a.block ∉ G) : w'.cell? a = w.cell? a := by
  obtain ⟨b, o, s⟩ := a
  simp only at hs
  subst hs
  exact k.cell hl hG
theorem VsAt.only {G : List Nat} {w w' : World} {V : Vs} (h : VsAt w V) (k : Only G w w') (hG : ∀ b ∈ V.bs, b ∉ G) : VsAt w' V := by
  refine ⟨?_, fun ad ha => Nat.lt_of_lt_of_le (h.lt ad ha) k.size, fun v hv => (h.each v hv).only k fun b hb => hG b (List.mem_append_right _ (List.mem_flatMap.2 ⟨v, hv, hb⟩)), h.cap, h.plain⟩
  rcases h.src with h1 | ⟨ad, c, e, hl, hc⟩
  · exact .inl h1
  · refine .inr ⟨ad, c, e, hl, fun j u hj => ?_⟩
    have ha : V.a = some ad := by
      unfold Vs.v at e
      simp only [Value.slice.injEq] at e
      exact e.1
    have hcj := hc j u hj
    have hlt := h.lt ad ha
    have hn := hG ad.block (List.mem_append_left _ (by simp [ha]))
    have hsp := h.plain ad ha
    obtain ⟨ab, ao, as_⟩ := ad
    simp only at hsp hlt hn
    subst hsp
    rw [add_plain] at hcj ⊢
    rw [k.cell hlt hn]
    exact hcj
/-- An open transaction. -/
structure PTx where
  n : Int
  start : Int
  bt : Nat
  bm : Nat
  wr : List (Int × Ver)
structure PDB where
  dim : Int
  begun : Int
  last : Int
  all : List (Int × Vs)
  op : List PTx
def vsL (l : List (Int × Vs)) : List (Int × Value) := l.map fun x => (x.1, x.2.v)
def wrL (l : List (Int × Ver)) : List (Int × Value) := l.map fun x => (x.1, x.2.val)
def pxL (l : List PTx) : List (Int × Value) := l.map fun o => (o.n, .pointer (some ⟨o.bt, 0, none⟩))
def PDB.cells (D : PDB) (ba bo : Nat) : Array Value := #[.int .i64 D.dim, .int .u64 D.begun, .int .u64 D.last, .map (some ba), .map (some bo)]
def pxB (l : List PTx) : List Nat := l.flatMap fun o => [o.bt, o.bm]
def PDB.own (D : PDB) (p ba bo : Nat) : List Nat := p :: ba :: bo :: pxB D.op
def wrB (l : List (Int × Ver)) : List Nat := l.flatMap fun x => x.2.bs
def PDB.reads (D : PDB) : List Nat := (D.all.flatMap fun x => x.2.bs) ++ D.op.flatMap fun o => wrB o.wr
structure PDB.Fine (D : PDB) : Prop where
  dim : 1 ≤ D.dim ∧ D.dim ≤ 4096
  begun : 0 ≤ D.begun ∧ D.begun ≤ 1000000
  last : 0 ≤ D.last ∧ D.last ≤ 1000000
  ops : ∀ o ∈ D.op, 0 < o.n ∧ o.n ≤ D.begun ∧ 0 ≤ o.start ∧ o.start ≤ D.last
structure DbAt (w : World) (B p ba bo : Nat) (D : PDB) : Prop where
  row : Row w p (D.cells ba bo) tDb
  am : MapAt w ba .u64 (vsL D.all)
  om : MapAt w bo .u64 (pxL D.op)
  oa : ∀ o ∈ D.op, Row w o.bt #[.int .u64 o.start, .map (some o.bm)] tPx ∧ MapAt w o.bm .u64 (wrL o.wr)
  vsd : ∀ x ∈ D.all, VsAt w x.2
  wrd : ∀ o ∈ D.op, ∀ y ∈ o.wr, VerAt w y.2
  nd : (D.own p ba bo).Nodup
  ge : ∀ b ∈ D.own p ba bo, B ≤ b
  gr : ∀ b ∈ D.reads, B ≤ b
  ap : ∀ b ∈ D.own p ba bo, b ∉ D.reads
  fine : D.Fine
/-- BLOCK p IS A DB that is D; F are the blocks that it writes, H those that it only reads, all from B on. -/
def DbF (w : World) (B p : Nat) (D : PDB) (F H : List Nat) : Prop := ∃ ba bo, DbAt w B p ba bo D ∧ F = D.own p ba bo ∧ H = D.reads
theorem mem_pxB {l : List PTx} {o : PTx} (h : o ∈ l) : o.bt ∈ pxB l ∧ o.bm ∈ pxB l := ⟨List.mem_flatMap.2 ⟨o, h, by simp⟩, List.mem_flatMap.2 ⟨o, h, by simp⟩⟩
theorem DbAt.lt {w : World} {B p ba bo : Nat} {D : PDB} (h : DbAt w B p ba bo D) : ∀ b ∈ D.own p ba bo, b < w.heap.size := by
  intro b hb
  simp only [PDB.own, List.mem_cons] at hb
  rcases hb with rfl | rfl | rfl | hb
  · exact h.row.lt
  · exact h.am.lt
  · exact h.om.lt
  · obtain ⟨o, ho, hb⟩ := List.mem_flatMap.1 hb
    simp at hb
    rcases hb with rfl | rfl
    · exact (h.oa o ho).1.lt
    · exact (h.oa o ho).2.lt
theorem mem_reads1 {D : PDB} {x : Int × Vs} (h : x ∈ D.all) {b : Nat} (hb : b ∈ x.2.bs) : b ∈ D.reads := List.mem_append_left _ (List.mem_flatMap.2 ⟨x, h, hb⟩)
theorem mem_reads2 {D : PDB} {o : PTx} (h : o ∈ D.op) {y : Int × Ver} (hy : y ∈ o.wr) {b : Nat} (hb : b ∈ y.2.bs) : b ∈ D.reads := List.mem_append_right _ (List.mem_flatMap.2 ⟨o, h, List.mem_flatMap.2 ⟨y, hy, hb⟩⟩)
theorem DbAt.ltr {w : World} {B p ba bo : Nat} {D : PDB} (h : DbAt w B p ba bo D) : ∀ b ∈ D.reads, b < w.heap.size := by
  intro b hb
  rcases List.mem_append.1 hb with hb | hb
  · obtain ⟨x, hx, hb⟩ := List.mem_flatMap.1 hb
    exact (h.vsd x hx).ltb b hb
  · obtain ⟨o, ho, hb⟩ := List.mem_flatMap.1 hb
    obtain ⟨y, hy, hb⟩ := List.mem_flatMap.1 hb
    exact (h.wrd o ho y hy).lt b hb
theorem DbAt.only {G : List Nat} {w w' : World} {B p ba bo : Nat} {D : PDB} (h : DbAt w B p ba bo D) (k : Only G w w') (hG : ∀ b ∈ G, b ∉ D.own p ba bo ∧ b ∉ D.reads) : DbAt w' B p ba bo D := by
  have h1 : ∀ b, b ∈ D.own p ba bo → b ∉ G := fun b hb hg => (hG b hg).1 hb
  have h2 : ∀ b, b ∈ D.reads → b ∉ G := fun b hb hg => (hG b hg).2 hb
  exact ⟨h.row.only k (h1 _ (by simp [PDB.own])), h.am.only k (h1 _ (by simp [PDB.own])), h.om.only k (h1 _ (by simp [PDB.own])),
    fun o ho => ⟨(h.oa o ho).1.only k (h1 _ (by simp [PDB.own, (mem_pxB ho).1])), (h.oa o ho).2.only k (h1 _ (by simp [PDB.own, (mem_pxB ho).2]))⟩,
    fun x hx => (h.vsd x hx).only k fun b hb => h2 b (mem_reads1 hx hb), fun o ho y hy => (h.wrd o ho y hy).only k fun b hb => h2 b (mem_reads2 ho hy hb), h.nd, h.ge, h.gr, h.ap, h.fine⟩
theorem DbF.only {G F H : List Nat} {w w' : World} {B p : Nat} {D : PDB} (h : DbF w B p D F H) (k : Only G w w') (hG : ∀ b ∈ G, b ∉ F ∧ b ∉ H) : DbF w' B p D F H := by
  obtain ⟨ba, bo, h, rfl, rfl⟩ := h
  exact ⟨ba, bo, h.only k hG, rfl, rfl⟩
theorem DbF.lt {F H : List Nat} {w : World} {B p : Nat} {D : PDB} (h : DbF w B p D F H) : (∀ b ∈ F, b < w.heap.size) ∧ ∀ b ∈ H, b < w.heap.size := by
  obtain ⟨ba, bo, h, rfl, rfl⟩ := h
  exact ⟨h.lt, h.ltr⟩
theorem DbF.ge {F H : List Nat} {w : World} {B p : Nat} {D : PDB} (h : DbF w B p D F H) : (∀ b ∈ F, B ≤ b) ∧ ∀ b ∈ H, B ≤ b := by
  obtain ⟨ba, bo, h, rfl, rfl⟩ := h
  exact ⟨h.ge, h.gr⟩
end Go.Proofs.YtcgmgdjeamidlaaGreat
