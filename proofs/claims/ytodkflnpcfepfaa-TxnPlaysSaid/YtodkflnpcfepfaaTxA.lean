/- The manager of transactions: what a block that is one holds. -/
import Derived.Test.YtodkflnpcfepfaaMapB
import Derived.Outline
namespace Go.Proofs.Ytodkflnpcfepfaa
open Go.RowKit
set_option linter.unusedVariables false
set_option linter.unusedSimpArgs false

abbrev tMg : TypeId := 67
abbrev tOne : TypeId := 75
theorem zeroUnit (w : World) : (zeroValue 93).run Try.prog w = .ok (.agg #[]) w := by kernel_rfl
theorem zeroOne (w : World) : (zeroValue 71).run Try.prog w = .ok (.pointer none) w := by kernel_rfl
theorem zeroSet (w : World) : (zeroValue 73).run Try.prog w = .ok (.map none) w := by kernel_rfl
theorem infoStamp : (Try.prog.info? 47).map (fun i => (i.zero, i.size, i.bytes)) = some (some (.agg #[.int .u64 0, .int .u64 0]), 2, 16) := by kernel_rfl

/-- An open transaction; the block in which it stands, and that of its keys. -/
structure Tx where
  n : Int
  start : Int
  keys : List Int
  bt : Nat
  bk : Nat
/-- The keys of one that is committed. -/
structure Wr where
  st : Int
  keys : List Int
  bk : Nat
structure Mg where
  base : Int
  begun : Int
  last : Int
  os : List Tx
  ds : List (Int × Int)
  ws : List Wr
def setL (ks : List Int) : List (Int × Value) := ks.map fun k => (k, .agg #[])
def osL (os : List Tx) : List (Int × Value) := os.map fun o => (o.n, .pointer (some ⟨o.bt, 0, none⟩))
def wsL (ws : List Wr) : List (Int × Value) := ws.map fun x => (x.st, .map (some x.bk))
def dsL (ds : List (Int × Int)) : List Value := ds.flatMap fun d => [.int .u64 d.1, .int .u64 d.2]
def Mg.cells (M : Mg) (bo bw : Nat) (dv : Value) : Array Value := #[.int .u64 M.base, .int .u64 M.begun, .int .u64 M.last, .map (some bo), dv, .map (some bw)]
def osB (os : List Tx) : List Nat := os.flatMap fun o => [o.bt, o.bk]
def wsB (ws : List Wr) : List Nat := ws.map fun x => x.bk
/-- Its blocks. -/
def Mg.blocks (M : Mg) (p bo bw : Nat) (dv : Value) : List Nat := p :: bo :: bw :: (dv.ownBlock.toList ++ (osB M.os ++ wsB M.ws))
structure Mg.Fine (M : Mg) : Prop where
  base0 : 0 ≤ M.base
  base1 : M.base ≤ 18446744069414584320
  begun0 : 0 ≤ M.begun
  begun1 : M.begun ≤ 1000000
  last0 : 0 ≤ M.last
  last1 : M.last ≤ 1000000
  os1 : ∀ o ∈ M.os, M.base < o.n ∧ o.n ≤ M.base + M.begun ∧ 0 ≤ o.start ∧ o.start ≤ M.last
  ws1 : ∀ x ∈ M.ws, 0 < x.st ∧ x.st ≤ M.last
  dl : M.ds.length ≤ 1000000
structure MgAt (w : World) (B p bo bw : Nat) (dv : Value) (M : Mg) : Prop where
  row : Row w p (M.cells bo bw dv) tMg
  om : MapAt w bo .u64 (osL M.os)
  wm : MapAt w bw .u64 (wsL M.ws)
  dr : w.ownsRow B 47 2 dv M.ds.length (dsL M.ds)
  oa : ∀ o ∈ M.os, Row w o.bt #[.int .u64 o.start, .map (some o.bk)] tOne ∧ MapAt w o.bk .u64 (setL o.keys)
  wa : ∀ x ∈ M.ws, MapAt w x.bk .u64 (setL x.keys)
  nd : (M.blocks p bo bw dv).Nodup
  ge : ∀ b ∈ M.blocks p bo bw dv, B ≤ b
  fine : M.Fine
/-- BLOCK p IS A MANAGER that is M; F are its blocks, all from B on. -/
def MgF (w : World) (B p : Nat) (M : Mg) (F : List Nat) : Prop := ∃ bo bw dv, MgAt w B p bo bw dv M ∧ F = M.blocks p bo bw dv
theorem mem_osB {os : List Tx} {o : Tx} (h : o ∈ os) : o.bt ∈ osB os ∧ o.bk ∈ osB os := ⟨List.mem_flatMap.2 ⟨o, h, by simp⟩, List.mem_flatMap.2 ⟨o, h, by simp⟩⟩
theorem mem_wsB {ws : List Wr} {x : Wr} (h : x ∈ ws) : x.bk ∈ wsB ws := List.mem_map.2 ⟨x, h, rfl⟩
theorem MgAt.lt {w : World} {B p bo bw : Nat} {dv : Value} {M : Mg} (h : MgAt w B p bo bw dv M) : ∀ b ∈ M.blocks p bo bw dv, b < w.heap.size := by
  intro b hb
  simp only [Mg.blocks, List.mem_cons, List.mem_append] at hb
  rcases hb with rfl | rfl | rfl | hb | hb | hb
  · exact h.row.lt
  · exact h.om.lt
  · exact h.wm.lt
  · exact (h.dr.lt b (by simpa using hb)).2
  · obtain ⟨o, ho, hb⟩ := List.mem_flatMap.1 hb
    simp only [List.mem_cons, List.not_mem_nil, or_false] at hb
    rcases hb with rfl | rfl
    · exact (h.oa o ho).1.lt
    · exact (h.oa o ho).2.lt
  · obtain ⟨x, hx, rfl⟩ := List.mem_map.1 hb
    exact (h.wa x hx).lt
theorem MgAt.only {G : List Nat} {w w' : World} {B p bo bw : Nat} {dv : Value} {M : Mg} (h : MgAt w B p bo bw dv M) (k : Only G w w') (hG : ∀ b ∈ G, b ∉ M.blocks p bo bw dv) : MgAt w' B p bo bw dv M := by
  have hn : ∀ b, b ∈ M.blocks p bo bw dv → b ∉ G := fun b hb hg => hG b hg hb
  have hb0 : p ∈ M.blocks p bo bw dv := by simp [Mg.blocks]
  have hb1 : bo ∈ M.blocks p bo bw dv := by simp [Mg.blocks]
  have hb2 : bw ∈ M.blocks p bo bw dv := by simp [Mg.blocks]
  have hb3 : ∀ g, dv.ownBlock = some g → g ∈ M.blocks p bo bw dv := fun g hg => by simp [Mg.blocks, hg]
  have hb4 : ∀ b, b ∈ osB M.os → b ∈ M.blocks p bo bw dv := fun b hb => by simp [Mg.blocks, hb]
  have hb5 : ∀ b, b ∈ wsB M.ws → b ∈ M.blocks p bo bw dv := fun b hb => by simp [Mg.blocks, hb]
  exact ⟨h.row.only k (hn _ hb0), h.om.only k (hn _ hb1), h.wm.only k (hn _ hb2), own_keep h.dr (fun g hg => k.block g (h.dr.lt g hg).2 (hn _ (hb3 g hg))),
    fun o ho => ⟨(h.oa o ho).1.only k (hn _ (hb4 _ (mem_osB ho).1)), (h.oa o ho).2.only k (hn _ (hb4 _ (mem_osB ho).2))⟩, fun x hx => (h.wa x hx).only k (hn _ (hb5 _ (mem_wsB hx))), h.nd, h.ge, h.fine⟩
theorem MgF.only {G F : List Nat} {w w' : World} {B p : Nat} {M : Mg} (h : MgF w B p M F) (k : Only G w w') (hG : ∀ b ∈ G, b ∉ F) : MgF w' B p M F := by
  obtain ⟨bo, bw, dv, h, rfl⟩ := h
  exact ⟨bo, bw, dv, h.only k hG, rfl⟩
theorem MgF.lt {F : List Nat} {w : World} {B p : Nat} {M : Mg} (h : MgF w B p M F) : ∀ b ∈ F, b < w.heap.size := by
  obtain ⟨bo, bw, dv, h, rfl⟩ := h
  exact h.lt
theorem MgF.ge {F : List Nat} {w : World} {B p : Nat} {M : Mg} (h : MgF w B p M F) : ∀ b ∈ F, B ≤ b := by
  obtain ⟨bo, bw, dv, h, rfl⟩ := h
  exact h.ge
theorem MgF.below {F : List Nat} {w w' : World} {B p : Nat} {M : Mg} (h : MgF w B p M F) (k : Below w.heap.size w w') : MgF w' B p M F :=
  h.only (G := []) ⟨k.os, k.tape, k.output, k.size, fun i hi _ => k.block i hi⟩ (by simp)

theorem MgAt.c0 {w : World} {B p bo bw : Nat} {dv : Value} {M : Mg} (h : MgAt w B p bo bw dv M) : w.cell? ⟨p, 0, none⟩ = some (.int .u64 M.base) := h.row.cell 0
theorem MgAt.c1 {w : World} {B p bo bw : Nat} {dv : Value} {M : Mg} (h : MgAt w B p bo bw dv M) : w.cell? ⟨p, 1, none⟩ = some (.int .u64 M.begun) := h.row.cell 1
theorem MgAt.c2 {w : World} {B p bo bw : Nat} {dv : Value} {M : Mg} (h : MgAt w B p bo bw dv M) : w.cell? ⟨p, 2, none⟩ = some (.int .u64 M.last) := h.row.cell 2
theorem MgAt.c3 {w : World} {B p bo bw : Nat} {dv : Value} {M : Mg} (h : MgAt w B p bo bw dv M) : w.cell? ⟨p, 3, none⟩ = some (.map (some bo)) := h.row.cell 3
theorem MgAt.c4 {w : World} {B p bo bw : Nat} {dv : Value} {M : Mg} (h : MgAt w B p bo bw dv M) : w.cell? ⟨p, 4, none⟩ = some dv := h.row.cell 4
theorem MgAt.c5 {w : World} {B p bo bw : Nat} {dv : Value} {M : Mg} (h : MgAt w B p bo bw dv M) : w.cell? ⟨p, 5, none⟩ = some (.map (some bw)) := h.row.cell 5
theorem lk_map {α : Type} (key : α → Int) (val : α → Value) (n : Int) : ∀ (l : List α), lk n (l.map fun x => (key x, val x)) = (l.find? fun x => decide (key x = n)).map val
  | [] => rfl
  | x :: l => by
    simp only [List.map_cons, lk, List.find?_cons]
    by_cases h : n = key x
    · rw [if_pos h, decide_eq_true h.symm]; rfl
    · rw [if_neg h, decide_eq_false (fun e => h e.symm), lk_map key val n l]
theorem rm_map {α : Type} (key : α → Int) (val : α → Value) (n : Int) (l : List α) : rm n (l.map fun x => (key x, val x)) = (l.filter fun x => !decide (key x = n)).map fun x => (key x, val x) := by
  unfold rm
  rw [List.filter_map]
  rfl
def findT (n : Int) (os : List Tx) : Option Tx := os.find? fun o => decide (o.n = n)
theorem findT_some {n : Int} {os : List Tx} {o : Tx} (h : findT n os = some o) : o ∈ os ∧ o.n = n := ⟨List.mem_of_find?_eq_some h, by simpa using List.find?_some h⟩

set_option maxHeartbeats 1000000 in
theorem none_at (B p bo bw : Nat) (dv : Value) (M : Mg) (w : World) (h : MgAt w B p bo bw dv M) :
    Calls Try.prog 32 #[.pointer (some ⟨p, 0, none⟩)] w fun e w' => e = .returned (.bool false) ∧ w' = w := by
  have c3 := h.c3
  have qT : ∀ (w : World) (r : Option Nat), (binOp .eql 64 (.map r) (.map none)).run Try.prog w = .ok (.bool r.isNone) w := fun w r => run_eql_map_nil w _ _ _ r Try.underlying64
  clear h
  go_enter Try.func32, Try.ntmps32
  go_wp2
  go_ret
  exact ⟨rfl, rfl⟩
set_option maxHeartbeats 1000000 in
theorem find_yes (B p bo bw : Nat) (dv : Value) (M : Mg) (w : World) (n : Int) (o : Tx) (h : MgAt w B p bo bw dv M) (ho : findT n M.os = some o) :
    Calls Try.prog 33 #[.pointer (some ⟨p, 0, none⟩), .int .u64 n] w fun e w' => e = .returned (.tuple #[.pointer (some ⟨o.bt, 0, none⟩), .int .i64 0]) ∧ w' = w := by
  have c3 := h.c3
  have N1 := Lib.hid (none_at B p bo bw dv M w h)
  have hl : (lk n (osL M.os)).getD (.pointer none) = .pointer (some ⟨o.bt, 0, none⟩) := by
    unfold osL
    rw [lk_map]
    unfold findT at ho
    rw [ho]; rfl
  have H := Lib.hid h
  clear h ho
  go_enter Try.func33, Try.ntmps33
  go_wp2_with fail
  refine N1.out.mono ?_
  rintro _ w' ⟨rfl, rfl⟩
  go_wp2_with (at_lookup; refine wpList_look_at _ rfl (.tmp 12) (.tmp 13) 64 false rfl 29 71 .u64 Try.underlying64 Try.underlying29 _ zeroOne bo (osL M.os) rfl H.out.om n rfl ?_)
  go_ret2
  exact ⟨rfl, rfl⟩
set_option maxHeartbeats 1000000 in
theorem find_no (B p bo bw : Nat) (dv : Value) (M : Mg) (w : World) (n : Int) (h : MgAt w B p bo bw dv M) (ho : findT n M.os = none) :
    Calls Try.prog 33 #[.pointer (some ⟨p, 0, none⟩), .int .u64 n] w fun e w' => e = .returned (.tuple #[.pointer none, .int .i64 12]) ∧ w' = w := by
  have c3 := h.c3
  have N1 := Lib.hid (none_at B p bo bw dv M w h)
  have hl : (lk n (osL M.os)).getD (.pointer none) = .pointer none := by
    unfold osL
    rw [lk_map]
    unfold findT at ho
    rw [ho]; rfl
  have H := Lib.hid h
  clear h ho
  go_enter Try.func33, Try.ntmps33
  go_wp2_with fail
  refine N1.out.mono ?_
  rintro _ w' ⟨rfl, rfl⟩
  go_wp2_with (at_lookup; refine wpList_look_at _ rfl (.tmp 12) (.tmp 13) 64 false rfl 29 71 .u64 Try.underlying64 Try.underlying29 _ zeroOne bo (osL M.os) rfl H.out.om n rfl ?_)
  go_ret2
  exact ⟨rfl, rfl⟩
end Go.Proofs.Ytodkflnpcfepfaa
