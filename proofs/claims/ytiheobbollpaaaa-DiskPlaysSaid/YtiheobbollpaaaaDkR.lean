/- The document's device: what its blocks hold, told by the same D. -/
import Derived.Test.YtiheobbollpaaaaDkN
namespace Go.Proofs.Ytiheobbollpaaaa
open Go.RowKit Go.ChangeShapes Go.WideShapes Go.ChangeAt
set_option linter.unusedVariables false

abbrev tRef : TypeId := 72
def tab (n : Nat) (g : Nat → Value) : Array Value := ((List.range n).map g).toArray
theorem tab_size (n : Nat) (g : Nat → Value) : (tab n g).size = n := by simp [tab]
theorem tab_get (n : Nat) (g : Nat → Value) (k : Nat) (hk : k < n) : (tab n g)[k]? = some (g k) := by simp [tab, hk]
theorem tab_ext {n : Nat} {g h : Nat → Value} (e : ∀ k, k < n → g k = h k) : tab n g = tab n h := by
  unfold tab
  rw [List.map_congr_left fun k hk => e k (List.mem_range.1 hk)]
theorem tab_set {n : Nat} {g h : Nat → Value} {k : Nat} {v : Value} (e : ∀ j, j < n → h j = if j = k then v else g j) : (tab n g).setIfInBounds k v = tab n h := by
  refine Array.ext_getElem? fun i => ?_
  rw [Array.getElem?_setIfInBounds, tab_size]
  by_cases hi : i < n
  · rw [tab_get _ _ _ hi, tab_get _ _ _ hi, e i hi]
    by_cases h2 : k = i
    · subst h2; rw [if_pos rfl, if_pos hi, if_pos rfl]
    · rw [if_neg h2, if_neg (fun h => h2 h.symm)]
  · rw [Array.getElem?_eq_none (by rw [tab_size]; omega), Array.getElem?_eq_none (by rw [tab_size]; omega)]
    by_cases h2 : k = i
    · rw [if_pos h2, if_neg (by omega)]
    · rw [if_neg h2]
def laG (f : Int → List Int) (k : Nat) : Value := strV (f k)
def waG (ws : List (Int × List Int)) (k : Nat) : Value := match findS k ws with
  | some s => strV s
  | none => .string ByteArray.empty
def seG (seen : List Int) (k : Nat) : Value := .bool (decide ((k : Int) ∈ seen))
def rfCells (b1 b2 b3 n : Nat) (D : Dk) : Array Value := #[.slice (some ⟨b1, 0, none⟩) n n, .slice (some ⟨b2, 0, none⟩) n n, .slice (some ⟨b3, 0, none⟩) n n, .int .i64 D.most, .int .i64 D.armed, .bool D.off]
/-- In world w block q is the document's device D of n sectors. -/
structure RfAt (w : World) (q b1 b2 b3 n : Nat) (D : Dk) : Prop where
  row : Row w q (rfCells b1 b2 b3 n D) tRef
  r1 : Row w b1 (tab n (laG D.last)) 9
  r2 : Row w b2 (tab n (waG D.waits)) 9
  r3 : Row w b3 (tab n (seG D.seen)) 4
  nd : [q, b1, b2, b3].Nodup
  fine : D.Fine
  sec : D.sectors = n
  sn : D.seen.Nodup
  wn : (D.waits.map (·.1)).Nodup
theorem RfAt.only {G : List Nat} {w w' : World} {q b1 b2 b3 n : Nat} {D : Dk} (h : RfAt w q b1 b2 b3 n D) (k : Only G w w') (h0 : q ∉ G) (h1 : b1 ∉ G) (h2 : b2 ∉ G) (h3 : b3 ∉ G) : RfAt w' q b1 b2 b3 n D :=
  ⟨h.row.only k h0, h.r1.only k h1, h.r2.only k h2, h.r3.only k h3, h.nd, h.fine, h.sec, h.sn, h.wn⟩
section
variable {w : World} {q b1 b2 b3 n : Nat} {D : Dk}
theorem RfAt.nil {w' : World} (h : RfAt w q b1 b2 b3 n D) (k : Only [] w w') : RfAt w' q b1 b2 b3 n D := h.only k (by simp) (by simp) (by simp) (by simp)
theorem RfAt.c0 (h : RfAt w q b1 b2 b3 n D) : w.cell? ⟨q, 0, none⟩ = some (.slice (some ⟨b1, 0, none⟩) n n) := h.row.cell 0
theorem RfAt.c1 (h : RfAt w q b1 b2 b3 n D) : w.cell? ⟨q, 1, none⟩ = some (.slice (some ⟨b2, 0, none⟩) n n) := h.row.cell 1
theorem RfAt.c2 (h : RfAt w q b1 b2 b3 n D) : w.cell? ⟨q, 2, none⟩ = some (.slice (some ⟨b3, 0, none⟩) n n) := h.row.cell 2
theorem RfAt.c3 (h : RfAt w q b1 b2 b3 n D) : w.cell? ⟨q, 3, none⟩ = some (.int .i64 D.most) := h.row.cell 3
theorem RfAt.c4 (h : RfAt w q b1 b2 b3 n D) : w.cell? ⟨q, 4, none⟩ = some (.int .i64 D.armed) := h.row.cell 4
theorem RfAt.c5 (h : RfAt w q b1 b2 b3 n D) : w.cell? ⟨q, 5, none⟩ = some (.bool D.off) := h.row.cell 5
theorem RfAt.l1 (h : RfAt w q b1 b2 b3 n D) {k : Nat} (hk : k < n) : w.cell? ⟨b1, k, none⟩ = some (laG D.last k) := (h.r1.cell k).trans (tab_get n _ k hk)
theorem RfAt.l2 (h : RfAt w q b1 b2 b3 n D) {k : Nat} (hk : k < n) : w.cell? ⟨b2, k, none⟩ = some (waG D.waits k) := (h.r2.cell k).trans (tab_get n _ k hk)
theorem RfAt.l3 (h : RfAt w q b1 b2 b3 n D) {k : Nat} (hk : k < n) : w.cell? ⟨b3, k, none⟩ = some (seG D.seen k) := (h.r3.cell k).trans (tab_get n _ k hk)
theorem RfAt.ne (h : RfAt w q b1 b2 b3 n D) : q ≠ b1 ∧ q ≠ b2 ∧ q ≠ b3 ∧ b1 ≠ b2 ∧ b1 ≠ b3 ∧ b2 ≠ b3 := by
  have := h.nd
  simp at this
  omega
theorem RfAt.few (h : RfAt w q b1 b2 b3 n D) : n ≤ 65536 := by have := h.fine.s1; have := h.sec; omega
end
/-! ### members of a table -/
theorem mem_filter_range {n : Nat} {p : Nat → Bool} {k : Nat} : k ∈ (List.range n).filter p ↔ k < n ∧ p k = true := by simp
/-- As many are seen as there are sectors of which it is said. -/
theorem seen_count {n : Nat} {D : Dk} (hf : D.Fine) (hs : D.sectors = n) (hn : D.seen.Nodup) : ((List.range n).filter fun (k : Nat) => decide ((k : Int) ∈ D.seen)).length = D.seen.length := by
  have h1 : (((List.range n).filter fun (k : Nat) => decide ((k : Int) ∈ D.seen)).map fun (k : Nat) => (k : Int)).Perm D.seen := by
    refine (List.perm_ext_iff_of_nodup ?_ hn).2 fun x => ?_
    · rw [List.Nodup, List.pairwise_map]
      exact ((List.nodup_range).filter _).imp fun hne e => hne (by omega)
    · simp only [List.mem_map, mem_filter_range, decide_eq_true_eq]
      constructor
      · rintro ⟨k, ⟨_, hk⟩, rfl⟩; exact hk
      · intro hx
        have := hf.se x hx
        exact ⟨x.toNat, ⟨by omega, by rw [show ((x.toNat : Nat) : Int) = x by omega]; exact hx⟩, by omega⟩
  have := h1.length_eq
  simpa using this
def waitsB (D : Dk) (k : Nat) : Bool := (findS k D.waits).isSome
theorem findS_mem_iff {k : Int} {l : List (Int × List Int)} : k ∈ l.map (·.1) ↔ (findS k l).isSome = true := by
  induction l with
  | nil => simp [findS]
  | cons x r ih =>
    obtain ⟨j, u⟩ := x
    simp only [List.map_cons, List.mem_cons, findS]
    by_cases e : k = j
    · simp [e]
    · rw [if_neg e, ← ih]; simp [e]
/-- The list of those that wait, in order. -/
theorem keysD_range {n : Nat} {D : Dk} (hf : D.Fine) (hs : D.sectors = n) (hn : (D.waits.map (·.1)).Nodup) : keysD D = ((List.range n).filter (waitsB D)).map fun (k : Nat) => (k : Int) := by
  have h1 : (((List.range n).filter (waitsB D)).map fun (k : Nat) => (k : Int)).Perm (D.waits.map (·.1)) := by
    refine (List.perm_ext_iff_of_nodup ?_ hn).2 fun x => ?_
    · rw [List.Nodup, List.pairwise_map]
      exact ((List.nodup_range).filter _).imp fun hne e => hne (by omega)
    · simp only [List.mem_map (f := fun (k : Nat) => (k : Int)), mem_filter_range, waitsB]
      rw [findS_mem_iff]
      constructor
      · rintro ⟨k, ⟨_, hk⟩, rfl⟩; exact hk
      · intro hx
        obtain ⟨p, hp, e⟩ := List.mem_map.1 (findS_mem_iff.2 hx)
        have := hf.wa p hp
        subst e
        exact ⟨p.1.toNat, ⟨by omega, by rw [show ((p.1.toNat : Nat) : Int) = p.1 by omega]; exact hx⟩, by omega⟩
  unfold keysD
  rw [← sortI_eq h1]
  unfold sortI
  refine List.mergeSort_of_pairwise ?_
  rw [List.pairwise_map]
  exact ((List.pairwise_lt_range).filter _).imp fun h => by simp; omega
theorem filter_at {n : Nat} {p : Nat → Bool} {k : Nat} (hk : k < n) (hp : p k = true) : ((List.range n).filter p)[((List.range k).filter p).length]? = some k := by
  have e : List.range n = List.range k ++ (List.range (n - k)).map (k + ·) := by rw [← List.range_add]; congr; omega
  rw [e, List.filter_append, List.getElem?_append_right (Nat.le_refl _), Nat.sub_self]
  obtain ⟨m, hm⟩ : ∃ m, n - k = m + 1 := ⟨n - k - 1, by omega⟩
  rw [hm, List.range_succ_eq_map, List.map_cons, List.filter_cons, Nat.add_zero, if_pos hp]
  rfl
/-- How many wait of the first k. -/
def rank (D : Dk) (k : Nat) : Nat := ((List.range k).filter (waitsB D)).length
theorem rank_succ (D : Dk) (k : Nat) : rank D (k + 1) = rank D k + if waitsB D k = true then 1 else 0 := by
  unfold rank
  rw [List.range_succ, List.filter_append, List.length_append]
  congr 1
  by_cases h : waitsB D k = true
  · rw [if_pos h]; simp [h]
  · rw [if_neg h]; simp [h]
theorem keysD_rank {n : Nat} {D : Dk} (hf : D.Fine) (hs : D.sectors = n) (hn : (D.waits.map (·.1)).Nodup) {k : Nat} (hk : k < n) (hw : waitsB D k = true) : (keysD D)[rank D k]? = some (k : Int) := by
  rw [keysD_range hf hs hn, List.getElem?_map, rank, filter_at hk hw]; rfl
/-- Sector k behind a crash, by how many wait ahead of it. -/
theorem crash_rank {n : Nat} {D : Dk} {pk : List Int} (hf : D.Fine) (hs : D.sectors = n) (hn : (D.waits.map (·.1)).Nodup) {k : Nat} (hk : k < n) {s : List Int} (hw : findS (k : Int) D.waits = some s) : (crashD D pk).last k = mixS (pickAt pk (rank D k)) s (D.last k) := by
  have hl := keysD_len D
  obtain ⟨_, h2⟩ := lastC_val (pk := pk) (k := (k : Int)) (keysD_nodup hn) D.waits.length (by omega)
  have hr := keysD_rank hf hs hn hk (by rw [waitsB, hw]; rfl)
  have hlt := (List.getElem?_eq_some_iff.1 hr).1
  show lastC D pk D.waits.length k = _
  rw [h2 (rank D k) (by omega) hr, hw]; rfl
theorem crash_still {D : Dk} {pk : List Int} (hn : (D.waits.map (·.1)).Nodup) {k : Int} (hw : findS k D.waits = none) : (crashD D pk).last k = D.last k := by
  rcases crash_sector (pk := pk) hn k with ⟨_, h⟩ | ⟨j, s, _, h, _⟩
  · exact h
  · rw [hw] at h; cases h
end Go.Proofs.Ytiheobbollpaaaa
