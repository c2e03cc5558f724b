/- Plain, the document's side: lists of records that are only read; place. -/
import Derived.Test.YtmbmkfhdiljalaaGreatMg19
import Derived.Test.YtmbmkfhdiljalaaGreatInv
namespace Go.Proofs.YtmbmkfhdiljalaaGreat
open Go.RowKit Go.ChangeShapes Go.WideShapes Go.ChangeAt
set_option linter.unusedVariables false
set_option linter.unusedSimpArgs false

/-- A list of records that is only read. -/
structure Its where
  a : Option Addr
  c : Nat
  l : List It
def Its.v (I : Its) : Value := .slice I.a I.l.length I.c
def Its.bs (I : Its) : List Nat := (I.a.map (·.block)).toList ++ I.l.flatMap It.bs
def Its.no : Its := ⟨none, 0, []⟩
def Its.cs (I : Its) : List Rc := I.l.map It.c
structure RsAt (w : World) (I : Its) : Prop where
  row : (I.a = none ∧ I.l = [] ∧ I.c = 0) ∨ ∃ g, I.a = some ⟨g, 0, none⟩ ∧ g < w.heap.size ∧ ∀ j, j < I.l.length * 3 → w.cell? ⟨g, j, none⟩ = (itL I.l)[j]?
  each : ∀ x ∈ I.l, SlAt .i32 w x.vec ∧ SlAt .u8 w x.tag
  cap : I.l.length ≤ I.c ∧ I.c ≤ maxLen
theorem RsAt.no (w : World) : RsAt w Its.no := ⟨.inl ⟨rfl, rfl, rfl⟩, by simp [Its.no], by simp [Its.no]⟩
theorem RsAt.lt {w : World} {I : Its} (h : RsAt w I) : ∀ b ∈ I.bs, b < w.heap.size := fun b hb => by
  rcases List.mem_append.1 hb with hb | hb
  · rcases h.row with ⟨h1, _⟩ | ⟨g, h1, hg, _⟩
    · rw [h1] at hb; simp at hb
    · rw [h1] at hb; simp at hb; subst hb; exact hg
  · obtain ⟨x, hx, hb⟩ := List.mem_flatMap.1 hb
    rcases List.mem_append.1 hb with hb | hb
    · exact (h.each x hx).1.lt b hb
    · exact (h.each x hx).2.lt b hb
theorem RsAt.only {G : List Nat} {w w' : World} {I : Its} (h : RsAt w I) (k : Only G w w') (hG : ∀ b ∈ I.bs, b ∉ G) : RsAt w' I := by
  refine ⟨?_, fun x hx => ⟨(h.each x hx).1.only k fun b hb => hG b (List.mem_append_right _ (List.mem_flatMap.2 ⟨x, hx, List.mem_append_left _ hb⟩)), (h.each x hx).2.only k fun b hb => hG b (List.mem_append_right _ (List.mem_flatMap.2 ⟨x, hx, List.mem_append_right _ hb⟩))⟩, h.cap⟩
  rcases h.row with h1 | ⟨g, h1, hg, hc⟩
  · exact .inl h1
  · refine .inr ⟨g, h1, Nat.lt_of_lt_of_le hg k.size, fun j hj => ?_⟩
    rw [k.cell hg (hG g (List.mem_append_left _ (by simp [h1])))]
    exact hc j hj
theorem RsAt.below {w w' : World} {I : Its} (h : RsAt w I) (k : Below w.heap.size w w') : RsAt w' I := h.only ((Only.refl [] w).below k) (by simp)
/-- A piece of it, as a source. -/
theorem RsAt.src {w : World} {I : Its} (h : RsAt w I) {i k : Nat} (hk : i + k ≤ I.l.length) {a : Option Addr} (ha : a = I.a.map (fun ad => ad.add (i * 3))) {c : Nat} (hc : I.a = none → c = 0) : SrcOf w (.slice a k c) k 3 (itL ((I.l.drop i).take k)) := by
  rcases h.row with ⟨h1, h2, h3⟩ | ⟨g, h1, hg, hcell⟩
  · rw [h2] at hk
    have : k = 0 := by simp at hk; omega
    subst this
    exact .inl ⟨by rw [ha, h1, hc h1]; rfl, rfl, by rw [h2]; simp [itL]⟩
  · refine .inr ⟨_, c, by rw [ha, h1]; rfl, by rw [itL_len]; simp; omega, fun j u hj => ?_⟩
    have hj' := (List.getElem?_eq_some_iff.1 hj).1
    rw [itL_len] at hj'
    have hl : ((I.l.drop i).take k).length = k := by simp; omega
    rw [hl] at hj'
    have e : (itL ((I.l.drop i).take k))[j]? = (itL I.l)[i * 3 + j]? := by
      have h1 : I.l = I.l.take i ++ ((I.l.drop i).take k ++ (I.l.drop i).drop k) := by rw [List.take_append_drop, List.take_append_drop]
      conv => rhs; rw [h1]
      rw [itL_append, itL_append, List.getElem?_append_right (by rw [itL_len]; simp; omega), List.getElem?_append_left (by rw [itL_len, itL_len, hl]; simp; omega)]
      congr 1
      rw [itL_len]
      simp
      omega
    show w.cell? ((Addr.add ⟨g, 0, none⟩ (i * 3)).add j) = some u
    rw [add_plain, add_plain, hcell _ (by omega)]
    rw [e] at hj
    rw [← hj]
    congr 1
    omega
theorem RsAt.cell {w : World} {I : Its} (h : RsAt w I) {j : Nat} {x : It} (hx : I.l[j]? = some x) : ∃ g, I.a = some ⟨g, 0, none⟩ ∧ ∀ i, i < 3 → w.cell? ⟨g, j * 3 + i, none⟩ = x.cells[i]? := by
  have hj := (List.getElem?_eq_some_iff.1 hx).1
  rcases h.row with ⟨_, h2, _⟩ | ⟨g, h1, hg, hcell⟩
  · rw [h2] at hj; simp at hj
  · exact ⟨g, h1, fun i hi => by rw [hcell _ (by omega), itL_get I.l j x hx i hi]⟩
/-- A row of the call's own, from then on only read. -/
theorem RsAt.of_own {w : World} {B n : Nat} {v : Value} {its : List It} (h : w.ownsRow B tIt 3 v n (itL its)) (hn : its.length = n) (he : ∀ x ∈ its, SlAt .i32 w x.vec ∧ SlAt .u8 w x.tag) : ∃ I : Its, v = I.v ∧ I.l = its ∧ RsAt w I ∧ ∀ ad, I.a = some ad → B ≤ ad.block := by
  rcases h.2 with ⟨rfl, h0⟩ | ⟨g, cap, cur, rfl, hb, hg, hnc, hcm, hcs, htake⟩
  · have hx : its = [] := List.length_eq_zero_iff.1 (by omega)
    subst hx
    exact ⟨Its.no, rfl, rfl, RsAt.no w, by simp [Its.no]⟩
  · refine ⟨⟨some ⟨g, 0, none⟩, cap, its⟩, by simp [Its.v, hn], rfl, ⟨.inr ⟨g, rfl, (Array.getElem?_eq_some_iff.1 hg).1, fun j hj => ?_⟩, he, ⟨by simp; omega, hcm⟩⟩, fun ad ha => by cases ha; exact hb⟩
    exact h.cellAt j (by rw [← hn]; exact hj)
/-- How many records stand ahead of a key. -/
def placeC (l : List Rc) (k : Int) : Nat := (l.takeWhile fun x => decide (x.1 < k)).length
theorem placeC_le (l : List Rc) (k : Int) : placeC l k ≤ l.length := by
  have h : (l.takeWhile fun x => decide (x.1 < k)).length ≤ l.length := by
    have := congrArg List.length (List.takeWhile_append_dropWhile (p := fun x : Rc => decide (x.1 < k)) (l := l))
    rw [List.length_append] at this
    omega
  exact h
theorem placeC_eq (k : Int) : ∀ (l : List Rc) (j : Nat), j ≤ l.length → (∀ i x, i < j → l[i]? = some x → x.1 < k) → (∀ x, l[j]? = some x → ¬ x.1 < k) → placeC l k = j := by
  intro l
  induction l with
  | nil => intro j hj _ _; simp at hj; subst hj; rfl
  | cons y l ih =>
    intro j hj h1 h2
    cases j with
    | zero =>
      have := h2 y (by simp)
      simp [placeC, this]
    | succ j =>
      have hy := h1 0 y (by omega) (by simp)
      have := ih j (by simpa using hj) (fun i x hi hx => h1 (i + 1) x (by omega) (by simpa using hx)) (fun x hx => h2 x (by simpa using hx))
      unfold placeC at this ⊢
      simp [hy, this]
theorem cs_get {I : Its} {j : Nat} {x : It} (h : I.l[j]? = some x) : I.cs[j]? = some x.c := by simp [Its.cs, h]
theorem cs_inv {I : Its} {j : Nat} {c : Rc} (h : I.cs[j]? = some c) : ∃ x, I.l[j]? = some x ∧ x.c = c := by
  simp [Its.cs] at h
  exact h
set_option maxHeartbeats 2000000 in
theorem place_on {w : World} {I : Its} {k : Int} (h : RsAt w I) (hl : I.l.length ≤ 1000000) :
    Calls Tryz.prog 59 #[I.v, .int .u64 k] w fun e w' => e = .returned (.int .i64 (placeC I.cs k : Int)) ∧ w' = w := by
  obtain ⟨m, hm⟩ : ∃ m, I.l.length = m := ⟨_, rfl⟩
  have HM := Lib.hid hm
  have HN : Hid (m ≤ 1000000) := Lib.hid (by omega)
  have H := Lib.hid h
  obtain ⟨a, ha⟩ : ∃ a, I.a = a := ⟨_, rfl⟩
  have HA := Lib.hid ha
  have CL : Hid (I.cs.length = m) := Lib.hid (by simp [Its.cs, hm])
  unfold Its.v
  rw [hm, ha]
  generalize I.c = c
  clear h hl hm ha
  go_enter Tryz.func59, Tryz.ntmps59
  go_wp2_with fail
  go_loopw [5] (fun u wr => ∃ j : Nat, u = .int .i64 (j : Int) ∧ Hid (j ≤ m) ∧ Hid (wr = w) ∧ Hid (∀ i x, i < j → I.cs[i]? = some x → x.1 < k)) (fun u _ => m - (intOf u).toNat)
  case atStart => exact ⟨0, rfl, Lib.hid (Nat.zero_le _), Lib.hid rfl, Lib.hid (fun i x hi => by omega)⟩
  case round =>
    obtain ⟨j, rfl, HK, hw, HF⟩ := hrel
    have hw2 := hw.out
    clear hw
    rename World => w3
    subst w3
    by_cases hlt : j < m
    · have d1 : decide ((j : Int) < (m : Int)) = true := decide_eq_true (by omega)
      have d1' : decide (j < m) = true := decide_eq_true hlt
      have e1 : IntKind.i64.wrap ((j : Int) + 1) = ((j + 1 : Nat) : Int) := w_inc _ (by have := HN.out; omega)
      obtain ⟨x, hx⟩ : ∃ x, I.l[j]? = some x := ⟨_, List.getElem?_eq_getElem (by rw [HM.out]; exact hlt)⟩
      obtain ⟨g, eg, hc⟩ := H.out.cell hx
      have c0 : w.cell? ⟨g, j * 3, none⟩ = some (.int .u64 x.key) := hc 0 (by omega)
      rw [HA.out] at eg
      subst eg
      have HX := Lib.hid (cs_get hx)
      have JM := Lib.hid hlt
      clear hc hx
      by_cases hk : x.key < k
      · have d2 : decide (x.key < k) = true := decide_eq_true hk
        have HKK := Lib.hid hk
        clear hk
        go_wp2_with fail
        go_roundw
        case rel => exact ⟨j + 1, by go_num, Lib.hid (by have := JM.out; omega), Lib.hid (by trivial), Lib.hid (fun i y hi hy => by
          by_cases e : i < j
          · exact HF.out i y e hy
          · obtain rfl : i = j := by omega
            rw [HX.out] at hy
            cases hy
            exact HKK.out)⟩
        case measure => have := JM.out; simp [intOf]; omega
      · have d2 : decide (x.key < k) = false := decide_eq_false hk
        have HE : Hid (placeC I.cs k = j) := Lib.hid (placeC_eq k _ j (by rw [CL.out]; omega) HF.out (fun y hy => by rw [HX.out] at hy; cases hy; exact hk))
        clear hk
        go_wp2_with fail
        go_ret
        exact ⟨by rw [HE.out]; rfl, rfl⟩
    · have d1 : decide ((j : Int) < (m : Int)) = false := decide_eq_false (by omega)
      have d1' : decide (j < m) = false := decide_eq_false hlt
      have HE : Hid (placeC I.cs k = j) := Lib.hid (placeC_eq k _ j (by rw [CL.out]; exact HK.out) HF.out (fun y hy => by
        have := (List.getElem?_eq_some_iff.1 hy).1
        rw [CL.out] at this
        omega))
      clear hlt
      go_wp2_with fail
      go_ret
      exact ⟨by rw [HE.out]; rfl, rfl⟩
end Go.Proofs.YtmbmkfhdiljalaaGreat

/- Plain, the document's side: a copy of a record, with spare room. -/
namespace Go.Proofs.YtmbmkfhdiljalaaGreat
open Go.RowKit Go.ChangeShapes Go.WideShapes Go.ChangeAt
set_option linter.unusedVariables false
set_option linter.unusedSimpArgs false

/-- How an operation may turn the world: only blocks that meet K. -/
structure Turn (K : Nat → Prop) (w w' : World) : Prop where
  os : w'.os = w.os
  tape : w'.tape = w.tape
  output : w'.output = w.output
  size : w.heap.size ≤ w'.heap.size
  block : ∀ b, b < w.heap.size → ¬ K b → w'.heap[b]? = w.heap[b]?
def EmpAt (T : TypeId) (B : Nat) (v : Value) (w : World) : Prop := ∃ g, v = .slice (some ⟨g, 0, none⟩) 0 0 ∧ Row w g #[] T ∧ B ≤ g
def OneAt (T : TypeId) (B : Nat) (u v : Value) (w : World) : Prop := ∃ g, v = .slice (some ⟨g, 0, none⟩) 1 1 ∧ Row w g #[u] T ∧ B ≤ g
def CutA (q : IntKind) (T : TypeId) (B : Nat) (xs : List Int) (v : Value) (w : World) : Prop := ∃ s : Sl, v = s.v ∧ s.xs = xs ∧ SlAt q w s ∧ ∀ b ∈ s.bs, B ≤ b ∧ ∃ cs, Row w b cs T
def BothA (B : Nat) (key : Int) (xs ys : List Int) (v : Value) (w : World) : Prop := ∃ s1 s2 : Sl, v = .agg #[.int .u64 key, s1.v, s2.v] ∧ s1.xs = xs ∧ s2.xs = ys ∧ SlAt .i32 w s1 ∧ SlAt .u8 w s2 ∧ ∀ b ∈ s1.bs ++ s2.bs, B ≤ b
section
variable {K : Nat → Prop} {w w' : World} {T : TypeId} {B : Nat}
theorem Turn.row {b : Nat} {cs : Array Value} (k : Turn K w w') (h : Row w b cs T) (hb : ¬ K b) : Row w' b cs T := h.of_block (k.block b h.lt hb)
theorem Turn.sl {q : IntKind} {s : Sl} (k : Turn K w w') (h : SlAt q w s) (hb : ∀ b ∈ s.bs, ¬ K b) : SlAt q w' s := by
  refine ⟨?_, fun b hm => Nat.lt_of_lt_of_le (h.lt b hm) k.size, h.nn, h.le, fun b hm => by
    obtain ⟨cs, T, hr⟩ := h.row b hm
    exact ⟨cs, T, k.row hr (hb b hm)⟩⟩
  rcases h.ints with h1 | ⟨b, off, cap, e, hc⟩
  · exact .inl h1
  · refine .inr ⟨b, off, cap, e, fun i hi => ?_⟩
    have hm : b ∈ s.bs := by
      unfold Sl.v at e
      simp only [Value.slice.injEq] at e
      simp [Sl.bs, e.1]
    rw [World.cell?_of_block (w := w) (k.block b (h.lt b hm) (hb b hm))]
    exact hc i hi
theorem Turn.rd {q : IntKind} {s : Sl} (k : Turn K w w') (h : SlRd q w s) (hb : s.xs ≠ [] → ∀ b ∈ s.bs, ¬ K b) : SlRd q w' s := by
  refine ⟨?_, fun he b hm => Nat.lt_of_lt_of_le (h.lt he b hm) k.size, h.nn, h.le⟩
  rcases h.ints with h1 | ⟨b, off, cap, e, hc⟩
  · exact .inl h1
  · refine .inr ⟨b, off, cap, e, fun i hi => ?_⟩
    have hm : b ∈ s.bs := by
      unfold Sl.v at e
      simp only [Value.slice.injEq] at e
      simp [Sl.bs, e.1]
    have he : s.xs ≠ [] := fun e => by rw [e] at hi; simp at hi
    rw [World.cell?_of_block (w := w) (k.block b (h.lt he b hm) (hb he b hm))]
    exact hc i hi
theorem Turn.emp {v : Value} (k : Turn K w w') (h : EmpAt T B v w) (hb : ∀ g, Row w g #[] T → B ≤ g → ¬ K g) : EmpAt T B v w' := by
  obtain ⟨g, e, hr, hg⟩ := h
  exact ⟨g, e, k.row hr (hb g hr hg), hg⟩
theorem Turn.one {u v : Value} (k : Turn K w w') (h : OneAt T B u v w) (hb : ∀ g, Row w g #[u] T → B ≤ g → ¬ K g) : OneAt T B u v w' := by
  obtain ⟨g, e, hr, hg⟩ := h
  exact ⟨g, e, k.row hr (hb g hr hg), hg⟩
theorem Turn.own {v : Value} {n : Nat} {xs : List Value} (k : Turn K w w') (h : w.ownsRow B T 1 v n xs) (hb : ∀ g cs, Row w g cs T → B ≤ g → ¬ K g) : w'.ownsRow B T 1 v n xs :=
  own_keep h fun g hg => by
    rcases h.2 with ⟨rfl, _⟩ | ⟨g2, cap, cur, rfl, hB, hgh, _⟩
    · simp [Value.ownBlock] at hg
    · simp [Value.ownBlock] at hg
      subst hg
      exact k.block _ (Row.lt (cs := cur) (T := T) hgh) (hb _ cur hgh hB)
theorem Turn.cut {q : IntKind} {xs : List Int} {v : Value} (k : Turn K w w') (h : CutA q T B xs v w) (hb : ∀ g cs, Row w g cs T → B ≤ g → ¬ K g) : CutA q T B xs v w' := by
  obtain ⟨s, e1, e2, hs, hg⟩ := h
  refine ⟨s, e1, e2, k.sl hs fun b hm => ?_, fun b hm => ?_⟩
  · obtain ⟨hB, cs, hr⟩ := hg b hm
    exact hb b cs hr hB
  · obtain ⟨hB, cs, hr⟩ := hg b hm
    exact ⟨hB, cs, k.row hr (hb b cs hr hB)⟩
theorem Turn.both {key : Int} {xs ys : List Int} {v : Value} (k : Turn K w w') (h : BothA B key xs ys v w) (hb : ∀ b, B ≤ b → ¬ K b) : BothA B key xs ys v w' := by
  obtain ⟨s1, s2, e, e1, e2, h1, h2, hg⟩ := h
  exact ⟨s1, s2, e, e1, e2, k.sl h1 fun b hm => hb b (hg b (List.mem_append_left _ hm)), k.sl h2 fun b hm => hb b (hg b (List.mem_append_right _ hm)), hg⟩
theorem Turn.only {F : List Nat} {a : World} (h : Only F a w) (k : Turn K w w') (hb : ∀ b, K b → b ∈ F ∨ a.heap.size ≤ b) : Only F a w' :=
  ⟨k.os.trans h.os, k.tape.trans h.tape, k.output.trans h.output, Nat.le_trans h.size k.size, fun i hi hn => by
    rw [k.block i (Nat.lt_of_lt_of_le hi h.size) (fun hk => (hb i hk).elim hn (fun h1 => by omega))]
    exact h.block i hi hn⟩
theorem Turn.rfl_ : Turn K w w := ⟨rfl, rfl, rfl, Nat.le_refl _, fun _ _ _ => rfl⟩
theorem Turn.alloc (o : Obj) : Turn K w (w.alloc o) := ⟨rfl, rfl, rfl, by simp, fun b hb _ => by
  have := (Only.refl [] w).alloc o
  exact this.block b hb (by simp)⟩
theorem Turn.grown {row : Option Nat} (h : w.grownBy w' row) (hK : ∀ b, row = some b → K b) : Turn K w w' := ⟨h.os, h.tape, h.output, h.size, fun b hb hn => h.block b hb fun e => hn (hK b e.symm)⟩
end
end Go.Proofs.YtmbmkfhdiljalaaGreat

/- Plain, the document's side: item.Copy, by the invariant law. -/
namespace Go.Proofs.YtmbmkfhdiljalaaGreat
open Go.RowKit Go.ChangeShapes Go.WideShapes Go.ChangeAt
set_option linter.unusedVariables false
set_option linter.unusedSimpArgs false

abbrev tI32 : TypeId := 21
abbrev tU8 : TypeId := 5
theorem Row.inj {w : World} {b : Nat} {cs ds : Array Value} {S T : TypeId} (h : Row w b cs S) (k : Row w b ds T) : cs = ds ∧ S = T := by
  have := h.symm.trans k
  simp at this
  exact this
theorem EmpAt.own {T : TypeId} {B : Nat} {v : Value} {w : World} (h : EmpAt T B v w) : w.ownsRow B T 1 v 0 [] := by
  obtain ⟨g, rfl, hr, hg⟩ := h
  exact ⟨by simp, .inr ⟨g, 0, #[], rfl, hg, hr, by simp, by unfold maxLen; omega, by simp, by simp⟩⟩
theorem own_at {T : TypeId} {B n : Nat} {v : Value} {w : World} {xs : List Value} (h : w.ownsRow B T 1 v n xs) : ∀ g, v.ownBlock = some g → (∃ cs, Row w g cs T) ∧ B ≤ g := fun g hg => by
  rcases h.2 with ⟨rfl, _⟩ | ⟨g2, cap, cur, rfl, hB, hgh, _⟩
  · simp [Value.ownBlock] at hg
  · simp [Value.ownBlock] at hg
    subst hg
    exact ⟨⟨cur, hgh⟩, hB⟩
/-- The beginning of a row, n of n + 1. -/
theorem own_cut {q : IntKind} {T : TypeId} {B g cap : Nat} {w : World} {xs : List Int} {z : Int} (h : w.ownsRow B T 1 (.slice (some ⟨g, 0, none⟩) (xs.length + 1) cap) (xs.length + 1) ((xs ++ [z]).map (Value.int q))) (hl : xs.length ≤ 1000000) :
    CutA q T B xs (.slice (some ⟨g, 0, none⟩) xs.length cap) w := by
  obtain ⟨⟨cs, hr⟩, hB⟩ := own_at h g rfl
  refine ⟨⟨some ⟨g, 0, none⟩, cap, xs⟩, rfl, rfl, ⟨.inr ⟨g, 0, cap, rfl, fun i hi => ?_⟩, fun b hb => ?_, fun e => by simp at e, hl, fun b hb => ?_⟩, fun b hb => ?_⟩
  · have hi : i < xs.length := hi
    have := h.cellAt i (by omega)
    rw [Nat.zero_add, this, List.getElem?_map, List.getElem?_append_left hi]
    rw [List.getElem?_eq_getElem hi]
    rfl
  all_goals
    simp [Sl.bs] at hb
    subst hb
  · exact hr.lt
  · exact ⟨cs, T, hr⟩
  · exact ⟨hB, cs, hr⟩
theorem own_some {T : TypeId} {B n : Nat} {v : Value} {w : World} {xs : List Value} (h : w.ownsRow B T 1 v (n + 1) xs) : ∃ g cap, v = .slice (some ⟨g, 0, none⟩) (n + 1) cap ∧ n + 1 ≤ cap ∧ cap ≤ maxLen := by
  rcases h.2 with ⟨rfl, h0⟩ | ⟨g, cap, cur, rfl, hB, hgh, h1, h2, _⟩
  · omega
  · exact ⟨g, cap, rfl, h1, h2⟩
/-- What each operation leaves. -/
def RC (bx br B : Nat) (x : It) : Nat → Value → World → Prop
  | 0, v, _ => v = .pointer (some ⟨bx, 0, none⟩)
  | 1, v, _ => v = .int .u64 x.key
  | 2, v, w => EmpAt tI32 B v w
  | 3, v, _ => v = .pointer (some ⟨bx, 1, none⟩)
  | 4, v, _ => v = x.vec.v
  | 5, v, w => w.ownsRow B tI32 1 v x.vec.xs.length (x.vec.xs.map (Value.int .i32))
  | 6, v, w => OneAt tI32 B (.int .i32 77) v w
  | 7, v, w => w.ownsRow B tI32 1 v (x.vec.xs.length + 1) ((x.vec.xs ++ [77]).map (Value.int .i32))
  | 8, v, _ => v = .pointer (some ⟨bx, 1, none⟩)
  | 9, v, _ => v = x.vec.v
  | 10, v, _ => v = .int .i64 (x.vec.xs.length : Int)
  | 11, v, w => CutA .i32 tI32 B x.vec.xs v w
  | 12, v, w => EmpAt tU8 B v w
  | 13, v, _ => v = .pointer (some ⟨bx, 2, none⟩)
  | 14, v, _ => v = x.tag.v
  | 15, v, w => w.ownsRow B tU8 1 v x.tag.xs.length (x.tag.xs.map (Value.int .u8))
  | 16, v, w => OneAt tU8 B (.int .u8 78) v w
  | 17, v, w => w.ownsRow B tU8 1 v (x.tag.xs.length + 1) ((x.tag.xs ++ [78]).map (Value.int .u8))
  | 18, v, _ => v = .pointer (some ⟨bx, 2, none⟩)
  | 19, v, _ => v = x.tag.v
  | 20, v, _ => v = .int .i64 (x.tag.xs.length : Int)
  | 21, v, w => CutA .u8 tU8 B x.tag.xs v w
  | 22, v, w => BothA B x.key x.vec.xs x.tag.xs v w
  | 23, _, w => ∃ s1 s2 : Sl, Row w br #[.int .u64 x.key, s1.v, s2.v] tIt ∧ BothA B x.key x.vec.xs x.tag.xs (.agg #[.int .u64 x.key, s1.v, s2.v]) w
  | _, _, _ => True
/-- Which blocks it may turn. -/
def KC (br B : Nat) : Nat → World → Nat → Prop
  | 5, w, b => Row w b #[] tI32 ∧ B ≤ b
  | 7, w, b => (∃ cs, Row w b cs tI32) ∧ B ≤ b
  | 15, w, b => Row w b #[] tU8 ∧ B ≤ b
  | 17, w, b => (∃ cs, Row w b cs tU8) ∧ B ≤ b
  | 23, _, b => b = br
  | _, _, _ => False
theorem KC_cases {br B i : Nat} {w : World} {b : Nat} (h : KC br B i w b) : (i = 5 ∧ Row w b #[] tI32 ∧ B ≤ b) ∨ (i = 7 ∧ (∃ cs, Row w b cs tI32) ∧ B ≤ b) ∨ (i = 15 ∧ Row w b #[] tU8 ∧ B ≤ b) ∨ (i = 17 ∧ (∃ cs, Row w b cs tU8) ∧ B ≤ b) ∨ (i = 23 ∧ b = br) := by
  unfold KC at h
  split at h
  · exact .inl ⟨rfl, h⟩
  · exact .inr (.inl ⟨rfl, h⟩)
  · exact .inr (.inr (.inl ⟨rfl, h⟩))
  · exact .inr (.inr (.inr (.inl ⟨rfl, h⟩)))
  · exact .inr (.inr (.inr (.inr ⟨rfl, h⟩)))
  · cases h
structure SC (w1 : World) (bx br B : Nat) (x : It) (w : World) : Prop where
  row : Row w bx #[.int .u64 x.key, x.vec.v, x.tag.v] tIt
  out : ∃ c0 c1 c2, Row w br #[c0, c1, c2] tIt
  vec : SlRd .i32 w x.vec
  tag : SlRd .u8 w x.tag
  only : Only [br] w1 w
  size : B ≤ w.heap.size
theorem SC.turn {w1 w w' : World} {bx br B i : Nat} {x : It} (h : SC w1 bx br B x w) (k : Turn (KC br B i w) w w') (hi : i ≠ 23) (h1 : bx < br) (h2 : br < B) (hB : B = w1.heap.size) (hx : (x.vec.xs ≠ [] → ∀ b ∈ x.vec.bs, b < bx) ∧ (x.tag.xs ≠ [] → ∀ b ∈ x.tag.bs, b < bx)) : SC w1 bx br B x w' := by
  have hk : ∀ b, KC br B i w b → B ≤ b := fun b hb => by
    rcases KC_cases hb with h | h | h | h | h
    · exact h.2.2
    · exact h.2.2
    · exact h.2.2
    · exact h.2.2
    · exact absurd h.1 hi
  refine ⟨k.row h.row fun hb => ?_, ?_, k.rd h.vec fun he b hm hb => ?_, k.rd h.tag fun he b hm hb => ?_, Turn.only h.only k fun b hb => .inr ?_, Nat.le_trans h.size k.size⟩
  · have := hk _ hb; omega
  · obtain ⟨c0, c1, c2, hr⟩ := h.out
    exact ⟨c0, c1, c2, k.row hr fun hb => by have := hk _ hb; omega⟩
  · have := hk _ hb; have := hx.1 he b hm; omega
  · have := hk _ hb; have := hx.2 he b hm; omega
  · have := hk _ hb; omega
theorem SC.same {w1 w : World} {bx br B : Nat} {x : It} {K : Nat → Prop} (h : SC w1 bx br B x w) : SC w1 bx br B x w ∧ Turn K w w := ⟨h, Turn.rfl_⟩
set_option maxHeartbeats 1000000 in
theorem RC_keep {bx br B : Nat} {x : It} (bh : Nat → Nat → Bool) (hbh : ([(7, 5), (11, 5), (11, 7), (17, 15), (21, 15), (21, 17), (22, 5), (22, 7), (22, 15), (22, 17), (23, 5), (23, 7), (23, 15), (23, 17)] : List (Nat × Nat)).all (fun p => bh p.1 p.2) = true) (hbr : br < B)
    (i j : Nat) (v : Value) (w w' : World) (hk : (i, j) ∉ [(5, 2), (7, 2), (7, 5), (7, 6), (15, 12), (17, 12), (17, 15), (17, 16)]) (hne : j ≠ i) (hb : bh j i = false) (k : Turn (KC br B i w) w w') (h : RC bx br B x j v w) : RC bx br B x j v w' := by
  have hbb := fun p hp => List.all_eq_true.1 hbh p hp
  have ty : ¬ (tI32 = tU8) := by decide
  match j, hk, hne, hb, h with
  | 0, _, _, _, h => exact h
  | 1, _, _, _, h => exact h
  | 3, _, _, _, h => exact h
  | 4, _, _, _, h => exact h
  | 8, _, _, _, h => exact h
  | 9, _, _, _, h => exact h
  | 10, _, _, _, h => exact h
  | 13, _, _, _, h => exact h
  | 14, _, _, _, h => exact h
  | 18, _, _, _, h => exact h
  | 19, _, _, _, h => exact h
  | 20, _, _, _, h => exact h
  | 2, hk, hne, hb, h =>
    refine k.emp h fun g hr hg hK => ?_
    rcases KC_cases hK with ⟨rfl, h1⟩ | ⟨rfl, h1⟩ | ⟨rfl, h1, _⟩ | ⟨rfl, ⟨cs, h1⟩, _⟩ | ⟨rfl, h1⟩
    · simp at hk
    · simp at hk
    · exact ty (hr.inj h1).2
    · exact ty (hr.inj h1).2
    · omega
  | 12, hk, hne, hb, h =>
    refine k.emp h fun g hr hg hK => ?_
    rcases KC_cases hK with ⟨rfl, h1, _⟩ | ⟨rfl, ⟨cs, h1⟩, _⟩ | ⟨rfl, h1⟩ | ⟨rfl, h1⟩ | ⟨rfl, h1⟩
    · exact ty (h1.inj hr).2
    · exact ty (h1.inj hr).2
    · simp at hk
    · simp at hk
    · omega
  | 5, hk, hne, hb, h =>
    refine k.own h fun g cs hr hg hK => ?_
    rcases KC_cases hK with ⟨rfl, h1⟩ | ⟨rfl, h1⟩ | ⟨rfl, h1, _⟩ | ⟨rfl, ⟨cs, h1⟩, _⟩ | ⟨rfl, h1⟩
    · exact hne rfl
    · simp at hk
    · exact ty (hr.inj h1).2
    · exact ty (hr.inj h1).2
    · omega
  | 15, hk, hne, hb, h =>
    refine k.own h fun g cs hr hg hK => ?_
    rcases KC_cases hK with ⟨rfl, h1, _⟩ | ⟨rfl, ⟨cs, h1⟩, _⟩ | ⟨rfl, h1⟩ | ⟨rfl, h1⟩ | ⟨rfl, h1⟩
    · exact ty (h1.inj hr).2
    · exact ty (h1.inj hr).2
    · exact hne rfl
    · simp at hk
    · omega
  | 6, hk, hne, hb, h =>
    refine k.one h fun g hr hg hK => ?_
    rcases KC_cases hK with ⟨rfl, h1, _⟩ | ⟨rfl, h1⟩ | ⟨rfl, h1, _⟩ | ⟨rfl, ⟨cs, h1⟩, _⟩ | ⟨rfl, h1⟩
    · have := (hr.inj h1).1; simp at this
    · simp at hk
    · exact ty (hr.inj h1).2
    · exact ty (hr.inj h1).2
    · omega
  | 16, hk, hne, hb, h =>
    refine k.one h fun g hr hg hK => ?_
    rcases KC_cases hK with ⟨rfl, h1, _⟩ | ⟨rfl, ⟨cs, h1⟩, _⟩ | ⟨rfl, h1, _⟩ | ⟨rfl, h1⟩ | ⟨rfl, h1⟩
    · exact ty (h1.inj hr).2
    · exact ty (h1.inj hr).2
    · have := (hr.inj h1).1; simp at this
    · simp at hk
    · omega
  | 7, hk, hne, hb, h =>
    refine k.own h fun g cs hr hg hK => ?_
    rcases KC_cases hK with ⟨rfl, h1⟩ | ⟨rfl, h1⟩ | ⟨rfl, h1, _⟩ | ⟨rfl, ⟨cs, h1⟩, _⟩ | ⟨rfl, h1⟩
    · have := hbb (7, 5) (by simp); rw [hb] at this; cases this
    · exact hne rfl
    · exact ty (hr.inj h1).2
    · exact ty (hr.inj h1).2
    · omega
  | 17, hk, hne, hb, h =>
    refine k.own h fun g cs hr hg hK => ?_
    rcases KC_cases hK with ⟨rfl, h1, _⟩ | ⟨rfl, ⟨cs, h1⟩, _⟩ | ⟨rfl, h1⟩ | ⟨rfl, h1⟩ | ⟨rfl, h1⟩
    · exact ty (h1.inj hr).2
    · exact ty (h1.inj hr).2
    · have := hbb (17, 15) (by simp); rw [hb] at this; cases this
    · exact hne rfl
    · omega
  | 11, hk, hne, hb, h =>
    refine k.cut h fun g cs hr hg hK => ?_
    rcases KC_cases hK with ⟨rfl, h1⟩ | ⟨rfl, h1⟩ | ⟨rfl, h1, _⟩ | ⟨rfl, ⟨cs, h1⟩, _⟩ | ⟨rfl, h1⟩
    · have := hbb (11, 5) (by simp); rw [hb] at this; cases this
    · have := hbb (11, 7) (by simp); rw [hb] at this; cases this
    · exact ty (hr.inj h1).2
    · exact ty (hr.inj h1).2
    · omega
  | 21, hk, hne, hb, h =>
    refine k.cut h fun g cs hr hg hK => ?_
    rcases KC_cases hK with ⟨rfl, h1, _⟩ | ⟨rfl, ⟨cs, h1⟩, _⟩ | ⟨rfl, h1⟩ | ⟨rfl, h1⟩ | ⟨rfl, h1⟩
    · exact ty (h1.inj hr).2
    · exact ty (h1.inj hr).2
    · have := hbb (21, 15) (by simp); rw [hb] at this; cases this
    · have := hbb (21, 17) (by simp); rw [hb] at this; cases this
    · omega
  | 22, hk, hne, hb, h =>
    refine k.both h fun g hg hK => ?_
    rcases KC_cases hK with ⟨rfl, _⟩ | ⟨rfl, _⟩ | ⟨rfl, _⟩ | ⟨rfl, _⟩ | ⟨rfl, h1⟩
    · have := hbb (22, 5) (by simp); rw [hb] at this; cases this
    · have := hbb (22, 7) (by simp); rw [hb] at this; cases this
    · have := hbb (22, 15) (by simp); rw [hb] at this; cases this
    · have := hbb (22, 17) (by simp); rw [hb] at this; cases this
    · omega
  | 23, hk, hne, hb, h =>
    have no : ∀ g, ¬ KC br B i w g := fun g hK => by
      rcases KC_cases hK with ⟨rfl, _⟩ | ⟨rfl, _⟩ | ⟨rfl, _⟩ | ⟨rfl, _⟩ | ⟨rfl, h1⟩
      · have := hbb (23, 5) (by simp); rw [hb] at this; cases this
      · have := hbb (23, 7) (by simp); rw [hb] at this; cases this
      · have := hbb (23, 15) (by simp); rw [hb] at this; cases this
      · have := hbb (23, 17) (by simp); rw [hb] at this; cases this
      · exact hne rfl
    obtain ⟨s1, s2, hr, h2⟩ := h
    exact ⟨s1, s2, k.row hr (no _), k.both h2 fun g _ => no g⟩
  | n + 24, _, _, _, h => exact trivial
end Go.Proofs.YtmbmkfhdiljalaaGreat

/- Plain, the document's side: item.Copy. -/
namespace Go.Proofs.YtmbmkfhdiljalaaGreat
open Go.RowKit Go.ChangeShapes Go.WideShapes Go.ChangeAt
set_option linter.unusedVariables false
set_option linter.unusedSimpArgs false

def frC (x0 x1 x2 : Value) (u : Nat → Value) : Act := ⟨#[x0, x1, x2, u 3, u 4, u 5, u 6, u 7, u 8, u 9, u 10, u 11, u 12, u 13, u 14, u 15, u 16, u 17, u 18, u 19, u 20, u 21, u 22, u 23, u 24, u 25], []⟩
theorem infoI32c : (Tryz.prog.info? tI32).map (fun i => (i.zero, i.size, i.bytes)) = some (some (.int .i32 0), 1, 4) := by kernel_rfl
theorem infoU8c : (Tryz.prog.info? tU8).map (fun i => (i.zero, i.size, i.bytes)) = some (some (.int .u8 0), 1, 1) := by kernel_rfl
set_option maxRecDepth 100000 in
set_option maxHeartbeats 4000000 in
theorem icopy_on {x : It} {w : World} (h1 : SlRd .i32 w x.vec) (h2 : SlRd .u8 w x.tag) : Calls Tryz.prog 22 #[.agg #[.int .u64 x.key, x.vec.v, x.tag.v]] w (OwnTo x.key x.vec.xs x.tag.xs w) := by
  have HX : Hid ((x.vec.xs ≠ [] → ∀ b ∈ x.vec.bs, b < w.heap.size) ∧ (x.tag.xs ≠ [] → ∀ b ∈ x.tag.bs, b < w.heap.size)) := Lib.hid ⟨h1.lt, h2.lt⟩
  have LV : Hid (x.vec.xs.length ≤ 1000000) := Lib.hid h1.le
  have LT : Hid (x.tag.xs.length ≤ 1000000) := Lib.hid h2.le
  have H1 := Lib.hid h1
  have H2 := Lib.hid h2
  obtain ⟨i0, hi, hz0, hz1, hz2⟩ := info_parts infoI32c
  obtain ⟨j0, hj, hy0, hy1, hy2⟩ := info_parts infoU8c
  clear h1 h2
  obtain ⟨key, ⟨a1, c1, xs⟩, ⟨a2, c2, ys⟩⟩ := x
  go_enter Tryz.func22, Tryz.ntmps22
  simp only [Sl.v] at *
  go_upto_region 1 with fail
  have SK : Hid (∀ i y y', SC ((w.alloc (.cells #[.int .u64 key, .slice a1 xs.length c1, .slice a2 ys.length c2] tIt)).alloc (.cells #[.int .u64 0, .slice none 0 0, .slice none 0 0] tIt)) w.heap.size (w.heap.size + 1) (w.heap.size + 2) ⟨key, ⟨a1, c1, xs⟩, ⟨a2, c2, ys⟩⟩ y → Turn (KC (w.heap.size + 1) (w.heap.size + 2) i y) y y' → i ≠ 23 → SC ((w.alloc (.cells #[.int .u64 key, .slice a1 xs.length c1, .slice a2 ys.length c2] tIt)).alloc (.cells #[.int .u64 0, .slice none 0 0, .slice none 0 0] tIt)) w.heap.size (w.heap.size + 1) (w.heap.size + 2) ⟨key, ⟨a1, c1, xs⟩, ⟨a2, c2, ys⟩⟩ y') := Lib.hid fun i y y' h k hi => h.turn k hi (by omega) (by omega) (by simp) HX.out
  have K0 : Hid (Only [] w ((w.alloc (.cells #[.int .u64 key, .slice a1 xs.length c1, .slice a2 ys.length c2] tIt)).alloc (.cells #[.int .u64 0, .slice none 0 0, .slice none 0 0] tIt))) := Lib.hid (((Only.refl [] w).alloc _).alloc _)
  have R1 : Hid (Row ((w.alloc (.cells #[.int .u64 key, .slice a1 xs.length c1, .slice a2 ys.length c2] tIt)).alloc (.cells #[.int .u64 0, .slice none 0 0, .slice none 0 0] tIt)) w.heap.size #[.int .u64 key, .slice a1 xs.length c1, .slice a2 ys.length c2] tIt) := Lib.hid ((Row.made w _ _).only ((Only.refl [] _).alloc _) (by simp))
  have R2 : Hid (Row ((w.alloc (.cells #[.int .u64 key, .slice a1 xs.length c1, .slice a2 ys.length c2] tIt)).alloc (.cells #[.int .u64 0, .slice none 0 0, .slice none 0 0] tIt)) (w.heap.size + 1) #[.int .u64 0, .slice none 0 0, .slice none 0 0] tIt) := Lib.hid (by
    have h := Row.made (w.alloc (.cells #[.int .u64 key, .slice a1 xs.length c1, .slice a2 ys.length c2] tIt)) #[.int .u64 0, .slice none 0 0, .slice none 0 0] tIt
    rw [World.size_alloc] at h
    exact h)
  refine region_inv (by kernel_rfl) 8 [(5, 2), (7, 2), (7, 5), (7, 6), (15, 12), (17, 12), (17, 15), (17, 16)] (frC _ _ _)
    (SC ((w.alloc (.cells #[.int .u64 key, .slice a1 xs.length c1, .slice a2 ys.length c2] tIt)).alloc (.cells #[.int .u64 0, .slice none 0 0, .slice none 0 0] tIt)) w.heap.size (w.heap.size + 1) (w.heap.size + 2) ⟨key, ⟨a1, c1, xs⟩, ⟨a2, c2, ys⟩⟩)
    (RC w.heap.size (w.heap.size + 1) (w.heap.size + 2) ⟨key, ⟨a1, c1, xs⟩, ⟨a2, c2, ys⟩⟩) (fun i w1 w2 => Turn (KC (w.heap.size + 1) (w.heap.size + 2) i w1) w1 w2) (by kernel_rfl) ?hfr ?hT (fun _ => undef) rfl ?hS ?hst ?hend
  case hfr =>
    refine fun i o d u v ho => each_op (M := fun _ o => o.dst = some d → (frC _ _ _ u).put (some d) v = frC _ _ _ (upd u d v)) ?_ i o ho
    refine ⟨?_, ?_, ?_, ?_, ?_, ?_, ?_, ?_, ?_, ?_, ?_, ?_, ?_, ?_, ?_, ?_, ?_, ?_, ?_, ?_, ?_, ?_, ?_, ?_, trivial⟩
    all_goals
      intro h
      first
        | (cases h; done)
        | (cases h; rfl)
  case hT => exact fun i j v w1 w2 hk hne hb k h => RC_keep _ (by kernel_rfl) (by omega) i j v w1 w2 hk hne hb k h
  case hS =>
    refine ⟨R1.out, ⟨_, _, _, R2.out⟩, H1.out.only (K0.out.drew) (by simp), H2.out.only (K0.out.drew) (by simp), ((Only.refl _ _).drew), by simp⟩
  case hst =>
    refine each_op ⟨?_, ?_, ?_, ?_, ?_, ?_, ?_, ?_, ?_, ?_, ?_, ?_, ?_, ?_, ?_, ?_, ?_, ?_, ?_, ?_, ?_, ?_, ?_, ?_, trivial⟩
    case refine_1 =>
      intro u y hs hd
      unfold frC
      clear hd
      go_wp2_with fail
      exact ⟨rfl, _, rfl, hs, Turn.rfl_, rfl⟩
    case refine_2 =>
      intro u y hs hd
      have e0 : u 3 = .pointer (some ⟨w.heap.size, 0, none⟩) := hd 0 (by kernel_rfl)
      have c0 : y.cell? ⟨w.heap.size, 0, none⟩ = some (.int .u64 key) := hs.row.cell 0
      unfold frC
      rw [e0]
      clear hd e0
      go_wp2_with fail
      exact ⟨rfl, _, rfl, hs, Turn.rfl_, rfl⟩
    case refine_3 =>
      intro u y hs hd
      unfold frC
      clear hd
      go_wp2_with fail
      exact ⟨rfl, _, rfl, SK.out 2 y _ hs (Turn.alloc _) (by decide), Turn.alloc _, ⟨_, rfl, Row.made _ _ _, hs.size⟩⟩
    case refine_4 =>
      intro u y hs hd
      unfold frC
      clear hd
      go_wp2_with fail
      exact ⟨rfl, _, rfl, hs, Turn.rfl_, rfl⟩
    case refine_5 =>
      intro u y hs hd
      have e0 : u 6 = .pointer (some ⟨w.heap.size, 1, none⟩) := hd 3 (by kernel_rfl)
      have c0 : y.cell? ⟨w.heap.size, 1, none⟩ = some (.slice a1 xs.length c1) := hs.row.cell 1
      unfold frC
      rw [e0]
      clear hd e0
      go_wp2_with fail
      exact ⟨rfl, _, rfl, hs, Turn.rfl_, rfl⟩
    case refine_6 =>
      intro u y hs hd
      have e0 : EmpAt tI32 (w.heap.size + 2) (u 5) y := hd 2 (by kernel_rfl)
      have e1 : u 7 = .slice a1 xs.length c1 := hd 4 (by kernel_rfl)
      have HO := Lib.hid e0.own
      obtain ⟨g, eg, hrow, hBg⟩ := e0
      have HR := Lib.hid hrow
      have HB := Lib.hid hBg
      unfold frC
      rw [eg] at HO ⊢
      rw [e1]
      have HS := Lib.hid hs
      clear hd eg e1 hrow hBg hs
      refine wpList_append_src rfl (.tmp 5) (.tmp 7) 31 rfl (w.heap.size + 2) tI32 i0 (.int .i32 0) 1 4 Tryz.underlying31 hi hz0 hz1 hz2 rfl (by decide) _ 0 [] rfl HO.out _ xs.length (xs.map (Value.int .i32)) rfl (SlRd.src HS.out.vec) (by simp [Value.oneCell']) (by have := LV.out; unfold maxLen; omega) (by have := LV.out; omega) HS.out.size ?_
      intro v' w' hown' hgrow
      have TT : Turn (KC (w.heap.size + 1) (w.heap.size + 2) 5 y) y w' := Turn.grown hgrow (fun b hb => by
        simp [Act.eval, Value.ownBlock] at hb
        subst hb
        exact ⟨HR.out, HB.out⟩)
      refine ⟨rfl, _, rfl, SK.out 5 y _ HS.out TT (by decide), TT, ?_⟩
      show w'.ownsRow _ _ _ _ _ (xs.map (Value.int .i32))
      simpa using hown'
    case refine_7 =>
      intro u y hs hd
      unfold frC
      clear hd
      go_wp2_with fail
      exact ⟨rfl, _, rfl, SK.out 6 y _ hs (Turn.alloc _) (by decide), Turn.alloc _, ⟨_, rfl, Row.made _ _ _, hs.size⟩⟩
    case refine_8 =>
      intro u y hs hd
      have e0 : y.ownsRow (w.heap.size + 2) tI32 1 (u 8) xs.length (xs.map (Value.int .i32)) := hd 5 (by kernel_rfl)
      have e1 : OneAt tI32 (w.heap.size + 2) (.int .i32 77) (u 9) y := hd 6 (by kernel_rfl)
      obtain ⟨g, eg, hrow, hBg⟩ := e1
      have HO := Lib.hid e0
      have HR := Lib.hid hrow
      have HA := Lib.hid (own_at e0)
      unfold frC
      rw [eg]
      generalize u 8 = v1 at *
      have HS := Lib.hid hs
      have hsrc : Hid (SrcOf y (.slice (some ⟨g, 0, none⟩) 1 1) 1 1 [.int .i32 77]) := Lib.hid (.inr ⟨⟨g, 0, none⟩, 1, rfl, rfl, fun j x hj => by
        rw [add_plain, Nat.zero_add, HR.out.cell j]
        simpa using hj⟩)
      clear hd eg e0 hrow hBg hs
      refine wpList_append_src rfl (.tmp 8) (.tmp 9) 31 rfl (w.heap.size + 2) tI32 i0 (.int .i32 0) 1 4 Tryz.underlying31 hi hz0 hz1 hz2 rfl (by decide) _ xs.length (xs.map (Value.int .i32)) rfl HO.out _ 1 [.int .i32 77] rfl hsrc.out (by simp [Value.oneCell']) (by have := LV.out; unfold maxLen; omega) (by have := LV.out; omega) HS.out.size ?_
      intro v' w' hown' hgrow
      have TT : Turn (KC (w.heap.size + 1) (w.heap.size + 2) 7 y) y w' := Turn.grown hgrow (fun b hb => HA.out b (by simpa [Act.eval] using hb))
      refine ⟨rfl, _, rfl, SK.out 7 y _ HS.out TT (by decide), TT, ?_⟩
      show w'.ownsRow _ _ _ _ _ ((xs ++ [77]).map (Value.int .i32))
      rw [List.map_append]
      exact hown'
    case refine_9 =>
      intro u y hs hd
      unfold frC
      clear hd
      go_wp2_with fail
      exact ⟨rfl, _, rfl, hs, Turn.rfl_, rfl⟩
    case refine_10 =>
      intro u y hs hd
      have e0 : u 11 = .pointer (some ⟨w.heap.size, 1, none⟩) := hd 8 (by kernel_rfl)
      have c0 : y.cell? ⟨w.heap.size, 1, none⟩ = some (.slice a1 xs.length c1) := hs.row.cell 1
      unfold frC
      rw [e0]
      clear hd e0
      go_wp2_with fail
      exact ⟨rfl, _, rfl, hs, Turn.rfl_, rfl⟩
    case refine_11 =>
      intro u y hs hd
      have e0 : u 12 = .slice a1 xs.length c1 := hd 9 (by kernel_rfl)
      unfold frC
      rw [e0]
      clear hd e0
      go_wp2_with fail
      exact ⟨rfl, _, rfl, hs, Turn.rfl_, rfl⟩
    case refine_12 =>
      intro u y hs hd
      have e0 : y.ownsRow (w.heap.size + 2) tI32 1 (u 10) (xs.length + 1) ((xs ++ [77]).map (Value.int .i32)) := hd 7 (by kernel_rfl)
      have e1 : u 13 = .int .i64 (xs.length : Int) := hd 10 (by kernel_rfl)
      obtain ⟨g, cap, eg, hc1, hc2⟩ := own_some e0
      rw [eg] at e0
      have HO := Lib.hid (own_cut e0 (by have := LV.out; simpa using this))
      have k1 : (xs.length : Int) ≤ (cap : Int) := by omega
      have k2 : (0 : Int) ≤ (xs.length : Int) := by omega
      have k3 : cap ≠ 0 := by omega
      have k4 : xs.length ≤ cap := by omega
      unfold frC
      rw [eg, e1]
      have HS := Lib.hid hs
      clear hd eg e0 e1 hc1 hc2 hs
      go_wp2_with fail
      refine ⟨rfl, _, rfl, HS.out, Turn.rfl_, ?_⟩
      exact HO.out
    case refine_13 =>
      intro u y hs hd
      unfold frC
      clear hd
      go_wp2_with fail
      exact ⟨rfl, _, rfl, SK.out 12 y _ hs (Turn.alloc _) (by decide), Turn.alloc _, ⟨_, rfl, Row.made _ _ _, hs.size⟩⟩
    case refine_14 =>
      intro u y hs hd
      unfold frC
      clear hd
      go_wp2_with fail
      exact ⟨rfl, _, rfl, hs, Turn.rfl_, rfl⟩
    case refine_15 =>
      intro u y hs hd
      have e0 : u 16 = .pointer (some ⟨w.heap.size, 2, none⟩) := hd 13 (by kernel_rfl)
      have c0 : y.cell? ⟨w.heap.size, 2, none⟩ = some (.slice a2 ys.length c2) := hs.row.cell 2
      unfold frC
      rw [e0]
      clear hd e0
      go_wp2_with fail
      exact ⟨rfl, _, rfl, hs, Turn.rfl_, rfl⟩
    case refine_16 =>
      intro u y hs hd
      have e0 : EmpAt tU8 (w.heap.size + 2) (u 15) y := hd 12 (by kernel_rfl)
      have e1 : u 17 = .slice a2 ys.length c2 := hd 14 (by kernel_rfl)
      have HO := Lib.hid e0.own
      obtain ⟨g, eg, hrow, hBg⟩ := e0
      have HR := Lib.hid hrow
      have HB := Lib.hid hBg
      unfold frC
      rw [eg] at HO ⊢
      rw [e1]
      have HS := Lib.hid hs
      clear hd eg e1 hrow hBg hs
      refine wpList_append_src rfl (.tmp 15) (.tmp 17) 32 rfl (w.heap.size + 2) tU8 j0 (.int .u8 0) 1 1 Tryz.underlying32 hj hy0 hy1 hy2 rfl (by decide) _ 0 [] rfl HO.out _ ys.length (ys.map (Value.int .u8)) rfl (SlRd.src HS.out.tag) (by simp [Value.oneCell']) (by have := LT.out; unfold maxLen; omega) (by have := LT.out; omega) HS.out.size ?_
      intro v' w' hown' hgrow
      have TT : Turn (KC (w.heap.size + 1) (w.heap.size + 2) 15 y) y w' := Turn.grown hgrow (fun b hb => by
        simp [Act.eval, Value.ownBlock] at hb
        subst hb
        exact ⟨HR.out, HB.out⟩)
      refine ⟨rfl, _, rfl, SK.out 15 y _ HS.out TT (by decide), TT, ?_⟩
      show w'.ownsRow _ _ _ _ _ (ys.map (Value.int .u8))
      simpa using hown'
    case refine_17 =>
      intro u y hs hd
      unfold frC
      clear hd
      go_wp2_with fail
      exact ⟨rfl, _, rfl, SK.out 16 y _ hs (Turn.alloc _) (by decide), Turn.alloc _, ⟨_, rfl, Row.made _ _ _, hs.size⟩⟩
    case refine_18 =>
      intro u y hs hd
      have e0 : y.ownsRow (w.heap.size + 2) tU8 1 (u 18) ys.length (ys.map (Value.int .u8)) := hd 15 (by kernel_rfl)
      have e1 : OneAt tU8 (w.heap.size + 2) (.int .u8 78) (u 19) y := hd 16 (by kernel_rfl)
      obtain ⟨g, eg, hrow, hBg⟩ := e1
      have HO := Lib.hid e0
      have HR := Lib.hid hrow
      have HA := Lib.hid (own_at e0)
      unfold frC
      rw [eg]
      generalize u 18 = v1 at *
      have HS := Lib.hid hs
      have hsrc : Hid (SrcOf y (.slice (some ⟨g, 0, none⟩) 1 1) 1 1 [.int .u8 78]) := Lib.hid (.inr ⟨⟨g, 0, none⟩, 1, rfl, rfl, fun j x hj => by
        rw [add_plain, Nat.zero_add, HR.out.cell j]
        simpa using hj⟩)
      clear hd eg e0 hrow hBg hs
      refine wpList_append_src rfl (.tmp 18) (.tmp 19) 32 rfl (w.heap.size + 2) tU8 j0 (.int .u8 0) 1 1 Tryz.underlying32 hj hy0 hy1 hy2 rfl (by decide) _ ys.length (ys.map (Value.int .u8)) rfl HO.out _ 1 [.int .u8 78] rfl hsrc.out (by simp [Value.oneCell']) (by have := LT.out; unfold maxLen; omega) (by have := LT.out; omega) HS.out.size ?_
      intro v' w' hown' hgrow
      have TT : Turn (KC (w.heap.size + 1) (w.heap.size + 2) 17 y) y w' := Turn.grown hgrow (fun b hb => HA.out b (by simpa [Act.eval] using hb))
      refine ⟨rfl, _, rfl, SK.out 17 y _ HS.out TT (by decide), TT, ?_⟩
      show w'.ownsRow _ _ _ _ _ ((ys ++ [78]).map (Value.int .u8))
      rw [List.map_append]
      exact hown'
    case refine_19 =>
      intro u y hs hd
      unfold frC
      clear hd
      go_wp2_with fail
      exact ⟨rfl, _, rfl, hs, Turn.rfl_, rfl⟩
    case refine_20 =>
      intro u y hs hd
      have e0 : u 21 = .pointer (some ⟨w.heap.size, 2, none⟩) := hd 18 (by kernel_rfl)
      have c0 : y.cell? ⟨w.heap.size, 2, none⟩ = some (.slice a2 ys.length c2) := hs.row.cell 2
      unfold frC
      rw [e0]
      clear hd e0
      go_wp2_with fail
      exact ⟨rfl, _, rfl, hs, Turn.rfl_, rfl⟩
    case refine_21 =>
      intro u y hs hd
      have e0 : u 22 = .slice a2 ys.length c2 := hd 19 (by kernel_rfl)
      unfold frC
      rw [e0]
      clear hd e0
      go_wp2_with fail
      exact ⟨rfl, _, rfl, hs, Turn.rfl_, rfl⟩
    case refine_22 =>
      intro u y hs hd
      have e0 : y.ownsRow (w.heap.size + 2) tU8 1 (u 20) (ys.length + 1) ((ys ++ [78]).map (Value.int .u8)) := hd 17 (by kernel_rfl)
      have e1 : u 23 = .int .i64 (ys.length : Int) := hd 20 (by kernel_rfl)
      obtain ⟨g, cap, eg, hc1, hc2⟩ := own_some e0
      rw [eg] at e0
      have HO := Lib.hid (own_cut e0 (by have := LT.out; simpa using this))
      have k1 : (ys.length : Int) ≤ (cap : Int) := by omega
      have k2 : (0 : Int) ≤ (ys.length : Int) := by omega
      have k3 : cap ≠ 0 := by omega
      have k4 : ys.length ≤ cap := by omega
      unfold frC
      rw [eg, e1]
      have HS := Lib.hid hs
      clear hd eg e0 e1 hc1 hc2 hs
      go_wp2_with fail
      refine ⟨rfl, _, rfl, HS.out, Turn.rfl_, ?_⟩
      exact HO.out
    case refine_23 =>
      intro u y hs hd
      have e0 : u 4 = .int .u64 key := hd 1 (by kernel_rfl)
      obtain ⟨s1, e1, f1, g1, b1⟩ : CutA .i32 tI32 (w.heap.size + 2) xs (u 14) y := hd 11 (by kernel_rfl)
      obtain ⟨s2, e2, f2, g2, b2⟩ : CutA .u8 tU8 (w.heap.size + 2) ys (u 24) y := hd 21 (by kernel_rfl)
      have N : Hid (BothA (w.heap.size + 2) key xs ys (.agg #[.int .u64 key, s1.v, s2.v]) y) := Lib.hid ⟨s1, s2, rfl, f1, f2, g1, g2, fun b hb => by
        rcases List.mem_append.1 hb with hb | hb
        · exact (b1 b hb).1
        · exact (b2 b hb).1⟩
      unfold frC
      rw [e0, e1, e2]
      unfold Sl.v at *
      have HS := Lib.hid hs
      clear hd e0 e1 e2 f1 f2 g1 g2 b1 b2 hs
      go_wp2_with fail
      exact ⟨rfl, _, rfl, HS.out, Turn.rfl_, N.out⟩
    case refine_24 =>
      intro u y hs hd
      obtain ⟨s1, s2, e0, N⟩ : BothA (w.heap.size + 2) key xs ys (u 25) y := hd 22 (by kernel_rfl)
      obtain ⟨k0, k1, k2, hr⟩ := hs.out
      have NN := Lib.hid N
      have HS := Lib.hid hs
      have HR := Lib.hid hr
      have r0 : y.cell? ⟨w.heap.size + 1, 0, none⟩ = some k0 := hr.cell 0
      have r1 : y.cell? ⟨w.heap.size + 1, 1, none⟩ = some k1 := hr.cell 1
      have r2 : y.cell? ⟨w.heap.size + 1, 2, none⟩ = some k2 := hr.cell 2
      have q0 := hr.free 0
      have q1 := hr.free 1
      have q2 := hr.free 2
      unfold frC
      rw [e0]
      unfold Sl.v at *
      clear hd e0 N hr hs
      go_wp2_with fail
      have ko : Turn (KC (w.heap.size + 1) (w.heap.size + 2) 23 y) y (((y.setCell ⟨w.heap.size + 1, 0, none⟩ (.int .u64 key)).setCell ⟨w.heap.size + 1, 1, none⟩ (.slice s1.a s1.xs.length s1.c)).setCell ⟨w.heap.size + 1, 2, none⟩ (.slice s2.a s2.xs.length s2.c)) := by
        have := (((Only.refl [w.heap.size + 1] y).setCell (p := ⟨w.heap.size + 1, 0, none⟩) (.inl (by simp)) (.int .u64 key)).setCell (p := ⟨w.heap.size + 1, 1, none⟩) (.inl (by simp)) (.slice s1.a s1.xs.length s1.c)).setCell (p := ⟨w.heap.size + 1, 2, none⟩) (.inl (by simp)) (.slice s2.a s2.xs.length s2.c)
        exact ⟨this.os, this.tape, this.output, this.size, fun b hb hn => this.block b hb (by simpa [KC] using hn)⟩
      have hrow : Row (((y.setCell ⟨w.heap.size + 1, 0, none⟩ (.int .u64 key)).setCell ⟨w.heap.size + 1, 1, none⟩ (.slice s1.a s1.xs.length s1.c)).setCell ⟨w.heap.size + 1, 2, none⟩ (.slice s2.a s2.xs.length s2.c)) (w.heap.size + 1) #[.int .u64 key, .slice s1.a s1.xs.length s1.c, .slice s2.a s2.xs.length s2.c] tIt := by
        have h := ((HR.out.set 0 (.int .u64 key)).set 1 (.slice s1.a s1.xs.length s1.c)).set 2 (.slice s2.a s2.xs.length s2.c)
        simp at h
        exact h
      have nb : ∀ b, KC (w.heap.size + 1) (w.heap.size + 2) 23 y b → b = w.heap.size + 1 := fun b hb => hb
      refine ⟨rfl, rfl, ⟨ko.row HS.out.row (fun hb => by have := nb _ hb; omega), ⟨_, _, _, hrow⟩, ko.rd HS.out.vec (fun he b hm hb => ?_), ko.rd HS.out.tag (fun he b hm hb => ?_), Turn.only HS.out.only ko (fun b hb => .inl (by rw [nb b hb]; simp)), Nat.le_trans HS.out.size ko.size⟩, ko, ?_⟩
      · have := nb _ hb; have := HX.out.1 he b hm; omega
      · have := nb _ hb; have := HX.out.2 he b hm; omega
      · exact ⟨s1, s2, hrow, ko.both ⟨s1, s2, rfl, NN.out⟩ fun b hB hb => by have := nb _ hb; omega⟩
  case hend =>
    intro u y hs hd
    obtain ⟨s1, s2, hr, t1, t2, e1, f1, f2, g1, g2, hb⟩ : ∃ s1 s2 : Sl, Row y (w.heap.size + 1) #[.int .u64 key, s1.v, s2.v] tIt ∧ BothA (w.heap.size + 2) key xs ys (.agg #[.int .u64 key, s1.v, s2.v]) y := hd 23 (by decide) (by decide)
    simp only [Value.agg.injEq, Array.mk.injEq, List.cons.injEq, true_and, and_true] at e1
    have HR := Lib.hid hr
    have N : Hid (OwnTo key xs ys w (.returned (.agg #[.int .u64 key, s1.v, s2.v])) y) := Lib.hid (by
      refine ⟨t1, t2, by rw [e1.1, e1.2], f1, f2, g1, g2, fun b hm => ?_, ?_⟩
      · have := hb b hm; omega
      · exact (K0.out.trans hs.only (by simp)).toBelow (Nat.le_refl _) (by simp))
    unfold frC
    clear hd hs hr e1 f1 f2 g1 g2 hb t1 t2
    go_wp2_with fail
    refine bodyPost_ret (results_item rfl _ _ (w.heap.size + 1) #[.int .u64 key, s1.v, s2.v] rfl rfl HR.out) rfl ?_
    exact N.out
end Go.Proofs.YtmbmkfhdiljalaaGreat
