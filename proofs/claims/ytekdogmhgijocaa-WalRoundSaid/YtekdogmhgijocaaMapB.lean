/- Frames by block lists ('Only'), blocks of cells ('Row'), and the laws for maps at the operations, ranges too. -/
import Derived.Test.YtekdogmhgijocaaMapA
import Derived.Test.YtekdogmhgijocaaGen
import Derived.Maps.Range
import Derived.Maps.RangeWalk
import Derived.Maps.OwnOps
import Derived.ArgAppend
import Derived.Deep.RegionLaw
namespace Go.Proofs.Ytekdogmhgijocaa
open Go.RowKit
open Go.ChangeMaps (setBlock)
open Go.MapKept (Stamped)
set_option linter.unusedVariables false
set_option linter.unusedSimpArgs false

/-! ### what has turned -/
/-- Of the blocks that were there none has turned but those in F. -/
structure Only (F : List Nat) (w w' : World) : Prop where
  os : w'.os = w.os
  tape : w'.tape = w.tape
  output : w'.output = w.output
  size : w.heap.size ≤ w'.heap.size
  block : ∀ i, i < w.heap.size → i ∉ F → w'.heap[i]? = w.heap[i]?
theorem Only.refl (F : List Nat) (w : World) : Only F w w := ⟨rfl, rfl, rfl, Nat.le_refl _, fun _ _ _ => rfl⟩
theorem Only.trans {F G : List Nat} {a b c : World} (h : Only F a b) (k : Only G b c) (hG : ∀ i, i ∈ G → i ∈ F ∨ a.heap.size ≤ i) : Only F a c :=
  ⟨k.os.trans h.os, k.tape.trans h.tape, k.output.trans h.output, Nat.le_trans h.size k.size, fun i hi hn => by
    rw [k.block i (Nat.lt_of_lt_of_le hi h.size) (fun hg => (hG i hg).elim hn (by omega)), h.block i hi hn]⟩
theorem Only.mono {F G : List Nat} {w w' : World} (h : Only F w w') (hG : ∀ i, i ∈ F → i ∈ G ∨ w.heap.size ≤ i) : Only G w w' :=
  ⟨h.os, h.tape, h.output, h.size, fun i hi hn => h.block i hi fun hf => (hG i hf).elim hn (by omega)⟩
theorem Only.drew {F : List Nat} {a w : World} (h : Only F a w) : Only F a w.drew := ⟨h.os, h.tape, h.output, h.size, h.block⟩
theorem Only.drewN {F : List Nat} {a w : World} (h : Only F a w) (n : Nat) : Only F a (w.drewN n) := ⟨h.os, h.tape, h.output, h.size, h.block⟩
theorem Only.alloc {F : List Nat} {a w : World} (h : Only F a w) (o : Obj) : Only F a (w.alloc o) :=
  h.trans (G := []) ⟨rfl, rfl, rfl, by simp, fun k hk _ => Below.heap_alloc _ _ _ hk⟩ (by simp)
theorem Only.setCell {F : List Nat} {a w : World} (h : Only F a w) {p : Addr} (hp : p.block ∈ F ∨ a.heap.size ≤ p.block) (u : Value) : Only F a (w.setCell p u) :=
  h.trans (G := [p.block]) ⟨rfl, rfl, rfl, by simp [World.setCell], fun k hk hn => Below.heap_setCell _ _ _ _ (by simpa using hn)⟩ (by simpa using hp)
theorem Only.grown {F : List Nat} {a w w' : World} {row : Option Nat} (h : Only F a w) (hg : w.grownBy w' row) (hr : ∀ k, row = some k → k ∈ F ∨ a.heap.size ≤ k) : Only F a w' :=
  h.trans (G := row.toList) ⟨hg.os, hg.tape, hg.output, hg.size, fun k hk hn => hg.block k hk (by rintro rfl; simp at hn)⟩ (by intro i hi; exact hr i (by simpa using hi))
theorem Only.below {F : List Nat} {a w w' : World} (h : Only F a w) (k : Below w.heap.size w w') : Only F a w' :=
  h.trans (G := []) ⟨k.os, k.tape, k.output, k.size, fun i hi _ => k.block i hi⟩ (by simp)
theorem Only.toBelow {F : List Nat} {a w : World} {B : Nat} (h : Only F a w) (hB : B ≤ a.heap.size) (hF : ∀ i, i ∈ F → B ≤ i) : Below B a w :=
  ⟨h.os, h.tape, h.output, h.size, fun i hi => h.block i (by omega) fun hf => by have := hF i hf; omega⟩
theorem Only.cell {F : List Nat} {w w' : World} (h : Only F w w') {b o : Nat} (hb : b < w.heap.size) (hF : b ∉ F) : w'.cell? ⟨b, o, none⟩ = w.cell? ⟨b, o, none⟩ := World.cell?_of_block (w := w) (h.block b hb hF)

/-! ### a block of cells -/
def Row (w : World) (b : Nat) (cs : Array Value) (T : TypeId) : Prop := w.heap[b]? = some (.cells cs T (0, 0))
section
variable {w w' : World} {b : Nat} {cs : Array Value} {T : TypeId}
theorem Row.lt (h : Row w b cs T) : b < w.heap.size := (Array.getElem?_eq_some_iff.1 h).1
theorem Row.cell (h : Row w b cs T) (j : Nat) : w.cell? ⟨b, j, none⟩ = cs[j]? := cell_of_row w b j cs T (0, 0) h
theorem Row.free (h : Row w b cs T) (j : Nat) : w.frozen? ⟨b, j, none⟩ = false := frozen_of_row w b j cs T h
theorem Row.of_block (h : Row w b cs T) (hb : w'.heap[b]? = w.heap[b]?) : Row w' b cs T := hb.trans h
theorem Row.only {F : List Nat} (h : Row w b cs T) (k : Only F w w') (hF : b ∉ F) : Row w' b cs T := h.of_block (k.block b h.lt hF)
theorem Row.set (h : Row w b cs T) (j : Nat) (u : Value) : Row (w.setCell ⟨b, j, none⟩ u) b (cs.setIfInBounds j u) T := heap_setCell_same w b j cs T u h
theorem Row.made (w : World) (cs : Array Value) (T : TypeId) : Row (w.alloc (.cells cs T (0, 0))) w.heap.size cs T := by
  show (w.heap.push _)[w.heap.size]? = _
  simp
end
theorem MapAt.only {F : List Nat} {w w' : World} {b : Nat} {q : IntKind} {L : List (Int × Value)} (h : MapAt w b q L) (k : Only F w w') (hF : b ∉ F) : MapAt w' b q L := h.of_block (k.block b h.lt hF)

/-- append, as an equation: the new value lies in the old block, or in a new one. -/
theorem append_own_at {P : Program} (w : World) (base : Nat) (t ty e : TypeId) (i : TypeInfo) (z : Value) (size bytes : Nat) (ht : P.underlying t = some (.slice e)) (hi : P.info? e = some i) (hz : i.zero = some z)
    (hsize : i.size = size) (hby : i.bytes = bytes) (hzs : z.cells.size = size) (hsz : 0 < size) (v : Value) (n : Nat) (xs : List Value) (hown : w.ownsRow base e size v n xs)
    (a : Addr) (m c : Nat) (news : List Value) (hl : news.length = m * size) (hnews : ∀ j u, news[j]? = some u → w.cell? (a.add j) = some u) (h1 : ∀ u ∈ news, u.oneCell' = true)
    (h63 : n + m ≤ maxLen) (hbytes : (n + m) * bytes ≤ 140737488355328) (hbase : base ≤ w.heap.size) :
    ∃ v' w', (Builtin.append_ #[t, t] ty #[v, .slice (some a) m c]).run P w = .ok v' w' ∧ w'.ownsRow base e size v' (n + m) (xs ++ news) ∧ w.grownBy w' v.ownBlock ∧ (v'.ownBlock = v.ownBlock ∨ ∀ g, v'.ownBlock = some g → w.heap.size ≤ g) := by
  obtain ⟨v', w', hrun, ho, hg, _⟩ := run_append_own (P := P) w base t ty e i z size bytes ht hi hz hsize hby hzs hsz v n xs hown a m c news hl hnews h1 h63 hbytes hbase
  refine ⟨v', w', hrun, ho, hg, ?_⟩
  have hown' := hown
  rcases hown.2 with ⟨rfl, h0⟩ | ⟨g, cap, cur, rfl, hb, hgh, hnc, hcm, hcs, htake⟩
  · subst h0
    have hx : xs = [] := by have := hown.1; simp at this; exact this
    subst hx
    obtain ⟨v2, w2, hrun2, ho2, _, _⟩ := run_append_own (P := P) w w.heap.size t ty e i z size bytes ht hi hz hsize hby hzs hsz _ 0 [] (World.ownsRow_nil w _ e size) a m c news hl hnews h1 h63 hbytes (Nat.le_refl _)
    rw [hrun] at hrun2
    cases hrun2
    exact .inr fun g hg => (ho2.lt g hg).1
  · by_cases hroom : n + m ≤ cap
    · have hsp : ∀ j, j < news.length → (w.cell? ⟨g, 0 + n * i.size + j, none⟩).isSome = true := fun j hj => by
        rw [cell_of_row w g _ cur e (0, 0) hgh]
        have : 0 + n * i.size + j < cur.size := by
          rw [hcs, hsize, Nat.zero_add]
          have : (n + m) * size ≤ cap * size := Nat.mul_le_mul_right _ hroom
          rw [Nat.add_mul] at this
          omega
        rw [Array.getElem?_eq_getElem this]; rfl
      have hrun2 := run_append_room_cells (P := P) w t ty e i ht hi g 0 n cap a m c news (by rw [hsize]; exact hl) hnews h1 hroom hsp (fun j hj => frozen_of_row w g _ cur e hgh)
      rw [hrun] at hrun2
      cases hrun2
      exact .inl rfl
    · obtain ⟨v2, w2, hrun2, ho2, _⟩ := run_append_arg_grows (P := P) w t ty e i z size bytes ht hi hz hsize hby hzs hsz ⟨g, 0, none⟩ n cap xs hown.1 (fun j u hj => hown'.cells rfl j u hj) a m c news hl hnews (by omega) h63 hbytes
      rw [hrun] at hrun2
      cases hrun2
      exact .inr fun g hg => (ho2.lt g hg).1
theorem wpList_append_at {P : Program} {w : World} {ops : Array Oper} {rest : List Oper} {o : Oper} {a : Act} {Q : Exit → Act → World → Prop} (hgd : o.guard = none) (s x : Operand) (t : TypeId)
    (ho : o.op = .call { callee := .builtin .append, args := #[s, x], argTypes := #[t, t] })
    (base : Nat) (e : TypeId) (i : TypeInfo) (z : Value) (size bytes : Nat) (ht : P.underlying t = some (.slice e)) (hi : P.info? e = some i) (hz : i.zero = some z)
    (hsize : i.size = size) (hby : i.bytes = bytes) (hzs : z.cells.size = size) (hsz : 0 < size)
    (v : Value) (n : Nat) (xs : List Value) (hs : a.eval s = v) (hown : w.ownsRow base e size v n xs)
    (ad : Addr) (m c : Nat) (news : List Value) (hx : a.eval x = .slice (some ad) m c) (hl : news.length = m * size) (hnews : ∀ j u, news[j]? = some u → w.cell? (ad.add j) = some u) (h1 : ∀ u ∈ news, u.oneCell' = true)
    (h63 : n + m ≤ maxLen) (hbytes : (n + m) * bytes ≤ 140737488355328) (hbase : base ≤ w.heap.size)
    (h : ∀ v' w', w'.ownsRow base e size v' (n + m) (xs ++ news) → w.grownBy w' v.ownBlock → (v'.ownBlock = v.ownBlock ∨ ∀ g, v'.ownBlock = some g → w.heap.size ≤ g) → wpList P ops Q rest (a.put o.dst v') w') : wpList P ops Q (o :: rest) a w := by
  refine wpList_plain hgd fun K' hK' => ?_
  obtain ⟨v', w', hrun, r1, r2, r3⟩ := append_own_at (P := P) w base t o.type e i z size bytes ht hi hz hsize hby hzs hsz v n xs hown ad m c news hl hnews h1 h63 hbytes hbase
  unfold Oper.wp
  simp [execOp, ho, resolve, invoke, builtin, hs, hx, hrun, Result.andThen]
  exact hK' _ _ (h v' w' r1 r2 r3)
/-- append in a region that draws, by its equation. -/
theorem step_append_eq {P : Program} {ops : Array Oper} {o : Oper} {a : Act} {w : World} {K : Act → World → Prop} {Q : Exit → Act → World → Prop} {E : Prop}
    (hg : o.guard = none) (s x : Operand) (t : TypeId) (hop : o.op = Op.call { callee := Callee.builtin Builtin.append, args := #[s, x], argTypes := #[t, t] }) (v src v' : Value) (w' : World)
    (hs : a.eval s = v) (hx : a.eval x = src) (hrun : (Builtin.append_ #[t, t] o.type #[v, src]).run P w = .ok v' w') (hK : K (a.put o.dst v') w') :
    if Region.wanted o (yielded ops a.tmps) = true then Oper.wp P o a w K Q else E := by
  have hw : Region.wanted o (yielded ops a.tmps) = true := by simp [Region.wanted, hg]
  rw [if_pos hw]
  unfold Oper.wp
  simp [execOp, hop, resolve, invoke, builtin, hs, hx, hrun, Result.andThen]
  exact hK
/-! ### maps at the operations -/
theorem turned_only {w : World} {b : Nat} {o : Obj} : (∀ i, i ≠ b → (setBlock w b o).heap[i]? = w.heap[i]?) ∧ (setBlock w b o).heap.size = w.heap.size := by
  constructor
  · intro i hi
    simp only [setBlock, Array.getElem?_setIfInBounds]
    rw [if_neg (fun e => hi e.symm)]
  · simp [setBlock]
theorem setBlock_only {w : World} {b : Nat} {o : Obj} : Only [b] w (setBlock w b o) := ⟨rfl, rfl, rfl, by rw [turned_only.2]; exact Nat.le_refl _, fun i _ hn => turned_only.1 i (by simpa using hn)⟩
section
variable {P : Program} (w : World) {ops : Array Oper} {rest : List Oper} {o : Oper} {a : Act} {Q : Exit → Act → World → Prop}
theorem wpList_update_at (hg : o.guard = none) (m x v : Operand) (t : TypeId) (hop : o.op = Op.mapUpdate t m x v) (kt et : TypeId) (q : IntKind) (ht : P.underlying t = some (.map kt et)) (hk : P.underlying kt = some (.int q))
    (b : Nat) (L : List (Int × Value)) (hm : a.eval m = .map (some b)) (hown : MapAt w b q L) (key : Int) (val : Value) (hx : a.eval x = .int q key) (hv : a.eval v = val)
    (hK : ∀ w', MapAt w' b q (up key val L) → Only [b] w w' → w'.heap.size = w.heap.size → wpList P ops Q rest (a.put o.dst undef) w') : wpList P ops Q (o :: rest) a w := by
  refine wpList_plain hg fun K' hK' => ?_
  obtain ⟨es, clock, hb, hs, hL⟩ := hown
  have hrun := run_update (P := P) hb hL ht hk key val
  unfold Oper.wp
  simp [execOp, hop, hm, hx, hv, hrun, Result.andThen]
  exact hK' _ _ (hK _ (MapAt.set hb hs hL key val) setBlock_only turned_only.2)
theorem wpList_look_at (hg : o.guard = none) (m x : Operand) (t : TypeId) (ok : Bool) (hop : o.op = Op.lookup t m x ok) (kt et : TypeId) (q : IntKind) (ht : P.underlying t = some (.map kt et)) (hk : P.underlying kt = some (.int q)) (z : Value) (hz : ∀ w, (zeroValue et).run P w = .ok z w)
    (b : Nat) (L : List (Int × Value)) (hm : a.eval m = .map (some b)) (hown : MapAt w b q L) (key : Int) (hx : a.eval x = .int q key)
    (hK : wpList P ops Q rest (a.put o.dst (if ok then .tuple #[(lk key L).getD z, .bool (lk key L).isSome] else (lk key L).getD z)) w) : wpList P ops Q (o :: rest) a w := by
  refine wpList_plain hg fun K' hK' => ?_
  have hrun := hown.look (P := P) ht hk (hz w) key ok
  unfold Oper.wp
  simp [execOp, hop, hm, hx, hrun, Result.andThen]
  exact hK' _ _ hK
theorem wpList_delete_at (hg : o.guard = none) (m x : Operand) (t kt : TypeId) (hop : o.op = Op.call { callee := Callee.builtin Builtin.delete, args := #[m, x], argTypes := #[t, kt] }) (et : TypeId) (q : IntKind) (ht : P.underlying t = some (.map kt et)) (hk : P.underlying kt = some (.int q))
    (b : Nat) (L : List (Int × Value)) (hm : a.eval m = .map (some b)) (hown : MapAt w b q L) (key : Int) (hx : a.eval x = .int q key)
    (hK : ∀ w', MapAt w' b q (rm key L) → Only [b] w w' → w'.heap.size = w.heap.size → wpList P ops Q rest (a.put o.dst (.tuple #[])) w') : wpList P ops Q (o :: rest) a w := by
  refine wpList_plain hg fun K' hK' => ?_
  obtain ⟨ob, hrun, hm'⟩ := hown.delete (P := P) ht hk o.type key
  unfold Oper.wp
  simp [execOp, hop, resolve, invoke, builtin, hm, hx, hrun, Result.andThen]
  exact hK' _ _ (hK _ hm' setBlock_only turned_only.2)
theorem wpList_len_at (hg : o.guard = none) (m : Operand) (t : TypeId) (hop : o.op = Op.call { callee := Callee.builtin Builtin.len, args := #[m], argTypes := #[t] }) (kt et : TypeId) (q : IntKind) (ht : P.underlying t = some (.map kt et))
    (b : Nat) (L : List (Int × Value)) (hm : a.eval m = .map (some b)) (hown : MapAt w b q L) (hK : wpList P ops Q rest (a.put o.dst (.int .i64 (L.length : Int))) w) : wpList P ops Q (o :: rest) a w := by
  refine wpList_plain hg fun K' hK' => ?_
  obtain ⟨es, clock, hb, hs, hL⟩ := hown
  have hrun : (Builtin.len_ #[t] o.type #[.map (some b)]).run P w = .ok (.int .i64 (L.length : Int)) w := by
    rw [← kvs_len hL]
    simp [Builtin.len_, run_underlying ht, MapKept.run_getObj_map hb, goInt, Result.andThen]
  unfold Oper.wp
  simp [execOp, hop, resolve, invoke, builtin, hm, hrun, Result.andThen]
  exact hK' _ _ hK
theorem MapAt.made (w : World) (q : IntKind) : MapAt (w.alloc (.map #[] 0)) w.heap.size q [] := by
  refine ⟨#[], 0, ?_, ?_, rfl⟩
  · show (w.heap.push _)[w.heap.size]? = _
    simp
  · exact MapKept.stamped_empty 0
end

/-! ### ranges -/
/-- BLOCK r IS AN ITERATOR over the map in block b, whose entries are L; of these 'left' are still to come. -/
def Rng (w : World) (b r : Nat) (q : IntKind) (L left : List (Int × Value)) : Prop :=
  ∃ es clock since seen c0, w.heap[b]? = some (.map es clock) ∧ Stamped es clock ∧ KVs q es L ∧ w.heap[r]? = some (.mapIter (some b) since seen c0) ∧ (∀ x ∈ es.toList, x.born < since) ∧ since ≤ c0 ∧ since ≤ clock ∧
    (leftOf es seen).toList.map (fun e => (e.key, e.val)) = left.map (fun p => (Value.int q p.1, p.2))
theorem Rng.mapAt {w : World} {b r : Nat} {q : IntKind} {L left : List (Int × Value)} (h : Rng w b r q L left) : MapAt w b q L := by
  obtain ⟨es, clock, since, seen, c0, hb, hs, hL, _⟩ := h
  exact ⟨es, clock, hb, hs, hL⟩
theorem Rng.lt {w : World} {b r : Nat} {q : IntKind} {L left : List (Int × Value)} (h : Rng w b r q L left) : r < w.heap.size := by
  obtain ⟨es, clock, since, seen, c0, _, _, _, hr, _⟩ := h
  exact (Array.getElem?_eq_some_iff.1 hr).1
theorem Rng.of_blocks {w w' : World} {b r : Nat} {q : IntKind} {L left : List (Int × Value)} (h : Rng w b r q L left) (hb : w'.heap[b]? = w.heap[b]?) (hr : w'.heap[r]? = w.heap[r]?) : Rng w' b r q L left := by
  obtain ⟨es, clock, since, seen, c0, h1, h2, h3, h4, h5⟩ := h
  exact ⟨es, clock, since, seen, c0, hb.trans h1, h2, h3, hr.trans h4, h5⟩
theorem Rng.only {F : List Nat} {w w' : World} {b r : Nat} {q : IntKind} {L left : List (Int × Value)} (h : Rng w b r q L left) (k : Only F w w') (hb : b ∉ F) (hr : r ∉ F) : Rng w' b r q L left :=
  h.of_blocks (k.block b h.mapAt.lt hb) (k.block r h.lt hr)
theorem Rng.sub {w : World} {b r : Nat} {q : IntKind} {L left : List (Int × Value)} (h : Rng w b r q L left) : ∀ p ∈ left, p ∈ L := by
  obtain ⟨es, clock, since, seen, c0, _, _, hL, _, _, _, _, hl⟩ := h
  intro p hp
  have h1 : (Value.int q p.1, p.2) ∈ left.map (fun p => (Value.int q p.1, p.2)) := List.mem_map.2 ⟨p, hp, rfl⟩
  rw [← hl] at h1
  obtain ⟨e, he, h2⟩ := List.mem_map.1 h1
  have he' : e ∈ es.toList := by simp [leftOf] at he; simpa using he.1
  obtain ⟨p', hp', h3, h4⟩ := kvs_mem hL he'
  simp only [Prod.mk.injEq] at h2
  have e1 : p'.1 = p.1 := by have := h3.symm.trans h2.1; simpa using this
  have e2 : p'.2 = p.2 := h4.symm.trans h2.2
  rw [show p = p' from Prod.ext e1.symm e2.symm]
  exact hp'
theorem key_born {es : Array MapEntry} {clock : Nat} (hs : Stamped es clock) {x e : MapEntry} (hx : x ∈ es.toList) (he : e ∈ es.toList) : x.key = e.key ↔ x.born = e.born := by
  have hst := (MapKept.stamped_iff es clock).1 hs
  constructor
  · intro h
    exact congrArg MapEntry.born (entry_eq_of_key hst.2.2 hx he h)
  · intro h
    exact congrArg MapEntry.key (born_inj hst.2.1 hx he h)
theorem filter_pair {α β γ : Type} (f : α → γ) (g : β → γ) (p : α → Bool) (s : β → Bool) : ∀ (l : List α) (m : List β), l.map f = m.map g → (∀ x ∈ l, ∀ y ∈ m, f x = g y → p x = s y) → (l.filter p).map f = (m.filter s).map g
  | [], [], _, _ => rfl
  | [], _ :: _, h, _ => by simp at h
  | _ :: _, [], h, _ => by simp at h
  | x :: l, y :: m, h, hp => by
    simp only [List.map_cons, List.cons.injEq] at h
    have ih := filter_pair f g p s l m h.2 fun a ha c hc => hp a (List.mem_cons_of_mem _ ha) c (List.mem_cons_of_mem _ hc)
    have hx := hp x (List.mem_cons_self ..) y (List.mem_cons_self ..) h.1
    simp only [List.filter_cons, ← hx]
    cases p x
    · simpa using ih
    · simp only [if_true, List.map_cons, h.1, ih]
theorem rng_step {w w1 : World} {b r : Nat} {q : IntKind} {es : Array MapEntry} {clock since c0 : Nat} {seen : Array Nat} {L left : List (Int × Value)} (hne : r ≠ b)
    (hb : w.heap[b]? = some (.map es clock)) (hs : Stamped es clock) (hL : KVs q es L) (hr : w.heap[r]? = some (.mapIter (some b) since seen c0)) (hold : ∀ x ∈ es.toList, x.born < since) (hsc : since ≤ c0)
    (hl : (leftOf es seen).toList.map (fun e => (e.key, e.val)) = left.map (fun p => (Value.int q p.1, p.2))) (h1 : w1 = w ∨ w1 = w.drew) {e : MapEntry} (he : e ∈ (leftOf es seen).toList) (hck : since ≤ clock) :
    ∃ k, e.key = .int q k ∧ (k, e.val) ∈ left ∧ Rng (setBlock w1 r (.mapIter (some b) since (seen.push e.born) clock)) b r q L (rm k left) := by
  have he' : e ∈ es.toList := by simp [leftOf] at he; simpa using he.1
  have h2 : (e.key, e.val) ∈ left.map (fun p => (Value.int q p.1, p.2)) := by rw [← hl]; exact List.mem_map.2 ⟨e, he, rfl⟩
  obtain ⟨p, hp, h3⟩ := List.mem_map.1 h2
  simp only [Prod.mk.injEq] at h3
  have hb1 : w1.heap[b]? = some (.map es clock) := by rcases h1 with rfl | rfl <;> exact hb
  have hr1 : w1.heap[r]? = some (.mapIter (some b) since seen c0) := by rcases h1 with rfl | rfl <;> exact hr
  refine ⟨p.1, h3.1.symm, by rw [← h3.2]; exact hp, es, clock, since, seen.push e.born, clock, ?_, hs, hL, ?_, hold, hck, hck, ?_⟩
  · rw [turned_only.1 b (fun h => hne h.symm)]; exact hb1
  · simp only [setBlock]
    rw [Array.getElem?_setIfInBounds_self_of_lt (Array.getElem?_eq_some_iff.1 hr1).1]
  · have e1 : (leftOf es (seen.push e.born)).toList = (leftOf es seen).toList.filter fun x => !decide (x.born = e.born) := by
      unfold leftOf
      simp only [Array.toList_filter, List.filter_filter]
      refine List.filter_congr fun x _ => ?_
      simp only [Array.contains_push]
      cases seen.contains x.born <;> simp [Bool.beq_eq_decide_eq]
    rw [e1, rm]
    refine filter_pair _ _ _ _ _ _ hl fun x hx y hy hxy => ?_
    have hx' : x ∈ es.toList := by simp [leftOf] at hx; simpa using hx.1
    simp only [Prod.mk.injEq] at hxy
    have hkb := key_born hs hx' he'
    rw [hxy.1, ← h3.1] at hkb
    have : y.1 = p.1 ↔ x.born = e.born := by rw [← hkb]; simp
    rw [show decide (x.born = e.born) = decide (y.1 = p.1) from decide_eq_decide.2 this.symm]
section
variable {P : Program} (w : World) {ops : Array Oper} {rest : List Oper} {o : Oper} {a : Act} {Q : Exit → Act → World → Prop}
theorem wpList_range_at (hg : o.guard = none) (m : Operand) (t : TypeId) (hop : o.op = Op.range t m) (kt et : TypeId) (q : IntKind) (ht : P.underlying t = some (.map kt et)) (b : Nat) (L : List (Int × Value)) (hm : a.eval m = .map (some b)) (hown : MapAt w b q L)
    (hK : ∀ w', Rng w' b w.heap.size q L L → Only [] w w' → w'.heap.size = w.heap.size + 1 → wpList P ops Q rest (a.put o.dst (.pointer (some ⟨w.heap.size, 0, none⟩))) w') : wpList P ops Q (o :: rest) a w := by
  refine wpList_plain hg fun K' hK' => ?_
  have hlt := hown.lt
  obtain ⟨es, clock, hb, hs, hL⟩ := hown
  have hrun := run_range_map (P := P) w t kt et b es clock ht hb
  unfold Oper.wp
  simp [execOp, hop, hm, hrun, Result.andThen]
  refine hK' _ _ (hK _ ⟨es, clock, clock, #[], clock, ((MapKept.heap_alloc w _).2 b hlt).trans hb, hs, hL, (MapKept.heap_alloc w _).1, hs.1, Nat.le_refl _, Nat.le_refl _, ?_⟩ ((Only.refl [] w).alloc _) (by simp))
  have : (leftOf es #[]).toList = es.toList := by simp [leftOf]
  rw [this]; exact hL
theorem wpList_next_at (hg : o.guard = none) (it : Operand) (hop : o.op = Op.next it false) (b r : Nat) (q : IntKind) (L left : List (Int × Value)) (hit : a.eval it = .pointer (some ⟨r, 0, none⟩)) (h : Rng w b r q L left)
    (hDone : left = [] → wpList P ops Q rest (a.put o.dst (.tuple #[.bool false])) w)
    (hMore : ∀ (k : Int) (v : Value) (w' : World), (k, v) ∈ left → Rng w' b r q L (rm k left) → Only [r] w w' → w'.heap.size = w.heap.size → (Instr.entry (.pointer (some ⟨r, 0, none⟩))).run P w' = .ok (.tuple #[.int q k, v]) w' → wpList P ops Q rest (a.put o.dst (.tuple #[.bool true, .int q k, v])) w') :
    wpList P ops Q (o :: rest) a w := by
  refine wpList_plain hg fun K' hK' => ?_
  have hne : r ≠ b := by
    obtain ⟨es, clock, since, seen, c0, hb, _, _, hr, _⟩ := h
    intro e
    rw [e, hb] at hr
    cases hr
  obtain ⟨es, clock, since, seen, c0, hb, hs, hL, hr, hold, hsc, hck, hl⟩ := h
  unfold Oper.wp
  rcases run_next_at (P := P) w o.type r b since c0 seen es clock hr hb hold hsc with ⟨h0, hrun⟩ | ⟨e, he, w1, hal, hrun⟩
  · simp [execOp, hop, hit, hrun, Result.andThen]
    refine hK' _ _ (hDone ?_)
    have : (leftOf es seen).toList = [] := by
      have := Array.eq_empty_of_size_eq_zero h0
      rw [this]
    rw [this] at hl
    simpa using hl.symm
  · · obtain ⟨k, hk, hmem, hR⟩ := rng_step hne hb hs hL hr hold hsc hl hal he hck
      have he' : e ∈ es.toList := by simp [leftOf] at he; simpa using he.1
      have hnd : (es.toList.map (·.born)).Nodup := hs.2.1
      rw [hk] at hrun
      simp [execOp, hop, hit, hrun, Result.andThen]
      have hO : Only [r] w (setBlock w1 r (.mapIter (some b) since (seen.push e.born) clock)) := by
        rcases hal with rfl | rfl
        · exact setBlock_only
        · exact ((Only.refl [r] w).drew).trans setBlock_only (by simp)
      have hb1 : (setBlock w1 r (.mapIter (some b) since (seen.push e.born) clock)).heap[b]? = some (.map es clock) := by
        rw [turned_only.1 b (fun h => hne h.symm)]
        rcases hal with rfl | rfl <;> exact hb
      have hr1 : (setBlock w1 r (.mapIter (some b) since (seen.push e.born) clock)).heap[r]? = some (.mapIter (some b) since (seen.push e.born) clock) := by
        have : r < w1.heap.size := by rcases hal with rfl | rfl <;> exact (Array.getElem?_eq_some_iff.1 hr).1
        simp only [setBlock]
        rw [Array.getElem?_setIfInBounds_self_of_lt this]
      have hen := run_entry_at (P := P) _ r b since seen es clock e hr1 hb1 he' hnd
      rw [hk] at hen
      refine hK' _ _ (hMore k e.val _ hmem hR hO ?_ hen)
      rw [turned_only.2]
      rcases hal with rfl | rfl <;> rfl
end
end Go.Proofs.Ytekdogmhgijocaa
