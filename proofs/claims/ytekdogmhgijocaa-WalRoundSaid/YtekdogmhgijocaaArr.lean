/- Whole arrays: loads, stores, copies and fresh variables, as laws at the operations ('Row', 'Only'); 'clear' of a map. -/
import Derived.Test.YtekdogmhgijocaaMapB
import Derived.Laws.CopyOwn
import Derived.Laws.Rows
import Derived.Laws.Tables
import Derived.StillTailTactics
import Derived.Deep.RegionHeld3
import Derived.Deep.WholeRow
import Derived.OwnWalk
import Derived.BigQuiet
namespace Go.Proofs.Ytekdogmhgijocaa
open Go.RowKit Go.ChangeShapes Go.WideShapes Go.ChangeAt
open Go.ChangeMaps (setBlock)
set_option linter.unusedVariables false
set_option linter.unusedSimpArgs false

theorem Only.sub {F G : List Nat} {w w' : World} (h : Only F w w') (hs : ∀ i ∈ F, i ∈ G) : Only G w w' := h.mono fun i hi => .inl (hs i hi)
theorem Only.and {G : List Nat} {a b c : World} (h : Only G a b) (k : Only G b c) : Only G a c := h.trans k fun i hi => .inl hi
theorem Row.setRow {w : World} {b : Nat} {cs cs' : Array Value} {T : TypeId} (h : Row w b cs T) : Row (w.setRow b cs') b cs' T := setRow_heap w b cs cs' T (0, 0) h
theorem setRow_only (w : World) (b : Nat) (cs : Array Value) : Only [b] w (w.setRow b cs) :=
  ⟨rfl, rfl, rfl, by simp [World.setRow], fun i _ hn => setRow_other w b i cs (by simpa using hn)⟩
theorem Only.setCells {F : List Nat} {a : World} {b : Nat} (hb : b ∈ F ∨ a.heap.size ≤ b) : ∀ (vs : List Value) (o : Nat) {w : World}, Only F a w → Only F a (w.setCells b o vs)
  | [], _, _, h => h
  | v :: r, o, _, h => Only.setCells hb r (o + 1) (h.setCell hb v)
theorem Row.setCells' {b : Nat} {T : TypeId} : ∀ (vs : List Value) (o : Nat) {w : World} {cs : Array Value}, Row w b cs T → ∃ cs', Row (w.setCells b o vs) b cs' T ∧ cs'.size = cs.size
  | [], _, _, cs, h => ⟨cs, h, rfl⟩
  | v :: r, o, w, cs, h => by
    obtain ⟨cs', h1, h2⟩ := Row.setCells' r (o + 1) (h.set o v)
    exact ⟨cs', h1, by rw [h2]; simp⟩
/-- A row that is written over, whole, cell by cell. -/
theorem Row.setCells {w : World} {b : Nat} {T : TypeId} {cs : Array Value} (h : Row w b cs T) (vs : List Value) (hl : vs.length = cs.size) : Row (w.setCells b 0 vs) b vs.toArray T := by
  obtain ⟨cs', h1, h2⟩ := h.setCells' vs 0
  have e : cs' = vs.toArray := Array.ext_getElem? fun j => by
    by_cases hj : j < vs.length
    · rw [← h1.cell j]
      have := World.cell?_setCells_in b vs 0 w (fun j hj => by rw [Nat.zero_add, h.cell j, Array.getElem?_eq_getElem (by omega)]; rfl) j hj
      rw [Nat.zero_add] at this
      rw [this]
      simp [hj]
    · rw [Array.getElem?_eq_none (by omega), Array.getElem?_eq_none (by simp; omega)]
  rw [← e]; exact h1
theorem Row.there {w : World} {b : Nat} {T : TypeId} {cs : Array Value} (h : Row w b cs T) : w.there b 0 cs.size := fun j hj => ⟨by rw [Nat.zero_add, h.cell j, Array.getElem?_eq_getElem hj]; rfl, h.free _⟩
/-- Two fresh rows, written over: in the one order, in the other. -/
theorem two_rows (w : World) (Z : Array Value) (T : TypeId) (s t : List Value) (h1 : s.length = Z.size) (h2 : t.length = Z.size) :
    Row ((((w.alloc (.cells Z T)).alloc (.cells Z T)).drew.setCells w.heap.size 0 s).setCells (w.heap.size + 1) 0 t) w.heap.size s.toArray T ∧
    Row ((((w.alloc (.cells Z T)).alloc (.cells Z T)).drew.setCells w.heap.size 0 s).setCells (w.heap.size + 1) 0 t) (w.heap.size + 1) t.toArray T ∧
    Only [] w ((((w.alloc (.cells Z T)).alloc (.cells Z T)).drew.setCells w.heap.size 0 s).setCells (w.heap.size + 1) 0 t) := by
  have r1 : Row ((w.alloc (.cells Z T)).alloc (.cells Z T)).drew w.heap.size Z T := (Row.made w Z T).only (((Only.refl [] _).alloc _).drew) (by simp)
  have r2 : Row ((w.alloc (.cells Z T)).alloc (.cells Z T)).drew (w.heap.size + 1) Z T := by
    have := (Row.made (w.alloc (.cells Z T)) Z T).only ((Only.refl [] _).drew) (by simp)
    rw [show (w.alloc (.cells Z T)).heap.size = w.heap.size + 1 by simp] at this
    exact this
  refine ⟨(r1.setCells s h1).only (Only.setCells (F := [w.heap.size + 1]) (.inl (by simp)) _ _ (Only.refl _ _)) (by simp), (r2.only (Only.setCells (F := [w.heap.size]) (.inl (by simp)) _ _ (Only.refl _ _)) (by simp)).setCells t h2, ?_⟩
  exact Only.setCells (.inr (Nat.le_succ _)) _ _ (Only.setCells (.inr (Nat.le_refl _)) _ _ (((Only.refl [] w).alloc _).alloc _).drew)
theorem two_rows' (w : World) (Z : Array Value) (T : TypeId) (s t : List Value) (h1 : s.length = Z.size) (h2 : t.length = Z.size) :
    Row ((((w.alloc (.cells Z T)).alloc (.cells Z T)).drew.setCells (w.heap.size + 1) 0 s).setCells w.heap.size 0 t) (w.heap.size + 1) s.toArray T ∧
    Row ((((w.alloc (.cells Z T)).alloc (.cells Z T)).drew.setCells (w.heap.size + 1) 0 s).setCells w.heap.size 0 t) w.heap.size t.toArray T ∧
    Only [] w ((((w.alloc (.cells Z T)).alloc (.cells Z T)).drew.setCells (w.heap.size + 1) 0 s).setCells w.heap.size 0 t) := by
  have r1 : Row ((w.alloc (.cells Z T)).alloc (.cells Z T)).drew w.heap.size Z T := (Row.made w Z T).only (((Only.refl [] _).alloc _).drew) (by simp)
  have r2 : Row ((w.alloc (.cells Z T)).alloc (.cells Z T)).drew (w.heap.size + 1) Z T := by
    have := (Row.made (w.alloc (.cells Z T)) Z T).only ((Only.refl [] _).drew) (by simp)
    rw [show (w.alloc (.cells Z T)).heap.size = w.heap.size + 1 by simp] at this
    exact this
  refine ⟨(r2.setCells s h1).only (Only.setCells (F := [w.heap.size]) (.inl (by simp)) _ _ (Only.refl _ _)) (by simp), (r1.only (Only.setCells (F := [w.heap.size + 1]) (.inl (by simp)) _ _ (Only.refl _ _)) (by simp)).setCells t h2, ?_⟩
  exact Only.setCells (.inr (Nat.le_refl _)) _ _ (Only.setCells (.inr (Nat.le_succ _)) _ _ (((Only.refl [] w).alloc _).alloc _).drew)
/-- The cells of a slice or an array, wherever they lie. -/
def Cells (w : World) (b off : Nat) (cs : List Value) : Prop := ∀ j v, cs[j]? = some v → w.cell? ⟨b, off + j, none⟩ = some v
theorem Cells.only {F : List Nat} {w w' : World} {b off : Nat} {cs : List Value} (h : Cells w b off cs) (k : Only F w w') (hb : b ∉ F) : Cells w' b off cs := fun j v hj => by
  have h1 := h j v hj
  rw [k.cell (World.block_lt_of_cell? w _ h1) hb, h1]
theorem Cells.lt {w : World} {b off : Nat} {cs : List Value} (h : Cells w b off cs) (hp : 0 < cs.length) : b < w.heap.size :=
  World.block_lt_of_cell? w _ (h 0 _ (List.getElem?_eq_getElem hp))
theorem Row.cells {w : World} {b : Nat} {cs : Array Value} {T : TypeId} (h : Row w b cs T) : Cells w b 0 cs.toList := fun j v hj => by
  rw [h.cell, Nat.zero_add]; simpa using hj
theorem Row.cellsAt {w : World} {b : Nat} {cs : Array Value} {T : TypeId} (h : Row w b cs T) (off n : Nat) : Cells w b off ((cs.toList.drop off).take n) := fun j v hj => by
  rw [h.cell, ← Array.getElem?_toList]
  rw [List.getElem?_take] at hj
  split at hj
  · rw [List.getElem?_drop] at hj; exact hj
  · cases hj
section
variable {P : Program} {w : World} {ops : Array Oper} {rest : List Oper} {o : Oper} {a : Act} {Q : Exit → Act → World → Prop}
theorem run_load_cells {ty : TypeId} {b off : Nat} {cs : List Value} (hc : Cells w b off cs) {d : TypeDesc} (hu : P.underlying ty = some d)
    (hd : (match d with | .struct _ | .array _ _ => true | _ => false) = true) (hi : (P.info? ty).map (·.size) = some cs.length) : (loadVar ty ⟨b, off, none⟩).run P w = .ok (.agg cs.toArray) w := by
  have hl : (loadCells ⟨b, off, none⟩ cs.length).run P w = .ok cs.toArray w :=
    run_loadCells_list (P := P) w ⟨b, off, none⟩ cs (fun j v hv => by rw [add_plain]; exact hc j v hv)
  cases hq : P.info? ty with
  | none => simp [hq] at hi
  | some i =>
    have hs : i.size = cs.length := by simpa [hq] using hi
    have hagg : (isAgg ty).run P w = .ok true w := by
      unfold isAgg
      rw [Sem.run_bind, run_underlying hu w]
      cases d <;> simp_all
    simp [loadVar, Sem.run_bind, hagg, sizeOf, typeInfo, hq, hs, hl]
/-- A whole array, or struct, wherever it lies. -/
theorem wpList_load_cells (hgd : o.guard = none) (ty : TypeId) (x : Operand) (ho : o.op = .load ty x) (b off : Nat) (hx : a.eval x = .pointer (some ⟨b, off, none⟩)) (cs : List Value) (hc : Cells w b off cs)
    (d : TypeDesc) (hu : P.underlying ty = some d) (hd : (match d with | .struct _ | .array _ _ => true | _ => false) = true) (hi : (P.info? ty).map (·.size) = some cs.length)
    (h : wpList P ops Q rest (a.put o.dst (.agg cs.toArray)) w) : wpList P ops Q (o :: rest) a w := by
  refine wpList_plain hgd fun K hK => ?_
  unfold Oper.wp execOp
  simp only [ho, hx, Instr.loadAt, Instr.sureAddr, Sem.run_bind, Sem.run_pure, Result.andThen_ok, run_load_cells hc hu hd hi]
  exact hK _ _ h
theorem run_loadAt_cells {ty : TypeId} {b off : Nat} {cs : List Value} (hc : Cells w b off cs) {d : TypeDesc} (hu : P.underlying ty = some d)
    (hd : (match d with | .struct _ | .array _ _ => true | _ => false) = true) (hi : (P.info? ty).map (·.size) = some cs.length) : (Instr.loadAt ty (.pointer (some ⟨b, off, none⟩))).run P w = .ok (.agg cs.toArray) w := by
  simp only [Instr.loadAt, Instr.sureAddr, Sem.run_bind, Sem.run_pure, Result.andThen_ok, run_load_cells hc hu hd hi]
/-- A whole array into its variable. -/
theorem wpList_store_at (hgd : o.guard = none) (ty : TypeId) (x y : Operand) (ho : o.op = .store ty x y) (b : Nat) (hx : a.eval x = .pointer (some ⟨b, 0, none⟩)) (cells : Array Value) (hy : a.eval y = .agg cells)
    (T : TypeId) (old : Array Value) (hr : Row w b old T) (hi : (P.info? ty).map (·.size) = some cells.size) (hold : old.size = cells.size) (h1 : cells.all (·.oneCell') = true)
    (h : ∀ w', Row w' b cells T → Only [b] w w' → w'.heap.size = w.heap.size → wpList P ops Q rest (a.put o.dst undef) w') : wpList P ops Q (o :: rest) a w :=
  wpList_store_row hgd ty x y ho b cells hx hy T old hr hi hold h1 (h _ hr.setRow (setRow_only _ _ _) (by simp))
/-- A fresh variable. -/
theorem wpList_alloc_at (hgd : o.guard = none) (ty : TypeId) (ho : o.op = .alloc ty) (zs : Array Value) (hz : ∀ w, (zeroValue ty).run P w = .ok (.agg zs) w)
    (h : ∀ w', Row w' w.heap.size zs ty → Only [] w w' → w'.heap.size = w.heap.size + 1 → wpList P ops Q rest (a.put o.dst (.pointer (some ⟨w.heap.size, 0, none⟩))) w') : wpList P ops Q (o :: rest) a w := by
  refine wpList_plain hgd fun K hK => ?_
  unfold Oper.wp
  simp [execOp, ho, Instr.alloc, hz, newVar, Value.cells, go_sem, Result.andThen]
  exact hK _ _ (h _ (Row.made _ _ _) ((Only.refl _ _).alloc _) (by simp))
/-- copy into a row that is known whole; n cells go over. -/
theorem wpList_copy_at (hgd : o.guard = none) (d s : Operand) (dT sT : TypeId) (ho : o.op = .call { callee := .builtin .copy, args := #[d, s], argTypes := #[dT, sT] }) (elem : TypeId) (hu : P.underlying dT = some (.slice elem)) (hsz : (P.info? elem).map (·.size) = some 1)
    (g off dLen dCap b boff sLen sCap : Nat) (hd : a.eval d = .slice (some ⟨g, off, none⟩) dLen dCap) (hs : a.eval s = .slice (some ⟨b, boff, none⟩) sLen sCap)
    (cur : Array Value) (T : TypeId) (hg : Row w g cur T) (cs : List Value) (hn : cs.length = Nat.min sLen dLen) (hsrc : Cells w b boff cs) (hfit : off + cs.length ≤ cur.size) (h1 : ∀ v ∈ cs, v.oneCell' = true)
    (h : ∀ w', Row w' g (splice cur.toList off cs).toArray T → Only [g] w w' → w'.heap.size = w.heap.size → wpList P ops Q rest (a.put o.dst (goInt cs.length)) w') : wpList P ops Q (o :: rest) a w :=
  wpList_copy_own hgd d s dT sT ho elem hu hsz g off dLen dCap ⟨b, boff, none⟩ sLen sCap hd hs cur T hg cs hn (fun j v hj => by rw [add_plain]; exact hsrc j v hj) hfit h1
    (h _ hg.setRow (setRow_only _ _ _) (by simp))
/-- len of a map, in a quiet walk. -/
theorem wpQuiet_len_at {C : World → Prop} {Qq : Act → Prop} (hw : Region.wanted o (yielded ops a.tmps) = true) (m : Operand) (t : TypeId) (hop : o.op = Op.call { callee := Callee.builtin Builtin.len, args := #[m], argTypes := #[t] }) (kt et : TypeId) (q : IntKind) (ht : P.underlying t = some (.map kt et))
    (b : Nat) (L : List (Int × Value)) (hm : a.eval m = .map (some b)) (hown : ∀ w', C w' → MapAt w' b q L) (h : wpQuiet P ops C Qq rest (a.put o.dst (.int .i64 (L.length : Int)))) : wpQuiet P ops C Qq (o :: rest) a := by
  refine wpQuiet_step fun K hK => ?_
  rw [if_pos hw]
  refine ⟨.int .i64 (L.length : Int), fun w' hw' => ?_, hK _ h⟩
  have hC := hw'
  obtain ⟨es, clock, hb, hs, hL⟩ := hown w' hw'
  have hrun : (Builtin.len_ #[t] o.type #[.map (some b)]).run P w' = .ok (.int .i64 (L.length : Int)) w' := by
    rw [← kvs_len hL]
    simp [Builtin.len_, run_underlying ht, MapKept.run_getObj_map hb, goInt, Result.andThen]
  unfold Oper.quietAt
  simp [execOp, hop, resolve, invoke, builtin, hm, hrun, Result.andThen, Oper.quietUpon]
theorem run_arrayAt {arr e : TypeId} {n : Nat} (hu : P.underlying arr = some (.array n e)) (ad : Option Addr) (len cap : Nat) (hl : n ≤ len) (w : World) : (Instr.arrayAt arr (.slice ad len cap)).run P w = .ok (.pointer ad) w := by
  have : ¬ len < n := by omega
  simp [Instr.arrayAt, run_underlying hu, this, Result.andThen]
theorem wpStill_value {Qs : Act → Prop} (hw : Region.wanted o (yielded ops a.tmps) = true) (v : Value) (hrun : (execOp a.eval o).run P w = .ok (.value v) w) (h : wpStill P ops w Qs rest (a.put o.dst v)) : wpStill P ops w Qs (o :: rest) a := by
  refine wpStill_step fun K hK => ?_
  rw [if_pos hw]
  unfold Oper.still
  rw [hrun, Oper.stillUpon_value]
  exact hK _ h
/-- A whole array read, in a region's head that only reads. -/
theorem wpStill_load_cells {Qs : Act → Prop} (hw : Region.wanted o (yielded ops a.tmps) = true) (ty : TypeId) (x : Operand) (ho : o.op = .load ty x) (b off : Nat) (hx : a.eval x = .pointer (some ⟨b, off, none⟩)) (cs : List Value) (hc : Cells w b off cs)
    (d : TypeDesc) (hu : P.underlying ty = some d) (hd : (match d with | .struct _ | .array _ _ => true | _ => false) = true) (hi : (P.info? ty).map (·.size) = some cs.length)
    (h : wpStill P ops w Qs rest (a.put o.dst (.agg cs.toArray))) : wpStill P ops w Qs (o :: rest) a :=
  wpStill_value hw _ (by unfold execOp; simp only [ho, hx, Instr.loadAt, Instr.sureAddr, Sem.run_bind, Sem.run_pure, Result.andThen_ok, run_load_cells hc hu hd hi]) h
theorem wpStill_look_at {Qs : Act → Prop} (hw : Region.wanted o (yielded ops a.tmps) = true) (m x : Operand) (t : TypeId) (ok : Bool) (hop : o.op = Op.lookup t m x ok) (kt et : TypeId) (q : IntKind) (ht : P.underlying t = some (.map kt et)) (hk : P.underlying kt = some (.int q)) (z : Value) (hz : ∀ w, (zeroValue et).run P w = .ok z w)
    (b : Nat) (L : List (Int × Value)) (hm : a.eval m = .map (some b)) (hown : MapAt w b q L) (key : Int) (hx : a.eval x = .int q key)
    (hK : wpStill P ops w Qs rest (a.put o.dst (if ok then .tuple #[(lk key L).getD z, .bool (lk key L).isSome] else (lk key L).getD z))) : wpStill P ops w Qs (o :: rest) a :=
  wpStill_value hw _ (by unfold execOp; simp [hop, hm, hx, hown.look (P := P) ht hk (hz w) key ok, Result.andThen]) hK
theorem madeCells_one (z : Value) (n : Nat) : madeCells #[z] n = Array.replicate n z := by
  refine Array.ext (by simp [size_madeCells]) fun i h1 h2 => ?_
  simp [madeCells, Nat.mod_one]
/-- make, of elements that are one cell wide. -/
theorem wpList_make_at (hg : o.guard = none) (l c : Operand) (t : TypeId) (hop : o.op = Op.makeSlice t l c) (e : TypeId) (i : TypeInfo) (z : Value) (h1 : P.underlying t = some (.slice e)) (h2 : P.info? e = some i) (h3 : i.zero = some z) (h4 : i.size = 1) (hz : z.cells = #[z])
    (kl kc : IntKind) (n : Nat) (hl : a.eval l = .int kl (n : Int)) (hc : a.eval c = .int kc (n : Int)) (b2 : i.bytes * n ≤ 281474976710656) (b3 : n ≤ 9223372036854775807)
    (hK : ∀ w', Row w' w.heap.size (Array.replicate n z) e → Only [] w w' → w'.heap.size = w.heap.size + 1 → wpList P ops Q rest (a.put o.dst (.slice (some ⟨w.heap.size, 0, none⟩) n n)) w') : wpList P ops Q (o :: rest) a w := by
  refine wpList_plain hg fun K hK' => ?_
  have hb' : (i.bytes : Int) * (n : Int) ≤ 281474976710656 := by
    have h : ((i.bytes * n : Nat) : Int) ≤ 281474976710656 := by omega
    rwa [Int.natCast_mul] at h
  have hr := run_make (P := P) w t e i z h1 h2 h3 kl kc n n (by omega) (Int.le_refl _) hb' (by omega)
  simp only [Int.toNat_natCast, h4, Nat.mul_one, hz, madeCells_one] at hr
  unfold Oper.wp
  simp [execOp, hop, hl, hc, hr, Result.andThen]
  exact hK' _ _ (hK _ (Row.made _ _ _) ((Only.refl _ _).alloc _) (by simp))
theorem wpList_clear_at (hg : o.guard = none) (m : Operand) (t : TypeId) (hop : o.op = Op.call { callee := Callee.builtin Builtin.clear, args := #[m], argTypes := #[t] }) (kt et : TypeId) (q : IntKind) (ht : P.underlying t = some (.map kt et))
    (b : Nat) (L : List (Int × Value)) (hm : a.eval m = .map (some b)) (hown : MapAt w b q L)
    (hK : ∀ w', MapAt w' b q [] → Only [b] w w' → w'.heap.size = w.heap.size → wpList P ops Q rest (a.put o.dst (.tuple #[])) w') : wpList P ops Q (o :: rest) a w := by
  refine wpList_plain hg fun K' hK' => ?_
  obtain ⟨es, clock, hb, hs, hL⟩ := hown
  have hrun : (Builtin.clear_ #[t] o.type #[.map (some b)]).run P w = .ok (.tuple #[]) (setBlock w b (.map #[] clock)) := by
    simp [Builtin.clear_, run_underlying ht, MapKept.run_getObj_map hb, MapKept.run_setObj_map _ hb, Result.andThen, setBlock]
  unfold Oper.wp
  simp [execOp, hop, resolve, invoke, builtin, hm, hrun, Result.andThen]
  exact hK' _ _ (hK _ ⟨#[], clock, (MapKept.heap_set hb).1, MapKept.stamped_empty clock, rfl⟩ setBlock_only turned_only.2)
end
end Go.Proofs.Ytekdogmhgijocaa
