/- Plain: asOf. -/
import Derived.Test.YtmbmkfhdiljalaaGreatPlF
import Derived.Sort.CutIn
namespace Go.Proofs.YtmbmkfhdiljalaaGreat
open Go.RowKit Go.Shelf
set_option linter.unusedVariables false
set_option linter.unusedSimpArgs false
attribute [local go_sem] Oper.semAt_some

theorem wpListIn_look_to {F : Fence} {nF : Nat} {P : Program} (w : World) {ops : Array Oper} {rest : List Oper} {o : Oper} {a : Act} {Q : Exit → Act → World → Prop} (hg : o.guard = none) (m x : Operand) (t : TypeId) (hop : o.op = Op.lookup t m x false) (kt et : TypeId) (q : IntKind) (ht : P.underlying t = some (.map kt et)) (hk : P.underlying kt = some (.int q)) (z : Value) (hz : ∀ w, (zeroValue et).run P w = .ok z w)
    (b : Nat) (L : List (Int × Value)) (hm : a.eval m = .map (some b)) (hown : MapAt w b q L) (key : Int) (hx : a.eval x = .int q key) (val : Value) (hv : (lk key L).getD z = val)
    (hK : wpListIn F nF P ops Q rest (a.put o.dst val) w) : wpListIn F nF P ops Q (o :: rest) a w :=
  wpListIn_look_at w hg m x t false hop kt et q ht hk z hz b L hm hown key hx (by rw [if_neg (by simp), hv]; exact hK)
theorem KeepsOthers.of_only {G : List Nat} {W W' : World} (h : Only G W W') (hG : ∀ b ∈ G, ∀ o : Obj, W.heap[b]? = some o → o.isCells = true) : KeepsOthers W W' :=
  ⟨h.size, fun k o hk hc => (h.block k (Array.getElem?_eq_some_iff.1 hk).1 (fun hm => by have := hG k hm o hk; rw [this] at hc; cases hc)).trans hk⟩
theorem wpIn_calm {F : Fence} {n : Nat} {P : Program} {s : Code} {K : Act → World → Prop} {Q : Exit → Act → World → Prop} {a : Act} {w : World} (h : s.wpIn F n P (Exit.then K (fun _ _ _ => False)) a w) : s.wpIn F n P (Exit.then K Q) a w := by
  refine wpIn_mono h ?_
  intro e a' w' hq
  cases e with
  | normal => exact hq
  | exit id => exact hq.elim
  | goto l => exact hq.elim
  | ret => exact hq.elim
  | panic ch => exact hq.elim
  | outgrown => exact hq.elim
def itemV (r : Option Ver) : Array Value := match r with
  | some v => #[.int .u64 v.key, v.vec.v, v.tag.v]
  | none => #[.int .u64 0, .slice none 0 0, .slice none 0 0]
def okV (r : Option Ver) : Bool := match r with
  | some v => !v.gone
  | none => false
def asofL (vs : List Ver) (at_ : Int) : Option Ver := vs.reverse.find? fun v => decide (v.at_ ≤ at_)
def vsOf (l : List (Int × Vs)) (key : Int) : Vs := ((l.find? fun x => decide (x.1 = key)).map (·.2)).getD Vs.no
theorem lk_vsOf (l : List (Int × Vs)) (key : Int) : (lk key (vsL l)).getD (.slice none 0 0) = (vsOf l key).v := by
  unfold vsL vsOf
  rw [lk_map (fun x : Int × Vs => x.1) (fun x => x.2.v)]
  cases l.find? fun x => decide (x.1 = key) with
  | none => rfl
  | some x => rfl
theorem vsOf_at {w : World} {B p ba bo : Nat} {D : PDB} (h : DbAt w B p ba bo D) (key : Int) : VsAt w (vsOf D.all key) := by
  unfold vsOf
  cases hf : D.all.find? fun x => decide (x.1 = key) with
  | none => exact VsAt.no w
  | some x => exact h.vsd x (List.mem_of_find?_eq_some hf)
theorem run_loadVar_one {w : World} {k : Nat} {b : Value} (hk : Row w k #[b] 4) : (loadVar 4 ⟨k, 0, none⟩).run Tryz.prog w = .ok b w := by
  have hc : w.cell? ⟨k, 0, none⟩ = some b := hk.cell 0
  simp [loadVar, go_sem, hc]
theorem results_item2 {fn : Func} {p u : Tmp} (h : fn.results = #[.cell p tIt, .cell u 4]) (tmps : Array Value) (w : World) (g k : Nat) (R : Array Value) (b : Value) (hR : R.size = 3) (hp : tmps.getD p undef = .pointer (some ⟨g, 0, none⟩)) (hu : tmps.getD u undef = .pointer (some ⟨k, 0, none⟩)) (hg : Row w g R tIt) (hk : Row w k #[b] 4) : (results fn tmps).run Tryz.prog w = .ok (.tuple #[.agg R, b]) w := by
  have hp' : tmps[p]?.getD undef = .pointer (some ⟨g, 0, none⟩) := by simpa using hp
  have hu' : tmps[u]?.getD undef = .pointer (some ⟨k, 0, none⟩) := by simpa using hu
  have hc : w.cell? ⟨k, 0, none⟩ = some b := hk.cell 0
  simp only [results, h]
  simp [Sem.run_bind, hp', hu', asAddr, Result.andThen, run_loadVar_row w g _ _ _ _ _ hg Tryz.underlying34 rfl (by rw [show (Tryz.prog.info? tIt).map (·.size) = some 3 from by kernel_rfl, hR]), run_loadVar_one hk]
def AsOfTo (r : Option Ver) (w : World) (e : Ending) (w' : World) : Prop := e = .returned (.tuple #[.agg (itemV r), .bool (okV r)]) ∧ Below w.heap.size w w'
structure AsI (w W : World) (b4 b6 b7 : Nat) (at_ : Int) (R : Array Value) (b : Bool) : Prop where
  r4 : Row W b4 #[.int .u64 at_] 30
  r6 : Row W b6 R tIt
  r7 : Row W b7 #[.bool b] 4
  bl : Below w.heap.size w W
theorem AsI.of {w W W' : World} {b4 b6 b7 : Nat} {at_ : Int} {R : Array Value} {b : Bool} {row : Option Nat} (h : AsI w W b4 b6 b7 at_ R b) (hg : W.grownBy W' row) (hr : ∀ r, row = some r → b4 < r ∧ b6 < r ∧ b7 < r ∧ w.heap.size ≤ r) : AsI w W' b4 b6 b7 at_ R b := by
  have e : ∀ c, (c = b4 ∨ c = b6 ∨ c = b7) → c < W.heap.size → W'.heap[c]? = W.heap[c]? := fun c hc hl => hg.block c hl (fun e => by have := hr c e.symm; omega)
  refine ⟨?_, ?_, ?_, h.bl.trans ?_⟩
  · have := h.r4
    unfold Row at this ⊢
    rw [e _ (.inl rfl) h.r4.lt]; exact this
  · have := h.r6
    unfold Row at this ⊢
    rw [e _ (.inr (.inl rfl)) h.r6.lt]; exact this
  · have := h.r7
    unfold Row at this ⊢
    rw [e _ (.inr (.inr rfl)) h.r7.lt]; exact this
  · exact (Below.refl _ _).grown hg h.bl.size (fun k hk => (hr k hk).2.2.2)
theorem AsI.own {w w2 : World} {b4 b6 b7 : Nat} {at_ : Int} (h : b4 < w2.heap.size ∧ b6 < w2.heap.size ∧ b7 < w2.heap.size ∧ w.heap.size = b4) : OwnFrom w2.heap.size (fun (pre : List (Nat × Ver)) W => AsI w W b4 b6 b7 at_ (itemV none) false ∧ Below w2.heap.size w2 W ∧ ∀ x ∈ pre, at_ < x.2.at_) := fun s W W' row hi hg hr =>
  ⟨hi.1.of hg (fun r hr' => by have := (hr r hr').1; omega), ownFrom_below (β := Unit) (Nat.le_refl _) (Nat.le_refl _) () W W' row hi.2.1 hg hr, hi.2.2⟩
theorem AsI.ownX {w w2 : World} {b4 b6 b7 : Nat} {at_ : Int} (h : b4 < w2.heap.size ∧ b6 < w2.heap.size ∧ b7 < w2.heap.size ∧ w.heap.size = b4) (c : Code) : OwnFrom w2.heap.size (fun (pre : List (Nat × Ver)) W => c = .ret ∧ ∃ pre' x, pre = pre' ++ [x] ∧ (∀ y ∈ pre', at_ < y.2.at_) ∧ x.2.at_ ≤ at_ ∧ AsI w W b4 b6 b7 at_ (itemV (some x.2)) (!x.2.gone)) := fun s W W' row hi hg hr => by
  obtain ⟨hc, pre', x, e, hp, hx, ha⟩ := hi
  exact ⟨hc, pre', x, e, hp, hx, ha.of hg (fun r hr' => by have := (hr r hr').1; omega)⟩
theorem AsI.ownA (B m : Nat) (x : Nat × Ver) (a' : Act) {f : Nat → Act} {L : Array Value} : OwnFrom B (fun (_ : Unit) W => ∃ g, m ≤ g ∧ Row W g L tVr ∧ a' = f g) := fun s W W' row hi hg hr => by
  obtain ⟨g, h0, h1, h2⟩ := hi
  refine ⟨g, h0, ?_, h2⟩
  have h3 : W'.heap[g]? = W.heap[g]? := hg.block g h1.lt (fun e => by
    obtain ⟨o, ho, hc⟩ := (hr g e.symm).2
    rw [show W.heap[g]? = _ from h1] at ho
    cases ho
    cases hc)
  unfold Row at h1 ⊢
  rw [h3]; exact h1
theorem asofL_none {vs : List Ver} {at_ : Int} {ys : List (Nat × Ver)} (h : ys.map (·.2) = vs.reverse) (hy : ∀ y ∈ ys, at_ < y.2.at_) : asofL vs at_ = none := by
  unfold asofL
  rw [← h, List.find?_eq_none]
  intro v hv
  obtain ⟨y, hm, rfl⟩ := List.mem_map.1 hv
  have := hy y hm
  simp
  omega
theorem asofL_some {vs : List Ver} {at_ : Int} {pre' : List (Nat × Ver)} {x : Nat × Ver} {k : Nat} (h : (pre' ++ [x]).map (·.2) = vs.reverse.take k) (hp : ∀ y ∈ pre', at_ < y.2.at_) (hx : x.2.at_ ≤ at_) : asofL vs at_ = some x.2 := by
  unfold asofL
  rw [← List.take_append_drop k vs.reverse, ← h, List.find?_append, List.map_append, List.find?_append]
  rw [List.find?_eq_none.2 (by
    intro v hv
    obtain ⟨y, hm, rfl⟩ := List.mem_map.1 hv
    have := hp y hm
    simp
    omega)]
  simp [hx]
set_option maxRecDepth 100000 in
set_option maxHeartbeats 4000000 in
theorem asof_on {w : World} {B p ba bo : Nat} {D : PDB} (h : DbAt w B p ba bo D) (at_ key : Int) (hl : (vsOf D.all key).vs.length ≤ 1000000) :
    Calls Tryz.prog 46 #[.pointer (some ⟨p, 0, none⟩), .int .u64 at_, .int .u64 key] w (AsOfTo (asofL (vsOf D.all key).vs at_) w) := by
  have hro : Fence.wide.round = none := rfl
  have HV := Lib.hid (vsOf_at h key)
  have H3 : Hid (∀ y, Only [] w y → y.cell? ⟨p, 3, none⟩ = some (.map (some ba)) ∧ MapAt y ba .u64 (vsL D.all)) := Lib.hid fun y k => ⟨(h.row.only k (by simp)).cell 3, h.am.only k (by simp)⟩
  have LK := Lib.hid (lk_vsOf D.all key)
  have HL := Lib.hid hl
  generalize vsOf D.all key = V at *
  generalize vsL D.all = L at *
  clear h hl
  refine callsIn_wide (n := 5) |>.1 ?_
  refine callsIn_of_wp_marks Tryz.func46 rfl trivial ?_ hro
  simp only [Tryz.ntmps46, List.size_toArray, List.length_cons, List.length_nil, Nat.reduceAdd, Nat.reduceSub, Array.replicate_succ, Array.replicate_zero, List.push_toArray, List.append_toArray, List.nil_append, List.cons_append]
  gi_upto_region 1 with fail
  have A1 : Hid (AsI w (((w.alloc (.cells #[.int .u64 at_] 30)).alloc (.cells #[.int .u64 0, .slice none 0 0, .slice none 0 0] tIt)).alloc (.cells #[.bool false] 4)) w.heap.size (w.heap.size + 1) (w.heap.size + 1 + 1) at_ (itemV none) false) := Lib.hid (by
    have h2 := Row.made (w.alloc (.cells #[.int .u64 at_] 30)) #[.int .u64 0, .slice none 0 0, .slice none 0 0] tIt
    rw [World.size_alloc] at h2
    have h3 := Row.made ((w.alloc (.cells #[.int .u64 at_] 30)).alloc (.cells #[.int .u64 0, .slice none 0 0, .slice none 0 0] tIt)) #[.bool false] 4
    rw [World.size_alloc, World.size_alloc] at h3
    exact ⟨((Row.made w _ _).only ((Only.refl [] _).alloc _) (by simp)).only ((Only.refl [] _).alloc _) (by simp), h2.only ((Only.refl [] _).alloc _) (by simp), h3, ((((Below.refl _ _).alloc (Nat.le_refl _) _).alloc (by simp) _).alloc (by simp; omega) _)⟩)
  have K1 : Hid (Only [] w (((w.alloc (.cells #[.int .u64 at_] 30)).alloc (.cells #[.int .u64 0, .slice none 0 0, .slice none 0 0] tIt)).alloc (.cells #[.bool false] 4))) := Lib.hid ((((Only.refl [] w).alloc _).alloc _).alloc _)
  generalize ((w.alloc (.cells #[.int .u64 at_] 30)).alloc (.cells #[.int .u64 0, .slice none 0 0, .slice none 0 0] tIt)).alloc (.cells #[.bool false] 4) = w1 at *
  obtain ⟨c3, m3⟩ := H3.out w1 K1.out
  have M3 := Lib.hid m3
  have V1 := Lib.hid (HV.out.only K1.out (by simp))
  clear m3
  gi_wp2_with (gi_at_lookup; refine wpListIn_look_to _ rfl (.tmp 13) (.tmp 14) tMvs rfl 30 tVrs .u64 Tryz.underlying61 Tryz.underlying30 _ zeroVs ba L rfl M3.out key rfl _ LK.out ?_)
  refine ⟨trivial, (callsIn_wide.2 (back_any V w1)).mono ?_⟩
  rintro _ w2 ⟨rfl, hw⟩
  have R2 : Hid (Row w2 w1.heap.size #[V.v] tVrs) := Lib.hid (by rw [hw]; exact Row.made w1 _ _)
  have K2 : Hid (Only [] w1 w2) := Lib.hid (by rw [hw]; exact (Only.refl [] w1).alloc _)
  clear hw c3
  have V2 := Lib.hid (V1.out.only K2.out (by simp))
  have A2 : Hid (AsI w w2 w.heap.size (w.heap.size + 1) (w.heap.size + 1 + 1) at_ (itemV none) false) := Lib.hid ⟨A1.out.r4.only K2.out (by simp), A1.out.r6.only K2.out (by simp), A1.out.r7.only K2.out (by simp), A1.out.bl.trans (K2.out.toBelow A1.out.bl.size (by simp))⟩
  obtain ⟨Bm, hBm⟩ : ∃ Bm, w1.heap.size = Bm := ⟨_, rfl⟩
  rw [hBm] at R2
  rw [hBm]
  clear hBm
  gi_wp2_with fail
  obtain ⟨b4, hb4⟩ : ∃ b4, w.heap.size = b4 := ⟨_, rfl⟩
  have EQ : Hid (b4 < w2.heap.size ∧ b4 + 1 < w2.heap.size ∧ b4 + 1 + 1 < w2.heap.size ∧ w.heap.size = b4) := Lib.hid ⟨by rw [← hb4]; exact A2.out.r4.lt, by rw [← hb4]; exact A2.out.r6.lt, by rw [← hb4]; exact A2.out.r7.lt, hb4⟩
  rw [hb4] at A1 A2 ⊢
  obtain ⟨b6, hb6⟩ : ∃ b6, b4 + 1 = b6 := ⟨_, rfl⟩
  have E6 := Lib.hid hb6
  rw [hb6] at A1 A2 EQ ⊢
  obtain ⟨b7, hb7⟩ : ∃ b7, b6 + 1 = b7 := ⟨_, rfl⟩
  have E7 := Lib.hid hb7
  rw [hb7] at A1 A2 EQ ⊢
  clear hb4 hb6 hb7 A1 M3 V1 K1
  refine wpIn_rangeFunc_ownH hro (by omega) (gf := 89) (lb := #[.pointer (some ⟨Bm, 0, none⟩)]) rfl trivial (enters_of Tryz.func89 (by kernel_rfl) rfl)
    (back_stops 4 (by omega) Bm V w2 R2.out V2.out HL.out) Below.trans (fun W l o o' h1 h2 h3 h4 => belowK_b (w := w2) (Nat.le_refl _) W l o o' h1 h2 h3 h4) (Below.refl _ _) (fun _ => rfl)
    (fun pre W => AsI w W b4 b6 b7 at_ (itemV none) false ∧ Below w2.heap.size w2 W ∧ ∀ x ∈ pre, at_ < x.2.at_)
    (fun c pre W => c = .ret ∧ ∃ pre' x, pre = pre' ++ [x] ∧ (∀ y ∈ pre', at_ < y.2.at_) ∧ x.2.at_ ≤ at_ ∧ AsI w W b4 b6 b7 at_ (itemV (some x.2)) (!x.2.gone))
    (AsI.own EQ.out) (fun c => AsI.ownX EQ.out c)
    ⟨A2.out, Below.refl _ _, by simp⟩
    (fun x a' W => ∃ g, w2.heap.size ≤ g ∧ Row W g #[.int .u64 x.2.at_, .bool x.2.gone, .int .u64 x.2.key, x.2.vec.v, x.2.tag.v] tVr ∧ a' = { tmps := #[.pointer (some ⟨p, 0, none⟩), .int .u64 at_, .int .u64 key, undef, .pointer (some ⟨b4, 0, none⟩), undef, .pointer (some ⟨b6, 0, none⟩), .pointer (some ⟨b7, 0, none⟩), undef, .pointer (some ⟨g, 0, none⟩), .pointer (some ⟨p, 0, none⟩), .pointer (some ⟨p, 0, none⟩), .pointer (some ⟨p, 3, none⟩), .map (some ba), .int .u64 key, V.v, .func (.func 89) #[] #[.pointer (some ⟨Bm, 0, none⟩)], .int .i64 (x.1 : Int), x.2.val, undef, undef, undef, undef, undef, undef, undef, undef, undef, undef], defers := [] })
    (fun x a' => AsI.ownA _ _ x a') ?assign ?body ?done ?stop
  case assign =>
    intro l pre x W K hI hK
    have HI := Lib.hid hI
    have HK := Lib.hid hK
    clear hI hK
    simp only [encV]
    unfold Ver.val Sl.v
    gi_wp2_with fail
    have G := World.grownBy_alloc W (.cells #[.int .u64 x.2.at_, .bool x.2.gone, .int .u64 x.2.key, x.2.vec.v, x.2.tag.v] tVr) none
    refine HK.out _ _ ((KeepsOthers.alloc _ _).from _) ((Below.refl _ _).grown G HI.out.2.1.size (by simp)) ⟨HI.out.1.of G (by simp), HI.out.2.1.grown G HI.out.2.1.size (by simp), HI.out.2.2⟩ ⟨W.heap.size, HI.out.2.1.size, Row.made _ _ _, rfl⟩
  case body =>
    rintro l pre x a' W hl hr hI ⟨g, hgw, hg, rfl⟩ hlt
    have ⟨n1, n2, n3, n4, n5, n6⟩ : b6 ≠ b7 ∧ b7 ≠ b6 ∧ g ≠ b6 ∧ g ≠ b7 ∧ b6 ≠ g ∧ b7 ≠ g := by have := EQ.out; have := E7.out; omega
    have HGW := Lib.hid hgw
    clear hgw
    have HI := Lib.hid hI
    have HG := Lib.hid hg
    have g0 : W.cell? ⟨g, 0, none⟩ = some (.int .u64 x.2.at_) := hg.cell 0
    have g1 : W.cell? ⟨g, 1, none⟩ = some (.bool x.2.gone) := hg.cell 1
    have g2 : W.cell? ⟨g, 2, none⟩ = some (.int .u64 x.2.key) := hg.cell 2
    have g3 : W.cell? ⟨g, 3, none⟩ = some x.2.vec.v := hg.cell 3
    have g4 : W.cell? ⟨g, 4, none⟩ = some x.2.tag.v := hg.cell 4
    have a4 : W.cell? ⟨b4, 0, none⟩ = some (.int .u64 at_) := HI.out.1.r4.cell 0
    clear hI hg hr
    by_cases hle : x.2.at_ ≤ at_
    · have d1 : decide (x.2.at_ ≤ at_) = true := decide_eq_true hle
      have HLE := Lib.hid hle
      clear hle
      have ⟨x0, x1, x2, x3⟩ : W.cell? ⟨b6, 0, none⟩ = some (.int .u64 0) ∧ W.cell? ⟨b6, 1, none⟩ = some (.slice none 0 0) ∧ W.cell? ⟨b6, 2, none⟩ = some (.slice none 0 0) ∧ W.cell? ⟨b7, 0, none⟩ = some (.bool false) := ⟨HI.out.1.r6.cell 0, HI.out.1.r6.cell 1, HI.out.1.r6.cell 2, HI.out.1.r7.cell 0⟩
      have ⟨y0, y1, y2, y3⟩ : W.frozen? ⟨b6, 0, none⟩ = false ∧ W.frozen? ⟨b6, 1, none⟩ = false ∧ W.frozen? ⟨b6, 2, none⟩ = false ∧ W.frozen? ⟨b7, 0, none⟩ = false := ⟨HI.out.1.r6.free 0, HI.out.1.r6.free 1, HI.out.1.r6.free 2, HI.out.1.r7.free 0⟩
      have N : Hid (KeepsFrom w2.heap.size W ((((W.setCell ⟨b6, 0, none⟩ (.int .u64 x.2.key)).setCell ⟨b6, 1, none⟩ x.2.vec.v).setCell ⟨b6, 2, none⟩ x.2.tag.v).setCell ⟨b7, 0, none⟩ (.bool (!x.2.gone))).drew ∧ AsI w ((((W.setCell ⟨b6, 0, none⟩ (.int .u64 x.2.key)).setCell ⟨b6, 1, none⟩ x.2.vec.v).setCell ⟨b6, 2, none⟩ x.2.tag.v).setCell ⟨b7, 0, none⟩ (.bool (!x.2.gone))).drew b4 b6 b7 at_ (itemV (some x.2)) (!x.2.gone)) := Lib.hid (by
        have K4 : Only [b6] W (((W.setCell ⟨b6, 0, none⟩ (.int .u64 x.2.key)).setCell ⟨b6, 1, none⟩ x.2.vec.v).setCell ⟨b6, 2, none⟩ x.2.tag.v) := (((Only.refl [b6] W).setCell (.inl (by simp)) _).setCell (.inl (by simp)) _).setCell (.inl (by simp)) _
        have h6 := ((HI.out.1.r6.set 0 (.int .u64 x.2.key)).set 1 x.2.vec.v).set 2 x.2.tag.v
        have h7 := (HI.out.1.r7.only K4 (by simp; omega)).set 0 (.bool (!x.2.gone))
        have K5 : Only [b7] (((W.setCell ⟨b6, 0, none⟩ (.int .u64 x.2.key)).setCell ⟨b6, 1, none⟩ x.2.vec.v).setCell ⟨b6, 2, none⟩ x.2.tag.v) ((((W.setCell ⟨b6, 0, none⟩ (.int .u64 x.2.key)).setCell ⟨b6, 1, none⟩ x.2.vec.v).setCell ⟨b6, 2, none⟩ x.2.tag.v).setCell ⟨b7, 0, none⟩ (.bool (!x.2.gone))).drew := ((Only.refl [b7] _).setCell (.inl (by simp)) _).drew
        have KD : ∀ y : World, Only [] y y.drew := fun y => (Only.refl [] y).drew
        have e4 := EQ.out
        have e6 := E6.out
        have e7 := E7.out
        refine ⟨KeepsOthers.from ?_ _, (HI.out.1.r4.only K4 (by simp; omega)).only K5 (by simp; omega), ?_, ?_, ?_⟩
        · exact ((((KeepsOthers.setCell _ _ _).trans (KeepsOthers.setCell _ _ _)).trans (KeepsOthers.setCell _ _ _)).trans (KeepsOthers.setCell _ _ _)).trans (KeepsOthers.drew _)
        · exact (by simpa [itemV] using h6 : Row _ b6 (itemV (some x.2)) tIt).only K5 (by simp; omega)
        · exact (by simpa using h7 : Row _ b7 #[.bool (!x.2.gone)] 4).only (KD _) (by simp)
        · exact (HI.out.1.bl.trans (K4.toBelow HI.out.1.bl.size (by simp; omega))).trans (K5.toBelow (Nat.le_trans HI.out.1.bl.size K4.size) (by simp; omega)))
      unfold Sl.v at g3 g4 N
      gi_wp2_with fail
      gi_region
      all_goals
        gi_wp2_with fail
        exact ⟨N.out.1, rfl, _, x, rfl, HI.out.2.2, HLE.out, N.out.2⟩
    · have d1 : decide (x.2.at_ ≤ at_) = false := decide_eq_false hle
      have HLE := Lib.hid hle
      clear hle
      gi_wp2_with fail
      refine ⟨KeepsFrom.refl _ _, Below.refl _ _, HI.out.1, HI.out.2.1, ?_⟩
      have hy : ∀ y ∈ pre ++ [x], at_ < y.2.at_ := by
        intro y hy
        rcases List.mem_append.1 hy with hy | hy
        · exact HI.out.2.2 y hy
        · simp only [List.mem_singleton] at hy
          subst hy
          have := HLE.out
          omega
      simpa using hy
  case done =>
    rintro D ys W hD hS hI hK
    have ⟨n1, n2⟩ : b6 ≠ b7 ∧ b7 ≠ b6 := by have := E7.out; omega
    have HI := Lib.hid hI
    have HS := Lib.hid hS
    have HKD := Lib.hid hK
    clear hI hS hK
    have ⟨x0, x1, x2, x3⟩ : W.cell? ⟨b6, 0, none⟩ = some (.int .u64 0) ∧ W.cell? ⟨b6, 1, none⟩ = some (.slice none 0 0) ∧ W.cell? ⟨b6, 2, none⟩ = some (.slice none 0 0) ∧ W.cell? ⟨b7, 0, none⟩ = some (.bool false) := ⟨HI.out.1.r6.cell 0, HI.out.1.r6.cell 1, HI.out.1.r6.cell 2, HI.out.1.r7.cell 0⟩
    have ⟨y0, y1, y2, y3⟩ : W.frozen? ⟨b6, 0, none⟩ = false ∧ W.frozen? ⟨b6, 1, none⟩ = false ∧ W.frozen? ⟨b6, 2, none⟩ = false ∧ W.frozen? ⟨b7, 0, none⟩ = false := ⟨HI.out.1.r6.free 0, HI.out.1.r6.free 1, HI.out.1.r6.free 2, HI.out.1.r7.free 0⟩
    have N : Hid (AsI w ((((W.setCell ⟨b6, 0, none⟩ (.int .u64 0)).setCell ⟨b6, 1, none⟩ (.slice none 0 0)).setCell ⟨b6, 2, none⟩ (.slice none 0 0)).setCell ⟨b7, 0, none⟩ (.bool false)) b4 b6 b7 at_ (itemV none) false ∧ ((((W.setCell ⟨b6, 0, none⟩ (.int .u64 0)).setCell ⟨b6, 1, none⟩ (.slice none 0 0)).setCell ⟨b6, 2, none⟩ (.slice none 0 0)).setCell ⟨b7, 0, none⟩ (.bool false)).heap[D]? = some (.deferred (some []))) := Lib.hid (by
      have K4 : Only [b6] W (((W.setCell ⟨b6, 0, none⟩ (.int .u64 0)).setCell ⟨b6, 1, none⟩ (.slice none 0 0)).setCell ⟨b6, 2, none⟩ (.slice none 0 0)) := (((Only.refl [b6] W).setCell (.inl (by simp)) _).setCell (.inl (by simp)) _).setCell (.inl (by simp)) _
      have h6 := ((HI.out.1.r6.set 0 (.int .u64 0)).set 1 (.slice none 0 0)).set 2 (.slice none 0 0)
      have h7 := (HI.out.1.r7.only K4 (by simp; omega)).set 0 (.bool false)
      have K5 : Only [b7] (((W.setCell ⟨b6, 0, none⟩ (.int .u64 0)).setCell ⟨b6, 1, none⟩ (.slice none 0 0)).setCell ⟨b6, 2, none⟩ (.slice none 0 0)) ((((W.setCell ⟨b6, 0, none⟩ (.int .u64 0)).setCell ⟨b6, 1, none⟩ (.slice none 0 0)).setCell ⟨b6, 2, none⟩ (.slice none 0 0)).setCell ⟨b7, 0, none⟩ (.bool false)) := ((Only.refl [b7] _).setCell (.inl (by simp)) _)
      have e4 := EQ.out
      have e6 := E6.out
      have e7 := E7.out
      have hDl : D < W.heap.size := (Array.getElem?_eq_some_iff.1 HKD.out).1
      refine ⟨⟨(HI.out.1.r4.only K4 (by simp; omega)).only K5 (by simp; omega), ?_, ?_, ?_⟩, ?_⟩
      · exact (by simpa [itemV] using h6 : Row _ b6 (itemV none) tIt).only K5 (by simp; omega)
      · exact (by simpa using h7 : Row _ b7 #[.bool false] 4)
      · exact (HI.out.1.bl.trans (K4.toBelow HI.out.1.bl.size (by simp; omega))).trans (K5.toBelow (Nat.le_trans HI.out.1.bl.size K4.size) (by simp; omega))
      · rw [K5.block D (Nat.lt_of_lt_of_le hDl K4.size) (by simp; omega), K4.block D hDl (by simp; omega)]
        exact HKD.out)
    gi_wp2_with fail
    refine ⟨by simp, .inl ⟨_, _, rfl, run_takeDeferred N.out.2, ?_⟩⟩
    have hD4 : b4 < D ∧ b6 < D ∧ b7 < D ∧ w.heap.size ≤ D := by have := EQ.out; omega
    have hf := N.out.1.of (grownBy_putObj' _ D (.deferred none)) (fun r hr => by cases hr; exact hD4)
    refine ⟨_, results_item2 rfl _ _ b6 b7 (itemV none) (.bool false) rfl rfl rfl hf.r6 hf.r7, ?_, hf.bl⟩
    rw [asofL_none HS.out HI.out.2.2]
    rfl
  case stop =>
    rintro D c pre W hD hS ⟨rfl, pre', x, rfl, hp, hx, hA⟩ hK
    gi_wp2_with fail
    refine ⟨by simp, .inl ⟨_, _, rfl, run_takeDeferred hK, ?_⟩⟩
    have hD4 : b4 < D ∧ b6 < D ∧ b7 < D ∧ w.heap.size ≤ D := by have := EQ.out; omega
    have hf := hA.of (grownBy_putObj' _ D (.deferred none)) (fun r hr => by cases hr; exact hD4)
    obtain ⟨k, hS⟩ := hS
    refine ⟨_, results_item2 rfl _ _ b6 b7 (itemV (some x.2)) (.bool (!x.2.gone)) rfl rfl rfl hf.r6 hf.r7, ?_, hf.bl⟩
    rw [asofL_some hS hp hx]
    rfl
end Go.Proofs.YtmbmkfhdiljalaaGreat

/- Plain: sees, Get. -/
namespace Go.Proofs.YtmbmkfhdiljalaaGreat
open Go.RowKit Go.Shelf
set_option linter.unusedVariables false
set_option linter.unusedSimpArgs false

def lkV (l : List (Int × Ver)) (key : Int) : Option Ver := (l.find? fun x => decide (x.1 = key)).map (·.2)
theorem lk_wrL (l : List (Int × Ver)) (key : Int) : lk key (wrL l) = (lkV l key).map Ver.val := by
  unfold wrL lkV
  rw [lk_map (fun x : Int × Ver => x.1) (fun x => x.2.val)]
  cases l.find? fun x => decide (x.1 = key) with
  | none => rfl
  | some x => rfl
def seesR (D : PDB) (o : PTx) (key : Int) : Option Ver := match lkV o.wr key with
  | some v => some v
  | none => asofL (vsOf D.all key).vs o.start
theorem wpList_look_ok {P : Program} {w : World} {ops : Array Oper} {rest : List Oper} {o : Oper} {a : Act} {Q : Exit → Act → World → Prop} (hg : o.guard = none) (m x : Operand) (t : TypeId) (hop : o.op = Op.lookup t m x true) (kt et : TypeId) (q : IntKind) (ht : P.underlying t = some (.map kt et)) (hk : P.underlying kt = some (.int q)) (z : Value) (hz : ∀ w, (zeroValue et).run P w = .ok z w)
    (b : Nat) (L : List (Int × Value)) (hm : a.eval m = .map (some b)) (hown : MapAt w b q L) (key : Int) (hx : a.eval x = .int q key) (val : Value) (c : Bool) (hv : (lk key L).getD z = val) (hc : (lk key L).isSome = c)
    (hK : wpList P ops Q rest (a.put o.dst (.tuple #[val, .bool c])) w) : wpList P ops Q (o :: rest) a w :=
  wpList_look_at w hg m x t true hop kt et q ht hk z hz b L hm hown key hx (by rw [if_pos rfl, hv, hc]; exact hK)
theorem results_item_tmp {fn : Func} {p u : Tmp} (h : fn.results = #[.cell p tIt, .tmp u]) (tmps : Array Value) (w : World) (g : Nat) (R : Array Value) (hR : R.size = 3) (hp : tmps.getD p undef = .pointer (some ⟨g, 0, none⟩)) (hg : Row w g R tIt) : (results fn tmps).run Tryz.prog w = .ok (.tuple #[.agg R, tmps.getD u undef]) w := by
  have hp' : tmps[p]?.getD undef = .pointer (some ⟨g, 0, none⟩) := by simpa using hp
  simp only [results, h]
  simp [Sem.run_bind, hp', asAddr, Result.andThen, run_loadVar_row w g _ _ _ _ _ hg Tryz.underlying34 rfl (by rw [show (Tryz.prog.info? tIt).map (·.size) = some 3 from by kernel_rfl, hR])]
theorem itemV_size (r : Option Ver) : (itemV r).size = 3 := by cases r <;> rfl
set_option maxRecDepth 100000 in
set_option maxHeartbeats 4000000 in
theorem sees_on {w : World} {B p ba bo : Nat} {D : PDB} (h : DbAt w B p ba bo D) {o : PTx} (ho : o ∈ D.op) (key : Int) (hl : (vsOf D.all key).vs.length ≤ 1000000) :
    Calls Tryz.prog 49 #[.pointer (some ⟨p, 0, none⟩), .pointer (some ⟨o.bt, 0, none⟩), .int .u64 key] w (AsOfTo (seesR D o key) w) := by
  have H := Lib.hid h
  have HL := Lib.hid hl
  have OT := Lib.hid (h.oa o ho).1
  have t1 : (w.alloc (.cells #[.int .u64 0, .slice none 0 0, .slice none 0 0] tIt)).cell? ⟨o.bt, 1, none⟩ = some (.map (some o.bm)) := (OT.out.only ((Only.refl [] w).alloc _) (by simp)).cell 1
  have OM := Lib.hid (h.oa o ho).2
  have LW := Lib.hid (lk_wrL o.wr key)
  clear h hl
  go_enter Tryz.func49, Tryz.ntmps49
  cases hv : lkV o.wr key with
  | some v =>
    have SR : Hid (seesR D o key = some v) := Lib.hid (by simp [seesR, hv])
    have L1 : Hid ((lk key (wrL o.wr)).getD (.agg #[.int .u64 0, .bool false, .int .u64 0, .slice none 0 0, .slice none 0 0]) = v.val ∧ (lk key (wrL o.wr)).isSome = true) := Lib.hid (by rw [LW.out, hv]; exact ⟨rfl, rfl⟩)
    have M1 := Lib.hid (OM.out.only ((Only.refl [] w).alloc (.cells #[.int .u64 0, .slice none 0 0, .slice none 0 0] tIt)) (by simp))
    unfold Ver.val at L1
    clear hv LW
    unfold Sl.v at L1
    go_upto_region 2 with (at_lookup; refine wpList_look_ok rfl (.tmp 14) (.tmp 15) tMvr rfl 30 tVr .u64 Tryz.underlying82 Tryz.underlying30 _ zeroVr o.bm (wrL o.wr) rfl M1.out key rfl _ _ L1.out.1 L1.out.2 ?_)
    have R6 : Hid (Row ((w.alloc (.cells #[.int .u64 0, .slice none 0 0, .slice none 0 0] tIt)).alloc (.cells #[.int .u64 v.at_, .bool v.gone, .int .u64 v.key, .slice v.vec.a v.vec.xs.length v.vec.c, .slice v.tag.a v.tag.xs.length v.tag.c] tVr)) w.heap.size (itemV none) tIt) := Lib.hid ((Row.made w _ _).only ((Only.refl [] _).alloc _) (by simp))
    have K1 : Hid (Only [] w ((w.alloc (.cells #[.int .u64 0, .slice none 0 0, .slice none 0 0] tIt)).alloc (.cells #[.int .u64 v.at_, .bool v.gone, .int .u64 v.key, .slice v.vec.a v.vec.xs.length v.vec.c, .slice v.tag.a v.tag.xs.length v.tag.c] tVr))) := Lib.hid (((Only.refl [] w).alloc _).alloc _)
    have R8 : Hid (Row ((w.alloc (.cells #[.int .u64 0, .slice none 0 0, .slice none 0 0] tIt)).alloc (.cells #[.int .u64 v.at_, .bool v.gone, .int .u64 v.key, .slice v.vec.a v.vec.xs.length v.vec.c, .slice v.tag.a v.tag.xs.length v.tag.c] tVr)) (w.heap.size + 1) #[.int .u64 v.at_, .bool v.gone, .int .u64 v.key, .slice v.vec.a v.vec.xs.length v.vec.c, .slice v.tag.a v.tag.xs.length v.tag.c] tVr) := Lib.hid (by
      have h3 := Row.made (w.alloc (.cells #[.int .u64 0, .slice none 0 0, .slice none 0 0] tIt)) #[.int .u64 v.at_, .bool v.gone, .int .u64 v.key, .slice v.vec.a v.vec.xs.length v.vec.c, .slice v.tag.a v.tag.xs.length v.tag.c] tVr
      rwa [World.size_alloc] at h3)
    have SZ : Hid (w.heap.size + 1 + 1 = ((w.alloc (.cells #[.int .u64 0, .slice none 0 0, .slice none 0 0] tIt)).alloc (.cells #[.int .u64 v.at_, .bool v.gone, .int .u64 v.key, .slice v.vec.a v.vec.xs.length v.vec.c, .slice v.tag.a v.tag.xs.length v.tag.c] tVr)).heap.size) := Lib.hid (by simp)
    generalize ((w.alloc (.cells #[.int .u64 0, .slice none 0 0, .slice none 0 0] tIt)).alloc (.cells #[.int .u64 v.at_, .bool v.gone, .int .u64 v.key, .slice v.vec.a v.vec.xs.length v.vec.c, .slice v.tag.a v.tag.xs.length v.tag.c] tVr)) = w1 at *
    have OT1 := Lib.hid (OT.out.only K1.out (by simp))
    clear t1 M1
    have NE : Hid (w.heap.size < w.heap.size + 1) := Lib.hid (by omega)
    have LT : Hid (∀ b, b < w.heap.size → b < w1.heap.size) := Lib.hid (fun b hb => by have := K1.out.size; omega)
    obtain ⟨b6, hb6⟩ : ∃ b6, w.heap.size = b6 := ⟨_, rfl⟩
    have E6 := Lib.hid hb6
    rw [hb6] at R6 R8 SZ ⊢
    clear hb6
    have ⟨x0, x1, x2⟩ : w1.cell? ⟨b6, 0, none⟩ = some (.int .u64 0) ∧ w1.cell? ⟨b6, 1, none⟩ = some (.slice none 0 0) ∧ w1.cell? ⟨b6, 2, none⟩ = some (.slice none 0 0) := ⟨R6.out.cell 0, R6.out.cell 1, R6.out.cell 2⟩
    have ⟨y0, y1, y2⟩ : w1.frozen? ⟨b6, 0, none⟩ = false ∧ w1.frozen? ⟨b6, 1, none⟩ = false ∧ w1.frozen? ⟨b6, 2, none⟩ = false := ⟨R6.out.free 0, R6.out.free 1, R6.out.free 2⟩
    have ⟨z1, z2, z3, z4⟩ : w1.cell? ⟨b6 + 1, 1, none⟩ = some (.bool v.gone) ∧ w1.cell? ⟨b6 + 1, 2, none⟩ = some (.int .u64 v.key) ∧ w1.cell? ⟨b6 + 1, 3, none⟩ = some (.slice v.vec.a v.vec.xs.length v.vec.c) ∧ w1.cell? ⟨b6 + 1, 4, none⟩ = some (.slice v.tag.a v.tag.xs.length v.tag.c) := ⟨R8.out.cell 1, R8.out.cell 2, R8.out.cell 3, R8.out.cell 4⟩
    have N : Hid (AsOfTo (some v) w (.returned (.tuple #[.agg (itemV (some v)), .bool (!v.gone)])) (((w1.setCell ⟨b6, 0, none⟩ (.int .u64 v.key)).setCell ⟨b6, 1, none⟩ v.vec.v).setCell ⟨b6, 2, none⟩ v.tag.v).drew ∧ Row (((w1.setCell ⟨b6, 0, none⟩ (.int .u64 v.key)).setCell ⟨b6, 1, none⟩ v.vec.v).setCell ⟨b6, 2, none⟩ v.tag.v).drew b6 (itemV (some v)) tIt) := Lib.hid (by
      have K4 : Only [b6] w1 (((w1.setCell ⟨b6, 0, none⟩ (.int .u64 v.key)).setCell ⟨b6, 1, none⟩ v.vec.v).setCell ⟨b6, 2, none⟩ v.tag.v).drew := ((((Only.refl [b6] w1).setCell (.inl (by simp)) _).setCell (.inl (by simp)) _).setCell (.inl (by simp)) _).drew
      have h6 := ((R6.out.set 0 (.int .u64 v.key)).set 1 v.vec.v).set 2 v.tag.v
      refine ⟨⟨rfl, ?_⟩, ?_⟩
      · exact (K1.out.trans (K4.mono (fun i hi => .inl hi) : Only [b6] _ _) (fun i hi => by simp at hi; subst hi; exact .inr (by have := E6.out; omega))).toBelow (Nat.le_refl _) (by simp)
      · exact (by simpa [itemV] using h6 : Row _ b6 (itemV (some v)) tIt).only (Only.refl [] _).drew (by simp))
    unfold Sl.v at N
    go_wp2_with fail
    go_region
    all_goals
      go_wp2_with fail
      refine bodyPost_ret (results_item_tmp rfl _ _ b6 (itemV (some v)) rfl rfl N.out.2) rfl ?_
      rw [SR.out]
      exact N.out.1
  | none =>
    have SR : Hid (seesR D o key = asofL (vsOf D.all key).vs o.start) := Lib.hid (by simp [seesR, hv])
    have L1 : Hid ((lk key (wrL o.wr)).getD (.agg #[.int .u64 0, .bool false, .int .u64 0, .slice none 0 0, .slice none 0 0]) = .agg #[.int .u64 0, .bool false, .int .u64 0, .slice none 0 0, .slice none 0 0] ∧ (lk key (wrL o.wr)).isSome = false) := Lib.hid (by rw [LW.out, hv]; exact ⟨rfl, rfl⟩)
    have M1 := Lib.hid (OM.out.only ((Only.refl [] w).alloc (.cells #[.int .u64 0, .slice none 0 0, .slice none 0 0] tIt)) (by simp))
    clear hv LW
    go_upto_region 2 with (at_lookup; refine wpList_look_ok rfl (.tmp 14) (.tmp 15) tMvr rfl 30 tVr .u64 Tryz.underlying82 Tryz.underlying30 _ zeroVr o.bm (wrL o.wr) rfl M1.out key rfl _ _ L1.out.1 L1.out.2 ?_)
    have R6 : Hid (Row ((w.alloc (.cells #[.int .u64 0, .slice none 0 0, .slice none 0 0] tIt)).alloc (.cells #[.int .u64 0, .bool false, .int .u64 0, .slice none 0 0, .slice none 0 0] tVr)) w.heap.size (itemV none) tIt) := Lib.hid ((Row.made w _ _).only ((Only.refl [] _).alloc _) (by simp))
    have K1 : Hid (Only [] w ((w.alloc (.cells #[.int .u64 0, .slice none 0 0, .slice none 0 0] tIt)).alloc (.cells #[.int .u64 0, .bool false, .int .u64 0, .slice none 0 0, .slice none 0 0] tVr))) := Lib.hid (((Only.refl [] w).alloc _).alloc _)
    have R8 : Hid (Row ((w.alloc (.cells #[.int .u64 0, .slice none 0 0, .slice none 0 0] tIt)).alloc (.cells #[.int .u64 0, .bool false, .int .u64 0, .slice none 0 0, .slice none 0 0] tVr)) (w.heap.size + 1) #[.int .u64 0, .bool false, .int .u64 0, .slice none 0 0, .slice none 0 0] tVr) := Lib.hid (by
      have h3 := Row.made (w.alloc (.cells #[.int .u64 0, .slice none 0 0, .slice none 0 0] tIt)) #[.int .u64 0, .bool false, .int .u64 0, .slice none 0 0, .slice none 0 0] tVr
      rwa [World.size_alloc] at h3)
    have SZ : Hid (w.heap.size + 1 + 1 = ((w.alloc (.cells #[.int .u64 0, .slice none 0 0, .slice none 0 0] tIt)).alloc (.cells #[.int .u64 0, .bool false, .int .u64 0, .slice none 0 0, .slice none 0 0] tVr)).heap.size) := Lib.hid (by simp)
    generalize ((w.alloc (.cells #[.int .u64 0, .slice none 0 0, .slice none 0 0] tIt)).alloc (.cells #[.int .u64 0, .bool false, .int .u64 0, .slice none 0 0, .slice none 0 0] tVr)) = w1 at *
    have OT1 := Lib.hid (OT.out.only K1.out (by simp))
    clear t1 M1
    have NE : Hid (w.heap.size < w.heap.size + 1) := Lib.hid (by omega)
    have LT : Hid (∀ b, b < w.heap.size → b < w1.heap.size) := Lib.hid (fun b hb => by have := K1.out.size; omega)
    obtain ⟨b6, hb6⟩ : ∃ b6, w.heap.size = b6 := ⟨_, rfl⟩
    have E6 := Lib.hid hb6
    rw [hb6] at R6 R8 SZ ⊢
    clear hb6
    have ⟨x0, x1, x2⟩ : w1.cell? ⟨b6, 0, none⟩ = some (.int .u64 0) ∧ w1.cell? ⟨b6, 1, none⟩ = some (.slice none 0 0) ∧ w1.cell? ⟨b6, 2, none⟩ = some (.slice none 0 0) := ⟨R6.out.cell 0, R6.out.cell 1, R6.out.cell 2⟩
    have ⟨y0, y1, y2⟩ : w1.frozen? ⟨b6, 0, none⟩ = false ∧ w1.frozen? ⟨b6, 1, none⟩ = false ∧ w1.frozen? ⟨b6, 2, none⟩ = false := ⟨R6.out.free 0, R6.out.free 1, R6.out.free 2⟩
    have u0 : w1.cell? ⟨o.bt, 0, none⟩ = some (.int .u64 o.start) := OT1.out.cell 0
    have AS := Lib.hid (asof_on (H.out.only K1.out (by simp)) o.start key HL.out)
    go_wp2_with fail
    refine AS.out.mono ?_
    rintro _ w2 ⟨rfl, hb⟩
    have R62 := Lib.hid (R6.out.only ((Only.refl [] w1).below hb) (by simp))
    have HB := Lib.hid hb
    have ⟨c0, c1, c2⟩ : w2.cell? ⟨b6, 0, none⟩ = some (.int .u64 0) ∧ w2.cell? ⟨b6, 1, none⟩ = some (.slice none 0 0) ∧ w2.cell? ⟨b6, 2, none⟩ = some (.slice none 0 0) := ⟨R62.out.cell 0, R62.out.cell 1, R62.out.cell 2⟩
    have ⟨f0, f1, f2⟩ : w2.frozen? ⟨b6, 0, none⟩ = false ∧ w2.frozen? ⟨b6, 1, none⟩ = false ∧ w2.frozen? ⟨b6, 2, none⟩ = false := ⟨R62.out.free 0, R62.out.free 1, R62.out.free 2⟩
    clear hb x0 x1 x2 y0 y1 y2 u0
    obtain ⟨k, a1, n1, d1, a2, n2, d2, hI⟩ : ∃ k a1 n1 d1 a2 n2 d2, itemV (asofL (vsOf D.all key).vs o.start) = #[.int .u64 k, .slice a1 n1 d1, .slice a2 n2 d2] := by
      cases asofL (vsOf D.all key).vs o.start with
      | none => exact ⟨_, _, _, _, _, _, _, rfl⟩
      | some x => exact ⟨_, _, _, _, _, _, _, rfl⟩
    have HII := Lib.hid hI
    have N : Hid (Below w.heap.size w (((w2.setCell ⟨b6, 0, none⟩ (.int .u64 k)).setCell ⟨b6, 1, none⟩ (.slice a1 n1 d1)).setCell ⟨b6, 2, none⟩ (.slice a2 n2 d2)) ∧ Row (((w2.setCell ⟨b6, 0, none⟩ (.int .u64 k)).setCell ⟨b6, 1, none⟩ (.slice a1 n1 d1)).setCell ⟨b6, 2, none⟩ (.slice a2 n2 d2)) b6 (itemV (asofL (vsOf D.all key).vs o.start)) tIt) := Lib.hid (by
      have K2 : Only [] w w2 := K1.out.below HB.out
      have K4 : Only [b6] w2 (((w2.setCell ⟨b6, 0, none⟩ (.int .u64 k)).setCell ⟨b6, 1, none⟩ (.slice a1 n1 d1)).setCell ⟨b6, 2, none⟩ (.slice a2 n2 d2)) := (((Only.refl [b6] w2).setCell (.inl (by simp)) _).setCell (.inl (by simp)) _).setCell (.inl (by simp)) _
      have h6 := ((R62.out.set 0 (.int .u64 k)).set 1 (.slice a1 n1 d1)).set 2 (.slice a2 n2 d2)
      refine ⟨?_, ?_⟩
      · exact (K2.trans K4 (fun i hi => by simp at hi; subst hi; exact .inr (by have := E6.out; omega))).toBelow (Nat.le_refl _) (by simp)
      · rw [HII.out]
        simpa [itemV] using h6)
    rw [hI]
    go_wp2_with fail
    refine bodyPost_ret (results_item_tmp rfl _ _ b6 (itemV (asofL (vsOf D.all key).vs o.start)) (itemV_size _) rfl N.out.2) rfl ?_
    rw [SR.out]
    exact ⟨rfl, N.out.1⟩
end Go.Proofs.YtmbmkfhdiljalaaGreat

/- Plain: Get. -/
namespace Go.Proofs.YtmbmkfhdiljalaaGreat
open Go.RowKit Go.Shelf
set_option linter.unusedVariables false
set_option linter.unusedSimpArgs false

theorem lkV_mem {l : List (Int × Ver)} {key : Int} {v : Ver} (h : lkV l key = some v) : ∃ y ∈ l, y.2 = v := by
  unfold lkV at h
  rw [Option.map_eq_some_iff] at h
  obtain ⟨y, hy, rfl⟩ := h
  exact ⟨y, List.mem_of_find?_eq_some hy, rfl⟩
theorem asofL_mem {l : List Ver} {at_ : Int} {v : Ver} (h : asofL l at_ = some v) : v ∈ l := by
  have := List.mem_of_find?_eq_some h
  simpa using this
theorem seesR_at {w : World} {B p ba bo : Nat} {D : PDB} (h : DbAt w B p ba bo D) {o : PTx} (ho : o ∈ D.op) {key : Int} {v : Ver} (hv : seesR D o key = some v) : VerAt w v := by
  unfold seesR at hv
  cases hl : lkV o.wr key with
  | some u =>
    rw [hl] at hv
    simp only [Option.some.injEq] at hv
    subst hv
    obtain ⟨y, hy, rfl⟩ := lkV_mem hl
    exact h.wrd o ho y hy
  | none =>
    rw [hl] at hv
    simp only at hv
    exact (vsOf_at h key).each v (asofL_mem hv)
def GetTo (r : Option Ver) (w : World) (e : Ending) (w' : World) : Prop := match r with
  | some v => if v.gone then e = .returned (.tuple #[.agg (itemV none), .int .i64 7]) ∧ Below w.heap.size w w'
    else ∃ va ta : Sl, e = .returned (.tuple #[.agg #[.int .u64 v.key, va.v, ta.v], .int .i64 0]) ∧ va.xs = v.vec.xs ∧ ta.xs = v.tag.xs ∧ SlAt .i32 w' va ∧ SlAt .u8 w' ta ∧ (∀ b ∈ va.bs ++ ta.bs, w.heap.size ≤ b) ∧ Below w.heap.size w w'
  | none => e = .returned (.tuple #[.agg (itemV none), .int .i64 7]) ∧ Below w.heap.size w w'
set_option maxRecDepth 100000 in
set_option maxHeartbeats 4000000 in
theorem get_on {w : World} {B p ba bo : Nat} {D : PDB} (h : DbAt w B p ba bo D) {n key : Int} {o : PTx} (ho : findP n D.op = some o) (hl : (vsOf D.all key).vs.length ≤ 1000000) :
    Calls Tryz.prog 20 #[.pointer (some ⟨p, 0, none⟩), .int .u64 n, .int .u64 key] w (GetTo (seesR D o key) w) := by
  obtain ⟨hom, rfl⟩ := findP_some ho
  have H := Lib.hid h
  have FI : Hid (∀ y, Only [] w y → Calls Tryz.prog 40 #[.pointer (some ⟨p, 0, none⟩), .int .u64 o.n] y fun e w' => e = .returned (.tuple #[.pointer (some ⟨o.bt, 0, none⟩), .int .i64 0]) ∧ w' = y) := Lib.hid fun y k => find_yes (h.only k (by simp)) ho
  have SE : Hid (∀ y, Only [] w y → Calls Tryz.prog 49 #[.pointer (some ⟨p, 0, none⟩), .pointer (some ⟨o.bt, 0, none⟩), .int .u64 key] y (AsOfTo (seesR D o key) y)) := Lib.hid fun y k => sees_on (h.only k (by simp)) hom key hl
  have SV : Hid (∀ v, seesR D o key = some v → VerAt w v) := Lib.hid fun v hv => seesR_at h hom hv
  clear h ho hl
  generalize seesR D o key = r at *
  go_enter Tryz.func20, Tryz.ntmps20
  go_wp2_with fail
  have R6 : Hid (Row (w.alloc (.cells #[.int .u64 0, .slice none 0 0, .slice none 0 0] tIt)) w.heap.size (itemV none) tIt) := Lib.hid (Row.made w _ _)
  have K1 : Hid (Only [] w (w.alloc (.cells #[.int .u64 0, .slice none 0 0, .slice none 0 0] tIt))) := Lib.hid ((Only.refl [] w).alloc _)
  generalize w.alloc (.cells #[.int .u64 0, .slice none 0 0, .slice none 0 0] tIt) = w1 at *
  refine (FI.out _ K1.out).mono ?_
  rintro _ w2 ⟨rfl, hw⟩
  subst w2
  go_wp2_with fail
  refine (SE.out _ K1.out).mono ?_
  rintro _ w2 ⟨rfl, hb⟩
  have K2 : Hid (Only [] w w2) := Lib.hid (K1.out.below hb)
  have R62 := Lib.hid (R6.out.only ((Only.refl [] w1).below hb) (by simp))
  clear hb SE FI R6 K1
  have no : okV r = false → GetTo r w (.returned (.tuple #[.agg (itemV none), .int .i64 7])) = GetTo none w (.returned (.tuple #[.agg (itemV none), .int .i64 7])) := by
    intro h
    cases r with
    | none => rfl
    | some v =>
      have hg : v.gone = true := by simpa [okV] using h
      funext w'
      simp [GetTo, hg]
  have NO := Lib.hid no
  clear no
  obtain ⟨b6, hb6⟩ : ∃ b6, w.heap.size = b6 := ⟨_, rfl⟩
  have E6 := Lib.hid hb6
  rw [hb6] at R62 ⊢
  clear hb6
  obtain ⟨k, a1, n1, d1, a2, n2, d2, hI⟩ : ∃ k a1 n1 d1 a2 n2 d2, itemV r = #[.int .u64 k, .slice a1 n1 d1, .slice a2 n2 d2] := by
    cases r with
    | none => exact ⟨_, _, _, _, _, _, _, rfl⟩
    | some x => exact ⟨_, _, _, _, _, _, _, rfl⟩
  have HII := Lib.hid hI
  rw [hI]
  clear hI
  have K3 : Hid (Only [] w (w2.alloc (.cells #[.int .u64 k, .slice a1 n1 d1, .slice a2 n2 d2] tIt))) := Lib.hid (K2.out.alloc _)
  have RX : Hid (Row (w2.alloc (.cells #[.int .u64 k, .slice a1 n1 d1, .slice a2 n2 d2] tIt)) b6 (itemV none) tIt) := Lib.hid (R62.out.only ((Only.refl [] w2).alloc _) (by simp))
  have RY : Hid (Row (w2.alloc (.cells #[.int .u64 k, .slice a1 n1 d1, .slice a2 n2 d2] tIt)) w2.heap.size #[.int .u64 k, .slice a1 n1 d1, .slice a2 n2 d2] tIt) := Lib.hid (Row.made _ _ _)
  have ⟨x0, x1, x2⟩ : (w2.alloc (.cells #[.int .u64 k, .slice a1 n1 d1, .slice a2 n2 d2] tIt)).cell? ⟨b6, 0, none⟩ = some (.int .u64 0) ∧ (w2.alloc (.cells #[.int .u64 k, .slice a1 n1 d1, .slice a2 n2 d2] tIt)).cell? ⟨b6, 1, none⟩ = some (.slice none 0 0) ∧ (w2.alloc (.cells #[.int .u64 k, .slice a1 n1 d1, .slice a2 n2 d2] tIt)).cell? ⟨b6, 2, none⟩ = some (.slice none 0 0) := ⟨RX.out.cell 0, RX.out.cell 1, RX.out.cell 2⟩
  have ⟨y0, y1, y2⟩ : (w2.alloc (.cells #[.int .u64 k, .slice a1 n1 d1, .slice a2 n2 d2] tIt)).frozen? ⟨b6, 0, none⟩ = false ∧ (w2.alloc (.cells #[.int .u64 k, .slice a1 n1 d1, .slice a2 n2 d2] tIt)).frozen? ⟨b6, 1, none⟩ = false ∧ (w2.alloc (.cells #[.int .u64 k, .slice a1 n1 d1, .slice a2 n2 d2] tIt)).frozen? ⟨b6, 2, none⟩ = false := ⟨RX.out.free 0, RX.out.free 1, RX.out.free 2⟩
  cases ho : okV r with
  | false =>
    have HO := Lib.hid ho
    clear ho
    go_upto_region 5 with fail
    generalize w2.alloc (.cells #[.int .u64 k, .slice a1 n1 d1, .slice a2 n2 d2] tIt) = w3 at *
    have N : Hid (Below w.heap.size w (((w3.setCell ⟨b6, 0, none⟩ (.int .u64 0)).setCell ⟨b6, 1, none⟩ (.slice none 0 0)).setCell ⟨b6, 2, none⟩ (.slice none 0 0)) ∧ Row (((w3.setCell ⟨b6, 0, none⟩ (.int .u64 0)).setCell ⟨b6, 1, none⟩ (.slice none 0 0)).setCell ⟨b6, 2, none⟩ (.slice none 0 0)) b6 (itemV none) tIt) := Lib.hid (by
      have K4 : Only [b6] w3 (((w3.setCell ⟨b6, 0, none⟩ (.int .u64 0)).setCell ⟨b6, 1, none⟩ (.slice none 0 0)).setCell ⟨b6, 2, none⟩ (.slice none 0 0)) := (((Only.refl [b6] w3).setCell (.inl (by simp)) _).setCell (.inl (by simp)) _).setCell (.inl (by simp)) _
      have h6 := ((RX.out.set 0 (.int .u64 0)).set 1 (.slice none 0 0)).set 2 (.slice none 0 0)
      exact ⟨(K3.out.trans K4 (fun i hi => by simp at hi; subst hi; exact .inr (by have := E6.out; omega))).toBelow (Nat.le_refl _) (by simp), by simpa [itemV] using h6⟩)
    go_wp2_with fail
    refine bodyPost_ret (results_item_tmp rfl _ _ b6 (itemV none) rfl rfl N.out.2) rfl ?_
    show GetTo r w (.returned (.tuple #[.agg (itemV none), .int .i64 7])) _
    rw [NO.out HO.out]
    exact ⟨rfl, N.out.1⟩
  | true =>
    obtain ⟨v, rfl, hg⟩ : ∃ v, r = some v ∧ v.gone = false := by
      cases r with
      | none => simp [okV] at ho
      | some v => exact ⟨v, rfl, by simpa [okV] using ho⟩
    have HG := Lib.hid hg
    have OW : Hid (∀ y, Only [] w y → Calls Tryz.prog 42 #[.agg #[.int .u64 k, .slice a1 n1 d1, .slice a2 n2 d2]] y (OwnTo v.key v.vec.xs v.tag.xs y)) := Lib.hid fun y ky => by
      rw [← HII.out]
      exact own_on ((SV.out v rfl).vec.only ky (by simp)) ((SV.out v rfl).tag.only ky (by simp))
    clear ho hg
    go_upto_region 5 with fail
    obtain ⟨b8, hb8⟩ : ∃ b8, w2.heap.size = b8 := ⟨_, rfl⟩
    rw [hb8] at RY ⊢
    clear hb8
    generalize w2.alloc (.cells #[.int .u64 k, .slice a1 n1 d1, .slice a2 n2 d2] tIt) = w3 at *
    have ⟨z0, z1, z2⟩ : w3.cell? ⟨b8, 0, none⟩ = some (.int .u64 k) ∧ w3.cell? ⟨b8, 1, none⟩ = some (.slice a1 n1 d1) ∧ w3.cell? ⟨b8, 2, none⟩ = some (.slice a2 n2 d2) := ⟨RY.out.cell 0, RY.out.cell 1, RY.out.cell 2⟩
    go_wp2_with fail
    refine (OW.out _ K3.out).mono ?_
    rintro _ w4 ⟨va, ta, rfl, hx1, hx2, hs1, hs2, hge, hb⟩
    have HB := Lib.hid hb
    have R64 := Lib.hid (RX.out.only ((Only.refl [] w3).below hb) (by simp))
    clear x0 x1 x2 y0 y1 y2 z0 z1 z2
    have HX : Hid (va.xs = v.vec.xs ∧ ta.xs = v.tag.xs ∧ SlAt .i32 w4 va ∧ SlAt .u8 w4 ta ∧ (∀ b ∈ va.bs ++ ta.bs, w3.heap.size ≤ b)) := Lib.hid ⟨hx1, hx2, hs1, hs2, hge⟩
    clear hx1 hx2 hs1 hs2 hge hb
    have ⟨c0, c1, c2⟩ : w4.cell? ⟨b6, 0, none⟩ = some (.int .u64 0) ∧ w4.cell? ⟨b6, 1, none⟩ = some (.slice none 0 0) ∧ w4.cell? ⟨b6, 2, none⟩ = some (.slice none 0 0) := ⟨R64.out.cell 0, R64.out.cell 1, R64.out.cell 2⟩
    have ⟨f0, f1, f2⟩ : w4.frozen? ⟨b6, 0, none⟩ = false ∧ w4.frozen? ⟨b6, 1, none⟩ = false ∧ w4.frozen? ⟨b6, 2, none⟩ = false := ⟨R64.out.free 0, R64.out.free 1, R64.out.free 2⟩
    have N : Hid (GetTo (some v) w (.returned (.tuple #[.agg #[.int .u64 v.key, va.v, ta.v], .int .i64 0])) (((w4.setCell ⟨b6, 0, none⟩ (.int .u64 v.key)).setCell ⟨b6, 1, none⟩ va.v).setCell ⟨b6, 2, none⟩ ta.v) ∧ Row (((w4.setCell ⟨b6, 0, none⟩ (.int .u64 v.key)).setCell ⟨b6, 1, none⟩ va.v).setCell ⟨b6, 2, none⟩ ta.v) b6 #[.int .u64 v.key, va.v, ta.v] tIt) := Lib.hid (by
      have K4 : Only [b6] w4 (((w4.setCell ⟨b6, 0, none⟩ (.int .u64 v.key)).setCell ⟨b6, 1, none⟩ va.v).setCell ⟨b6, 2, none⟩ ta.v) := (((Only.refl [b6] w4).setCell (.inl (by simp)) _).setCell (.inl (by simp)) _).setCell (.inl (by simp)) _
      have h6 := ((R64.out.set 0 (.int .u64 v.key)).set 1 va.v).set 2 ta.v
      have hx := HX.out
      have e6 := E6.out
      have l6 := RX.out.lt
      have s3 := K3.out.size
      refine ⟨?_, by simpa [itemV] using h6⟩
      simp only [GetTo]
      rw [HG.out]
      simp only [Bool.false_eq_true, if_false]
      refine ⟨va, ta, rfl, hx.1, hx.2.1, hx.2.2.1.only K4 ?_, hx.2.2.2.1.only K4 ?_, fun b hb => by have := hx.2.2.2.2 b hb; omega, ((K3.out.below HB.out).trans K4 (fun i hi => by simp at hi; subst hi; exact .inr (by omega))).toBelow (Nat.le_refl _) (by simp)⟩
      · intro b hb hm
        simp at hm
        have := hx.2.2.2.2 b (List.mem_append_left _ hb)
        omega
      · intro b hb hm
        simp at hm
        have := hx.2.2.2.2 b (List.mem_append_right _ hb)
        omega)
    unfold Sl.v at N ⊢
    go_wp2_with fail
    refine bodyPost_ret (results_item_tmp rfl _ _ b6 #[.int .u64 v.key, .slice va.a va.xs.length va.c, .slice ta.a ta.xs.length ta.c] rfl rfl N.out.2) rfl ?_
    exact N.out.1
end Go.Proofs.YtmbmkfhdiljalaaGreat

/- Plain: a transaction shut, a version laid; Abort. -/
namespace Go.Proofs.YtmbmkfhdiljalaaGreat
open Go.RowKit Go.Shelf
set_option linter.unusedVariables false
set_option linter.unusedSimpArgs false

def shutP (D : PDB) (n : Int) : PDB := { D with op := D.op.filter fun o => !decide (o.n = n) }
theorem rm_pxL (n : Int) (l : List PTx) : rm n (pxL l) = pxL (l.filter fun o => !decide (o.n = n)) := by
  unfold rm pxL
  rw [List.filter_map]
  rfl
theorem DbAt.shut {w w' : World} {B p ba bo : Nat} {D : PDB} (h : DbAt w B p ba bo D) (n : Int) (k : Only [bo] w w') (hm : MapAt w' bo .u64 (rm n (pxL D.op))) :
    DbAt w' B p ba bo (shutP D n) ∧ (∀ b ∈ (shutP D n).own p ba bo, b ∈ D.own p ba bo) ∧ (∀ b ∈ (shutP D n).reads, b ∈ D.reads) := by
  obtain ⟨a1, a2, a3, a4⟩ := own_apart h.nd
  have hbo : bo ∈ D.own p ba bo := by simp [PDB.own]
  have k1 : ∀ b, b ∈ D.reads → b ∉ [bo] := fun b hb => by simp; rintro rfl; exact h.ap _ hbo hb
  have hsub : List.Sublist (shutP D n).op D.op := List.filter_sublist
  have hpx : List.Sublist (pxB (shutP D n).op) (pxB D.op) := by
    unfold pxB shutP
    simp only
    generalize D.op = l
    induction l with
    | nil => simp
    | cons x l ih =>
      rw [List.filter_cons]
      split
      · simp only [List.flatMap_cons]
        exact List.Sublist.append (List.Sublist.refl _) ih
      · simp only [List.flatMap_cons]
        exact ih.trans (List.sublist_append_right _ _)
  have hown : List.Sublist ((shutP D n).own p ba bo) (D.own p ba bo) := by
    unfold PDB.own
    exact ((hpx.cons_cons _).cons_cons _).cons_cons _
  have hrd : ∀ b ∈ (shutP D n).reads, b ∈ D.reads := by
    intro b hb
    rcases List.mem_append.1 hb with hb | hb
    · exact List.mem_append_left _ hb
    · obtain ⟨x, hx, hb⟩ := List.mem_flatMap.1 hb
      exact List.mem_append_right _ (List.mem_flatMap.2 ⟨x, hsub.subset hx, hb⟩)
  refine ⟨⟨h.row.only k (by simp; exact a2), h.am.only k (by simp; exact a3), by unfold shutP; simp only; rw [← rm_pxL]; exact hm, ?_, ?_, ?_, h.nd.sublist hown, fun b hb => h.ge b (hown.subset hb), fun b hb => h.gr b (hrd b hb), fun b hb hr => h.ap b (hown.subset hb) (hrd b hr), ⟨h.fine.dim, h.fine.begun, h.fine.last, fun o ho => h.fine.ops o (hsub.subset ho)⟩⟩, fun b hb => hown.subset hb, hrd⟩
  · intro x hx
    have hx := hsub.subset hx
    exact ⟨(h.oa x hx).1.only k (by simp; exact (a4 _ (mem_pxB hx).1).2.2), (h.oa x hx).2.only k (by simp; exact (a4 _ (mem_pxB hx).2).2.2)⟩
  · exact fun x (hx : x ∈ D.all) => (h.vsd x hx).only k fun b hb => k1 b (mem_reads1 hx hb)
  · intro x hx y hy
    have hx := hsub.subset hx
    exact (h.wrd x hx y hy).only k fun b hb => k1 b (mem_reads2 hx hy hb)
def upS (k : Int) (V : Vs) : List (Int × Vs) → List (Int × Vs)
  | [] => [(k, V)]
  | x :: l => if k = x.1 then (k, V) :: l else x :: upS k V l
theorem up_vsL (k : Int) (V : Vs) : ∀ l, up k V.v (vsL l) = vsL (upS k V l)
  | [] => rfl
  | x :: l => by
    have ih := up_vsL k V l
    unfold vsL at ih ⊢
    simp only [List.map_cons, up, upS]
    by_cases h : k = x.1
    · rw [if_pos h, if_pos h]; simp [h]
    · rw [if_neg h, if_neg h, ih]; rfl
theorem mem_upS {k : Int} {V : Vs} {y : Int × Vs} : ∀ {l}, y ∈ upS k V l → y = (k, V) ∨ y ∈ l
  | [], h => .inl (by simpa [upS] using h)
  | x :: l, h => by
    unfold upS at h
    split at h
    · rcases List.mem_cons.1 h with h | h
      · exact .inl h
      · exact .inr (List.mem_cons_of_mem _ h)
    · rcases List.mem_cons.1 h with h | h
      · exact .inr (by rw [h]; exact List.mem_cons_self ..)
      · rcases mem_upS h with h | h
        · exact .inl h
        · exact .inr (List.mem_cons_of_mem _ h)
theorem vsOf_cons (x : Int × Vs) (l : List (Int × Vs)) (j : Int) : vsOf (x :: l) j = if x.1 = j then x.2 else vsOf l j := by
  unfold vsOf
  rw [List.find?_cons]
  by_cases h : x.1 = j <;> simp [h]
theorem vsOf_up (k : Int) (V : Vs) (j : Int) : ∀ l, vsOf (upS k V l) j = if j = k then V else vsOf l j
  | [] => by
    unfold upS
    rw [vsOf_cons]
    by_cases h : j = k
    · simp [h]
    · rw [if_neg (fun e => h e.symm), if_neg h]
  | x :: l => by
    have ih := vsOf_up k V j l
    unfold upS
    by_cases hk : k = x.1
    · rw [if_pos hk, vsOf_cons, vsOf_cons]
      by_cases h : j = k
      · simp [h]
      · rw [if_neg h, if_neg (fun e => h e.symm), if_neg (fun e => h (by rw [hk, e]))]
    · rw [if_neg hk, vsOf_cons, vsOf_cons, ih]
      by_cases h : j = k
      · subst h
        rw [if_neg (fun e => hk e.symm), if_pos rfl, if_pos rfl]
      · rw [if_neg h, if_neg h]
def laidP (D : PDB) (k : Int) (V : Vs) : PDB := { D with all := upS k V D.all }
theorem DbAt.laid {w w' : World} {B p ba bo : Nat} {D : PDB} {key : Int} {V : Vs} (h : DbAt w B p ba bo D) (k : Only [ba] w w') (hm : MapAt w' ba .u64 (up key V.v (vsL D.all))) (hv : VsAt w' V) (hB : ∀ b ∈ V.bs, B ≤ b) (hap : ∀ b ∈ V.bs, b ∉ D.own p ba bo) :
    DbAt w' B p ba bo (laidP D key V) ∧ ∀ b ∈ (laidP D key V).reads, b ∈ D.reads ∨ b ∈ V.bs := by
  obtain ⟨a1, a2, a3, a4⟩ := own_apart h.nd
  have hba : ba ∈ D.own p ba bo := by simp [PDB.own]
  have k1 : ∀ b, b ∈ D.reads → b ∉ [ba] := fun b hb => by simp; rintro rfl; exact h.ap _ hba hb
  have hrd : ∀ b ∈ (laidP D key V).reads, b ∈ D.reads ∨ b ∈ V.bs := by
    intro b hb
    rcases List.mem_append.1 hb with hb | hb
    · obtain ⟨x, hx, hb⟩ := List.mem_flatMap.1 hb
      rcases mem_upS hx with rfl | hx
      · exact .inr hb
      · exact .inl (mem_reads1 hx hb)
    · exact .inl (List.mem_append_right _ hb)
  refine ⟨⟨h.row.only k (by simp; exact a1), by rw [up_vsL] at hm; exact hm, h.om.only k (by simp; exact fun e => a3 e.symm), ?_, ?_, ?_, h.nd, h.ge, ?_, ?_, ⟨h.fine.dim, h.fine.begun, h.fine.last, h.fine.ops⟩⟩, hrd⟩
  · intro x hx
    exact ⟨(h.oa x hx).1.only k (by simp; exact (a4 _ (mem_pxB hx).1).2.1), (h.oa x hx).2.only k (by simp; exact (a4 _ (mem_pxB hx).2).2.1)⟩
  · intro x hx
    rcases mem_upS hx with rfl | hx
    · exact hv
    · exact (h.vsd x hx).only k fun b hb => k1 b (mem_reads1 hx hb)
  · exact fun x (hx : x ∈ D.op) y hy => (h.wrd x hx y hy).only k fun b hb => k1 b (mem_reads2 hx hy hb)
  · intro b hb
    rcases hrd b hb with hb | hb
    · exact h.gr b hb
    · exact hB b hb
  · intro b hb hr
    rcases hrd b hr with hr | hr
    · exact h.ap b hb hr
    · exact hap b hr hb
end Go.Proofs.YtmbmkfhdiljalaaGreat
