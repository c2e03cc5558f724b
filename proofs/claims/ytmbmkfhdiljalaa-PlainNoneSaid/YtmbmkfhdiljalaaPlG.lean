/- Plain: asOf. -/
import Derived.Test.YtmbmkfhdiljalaaPlF
import Derived.Sort.CutIn
namespace Go.Proofs.Ytmbmkfhdiljalaa
open Go.RowKit Go.Shelf
set_option linter.unusedVariables false
set_option linter.unusedSimpArgs false
attribute [local go_sem] Oper.semAt_some

theorem wpListIn_look_to {F : Fence} {nF : Nat} {P : Program} (w : World) {ops : Array Oper} {rest : List Oper} {o : Oper} {a : Act} {Q : Exit → Act → World → Prop} (hg : o.guard = none) (m x : Operand) (t : TypeId) (hop : o.op = Op.lookup t m x false) (kt et : TypeId) (q : IntKind) (ht : P.underlying t = some (.map kt et)) (hk : P.underlying kt = some (.int q)) (z : Value) (hz : ∀ w, (zeroValue et).run P w = .ok z w)
    (b : Nat) (L : List (Int × Value)) (hm : a.eval m = .map (some b)) (hown : MapAt w b q L) (key : Int) (hx : a.eval x = .int q key) (val : Value) (hv : (lk key L).getD z = val)
    (hK : wpListIn F nF P ops Q rest (a.put o.dst val) w) : wpListIn F nF P ops Q (o :: rest) a w :=
  wpListIn_look_at w hg m x t false hop kt et q ht hk z hz b L hm hown key hx (by rw [if_neg (by simp), hv]; exact hK)
theorem KeepsOthers.of_only {G : List Nat} {W W' : World} (h : Only G W W') (hG : ∀ b ∈ G, ∀ o : Obj, W.heap[b]? = some o → o.isCells = true) : KeepsOthers W W' :=
  ⟨h.size, fun k o hk hc => (h.block k (Array.getElem?_eq_some_iff.1 hk).1 (fun hm => by have := hG k hm o hk; rw [this] at hc; cases hc)).trans hk⟩
theorem wpIn_calm {F : Fence} {n : Nat} {P : Program} {s : Code} {K : Act → World → Prop} {Q : Exit → Act → World → Prop} {a : Act} {w : World} (h : s.wpIn F n P (Exit.then K (fun _ _ _ => False)) a w) : s.wpIn F n P (Exit.then K Q) a w := by
  refine wpIn_mono h ?_
  intro e a' w' hq
  cases e with
  | normal => exact hq
  | exit id => exact hq.elim
  | goto l => exact hq.elim
  | ret => exact hq.elim
  | panic ch => exact hq.elim
  | outgrown => exact hq.elim
def itemV (r : Option Ver) : Array Value := match r with
  | some v => #[.int .u64 v.key, v.vec.v, v.tag.v]
  | none => #[.int .u64 0, .slice none 0 0, .slice none 0 0]
def okV (r : Option Ver) : Bool := match r with
  | some v => !v.gone
  | none => false
def asofL (vs : List Ver) (at_ : Int) : Option Ver := vs.reverse.find? fun v => decide (v.at_ ≤ at_)
def vsOf (l : List (Int × Vs)) (key : Int) : Vs := ((l.find? fun x => decide (x.1 = key)).map (·.2)).getD Vs.no
theorem lk_vsOf (l : List (Int × Vs)) (key : Int) : (lk key (vsL l)).getD (.slice none 0 0) = (vsOf l key).v := by
  unfold vsL vsOf
  rw [lk_map (fun x : Int × Vs => x.1) (fun x => x.2.v)]
  cases l.find? fun x => decide (x.1 = key) with
  | none => rfl
  | some x => rfl
theorem vsOf_at {w : World} {B p ba bo : Nat} {D : PDB} (h : DbAt w B p ba bo D) (key : Int) : VsAt w (vsOf D.all key) := by
  unfold vsOf
  cases hf : D.all.find? fun x => decide (x.1 = key) with
  | none => exact VsAt.no w
  | some x => exact h.vsd x (List.mem_of_find?_eq_some hf)
theorem run_loadVar_one {w : World} {k : Nat} {b : Value} (hk : Row w k #[b] 4) : (loadVar 4 ⟨k, 0, none⟩).run Try.prog w = .ok b w := by
  have hc : w.cell? ⟨k, 0, none⟩ = some b := hk.cell 0
  simp [loadVar, go_sem, hc]
theorem results_item2 {fn : Func} {p u : Tmp} (h : fn.results = #[.cell p tIt, .cell u 4]) (tmps : Array Value) (w : World) (g k : Nat) (R : Array Value) (b : Value) (hR : R.size = 3) (hp : tmps.getD p undef = .pointer (some ⟨g, 0, none⟩)) (hu : tmps.getD u undef = .pointer (some ⟨k, 0, none⟩)) (hg : Row w g R tIt) (hk : Row w k #[b] 4) : (results fn tmps).run Try.prog w = .ok (.tuple #[.agg R, b]) w := by
  have hp' : tmps[p]?.getD undef = .pointer (some ⟨g, 0, none⟩) := by simpa using hp
  have hu' : tmps[u]?.getD undef = .pointer (some ⟨k, 0, none⟩) := by simpa using hu
  have hc : w.cell? ⟨k, 0, none⟩ = some b := hk.cell 0
  simp only [results, h]
  simp [Sem.run_bind, hp', hu', asAddr, Result.andThen, run_loadVar_row w g _ _ _ _ _ hg Try.underlying35 rfl (by rw [show (Try.prog.info? tIt).map (·.size) = some 3 from by kernel_rfl, hR]), run_loadVar_one hk]
def AsOfTo (r : Option Ver) (w : World) (e : Ending) (w' : World) : Prop := e = .returned (.tuple #[.agg (itemV r), .bool (okV r)]) ∧ Below w.heap.size w w'
structure AsI (w W : World) (b4 b6 b7 : Nat) (at_ : Int) (R : Array Value) (b : Bool) : Prop where
  r4 : Row W b4 #[.int .u64 at_] 22
  r6 : Row W b6 R tIt
  r7 : Row W b7 #[.bool b] 4
  bl : Below w.heap.size w W
theorem AsI.of {w W W' : World} {b4 b6 b7 : Nat} {at_ : Int} {R : Array Value} {b : Bool} {row : Option Nat} (h : AsI w W b4 b6 b7 at_ R b) (hg : W.grownBy W' row) (hr : ∀ r, row = some r → b4 < r ∧ b6 < r ∧ b7 < r ∧ w.heap.size ≤ r) : AsI w W' b4 b6 b7 at_ R b := by
  have e : ∀ c, (c = b4 ∨ c = b6 ∨ c = b7) → c < W.heap.size → W'.heap[c]? = W.heap[c]? := fun c hc hl => hg.block c hl (fun e => by have := hr c e.symm; omega)
  refine ⟨?_, ?_, ?_, h.bl.trans ?_⟩
  · have := h.r4
    unfold Row at this ⊢
    rw [e _ (.inl rfl) h.r4.lt]; exact this
  · have := h.r6
    unfold Row at this ⊢
    rw [e _ (.inr (.inl rfl)) h.r6.lt]; exact this
  · have := h.r7
    unfold Row at this ⊢
    rw [e _ (.inr (.inr rfl)) h.r7.lt]; exact this
  · exact (Below.refl _ _).grown hg h.bl.size (fun k hk => (hr k hk).2.2.2)
theorem AsI.own {w w2 : World} {b4 b6 b7 : Nat} {at_ : Int} (h : b4 < w2.heap.size ∧ b6 < w2.heap.size ∧ b7 < w2.heap.size ∧ w.heap.size = b4) : OwnFrom w2.heap.size (fun (pre : List (Nat × Ver)) W => AsI w W b4 b6 b7 at_ (itemV none) false ∧ Below w2.heap.size w2 W ∧ ∀ x ∈ pre, at_ < x.2.at_) := fun s W W' row hi hg hr =>
  ⟨hi.1.of hg (fun r hr' => by have := (hr r hr').1; omega), ownFrom_below (β := Unit) (Nat.le_refl _) (Nat.le_refl _) () W W' row hi.2.1 hg hr, hi.2.2⟩
theorem AsI.ownX {w w2 : World} {b4 b6 b7 : Nat} {at_ : Int} (h : b4 < w2.heap.size ∧ b6 < w2.heap.size ∧ b7 < w2.heap.size ∧ w.heap.size = b4) (c : Code) : OwnFrom w2.heap.size (fun (pre : List (Nat × Ver)) W => c = .ret ∧ ∃ pre' x, pre = pre' ++ [x] ∧ (∀ y ∈ pre', at_ < y.2.at_) ∧ x.2.at_ ≤ at_ ∧ AsI w W b4 b6 b7 at_ (itemV (some x.2)) (!x.2.gone)) := fun s W W' row hi hg hr => by
  obtain ⟨hc, pre', x, e, hp, hx, ha⟩ := hi
  exact ⟨hc, pre', x, e, hp, hx, ha.of hg (fun r hr' => by have := (hr r hr').1; omega)⟩
theorem AsI.ownA (B m : Nat) (x : Nat × Ver) (a' : Act) {f : Nat → Act} {L : Array Value} : OwnFrom B (fun (_ : Unit) W => ∃ g, m ≤ g ∧ Row W g L tVr ∧ a' = f g) := fun s W W' row hi hg hr => by
  obtain ⟨g, h0, h1, h2⟩ := hi
  refine ⟨g, h0, ?_, h2⟩
  have h3 : W'.heap[g]? = W.heap[g]? := hg.block g h1.lt (fun e => by
    obtain ⟨o, ho, hc⟩ := (hr g e.symm).2
    rw [show W.heap[g]? = _ from h1] at ho
    cases ho
    cases hc)
  unfold Row at h1 ⊢
  rw [h3]; exact h1
theorem asofL_none {vs : List Ver} {at_ : Int} {ys : List (Nat × Ver)} (h : ys.map (·.2) = vs.reverse) (hy : ∀ y ∈ ys, at_ < y.2.at_) : asofL vs at_ = none := by
  unfold asofL
  rw [← h, List.find?_eq_none]
  intro v hv
  obtain ⟨y, hm, rfl⟩ := List.mem_map.1 hv
  have := hy y hm
  simp
  omega
theorem asofL_some {vs : List Ver} {at_ : Int} {pre' : List (Nat × Ver)} {x : Nat × Ver} {k : Nat} (h : (pre' ++ [x]).map (·.2) = vs.reverse.take k) (hp : ∀ y ∈ pre', at_ < y.2.at_) (hx : x.2.at_ ≤ at_) : asofL vs at_ = some x.2 := by
  unfold asofL
  rw [← List.take_append_drop k vs.reverse, ← h, List.find?_append, List.map_append, List.find?_append]
  rw [List.find?_eq_none.2 (by
    intro v hv
    obtain ⟨y, hm, rfl⟩ := List.mem_map.1 hv
    have := hp y hm
    simp
    omega)]
  simp [hx]
set_option maxRecDepth 100000 in
set_option maxHeartbeats 4000000 in
theorem asof_on {w : World} {B p ba bo : Nat} {D : PDB} (h : DbAt w B p ba bo D) (at_ key : Int) (hl : (vsOf D.all key).vs.length ≤ 1000000) :
    Calls Try.prog 35 #[.pointer (some ⟨p, 0, none⟩), .int .u64 at_, .int .u64 key] w (AsOfTo (asofL (vsOf D.all key).vs at_) w) := by
  have hro : Fence.wide.round = none := rfl
  have HV := Lib.hid (vsOf_at h key)
  have H3 : Hid (∀ y, Only [] w y → y.cell? ⟨p, 3, none⟩ = some (.map (some ba)) ∧ MapAt y ba .u64 (vsL D.all)) := Lib.hid fun y k => ⟨(h.row.only k (by simp)).cell 3, h.am.only k (by simp)⟩
  have LK := Lib.hid (lk_vsOf D.all key)
  have HL := Lib.hid hl
  generalize vsOf D.all key = V at *
  generalize vsL D.all = L at *
  clear h hl
  refine callsIn_wide (n := 5) |>.1 ?_
  refine callsIn_of_wp_marks Try.func35 rfl trivial ?_ hro
  simp only [Try.ntmps35, List.size_toArray, List.length_cons, List.length_nil, Nat.reduceAdd, Nat.reduceSub, Array.replicate_succ, Array.replicate_zero, List.push_toArray, List.append_toArray, List.nil_append, List.cons_append]
  gi_upto_region 1 with fail
  have A1 : Hid (AsI w (((w.alloc (.cells #[.int .u64 at_] 22)).alloc (.cells #[.int .u64 0, .slice none 0 0, .slice none 0 0] tIt)).alloc (.cells #[.bool false] 4)) w.heap.size (w.heap.size + 1) (w.heap.size + 1 + 1) at_ (itemV none) false) := Lib.hid (by
    have h2 := Row.made (w.alloc (.cells #[.int .u64 at_] 22)) #[.int .u64 0, .slice none 0 0, .slice none 0 0] tIt
    rw [World.size_alloc] at h2
    have h3 := Row.made ((w.alloc (.cells #[.int .u64 at_] 22)).alloc (.cells #[.int .u64 0, .slice none 0 0, .slice none 0 0] tIt)) #[.bool false] 4
    rw [World.size_alloc, World.size_alloc] at h3
    exact ⟨((Row.made w _ _).only ((Only.refl [] _).alloc _) (by simp)).only ((Only.refl [] _).alloc _) (by simp), h2.only ((Only.refl [] _).alloc _) (by simp), h3, ((((Below.refl _ _).alloc (Nat.le_refl _) _).alloc (by simp) _).alloc (by simp; omega) _)⟩)
  have K1 : Hid (Only [] w (((w.alloc (.cells #[.int .u64 at_] 22)).alloc (.cells #[.int .u64 0, .slice none 0 0, .slice none 0 0] tIt)).alloc (.cells #[.bool false] 4))) := Lib.hid ((((Only.refl [] w).alloc _).alloc _).alloc _)
  generalize ((w.alloc (.cells #[.int .u64 at_] 22)).alloc (.cells #[.int .u64 0, .slice none 0 0, .slice none 0 0] tIt)).alloc (.cells #[.bool false] 4) = w1 at *
  obtain ⟨c3, m3⟩ := H3.out w1 K1.out
  have M3 := Lib.hid m3
  have V1 := Lib.hid (HV.out.only K1.out (by simp))
  clear m3
  gi_wp2_with (gi_at_lookup; refine wpListIn_look_to _ rfl (.tmp 13) (.tmp 14) tMvs rfl 22 tVrs .u64 Try.underlying23 Try.underlying22 _ zeroVs ba L rfl M3.out key rfl _ LK.out ?_)
  refine ⟨trivial, (callsIn_wide.2 (back_any V w1)).mono ?_⟩
  rintro _ w2 ⟨rfl, hw⟩
  have R2 : Hid (Row w2 w1.heap.size #[V.v] tVrs) := Lib.hid (by rw [hw]; exact Row.made w1 _ _)
  have K2 : Hid (Only [] w1 w2) := Lib.hid (by rw [hw]; exact (Only.refl [] w1).alloc _)
  clear hw c3
  have V2 := Lib.hid (V1.out.only K2.out (by simp))
  have A2 : Hid (AsI w w2 w.heap.size (w.heap.size + 1) (w.heap.size + 1 + 1) at_ (itemV none) false) := Lib.hid ⟨A1.out.r4.only K2.out (by simp), A1.out.r6.only K2.out (by simp), A1.out.r7.only K2.out (by simp), A1.out.bl.trans (K2.out.toBelow A1.out.bl.size (by simp))⟩
  obtain ⟨Bm, hBm⟩ : ∃ Bm, w1.heap.size = Bm := ⟨_, rfl⟩
  rw [hBm] at R2
  rw [hBm]
  clear hBm
  gi_wp2_with fail
  obtain ⟨b4, hb4⟩ : ∃ b4, w.heap.size = b4 := ⟨_, rfl⟩
  have EQ : Hid (b4 < w2.heap.size ∧ b4 + 1 < w2.heap.size ∧ b4 + 1 + 1 < w2.heap.size ∧ w.heap.size = b4) := Lib.hid ⟨by rw [← hb4]; exact A2.out.r4.lt, by rw [← hb4]; exact A2.out.r6.lt, by rw [← hb4]; exact A2.out.r7.lt, hb4⟩
  rw [hb4] at A1 A2 ⊢
  obtain ⟨b6, hb6⟩ : ∃ b6, b4 + 1 = b6 := ⟨_, rfl⟩
  have E6 := Lib.hid hb6
  rw [hb6] at A1 A2 EQ ⊢
  obtain ⟨b7, hb7⟩ : ∃ b7, b6 + 1 = b7 := ⟨_, rfl⟩
  have E7 := Lib.hid hb7
  rw [hb7] at A1 A2 EQ ⊢
  clear hb4 hb6 hb7 A1 M3 V1 K1
  refine wpIn_rangeFunc_ownH hro (by omega) (gf := 61) (lb := #[.pointer (some ⟨Bm, 0, none⟩)]) rfl trivial (enters_of Try.func61 (by kernel_rfl) rfl)
    (back_stops 4 (by omega) Bm V w2 R2.out V2.out HL.out) Below.trans (fun W l o o' h1 h2 h3 h4 => belowK_b (w := w2) (Nat.le_refl _) W l o o' h1 h2 h3 h4) (Below.refl _ _) (fun _ => rfl)
    (fun pre W => AsI w W b4 b6 b7 at_ (itemV none) false ∧ Below w2.heap.size w2 W ∧ ∀ x ∈ pre, at_ < x.2.at_)
    (fun c pre W => c = .ret ∧ ∃ pre' x, pre = pre' ++ [x] ∧ (∀ y ∈ pre', at_ < y.2.at_) ∧ x.2.at_ ≤ at_ ∧ AsI w W b4 b6 b7 at_ (itemV (some x.2)) (!x.2.gone))
    (AsI.own EQ.out) (fun c => AsI.ownX EQ.out c)
    ⟨A2.out, Below.refl _ _, by simp⟩
    (fun x a' W => ∃ g, w2.heap.size ≤ g ∧ Row W g #[.int .u64 x.2.at_, .bool x.2.gone, .int .u64 x.2.key, x.2.vec.v, x.2.tag.v] tVr ∧ a' = { tmps := #[.pointer (some ⟨p, 0, none⟩), .int .u64 at_, .int .u64 key, undef, .pointer (some ⟨b4, 0, none⟩), undef, .pointer (some ⟨b6, 0, none⟩), .pointer (some ⟨b7, 0, none⟩), undef, .pointer (some ⟨g, 0, none⟩), .pointer (some ⟨p, 0, none⟩), .pointer (some ⟨p, 0, none⟩), .pointer (some ⟨p, 3, none⟩), .map (some ba), .int .u64 key, V.v, .func (.func 61) #[] #[.pointer (some ⟨Bm, 0, none⟩)], .int .i64 (x.1 : Int), x.2.val, undef, undef, undef, undef, undef, undef, undef, undef, undef, undef], defers := [] })
    (fun x a' => AsI.ownA _ _ x a') ?assign ?body ?done ?stop
  case assign =>
    intro l pre x W K hI hK
    have HI := Lib.hid hI
    have HK := Lib.hid hK
    clear hI hK
    simp only [encV]
    unfold Ver.val Sl.v
    gi_wp2_with fail
    have G := World.grownBy_alloc W (.cells #[.int .u64 x.2.at_, .bool x.2.gone, .int .u64 x.2.key, x.2.vec.v, x.2.tag.v] tVr) none
    refine HK.out _ _ ((KeepsOthers.alloc _ _).from _) ((Below.refl _ _).grown G HI.out.2.1.size (by simp)) ⟨HI.out.1.of G (by simp), HI.out.2.1.grown G HI.out.2.1.size (by simp), HI.out.2.2⟩ ⟨W.heap.size, HI.out.2.1.size, Row.made _ _ _, rfl⟩
  case body =>
    rintro l pre x a' W hl hr hI ⟨g, hgw, hg, rfl⟩ hlt
    have ⟨n1, n2, n3, n4, n5, n6⟩ : b6 ≠ b7 ∧ b7 ≠ b6 ∧ g ≠ b6 ∧ g ≠ b7 ∧ b6 ≠ g ∧ b7 ≠ g := by have := EQ.out; have := E7.out; omega
    have HGW := Lib.hid hgw
    clear hgw
    have HI := Lib.hid hI
    have HG := Lib.hid hg
    have g0 : W.cell? ⟨g, 0, none⟩ = some (.int .u64 x.2.at_) := hg.cell 0
    have g1 : W.cell? ⟨g, 1, none⟩ = some (.bool x.2.gone) := hg.cell 1
    have g2 : W.cell? ⟨g, 2, none⟩ = some (.int .u64 x.2.key) := hg.cell 2
    have g3 : W.cell? ⟨g, 3, none⟩ = some x.2.vec.v := hg.cell 3
    have g4 : W.cell? ⟨g, 4, none⟩ = some x.2.tag.v := hg.cell 4
    have a4 : W.cell? ⟨b4, 0, none⟩ = some (.int .u64 at_) := HI.out.1.r4.cell 0
    clear hI hg hr
    by_cases hle : x.2.at_ ≤ at_
    · have d1 : decide (x.2.at_ ≤ at_) = true := decide_eq_true hle
      have HLE := Lib.hid hle
      clear hle
      have ⟨x0, x1, x2, x3⟩ : W.cell? ⟨b6, 0, none⟩ = some (.int .u64 0) ∧ W.cell? ⟨b6, 1, none⟩ = some (.slice none 0 0) ∧ W.cell? ⟨b6, 2, none⟩ = some (.slice none 0 0) ∧ W.cell? ⟨b7, 0, none⟩ = some (.bool false) := ⟨HI.out.1.r6.cell 0, HI.out.1.r6.cell 1, HI.out.1.r6.cell 2, HI.out.1.r7.cell 0⟩
      have ⟨y0, y1, y2, y3⟩ : W.frozen? ⟨b6, 0, none⟩ = false ∧ W.frozen? ⟨b6, 1, none⟩ = false ∧ W.frozen? ⟨b6, 2, none⟩ = false ∧ W.frozen? ⟨b7, 0, none⟩ = false := ⟨HI.out.1.r6.free 0, HI.out.1.r6.free 1, HI.out.1.r6.free 2, HI.out.1.r7.free 0⟩
      have N : Hid (KeepsFrom w2.heap.size W ((((W.setCell ⟨b6, 0, none⟩ (.int .u64 x.2.key)).setCell ⟨b6, 1, none⟩ x.2.vec.v).setCell ⟨b6, 2, none⟩ x.2.tag.v).setCell ⟨b7, 0, none⟩ (.bool (!x.2.gone))).drew ∧ AsI w ((((W.setCell ⟨b6, 0, none⟩ (.int .u64 x.2.key)).setCell ⟨b6, 1, none⟩ x.2.vec.v).setCell ⟨b6, 2, none⟩ x.2.tag.v).setCell ⟨b7, 0, none⟩ (.bool (!x.2.gone))).drew b4 b6 b7 at_ (itemV (some x.2)) (!x.2.gone)) := Lib.hid (by
        have K4 : Only [b6] W (((W.setCell ⟨b6, 0, none⟩ (.int .u64 x.2.key)).setCell ⟨b6, 1, none⟩ x.2.vec.v).setCell ⟨b6, 2, none⟩ x.2.tag.v) := (((Only.refl [b6] W).setCell (.inl (by simp)) _).setCell (.inl (by simp)) _).setCell (.inl (by simp)) _
        have h6 := ((HI.out.1.r6.set 0 (.int .u64 x.2.key)).set 1 x.2.vec.v).set 2 x.2.tag.v
        have h7 := (HI.out.1.r7.only K4 (by simp; omega)).set 0 (.bool (!x.2.gone))
        have K5 : Only [b7] (((W.setCell ⟨b6, 0, none⟩ (.int .u64 x.2.key)).setCell ⟨b6, 1, none⟩ x.2.vec.v).setCell ⟨b6, 2, none⟩ x.2.tag.v) ((((W.setCell ⟨b6, 0, none⟩ (.int .u64 x.2.key)).setCell ⟨b6, 1, none⟩ x.2.vec.v).setCell ⟨b6, 2, none⟩ x.2.tag.v).setCell ⟨b7, 0, none⟩ (.bool (!x.2.gone))).drew := ((Only.refl [b7] _).setCell (.inl (by simp)) _).drew
        have KD : ∀ y : World, Only [] y y.drew := fun y => (Only.refl [] y).drew
        have e4 := EQ.out
        have e6 := E6.out
        have e7 := E7.out
        refine ⟨KeepsOthers.from ?_ _, (HI.out.1.r4.only K4 (by simp; omega)).only K5 (by simp; omega), ?_, ?_, ?_⟩
        · exact ((((KeepsOthers.setCell _ _ _).trans (KeepsOthers.setCell _ _ _)).trans (KeepsOthers.setCell _ _ _)).trans (KeepsOthers.setCell _ _ _)).trans (KeepsOthers.drew _)
        · exact (by simpa [itemV] using h6 : Row _ b6 (itemV (some x.2)) tIt).only K5 (by simp; omega)
        · exact (by simpa using h7 : Row _ b7 #[.bool (!x.2.gone)] 4).only (KD _) (by simp)
        · exact (HI.out.1.bl.trans (K4.toBelow HI.out.1.bl.size (by simp; omega))).trans (K5.toBelow (Nat.le_trans HI.out.1.bl.size K4.size) (by simp; omega)))
      unfold Sl.v at g3 g4 N
      gi_wp2_with fail
      gi_region
      all_goals
        gi_wp2_with fail
        exact ⟨N.out.1, rfl, _, x, rfl, HI.out.2.2, HLE.out, N.out.2⟩
    · have d1 : decide (x.2.at_ ≤ at_) = false := decide_eq_false hle
      have HLE := Lib.hid hle
      clear hle
      gi_wp2_with fail
      refine ⟨KeepsFrom.refl _ _, Below.refl _ _, HI.out.1, HI.out.2.1, ?_⟩
      have hy : ∀ y ∈ pre ++ [x], at_ < y.2.at_ := by
        intro y hy
        rcases List.mem_append.1 hy with hy | hy
        · exact HI.out.2.2 y hy
        · simp only [List.mem_singleton] at hy
          subst hy
          have := HLE.out
          omega
      simpa using hy
  case done =>
    rintro D ys W hD hS hI hK
    have ⟨n1, n2⟩ : b6 ≠ b7 ∧ b7 ≠ b6 := by have := E7.out; omega
    have HI := Lib.hid hI
    have HS := Lib.hid hS
    have HKD := Lib.hid hK
    clear hI hS hK
    have ⟨x0, x1, x2, x3⟩ : W.cell? ⟨b6, 0, none⟩ = some (.int .u64 0) ∧ W.cell? ⟨b6, 1, none⟩ = some (.slice none 0 0) ∧ W.cell? ⟨b6, 2, none⟩ = some (.slice none 0 0) ∧ W.cell? ⟨b7, 0, none⟩ = some (.bool false) := ⟨HI.out.1.r6.cell 0, HI.out.1.r6.cell 1, HI.out.1.r6.cell 2, HI.out.1.r7.cell 0⟩
    have ⟨y0, y1, y2, y3⟩ : W.frozen? ⟨b6, 0, none⟩ = false ∧ W.frozen? ⟨b6, 1, none⟩ = false ∧ W.frozen? ⟨b6, 2, none⟩ = false ∧ W.frozen? ⟨b7, 0, none⟩ = false := ⟨HI.out.1.r6.free 0, HI.out.1.r6.free 1, HI.out.1.r6.free 2, HI.out.1.r7.free 0⟩
    have N : Hid (AsI w ((((W.setCell ⟨b6, 0, none⟩ (.int .u64 0)).setCell ⟨b6, 1, none⟩ (.slice none 0 0)).setCell ⟨b6, 2, none⟩ (.slice none 0 0)).setCell ⟨b7, 0, none⟩ (.bool false)) b4 b6 b7 at_ (itemV none) false ∧ ((((W.setCell ⟨b6, 0, none⟩ (.int .u64 0)).setCell ⟨b6, 1, none⟩ (.slice none 0 0)).setCell ⟨b6, 2, none⟩ (.slice none 0 0)).setCell ⟨b7, 0, none⟩ (.bool false)).heap[D]? = some (.deferred (some []))) := Lib.hid (by
      have K4 : Only [b6] W (((W.setCell ⟨b6, 0, none⟩ (.int .u64 0)).setCell ⟨b6, 1, none⟩ (.slice none 0 0)).setCell ⟨b6, 2, none⟩ (.slice none 0 0)) := (((Only.refl [b6] W).setCell (.inl (by simp)) _).setCell (.inl (by simp)) _).setCell (.inl (by simp)) _
      have h6 := ((HI.out.1.r6.set 0 (.int .u64 0)).set 1 (.slice none 0 0)).set 2 (.slice none 0 0)
      have h7 := (HI.out.1.r7.only K4 (by simp; omega)).set 0 (.bool false)
      have K5 : Only [b7] (((W.setCell ⟨b6, 0, none⟩ (.int .u64 0)).setCell ⟨b6, 1, none⟩ (.slice none 0 0)).setCell ⟨b6, 2, none⟩ (.slice none 0 0)) ((((W.setCell ⟨b6, 0, none⟩ (.int .u64 0)).setCell ⟨b6, 1, none⟩ (.slice none 0 0)).setCell ⟨b6, 2, none⟩ (.slice none 0 0)).setCell ⟨b7, 0, none⟩ (.bool false)) := ((Only.refl [b7] _).setCell (.inl (by simp)) _)
      have e4 := EQ.out
      have e6 := E6.out
      have e7 := E7.out
      have hDl : D < W.heap.size := (Array.getElem?_eq_some_iff.1 HKD.out).1
      refine ⟨⟨(HI.out.1.r4.only K4 (by simp; omega)).only K5 (by simp; omega), ?_, ?_, ?_⟩, ?_⟩
      · exact (by simpa [itemV] using h6 : Row _ b6 (itemV none) tIt).only K5 (by simp; omega)
      · exact (by simpa using h7 : Row _ b7 #[.bool false] 4)
      · exact (HI.out.1.bl.trans (K4.toBelow HI.out.1.bl.size (by simp; omega))).trans (K5.toBelow (Nat.le_trans HI.out.1.bl.size K4.size) (by simp; omega))
      · rw [K5.block D (Nat.lt_of_lt_of_le hDl K4.size) (by simp; omega), K4.block D hDl (by simp; omega)]
        exact HKD.out)
    gi_wp2_with fail
    refine ⟨by simp, .inl ⟨_, _, rfl, run_takeDeferred N.out.2, ?_⟩⟩
    have hD4 : b4 < D ∧ b6 < D ∧ b7 < D ∧ w.heap.size ≤ D := by have := EQ.out; omega
    have hf := N.out.1.of (grownBy_putObj' _ D (.deferred none)) (fun r hr => by cases hr; exact hD4)
    refine ⟨_, results_item2 rfl _ _ b6 b7 (itemV none) (.bool false) rfl rfl rfl hf.r6 hf.r7, ?_, hf.bl⟩
    rw [asofL_none HS.out HI.out.2.2]
    rfl
  case stop =>
    rintro D c pre W hD hS ⟨rfl, pre', x, rfl, hp, hx, hA⟩ hK
    gi_wp2_with fail
    refine ⟨by simp, .inl ⟨_, _, rfl, run_takeDeferred hK, ?_⟩⟩
    have hD4 : b4 < D ∧ b6 < D ∧ b7 < D ∧ w.heap.size ≤ D := by have := EQ.out; omega
    have hf := hA.of (grownBy_putObj' _ D (.deferred none)) (fun r hr => by cases hr; exact hD4)
    obtain ⟨k, hS⟩ := hS
    refine ⟨_, results_item2 rfl _ _ b6 b7 (itemV (some x.2)) (.bool (!x.2.gone)) rfl rfl rfl hf.r6 hf.r7, ?_, hf.bl⟩
    rw [asofL_some hS hp hx]
    rfl
end Go.Proofs.Ytmbmkfhdiljalaa
