/- Plain: slices.AppendSeq, Collect at uint64, over whatever iterator; behind a row of the call's own. -/
import Derived.Test.YtmbmkfhdiljalaaPlL
namespace Go.Proofs.Ytmbmkfhdiljalaa
open Go.RowKit Go.Shelf
set_option linter.unusedVariables false
set_option linter.unusedSimpArgs false
attribute [local go_sem] Oper.semAt_some

abbrev tU : TypeId := 22
theorem infoU64 : (Try.prog.info? 22).map (fun i => (i.zero, i.size, i.bytes)) = some (some (.int .u64 0), 1, 8) := by kernel_rfl
/-- A row of numbers, grown by what the iterator gives. -/
def AppTo (S : List Int → Prop) (B : Nat) (xs : List Int) (v0 : Value) (w : World) (e : Ending) (w' : World) : Prop := ∃ ys v, S ys ∧ e = .returned v ∧ w'.ownsRow B tU 1 v (xs.length + ys.length) ((xs ++ ys).map (Value.int .u64)) ∧ (ys = [] → v = v0) ∧ Below B w w'
set_option maxRecDepth 100000 in
set_option maxHeartbeats 2000000 in
theorem appendSeq_in {gf : Nat} {lb : Array Value} {S Sp : List Int → Prop} {N : Nat} (n : Nat) (hn : 3 ≤ n) (B : Nat) (xs : List Int) (p0 : Option Addr) (n0 c0 : Nat) (w : World) (hB : B ≤ w.heap.size) (hv : w.ownsRow B tU 1 (.slice p0 n0 c0) xs.length (xs.map (Value.int .u64))) (hseq : SeqStopsK Fence.wide (n - 1) Try.prog gf lb (fun x : Int => #[Value.int .u64 x]) KeepsWalks S Sp N w) (eg : ∀ args w, (callFunc gf args).run Try.prog w = .ok (.enter gf args) w) (hN : xs.length + N ≤ 1000000) :
    CallsIn Fence.wide n Try.prog 48 #[.slice p0 n0 c0, .func (.func gf) #[] lb] w (AppTo S B xs (.slice p0 n0 c0) w) := by
  have hro : Fence.wide.round = none := rfl
  have h1 : 1 ≤ n := by omega
  obtain ⟨i0, hi, hz0, hz1, hz2⟩ := info_parts infoU64
  refine callsIn_of_wp_marks Try.func48 rfl trivial ?_ hro
  simp only [Try.ntmps48, List.size_toArray, List.length_cons, List.length_nil, Nat.reduceAdd, Nat.reduceSub, Array.replicate_succ, Array.replicate_zero, List.push_toArray, List.append_toArray, List.nil_append, List.cons_append]
  gi_wp2_with fail
  have bO := Boxed.new w 49 (.slice p0 n0 c0)
  have hB0 : Below w.heap.size w (w.alloc (.cells #[.slice p0 n0 c0] 49)) := (Below.refl _ w).alloc (Nat.le_refl _) _
  refine wpIn_rangeFunc_ownG hro h1 (gf := gf) (lb := lb) rfl trivial eg hseq walksK_t walksK_b hB0 (fun _ => rfl)
    (fun pre W => (∃ v, Boxed W w.heap.size 49 v ∧ W.ownsRow B tU 1 v (xs.length + pre.length) ((xs ++ pre).map (Value.int .u64)) ∧ (pre = [] → v = .slice p0 n0 c0)) ∧ Below B w W)
    (fun _ _ _ => False)
    (OwnFrom.and (Own.from (holdsRow_own B w.heap.size 49 tU 1 (fun pre : List Int => xs.length + pre.length) (fun pre : List Int => (xs ++ pre).map (Value.int .u64)) (fun pre v => pre = [] → v = .slice p0 n0 c0)) _) (ownFrom_below hB (by simp; omega)))
    (fun _ _ _ _ _ hs _ _ => hs)
    ⟨⟨_, bO, by simpa using hv.alloc _, fun _ => rfl⟩, hB0.mono hB⟩
    (fun x => { tmps := #[.slice p0 n0 c0, .func (.func gf) #[] lb, .pointer (some ⟨w.heap.size, 0, none⟩), undef, .slice none 0 0, .int .u64 x, .func (.func gf) #[] lb, .int .u64 x, undef, undef, undef, undef, undef], defers := [] }) ?assign ?body ?done ?stop
  case assign =>
    intro l x W K hK
    gi_wp2
    exact hK
  case body =>
    rintro l pre x W ⟨⟨v, hv, hrow, hnil⟩, hBw⟩ hlt
    have hc := hv.cell
    have hBW : B ≤ W.heap.size := Nat.le_trans hB hBw.size
    gi_wp2_with (gi_at_builtin; refine wpListIn_append_own _ rfl _ _ 49 rfl B 22 i0 (.int .u64 0) 1 8 Try.underlying49 hi hz0 hz1 hz2 rfl (by decide) _ _ _ rfl (hrow.alloc _) ⟨W.heap.size, 0, none⟩ 1 1 [.int .u64 x] rfl rfl (cell_one_new _ _ _) (by simp [Value.oneCell']) (by unfold maxLen; omega) (by omega) (by simp; omega) ?_; intro v' w1 hown' hgrow _; obtain ⟨g', cap', rfl⟩ := ownsRow_succ hown'; obtain ⟨hv1, hv2, hr2, hk2, hb2⟩ := hv.appended (by decide) hrow hBW hB hown' hgrow; have hc1 := hv1.cell; have hf1 := hv1.frozen)
    exact ⟨hk2.from _, ⟨hk2.size, fun k o h hw => hk2.same k o h (Obj.not_cells_of_walk hw)⟩, ⟨_, hv2, by simpa [Nat.add_assoc] using hr2, fun e => by simp at e⟩, hBw.trans hb2⟩
  case done =>
    rintro D ys W hD hS ⟨⟨v, hv, hrow, hnil⟩, hBw⟩ hK
    have hc := hv.cell
    gi_wp2
    refine ⟨by simp, .inl ⟨_, _, rfl, run_takeDeferred hK, ?_⟩⟩
    exact ⟨_, results_tmp rfl _ _ _, ys, v, hS, rfl, ownsRow_putObj hrow _ hK rfl, hnil, hBw.trans (belowK_b (w := w) (by simpa using hB) W D _ _ (by simp at hD; omega) hK rfl rfl)⟩
  case stop =>
    rintro D c pre W _ _ h _
    exact h.elim
set_option maxHeartbeats 1000000 in
theorem collect_any {gf : Nat} {lb : Array Value} {S Sp : List Int → Prop} {N : Nat} (w : World) (hseq : SeqStopsK Fence.wide 3 Try.prog gf lb (fun x : Int => #[Value.int .u64 x]) KeepsWalks S Sp N w) (eg : ∀ args w, (callFunc gf args).run Try.prog w = .ok (.enter gf args) w) (hN : N ≤ 1000000) :
    Calls Try.prog 44 #[.func (.func gf) #[] lb] w (AppTo S w.heap.size [] (.slice none 0 0) w) := by
  have C := Lib.hid (callsIn_wide.1 (appendSeq_in 4 (by omega) w.heap.size [] none 0 0 w (Nat.le_refl _) (World.ownsRow_nil _ _ _ _) hseq eg (by simpa using hN)))
  clear hseq eg
  unfold AppTo at C
  go_enter Try.func44, Try.ntmps44
  go_wp2_with fail
  refine C.out.mono ?_
  rintro _ w1 ⟨xs, v, hs, rfl, ho, hn, hb⟩
  have P : Hid (S xs ∧ w1.ownsRow w.heap.size 22 1 v ([].length + xs.length) (([] ++ xs).map (Value.int .u64)) ∧ (xs = [] → v = .slice none 0 0) ∧ Below w.heap.size w w1) := Lib.hid ⟨hs, ho, hn, hb⟩
  clear hs ho hb hn C
  go_wp2_with fail
  go_ret
  exact ⟨xs, v, P.out.1, rfl, P.out.2⟩
end Go.Proofs.Ytmbmkfhdiljalaa
