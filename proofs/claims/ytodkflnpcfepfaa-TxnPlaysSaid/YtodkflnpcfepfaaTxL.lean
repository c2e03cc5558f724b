/- slices.AppendSeq, Collect at uint64, over whatever iterator; maps.Keys collected. -/
import Derived.Test.YtodkflnpcfepfaaTxK
namespace Go.Proofs.Ytodkflnpcfepfaa
open Go.RowKit Go.Shelf
set_option linter.unusedVariables false
set_option linter.unusedSimpArgs false
attribute [local go_sem] Oper.semAt_some

theorem infoU64 : (Try.prog.info? 29).map (fun i => (i.zero, i.size, i.bytes)) = some (some (.int .u64 0), 1, 8) := by kernel_rfl
def ColTo (S : List Int → Prop) (w : World) (e : Ending) (w' : World) : Prop := ∃ xs v, S xs ∧ e = .returned v ∧ w'.ownsRow w.heap.size 29 1 v xs.length (xs.map (Value.int .u64)) ∧ Below w.heap.size w w'
set_option maxRecDepth 100000 in
set_option maxHeartbeats 2000000 in
theorem appendSeq_in {gf : Nat} {lb : Array Value} {S Sp : List Int → Prop} {N : Nat} (n : Nat) (hn : 3 ≤ n) (w : World) (hseq : SeqStopsK Fence.wide (n - 1) Try.prog gf lb (fun x : Int => #[Value.int .u64 x]) KeepsWalks S Sp N w) (eg : ∀ args w, (callFunc gf args).run Try.prog w = .ok (.enter gf args) w) (hN : N ≤ 1000000) :
    CallsIn Fence.wide n Try.prog 50 #[.slice none 0 0, .func (.func gf) #[] lb] w (ColTo S w) := by
  have hro : Fence.wide.round = none := rfl
  have h1 : 1 ≤ n := by omega
  obtain ⟨i0, hi, hz0, hz1, hz2⟩ := info_parts infoU64
  refine callsIn_of_wp_marks Try.func50 rfl trivial ?_ hro
  simp only [Try.ntmps50, List.size_toArray, List.length_cons, List.length_nil, Nat.reduceAdd, Nat.reduceSub, Array.replicate_succ, Array.replicate_zero, List.push_toArray, List.append_toArray, List.nil_append, List.cons_append]
  gi_wp2_with fail
  have bO := Boxed.new w 28 (.slice none 0 0)
  have hB0 : Below w.heap.size w (w.alloc (.cells #[.slice none 0 0] 28)) := (Below.refl _ w).alloc (Nat.le_refl _) _
  refine wpIn_rangeFunc_ownG hro h1 (gf := gf) (lb := lb) rfl trivial eg hseq walksK_t walksK_b hB0 (fun _ => rfl)
    (fun pre W => (∃ v, Boxed W w.heap.size 28 v ∧ W.ownsRow w.heap.size 29 1 v pre.length (pre.map (Value.int .u64)) ∧ True) ∧ Below w.heap.size w W)
    (fun _ _ _ => False)
    (OwnFrom.and (Own.from (holdsRow_own w.heap.size w.heap.size 28 29 1 (fun pre : List Int => pre.length) (fun pre : List Int => pre.map (Value.int .u64)) (fun pre v => True)) _) (ownFrom_below (Nat.le_refl _) (by simp)))
    (fun _ _ _ _ _ hs _ _ => hs)
    ⟨⟨_, bO, World.ownsRow_nil _ _ _ _, trivial⟩, hB0⟩
    (fun x => { tmps := #[.slice none 0 0, .func (.func gf) #[] lb, .pointer (some ⟨w.heap.size, 0, none⟩), undef, .slice none 0 0, .int .u64 x, .func (.func gf) #[] lb, .int .u64 x, undef, undef, undef, undef, undef], defers := [] }) ?assign ?body ?done ?stop
  case assign =>
    intro l x W K hK
    gi_wp2
    exact hK
  case body =>
    rintro l pre x W ⟨⟨v, hv, hrow, _⟩, hB⟩ hlt
    have hc := hv.cell
    gi_wp2_with (gi_at_builtin; refine wpListIn_append_own _ rfl _ _ 28 rfl w.heap.size 29 i0 (.int .u64 0) 1 8 Try.underlying28 hi hz0 hz1 hz2 rfl (by decide) _ _ _ rfl (hrow.alloc _) ⟨W.heap.size, 0, none⟩ 1 1 [.int .u64 x] rfl rfl (cell_one_new _ _ _) (by simp [Value.oneCell']) (by unfold maxLen; omega) (by omega) (by have := hB.size; simp; omega) ?_; intro v' w1 hown' hgrow _; obtain ⟨g', cap', rfl⟩ := ownsRow_succ hown'; obtain ⟨hv1, hv2, hr2, hk2, hb2⟩ := hv.appended (by decide) hrow hB.size (Nat.le_refl _) hown' hgrow; have hc1 := hv1.cell; have hf1 := hv1.frozen)
    exact ⟨hk2.from _, ⟨hk2.size, fun k o h hw => hk2.same k o h (Obj.not_cells_of_walk hw)⟩, ⟨_, hv2, by simpa using hr2, trivial⟩, hB.trans hb2⟩
  case done =>
    rintro D ys W hD hS ⟨⟨v, hv, hrow, hnil⟩, hB⟩ hK
    have hc := hv.cell
    gi_wp2
    refine ⟨by simp, .inl ⟨_, _, rfl, run_takeDeferred hK, ?_⟩⟩
    exact ⟨_, results_tmp rfl _ _ _, ys, v, hS, rfl, ownsRow_putObj hrow _ hK rfl, hB.trans (belowK_b (w := w) (Nat.le_refl _) W D _ _ (by simp at hD; omega) hK rfl rfl)⟩
  case stop =>
    rintro D c pre W _ _ h _
    exact h.elim
theorem ColTo.mono {S T : List Int → Prop} (h : ∀ xs, S xs → T xs) {w : World} {e : Ending} {w' : World} (c : ColTo S w e w') : ColTo T w e w' := by
  obtain ⟨xs, v, a, b⟩ := c
  exact ⟨xs, v, h _ a, b⟩
set_option maxHeartbeats 1000000 in
theorem collect_any {gf : Nat} {lb : Array Value} {S Sp : List Int → Prop} {N : Nat} (w : World) (hseq : SeqStopsK Fence.wide 3 Try.prog gf lb (fun x : Int => #[Value.int .u64 x]) KeepsWalks S Sp N w) (eg : ∀ args w, (callFunc gf args).run Try.prog w = .ok (.enter gf args) w) (hN : N ≤ 1000000) :
    Calls Try.prog 47 #[.func (.func gf) #[] lb] w (ColTo S w) := by
  have C := Lib.hid (callsIn_wide.1 (appendSeq_in 4 (by omega) w hseq eg hN))
  clear hseq eg
  unfold ColTo at C
  go_enter Try.func47, Try.ntmps47
  go_wp2_with fail
  refine C.out.mono ?_
  rintro _ w1 ⟨xs, v, hs, rfl, ho, hb⟩
  have P : Hid (S xs ∧ w1.ownsRow w.heap.size 29 1 v xs.length (xs.map (Value.int .u64)) ∧ Below w.heap.size w w1) := Lib.hid ⟨hs, ho, hb⟩
  clear hs ho hb C
  go_wp2_with fail
  go_ret
  exact ⟨xs, v, P.out.1, rfl, P.out.2⟩
/-- maps.Keys: the box, and the function over it. -/
theorem keys_any (b : Nat) (w : World) : Calls Try.prog 45 #[.map (some b)] w fun e w' => e = .returned (.func (.func 49) #[] #[.pointer (some ⟨w.heap.size, 0, none⟩)]) ∧ w' = w.alloc (.cells #[.map (some b)] 64) := by
  go_enter Try.func45, Try.ntmps45
  go_wp2
  go_ret
  exact ⟨rfl, rfl⟩
theorem keys_collected (Bm b : Nat) (L : List (Int × Value)) (w : World) (hBm : Bm < w.heap.size) (hm : w.cell? ⟨Bm, 0, none⟩ = some (.map (some b))) (hM : MapAt w b .u64 L) (hl : L.length ≤ 1000000) :
    Calls Try.prog 47 #[.func (.func 49) #[] #[.pointer (some ⟨Bm, 0, none⟩)]] w (ColTo (fun ys => ys.Perm (L.map (·.1))) w) :=
  collect_any w (keys_stops 3 (by omega) Bm b L w hBm hm hM) (enters_of Try.func49 (by kernel_rfl) rfl) hl
end Go.Proofs.Ytodkflnpcfepfaa
