/- ReadAsk of a request that says its kind alone. -/
import Derived.Test.YtcgmgdjeamidlaaGreatSsF
namespace Go.Proofs.YtcgmgdjeamidlaaGreat
open Go.RowKit Go.ChangeShapes Go.WideShapes Go.ChangeAt
set_option linter.unusedVariables false
set_option linter.unusedSimpArgs false

/-- An entry of a map's literal. -/
theorem wpList_insert_at {P : Program} (w : World) {ops : Array Oper} {rest : List Oper} {o : Oper} {a : Act} {Q : Exit → Act → World → Prop} (hg : o.guard = none) (m x v : Operand) (t : TypeId) (hop : o.op = Op.insert t m x v) (kt et : TypeId) (q : IntKind) (ht : P.underlying t = some (.map kt et)) (hk : P.underlying kt = some (.int q))
    (b : Nat) (L : List (Int × Value)) (hm : a.eval m = .map (some b)) (hown : MapAt w b q L) (key : Int) (val : Value) (hx : a.eval x = .int q key) (hv : a.eval v = val)
    (hK : ∀ w', MapAt w' b q (up key val L) → Only [b] w w' → w'.heap.size = w.heap.size → wpList P ops Q rest (a.put o.dst undef) w') : wpList P ops Q (o :: rest) a w := by
  refine wpList_plain hg fun K' hK' => ?_
  obtain ⟨es, clock, hb, hs, hL⟩ := hown
  have hrun := run_update (P := P) hb hL ht hk key val
  unfold Oper.wp
  simp [execOp, hop, hm, hx, hv, hrun, Result.andThen]
  exact hK' _ _ (hK _ (MapAt.set hb hs hL key val) setBlock_only turned_only.2)

set_option maxHeartbeats 2000000 in
theorem clone_gives {s : Sl} {w : World} (h : SlRd .u8 w s) : Calls Tryz.prog 168 #[s.v] w (Gives s.xs w) := by
  cases ha : s.a with
  | none =>
    obtain ⟨e1, e2⟩ := h.nn ha
    have es : s.v = .slice none 0 0 := by simp [Sl.v, ha, e1, e2]
    have ex := Lib.hid e1
    rw [es]
    clear h e1 e2 es ha
    have qT : ∀ w : World, (binOp .eql 30 (.slice none 0 0) (.slice none 0 0)).run Tryz.prog w = .ok (.bool true) w := fun w => by kernel_rfl
    go_enter Tryz.func168, Tryz.ntmps168
    go_wp2_with fail
    go_ret
    refine ⟨_, rfl, ?_, Below.refl _ _⟩
    rw [ex.out]
    exact World.ownsRow_nil _ _ _ _
  | some ad =>
    have hs := Lib.hid h.src
    have hle := Lib.hid h.le
    have es : s.v = .slice (some ad) s.xs.length s.c := by simp [Sl.v, ha]
    rw [es] at hs ⊢
    clear h es ha
    obtain ⟨i0, hi, hz0, hz1, hz2⟩ := info_parts infoU8
    generalize s.xs = xs at *
    generalize s.c = c at *
    obtain ⟨m, hm⟩ : ∃ m, xs.length = m := ⟨_, rfl⟩
    have HM := Lib.hid hm
    rw [hm] at hs hle ⊢
    clear hm
    have qT : ∀ w : World, (binOp .eql 30 (.slice (some ad) m c) (.slice none 0 0)).run Tryz.prog w = .ok (.bool false) w := fun w => by kernel_rfl
    have EM : Hid (World.ownsRow (w.alloc (.cells #[] 5)) w.heap.size 5 1 (.slice (some ⟨w.heap.size, 0, none⟩) 0 0) 0 []) := Lib.hid (World.ownsRow_lit w #[] 0 (Nat.le_refl _) (by simp) rfl)
    go_enter Tryz.func168, Tryz.ntmps168
    go_wp2_with (at_builtin; refine wpList_append_src rfl (.tmp 5) (.tmp 6) 30 rfl w.heap.size 5 i0 (.int .u8 0) 1 1 Tryz.underlying30 hi hz0 hz1 hz2 rfl (by decide) _ 0 [] rfl EM.out _ m (xs.map (Value.int .u8)) rfl (hs.out.below ((Below.refl _ _).alloc (Nat.le_refl _) _)) (by simp [Value.oneCell']) (by have := hle.out; unfold maxLen; omega) (by have := hle.out; omega) (by simp) ?_; intro v' w' hown' hgrow)
    go_ret
    rw [Nat.zero_add, List.nil_append] at hown'
    exact ⟨_, rfl, by rw [HM.out]; exact hown', ((Below.refl _ _).alloc (Nat.le_refl _) _).grown hgrow (by simp) (fun k hk => by simp [Act.eval, Value.ownBlock] at hk; omega)⟩
/-- A slice of the call's own, as one that is only read; its length is no more than its capacity. -/
theorem own_sl {w : World} {B : Nat} {v : Value} {xs : List Int} (h : w.ownsRow B 5 1 v xs.length (xs.map (Value.int .u8))) (hn : xs.length ≤ 1000000) : ∃ s : Sl, v = s.v ∧ s.xs = xs ∧ SlRd .u8 w s ∧ (∀ b ∈ s.bs, B ≤ b ∧ b < w.heap.size) ∧ xs.length ≤ s.c := by
  obtain ⟨s, e1, e2, h3, h4⟩ := SlAt.of_own h hn
  refine ⟨s, e1, e2, h3.rd, fun b hb => ⟨h4 b hb, h3.lt b hb⟩, ?_⟩
  rcases h.2 with ⟨rfl, h0⟩ | ⟨g, cap, cur, rfl, _, _, hc, _⟩
  · omega
  · unfold Sl.v at e1
    simp only [Value.slice.injEq] at e1
    omega
def NewRdTo (xs : List Int) (w : World) (e : Ending) (w' : World) : Prop := ∃ r, e = .returned (.pointer (some ⟨r, 0, none⟩)) ∧ RdrAt w' r xs 0 ∧ Below w.heap.size w w' ∧ w.heap.size ≤ r
theorem newrd_on {s : Sl} {w : World} (h : SlRd .u8 w s) : Calls Tryz.prog 99 #[s.v] w (NewRdTo s.xs w) := by
  have K := Lib.hid (clone_gives h)
  have HL := Lib.hid h.le
  unfold Gives at K
  clear h
  generalize s.v = v at *
  generalize s.xs = xs at *
  go_enter Tryz.func99, Tryz.ntmps99
  go_wp2_with fail
  refine K.out.mono ?_
  rintro _ w2 ⟨v, rfl, hv, hb⟩
  obtain ⟨s2, rfl, e2, hs, hbs, hc⟩ := own_sl hv HL.out
  have H := Lib.hid (And.intro e2 (And.intro hs (And.intro hbs (And.intro hc hb))))
  unfold Sl.v
  clear e2 hs hbs hc hb hv K
  go_wp2_with fail
  go_ret
  obtain ⟨e2, hs, hbs, hc, hb⟩ := H.out
  have ka := (Only.refl [] w2).alloc (.cells #[s2.v, .int .i64 0] tRd)
  exact ⟨w2.heap.size, rfl, ⟨⟨s2, e2, Row.made _ _ _, hs.only ka (by simp), fun _ hm => by have := (hbs _ hm).2; omega, hc⟩⟩, hb.alloc hb.size _, hb.size⟩
end Go.Proofs.YtcgmgdjeamidlaaGreat
