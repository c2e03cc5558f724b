/- A page's bytes. -/
import Derived.Test.YtekdogmhgijocaaMg07
import Derived.Deep.AppendLies
set_option linter.unusedSimpArgs false
namespace Go.Proofs.Ytekdogmhgijocaa
open Go.RowKit Go.ChangeShapes Go.WideShapes Go.ChangeAt
set_option linter.unusedVariables false

theorem Put64_any (n : Int) (h0 : 0 ≤ n) (h1 : n < 18446744073709551616) (w : World) : Calls Try.prog 59 #[.slice none 0 0, .int .u64 n] w (PutPost n 8 w) := by
  have K := Lib.hid (put64_any n h0 h1 w)
  clear h0 h1
  go_enter Try.func59, Try.ntmps59
  go_wp2_with fail
  refine K.out.mono ?_
  rintro _ w2 ⟨v, rfl, hv, hb⟩
  have OV := Lib.hid hv
  have B2 := Lib.hid hb
  clear hv hb
  go_wp2_with fail
  go_ret
  exact ⟨v, rfl, OV.out, B2.out⟩
theorem Put32_any (n : Int) (h0 : 0 ≤ n) (h1 : n < 4294967296) (w : World) : Calls Try.prog 58 #[.slice none 0 0, .int .u32 n] w (PutPost n 4 w) := by
  have K := Lib.hid (put32_any n h0 h1 w)
  clear h0 h1
  go_enter Try.func58, Try.ntmps58
  go_wp2_with fail
  refine K.out.mono ?_
  rintro _ w2 ⟨v, rfl, hv, hb⟩
  have OV := Lib.hid hv
  have B2 := Lib.hid hb
  clear hv hb
  go_wp2_with fail
  go_ret
  exact ⟨v, rfl, OV.out, B2.out⟩
/-- A page's bytes behind its sum, and with it. -/
def restB (n : Int) (xs : List Int) : List Int := leB n 8 ++ xs
def pageB (n : Int) (xs : List Int) : List Int := leB (sumI (restB n xs) : Nat) 4 ++ restB n xs
theorem by_append {a b : List Int} (ha : IsBy a) (hb : IsBy b) : IsBy (a ++ b) := fun x hx => by
  rcases List.mem_append.1 hx with h | h
  · exact ha x h
  · exact hb x h
theorem restB_by {n : Int} {xs : List Int} (h : IsBy xs) : IsBy (restB n xs) := by_append (leB_by _ _) h
theorem restB_len (n : Int) (xs : List Int) : (restB n xs).length = 8 + xs.length := by simp [restB, leB_len]
theorem pageB_by {n : Int} {xs : List Int} (h : IsBy xs) : IsBy (pageB n xs) := by_append (leB_by _ _) (restB_by h)
theorem pageB_len (n : Int) (xs : List Int) : (pageB n xs).length = 12 + xs.length := by simp [pageB, leB_len, restB_len]; omega
/-- append of the whole of an own row or a slice that came in to an own row. -/
theorem append_ints {w : World} {base : Nat} {v : Value} {n : Nat} {ys : List Int} (ho : w.ownsRow base 5 1 v n (ys.map (Value.int .u8))) (a : Option Addr) (m c : Nat) (xs : List Int) (hi : Ints .u8 w (.slice a m c) xs) (hx : xs.length = m) (hp : 0 < m) (hn : n + m ≤ 140737488355328) (hb : base ≤ w.heap.size) :
    ∃ v' w', (Builtin.append_ #[32, 32] 32 #[v, .slice a m c]).run Try.prog w = .ok v' w' ∧ w'.ownsRow base 5 1 v' (n + m) ((ys ++ xs).map (Value.int .u8)) ∧ Below base w w' ∧ w.grownBy w' v.ownBlock ∧ (v'.ownBlock = v.ownBlock ∨ ∀ g, v'.ownBlock = some g → w.heap.size ≤ g) := by
  obtain ⟨i0', hi0, hz0, hz1, hz2⟩ := info_parts infoBy
  obtain ⟨b, off, cap, hv, hc⟩ := hi.shape (by omega)
  simp only [Value.slice.injEq] at hv
  obtain ⟨rfl, hm, rfl⟩ := hv
  subst hm
  obtain ⟨v', w', h1, h2, h3, h4⟩ := append_own_at (P := Try.prog) w base 32 32 5 i0' (.int .u8 0) 1 1 Try.underlying32 hi0 hz0 hz1 hz2 rfl (by decide) v n _ ho ⟨b, off, none⟩ xs.length c (xs.map (Value.int .u8)) (by simp) (fun j u hj => by
    rw [List.getElem?_map, Option.map_eq_some_iff] at hj
    obtain ⟨z, hz, rfl⟩ := hj
    have hlt := (List.getElem?_eq_some_iff.1 hz).1
    rw [add_plain, hc j hlt, hz]; rfl) (one_u8 xs) (by unfold maxLen; omega) (by omega) hb
  refine ⟨v', w', h1, by rw [List.map_append]; exact h2, ⟨h3.os, h3.tape, h3.output, h3.size, fun k hk => ?_⟩, h3, h4⟩
  exact h3.block k (by omega) fun e => by have := ho.lt k e.symm; omega
theorem wpList_append_eq {P : Program} {w : World} {ops : Array Oper} {rest : List Oper} {o : Oper} {a : Act} {Q : Exit → Act → World → Prop}
    (hg : o.guard = none) (s x : Operand) (t : TypeId) (hop : o.op = Op.call { callee := Callee.builtin Builtin.append, args := #[s, x], argTypes := #[t, t] }) (v src v' : Value) (w' : World)
    (hs : a.eval s = v) (hx : a.eval x = src) (hrun : (Builtin.append_ #[t, t] o.type #[v, src]).run P w = .ok v' w') (hK : wpList P ops Q rest (a.put o.dst v') w') : wpList P ops Q (o :: rest) a w := by
  refine wpList_plain hg fun K hK' => ?_
  unfold Oper.wp
  simp [execOp, hop, resolve, invoke, builtin, hs, hx, hrun, Result.andThen]
  exact hK' _ _ hK
/-- What was put, and a list behind it: a slice of the call's own. -/
theorem joined {w W0 w1 : World} {v1 : Value} {k : Nat} {ys : List Int} (h0 : Below w.heap.size w W0) (hv : w1.ownsRow W0.heap.size 5 1 v1 k (ys.map (Value.int .u8))) (hb : Below W0.heap.size W0 w1) (a : Option Addr) (m c : Nat) (xs : List Int) (hi : Ints .u8 w1 (.slice a m c) xs) (hx : xs.length = m) (hp : 0 < m) (hn : k + m ≤ 100000) :
    ∃ g cc w2, (Builtin.append_ #[32, 32] 32 #[v1, .slice a m c]).run Try.prog w1 = .ok (.slice (some ⟨g, 0, none⟩) (k + m) cc) w2 ∧ w2.ownsRow w.heap.size 5 1 (.slice (some ⟨g, 0, none⟩) (k + m) cc) (k + m) ((ys ++ xs).map (Value.int .u8)) ∧ Below w.heap.size w w2 ∧ w.heap.size ≤ g := by
  have hs : w.heap.size ≤ W0.heap.size := h0.size
  have hv' : w1.ownsRow w.heap.size 5 1 v1 k (ys.map (Value.int .u8)) := by
    refine ⟨hv.1, ?_⟩
    rcases hv.2 with h | ⟨g, cap, cur, r1, r2, r3⟩
    · exact .inl h
    · exact .inr ⟨g, cap, cur, r1, Nat.le_trans hs r2, r3⟩
  obtain ⟨v', w', r1, r2, r3, r4, r5⟩ := append_ints hv' a m c xs hi hx hp (by omega) (Nat.le_trans hs hb.size)
  have hl : k + m = (ys ++ xs).length := by have := hv.1; simp at this; simp [hx]; omega
  have r2' := r2
  rw [hl] at r2'
  obtain ⟨g, cc, rfl, hg, _⟩ := own_parts r2' (by omega)
  rw [← hl] at r1 r2
  exact ⟨g, cc, w', r1, r2, (h0.trans (hb.mono hs)).trans r3, hg⟩
def BytesPost (n : Int) (xs : List Int) (w : World) (e : Ending) (w' : World) : Prop := ∃ g c, e = .returned (.tuple #[.slice (some ⟨g, 0, none⟩) 512 c, .int .i64 0]) ∧ w'.ownsRow w.heap.size 5 1 (.slice (some ⟨g, 0, none⟩) 512 c) 512 ((pageB n xs).map (Value.int .u8)) ∧ Below w.heap.size w w' ∧ w.heap.size ≤ g
end Go.Proofs.Ytekdogmhgijocaa
