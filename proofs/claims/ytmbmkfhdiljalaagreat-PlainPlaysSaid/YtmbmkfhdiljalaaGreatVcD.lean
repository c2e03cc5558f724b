/- Slices that came in: what the walks are told of them; an append of any such slice behind a row of the call's own. -/
import Derived.Test.YtmbmkfhdiljalaaGreatVcC
import Derived.ProofKit
import Derived.OpenShut
import Derived.Laws.AppendOwnNone
set_option linter.unusedVariables false
set_option linter.unusedSimpArgs false
set_option maxRecDepth 10000
namespace Go.Proofs.YtmbmkfhdiljalaaGreat.vc
open Go.RowKit Go.ChangeShapes Go.WideShapes Go.ChangeAt

/-- What is appended: the value reads as the cells news, m elements of size cells each; it may be nil. -/
def SrcOf (w : World) (v : Value) (m size : Nat) (news : List Value) : Prop :=
  (v = .slice none 0 0 ∧ m = 0 ∧ news = []) ∨ ∃ ad c, v = .slice (some ad) m c ∧ news.length = m * size ∧ ∀ j u, news[j]? = some u → w.cell? (ad.add j) = some u

theorem wpList_append_src {P : Program} {w : World} {ops : Array Oper} {rest : List Oper} {o : Oper} {a : Act} {Q : Exit → Act → World → Prop} (hgd : o.guard = none) (s x : Operand) (t : TypeId)
    (ho : o.op = .call { callee := .builtin .append, args := #[s, x], argTypes := #[t, t] })
    (base : Nat) (e : TypeId) (i : TypeInfo) (z : Value) (size bytes : Nat) (ht : P.underlying t = some (.slice e)) (hi : P.info? e = some i) (hz : i.zero = some z)
    (hsize : i.size = size) (hby : i.bytes = bytes) (hzs : z.cells.size = size) (hsz : 0 < size)
    (v : Value) (n : Nat) (xs : List Value) (hs : a.eval s = v) (hown : w.ownsRow base e size v n xs)
    (src : Value) (m : Nat) (news : List Value) (hx : a.eval x = src) (hsrc : SrcOf w src m size news) (h1 : ∀ u ∈ news, u.oneCell' = true)
    (h63 : n + m ≤ maxLen) (hbytes : (n + m) * bytes ≤ 140737488355328) (hbase : base ≤ w.heap.size)
    (h : ∀ v' w', w'.ownsRow base e size v' (n + m) (xs ++ news) → w.grownBy w' v.ownBlock → wpList P ops Q rest (a.put o.dst v') w') : wpList P ops Q (o :: rest) a w := by
  rcases hsrc with ⟨rfl, rfl, rfl⟩ | ⟨ad, c, rfl, hl, hn⟩
  · exact wpList_append_own_none hgd s x t ho base e i size ht hi v n xs hs hown hx (h v w (by simpa using hown) ⟨rfl, rfl, rfl, Nat.le_refl _, fun _ _ _ => rfl⟩)
  · exact wpList_append_own w hgd s x t ho base e i z size bytes ht hi hz hsize hby hzs hsz v n xs hs hown ad m c news hx hl hn h1 h63 hbytes hbase fun v' w' h2 h3 _ => h v' w' h2 h3

/-- A slice of integers that came in. -/
def IsRow (k : IntKind) (w : World) (a : Option Addr) (len cap : Nat) (zs : List Int) : Prop :=
  (a = none ∧ len = 0 ∧ cap = 0 ∧ zs = []) ∨
  ∃ x, a = some x ∧ len ≤ cap ∧ cap ≤ maxLen ∧ zs.length = cap ∧ (∀ i, i < zs.length → w.cell? (x.add i) = some (.int k (zs.getD i 0))) ∧ ∀ n ∈ zs, (Lit.int k n).wf = true

theorem IsRow.length {k : IntKind} {w : World} {a : Option Addr} {len cap : Nat} {zs : List Int} (h : IsRow k w a len cap zs) : (zs.take len).length = len := by
  rcases h with ⟨rfl, rfl, rfl, rfl⟩ | ⟨x, rfl, h1, _, h2, _⟩
  · rfl
  · simp; omega
theorem IsRow.le {k : IntKind} {w : World} {a : Option Addr} {len cap : Nat} {zs : List Int} (h : IsRow k w a len cap zs) : len ≤ maxLen := by
  rcases h with ⟨rfl, rfl, rfl, rfl⟩ | ⟨x, rfl, h1, h3, h2, _⟩
  · simp
  · omega
theorem IsRow.ints {k : IntKind} {w : World} {a : Option Addr} {len cap : Nat} {zs : List Int} (h : IsRow k w a len cap zs) : Ints k w (.slice a len cap) (zs.take len) := by
  have hl := h.length
  rcases h with ⟨rfl, rfl, rfl, rfl⟩ | ⟨x, rfl, h1, _, h2, hc, _⟩
  · exact .inl ⟨rfl, _, _, rfl⟩
  · by_cases h0 : len = 0
    · subst h0
      exact .inl ⟨by simp, _, _, rfl⟩
    · obtain ⟨b, off, rfl, hc'⟩ := ints_at hc (by omega)
      refine .inr ⟨b, off, cap, by rw [hl], fun i hi => ?_⟩
      rw [hl] at hi
      rw [hc' i (by omega), List.getElem?_take, if_pos hi, List.getD_eq_getElem?_getD]
theorem IsRow.src {k : IntKind} {w : World} {a : Option Addr} {len cap : Nat} {zs : List Int} (h : IsRow k w a len cap zs) : SrcOf w (.slice a len cap) len 1 ((zs.take len).map (Value.int k)) := by
  have hl := h.length
  rcases h with ⟨rfl, rfl, rfl, rfl⟩ | ⟨x, rfl, h1, _, h2, hc, _⟩
  · exact .inl ⟨rfl, rfl, rfl⟩
  · refine .inr ⟨x, cap, rfl, by simp [hl]; omega, fun j u hj => ?_⟩
    rw [List.getElem?_map, Option.map_eq_some_iff] at hj
    obtain ⟨z, hz, rfl⟩ := hj
    have hj' : j < len := by have := (List.getElem?_eq_some_iff.1 hz).1; omega
    rw [List.getElem?_take, if_pos hj'] at hz
    rw [hc j (by omega), List.getD_eq_getElem?_getD, hz]; rfl
theorem IsRow.wf {k : IntKind} {w : World} {a : Option Addr} {len cap : Nat} {zs : List Int} (h : IsRow k w a len cap zs) : ∀ n ∈ zs.take len, (Lit.int k n).wf = true := by
  rcases h with ⟨rfl, rfl, rfl, rfl⟩ | ⟨x, rfl, h1, _, h2, hc, hw⟩
  · simp
  · exact fun n hn => hw n (List.mem_of_mem_take hn)
theorem in32_of_wf {xs : List Int} (h : ∀ n ∈ xs, (Lit.int .i32 n).wf = true) : In32 xs := by
  intro i
  by_cases hi : i < xs.length
  · rw [List.getElem?_eq_getElem hi]
    have := h xs[i] (List.getElem_mem hi)
    simpa [Lit.wf, IntKind.min, IntKind.max, IntKind.signed, IntKind.bits] using this
  · rw [List.getElem?_eq_none (by omega)]; simp
/-- A row of the call's own reads as numbers, wherever it is cut. -/
theorem ints_of_own {w : World} {base : Nat} {e : TypeId} {k : IntKind} {v : Value} {n m : Nat} {xs : List Int} {more : List Value} (h : w.ownsRow base e 1 v m (xs.map (Value.int k) ++ more)) (hn : xs.length = n) (hm : n < m) :
    ∃ g cap, v = .slice (some ⟨g, 0, none⟩) m cap ∧ base ≤ g ∧ g < w.heap.size ∧ m ≤ cap ∧ cap ≤ maxLen ∧ Ints k w (.slice (some ⟨g, 0, none⟩) n cap) xs ∧ ∀ j, j < more.length → w.cell? ⟨g, n + j, none⟩ = more[j]? := by
  have hlt := h.lt
  rcases h.2 with ⟨rfl, h0⟩ | ⟨g, cap, cur, hv, hb, hg, hnc, hcm, hcs, htake⟩
  · omega
  · subst hv
    have hl := h.1
    simp only [List.length_append, List.length_map, Nat.mul_one] at hl
    refine ⟨g, cap, rfl, hb, (hlt g rfl).2, hnc, hcm, .inr ⟨g, 0, cap, by rw [hn], fun i hi => ?_⟩, fun j hj => ?_⟩
    · rw [Nat.zero_add, h.cellAt i (by omega), List.getElem?_append_left (by simpa using hi)]
      simp [hi]
    · rw [h.cellAt (n + j) (by omega), List.getElem?_append_right (by simp; omega)]
      simp [hn]
theorem Ints.below {k : IntKind} {w w' : World} {v : Value} {xs : List Int} (h : Ints k w v xs) (hb : ∀ b o, b < w.heap.size → w'.cell? ⟨b, o, none⟩ = w.cell? ⟨b, o, none⟩) : Ints k w' v xs := by
  rcases h with h | ⟨b, off, cap, rfl, hc⟩
  · exact .inl h
  · refine .inr ⟨b, off, cap, rfl, fun i hi => ?_⟩
    rw [hb b _ (World.block_lt_of_cell? w _ (hc i hi)), hc i hi]
theorem Ints.below' {k : IntKind} {w w' : World} {v : Value} {xs : List Int} (h : Ints k w v xs) (hb : Below w.heap.size w w') : Ints k w' v xs :=
  h.below fun b o hlt => hb.cell (p := ⟨b, o, none⟩) hlt
theorem SrcOf.below {w w' : World} {v : Value} {m size : Nat} {news : List Value} (h : SrcOf w v m size news) (hb : Below w.heap.size w w') : SrcOf w' v m size news := by
  rcases h with h | ⟨ad, c, rfl, hl, hc⟩
  · exact .inl h
  · refine .inr ⟨ad, c, rfl, hl, fun j u hj => ?_⟩
    have := hc j u hj
    rw [hb.cell (World.block_lt_of_cell? w _ this), this]
theorem below_drewN {B : Nat} {a w : World} (h : Below B a w) (n : Nat) : Below B a (w.drewN n) := ⟨h.os, h.tape, h.output, h.size, h.block⟩
theorem IsRow.lec {k : IntKind} {w : World} {a : Option Addr} {len cap : Nat} {zs : List Int} (h : IsRow k w a len cap zs) : len ≤ cap := by
  rcases h with ⟨rfl, rfl, rfl, rfl⟩ | ⟨x, rfl, h1, h3, h2, _⟩
  · simp
  · exact h1
theorem Ints.drewN {k : IntKind} {w : World} {v : Value} {xs : List Int} (h : Ints k w v xs) (n : Nat) : Ints k (w.drewN n) v xs := h.below fun _ _ _ => rfl
end Go.Proofs.YtmbmkfhdiljalaaGreat.vc
