/- The calls that came in, with the bytes of their picks bounded. -/
import Derived.Test.YtiheobbollpaaaaDkZa
namespace Go.Proofs.Ytiheobbollpaaaa
open Go.RowKit Go.ChangeShapes Go.WideShapes Go.ChangeAt Go.Deep Go.Joins
set_option linter.unusedVariables false

section
variable {H : Type} {enc : TypeId × Value → H} {P : Program} {w : World} {base : Nat} {spare : Nat → Bool} {held : Bool}
theorem weights_all {e : TypeId} {d : DataW H} {k : Nat} : ∀ {l : List (DataW H)}, d ∈ l → k ∈ d.weights P e → k ∈ DataW.weightsAll P e l
  | [], h, _ => by simp at h
  | x :: r, h, hk => by
    simp only [DataW.weightsAll, List.mem_append]
    rcases List.mem_cons.1 h with rfl | h
    · exact .inl hk
    · exact .inr (weights_all h hk)
/-- A slice of structs of one-cell fields: what each field of each element holds. -/
theorem open_slice_fields2 {t e : TypeId} {fs : Array Field} {fuel : Nat} {cs : List Value} {x : DataW H × List MemPlace} (ht : P.underlying t = some (.slice e)) (he : P.underlying e = some (.struct fs))
    (hone : oneCellFields P fs = true) (ce : P.cellsOf e = fs.size) (h : DataW.trod enc P w base spare held fuel t cs = some x) :
    cs = [.slice none 0 0] ∨
    ∃ (a : Addr) (len cap m n : Nat) (V : Nat → Nat → Value), cs = [.slice (some a) len cap] ∧ len ≤ cap ∧ cap ≤ maxLen ∧ m = (if spare a.block then cap else len) ∧
      ∀ i, i < m → ∀ (j : Nat) (f : Field), fs[j]? = some f → w.cell? (a.add (i * fs.size + j)) = some (V i j) ∧ ∃ y, DataW.trod enc P w base spare held n f.type [V i j] = some y ∧ ∀ k ∈ y.1.weights P f.type, k ∈ x.1.weights P t := by
  rcases open_slice ht h with ⟨h0, _⟩ | ⟨a, len, cap, m, n, D, Pl, rfl, hb, hl, hm, hmm, rfl, hx⟩
  · exact .inl h0
  right
  have each : ∀ i, i < m → ∃ v : Nat → Value, ∀ (j : Nat) (f : Field), fs[j]? = some f → w.cell? (a.add (i * fs.size + j)) = some (v j) ∧ ∃ y, DataW.trod enc P w base spare held (n - 1) f.type [v j] = some y ∧ ∀ k ∈ y.1.weights P f.type, k ∈ (D i).weights P e := by
    intro i hi
    obtain ⟨cs', h1, h2⟩ := hx i hi
    rw [ce] at h1
    obtain ⟨_, hlen, hcell⟩ := World.cells?_some h1
    obtain ⟨xs, k, hk, hxy, _, hxl, hf⟩ := DataW.trod_struct he h2
    have hk' : k = n - 1 := by omega
    subst hk'
    refine ⟨fun j => cs'.getD j undef, fun j f hj => ?_⟩
    obtain ⟨ho, hc⟩ := hone_of hone j f hj
    have hlt : j < fs.size := (Array.getElem?_eq_some_iff.1 hj).1
    have g := hf j f hj
    rw [ho, hc, take1_drop _ _ undef (by omega)] at g
    have e := hcell j (by omega)
    rw [add_add] at e
    refine ⟨?_, xs[j]'(by omega), ?_, ?_⟩
    · show _ = some (cs'.getD j undef)
      rw [e, List.getD_eq_getElem?_getD, List.getElem?_eq_getElem (by omega)]; rfl
    · rw [g, List.getElem?_eq_getElem (by omega)]
    · intro k hk
      simp only [Prod.mk.injEq] at hxy
      rw [hxy.1]
      simp only [DataW.weights, he]
      exact DataW.weights_mem_each (j := j) (t := f.type) (by simp [hj]) (by simp [show j < xs.length by omega]) k hk
  obtain ⟨q, hq⟩ := choose_lt each
  refine ⟨a, len, cap, m, n - 1, q, rfl, hl, hm, hmm, fun i hi j f hf => ?_⟩
  obtain ⟨h1, y, h2, h3⟩ := hq i hi j f hf
  refine ⟨h1, y, h2, fun k hk => ?_⟩
  have h4 := h3 k hk
  have hlm : len ≤ m := by rw [hmm]; split <;> omega
  simp only [DataW.weights, ht, List.mem_cons, List.mem_append]
  right
  by_cases hil : i < len
  · exact .inl (weights_all (List.mem_map.2 ⟨i, List.mem_range.2 hil, rfl⟩) h4)
  · exact .inr (weights_all (List.mem_map.2 ⟨i - len, List.mem_range.2 (by omega), by rw [show len + (i - len) = i by omega]⟩) h4)
end

theorem weight_bytes {H : Type} {y : DataW H × List MemPlace} {a b : List Int} {P : List MemPlace} (h : y = (.slice (lits .u8 a) (lits .u8 b), P)) : a.length + b.length ∈ y.1.weights Try.prog 23 := by
  rw [h]
  simp only [DataW.weights, Try.underlying23, lits, List.length_map, show Try.prog.bytesOf 5 = 1 from by kernel_rfl, Nat.mul_one]
  exact List.mem_cons_self ..
theorem ops_in2 {H : Type} {enc : TypeId × Value → H} {W : World} {fuel : Nat} {a : Option Addr} {n c : Nat} {x : DataW H × List MemPlace} (h : DataW.trod enc Try.prog W 0 (fun _ => true) true fuel 22 [.slice a n c] = some x)
    (hw : ∀ k ∈ x.1.weights Try.prog 22, k ≤ reachBytes) : ∃ os, OpsIn W a n c os ∧ ∀ x ∈ os, x.pl ≤ 140737488351232 := by
  rcases open_slice_fields2 Try.underlying22 Try.underlying31 (by kernel_rfl) (by kernel_rfl) h with hcs | ⟨ad, len, cap, m, k, V, hcs, hl, hm, hmm, hx⟩
  · simp at hcs
    obtain ⟨rfl, rfl, rfl⟩ := hcs
    exact ⟨[], ⟨rfl, by omega, .inl rfl⟩, by simp⟩
  · simp at hcs
    obtain ⟨rfl, rfl, rfl⟩ := hcs
    simp only [if_true] at hmm
    subst hmm
    unfold maxLen at hm
    by_cases h0 : n = 0
    · exact ⟨[], ⟨h0 ▸ rfl, by omega, .inl h0⟩, by simp⟩
    have each : ∀ i, i < m → ∃ x : OpV, W.cell? (ad.add (i * 5)) = some (.int .i64 x.kind) ∧ W.cell? (ad.add (i * 5 + 1)) = some (.int .i64 x.at_) ∧ W.cell? (ad.add (i * 5 + 2)) = some (.int .i64 x.fill) ∧ W.cell? (ad.add (i * 5 + 3)) = some (.bool x.short) ∧
        W.cell? (ad.add (i * 5 + 4)) = some (.slice x.pa x.pl x.pc) ∧ (∃ zs, IsRow .u8 W x.pa x.pl x.pc zs ∧ x.pk = zs.take x.pl) ∧ (Lit.int .i64 x.kind).wf = true ∧ (Lit.int .i64 x.at_).wf = true ∧ (Lit.int .i64 x.fill).wf = true ∧ x.pl ≤ 140737488351232 := by
      intro i hi
      obtain ⟨e0, y0, t0, _⟩ := hx i hi 0 _ rfl
      obtain ⟨e1, y1, t1, _⟩ := hx i hi 1 _ rfl
      obtain ⟨e2, y2, t2, _⟩ := hx i hi 2 _ rfl
      obtain ⟨e3, y3, t3, _⟩ := hx i hi 3 _ rfl
      obtain ⟨e4, y4, t4, g4⟩ := hx i hi 4 _ rfl
      obtain ⟨p0, r0, _, f0⟩ := DataW.trod_int Try.underlying3 t0
      obtain ⟨p1, r1, _, f1⟩ := DataW.trod_int Try.underlying3 t1
      obtain ⟨p2, r2, _, f2⟩ := DataW.trod_int Try.underlying3 t2
      obtain ⟨p3, r3, _⟩ := DataW.trod_bool Try.underlying4 t3
      simp only [List.cons.injEq, and_true] at r0 r1 r2 r3
      rcases open_ints Try.underlying23 Try.underlying5 (by kernel_rfl) t4 with ⟨hcs, _⟩ | ⟨x, l, c, zs, hcs, _, hl, hm, hz, hy4, hcell, hwz⟩
      · simp only [List.cons.injEq, and_true] at hcs
        exact ⟨⟨p0, p1, p2, p3, none, 0, 0, []⟩, by rw [← r0]; exact e0, by rw [← r1]; exact e1, by rw [← r2]; exact e2, by rw [← r3]; exact e3, by rw [← hcs]; exact e4, ⟨[], .inl ⟨rfl, rfl, rfl, rfl⟩, rfl⟩, f0, f1, f2, Nat.zero_le _⟩
      · simp only [List.cons.injEq, and_true] at hcs
        have hz' : zs.length = c := by simpa using hz
        have hbig : l ≤ 140737488351232 := by
          have g5 := hw _ (g4 ((zs.take l).length + (zs.drop l).length) (weight_bytes hy4))
          simp only [reachBytes, List.length_take, List.length_drop] at g5
          omega
        exact ⟨⟨p0, p1, p2, p3, some x, l, c, zs.take l⟩, by rw [← r0]; exact e0, by rw [← r1]; exact e1, by rw [← r2]; exact e2, by rw [← r3]; exact e3, by rw [← hcs]; exact e4, ⟨zs, .inr ⟨_, rfl, hl, hm, hz', hcell, hwz⟩, rfl⟩, f0, f1, f2, hbig⟩
    obtain ⟨f, hf⟩ := choose_lt each
    obtain ⟨b, off, path⟩ := ad
    have hp : path = none := by
      have := World.cell?_spot (hf 0 (by omega)).1
      simpa [Addr.add] using this
    subst hp
    refine ⟨(List.range n).map f, ⟨by simp, by omega, .inr ⟨b, off, rfl, fun i x hx => ?_⟩⟩, fun x hx => by
      obtain ⟨i, hi, rfl⟩ := List.mem_map.1 hx
      exact (hf i (by have := List.mem_range.1 hi; omega)).2.2.2.2.2.2.2.2.2⟩
    have hi : i < n := by have := (List.getElem?_eq_some_iff.1 hx).1; simpa using this
    rw [List.getElem?_map, List.getElem?_range hi] at hx
    simp only [Option.map_some, Option.some.injEq] at hx
    subst hx
    obtain ⟨h1, h2, h3, h4, h5, h6, h7, h8, h9, _⟩ := hf i (by omega)
    rw [add_plain] at h1 h2 h3 h4 h5
    exact ⟨h1, h2, h3, h4, h5, h6, h7, h8, h9⟩
end Go.Proofs.Ytiheobbollpaaaa
