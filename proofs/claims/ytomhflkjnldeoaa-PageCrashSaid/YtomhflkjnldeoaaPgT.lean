/- A slice of Puts that came in. -/
import Derived.Test.YtomhflkjnldeoaaPgS
import Derived.Test.YtomhflkjnldeoaaDkLf
namespace Go.Proofs.Ytomhflkjnldeoaa
open Go.RowKit Go.ChangeShapes Go.WideShapes Go.ChangeAt Go.Deep Go.Joins
open Go.Proofs.Ytomhflkjnldeoaa.dk (open_slice_fields)
set_option linter.unusedVariables false

structure PutV where
  n : Int
  fill : Int
  lsn : Int
  sync : Bool
instance PutV.some : Inhabited PutV := ⟨⟨0, 0, 0, false⟩⟩
structure PutAt (w : World) (b o : Nat) (x : PutV) : Prop where
  c0 : w.cell? ⟨b, o, none⟩ = some (.int .i64 x.n)
  c1 : w.cell? ⟨b, o + 1, none⟩ = some (.int .i64 x.fill)
  c2 : w.cell? ⟨b, o + 2, none⟩ = some (.int .u64 x.lsn)
  c3 : w.cell? ⟨b, o + 3, none⟩ = some (.bool x.sync)
  w0 : -9223372036854775808 ≤ x.n ∧ x.n ≤ 9223372036854775807
  w2 : 0 ≤ x.lsn ∧ x.lsn < 18446744073709551616
def PutsIn (w : World) (a : Option Addr) (n c : Nat) (os : List PutV) : Prop := os.length = n ∧ n ≤ 9223372036854775807 ∧ (n = 0 ∨ ∃ b off, a = some ⟨b, off, none⟩ ∧ ∀ i x, os[i]? = some x → PutAt w b (off + i * 4) x)
theorem puts_in {H : Type} {enc : TypeId × Value → H} {W : World} {fuel : Nat} {a : Option Addr} {n c : Nat} {x : DataW H × List MemPlace} (h : DataW.trod enc Try.prog W 0 (fun _ => true) true fuel 36 [.slice a n c] = some x) :
    ∃ os, PutsIn W a n c os := by
  rcases open_slice_fields Try.underlying36 Try.underlying43 (by kernel_rfl) (by kernel_rfl) h with hcs | ⟨ad, len, cap, m, k, V, hcs, hl, hm, hmm, hx⟩
  · simp at hcs
    obtain ⟨rfl, rfl, rfl⟩ := hcs
    exact ⟨[], rfl, by omega, .inl rfl⟩
  · simp at hcs
    obtain ⟨rfl, rfl, rfl⟩ := hcs
    simp only [if_true] at hmm
    subst hmm
    unfold maxLen at hm
    by_cases h0 : n = 0
    · exact ⟨[], h0 ▸ rfl, by omega, .inl h0⟩
    have each : ∀ i, i < m → ∃ x : PutV, W.cell? (ad.add (i * 4)) = some (.int .i64 x.n) ∧ W.cell? (ad.add (i * 4 + 1)) = some (.int .i64 x.fill) ∧ W.cell? (ad.add (i * 4 + 2)) = some (.int .u64 x.lsn) ∧ W.cell? (ad.add (i * 4 + 3)) = some (.bool x.sync) ∧
        (Lit.int .i64 x.n).wf = true ∧ (Lit.int .u64 x.lsn).wf = true := by
      intro i hi
      obtain ⟨e0, y0, t0⟩ := hx i hi 0 _ rfl
      obtain ⟨e1, y1, t1⟩ := hx i hi 1 _ rfl
      obtain ⟨e2, y2, t2⟩ := hx i hi 2 _ rfl
      obtain ⟨e3, y3, t3⟩ := hx i hi 3 _ rfl
      obtain ⟨p0, r0, _, f0⟩ := DataW.trod_int Try.underlying3 t0
      obtain ⟨p1, r1, _, f1⟩ := DataW.trod_int Try.underlying3 t1
      obtain ⟨p2, r2, _, f2⟩ := DataW.trod_int Try.underlying22 t2
      obtain ⟨p3, r3, _⟩ := DataW.trod_bool Try.underlying4 t3
      simp only [List.cons.injEq, and_true] at r0 r1 r2 r3
      exact ⟨⟨p0, p1, p2, p3⟩, by rw [← r0]; exact e0, by rw [← r1]; exact e1, by rw [← r2]; exact e2, by rw [← r3]; exact e3, f0, f2⟩
    obtain ⟨f, hf⟩ := choose_lt each
    obtain ⟨b, off, path⟩ := ad
    have hp : path = none := by
      have := World.cell?_spot (hf 0 (by omega)).1
      simpa [Addr.add] using this
    subst hp
    refine ⟨(List.range n).map f, by simp, by omega, .inr ⟨b, off, rfl, fun i x hx => ?_⟩⟩
    have hi : i < n := by have := (List.getElem?_eq_some_iff.1 hx).1; simpa using this
    rw [List.getElem?_map, List.getElem?_range hi] at hx
    simp only [Option.map_some, Option.some.injEq] at hx
    subst hx
    obtain ⟨h1, h2, h3, h4, h5, h6⟩ := hf i (by omega)
    rw [add_plain] at h1 h2 h3 h4
    have e5 : -9223372036854775808 ≤ (f i).n ∧ (f i).n ≤ 9223372036854775807 := by simpa [Lit.wf, IntKind.min, IntKind.max, IntKind.signed, IntKind.bits] using h5
    have e6 : 0 ≤ (f i).lsn ∧ (f i).lsn ≤ 18446744073709551615 := by simpa [Lit.wf, IntKind.min, IntKind.max, IntKind.signed, IntKind.bits] using h6
    exact ⟨h1, h2, h3, h4, e5, by omega, by omega⟩
end Go.Proofs.Ytomhflkjnldeoaa
