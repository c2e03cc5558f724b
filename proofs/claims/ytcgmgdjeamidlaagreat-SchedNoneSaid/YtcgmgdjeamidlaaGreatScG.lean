/- Sched: known. -/
import Derived.Test.YtcgmgdjeamidlaaGreatScF
namespace Go.Proofs.YtcgmgdjeamidlaaGreat
open Go.RowKit Go.Shelf Go.ChangeShapes Go.WideShapes Go.ChangeAt
set_option linter.unusedVariables false
set_option linter.unusedSimpArgs false

theorem lit_rd (w : World) (xs : List Int) (h : xs.length ≤ 1000) : SlRd .u8 (w.alloc (.cells (xs.map (Value.int .u8)).toArray 5)) ⟨some ⟨w.heap.size, 0, none⟩, xs.length, xs⟩ := by
  have hr := Row.made w (xs.map (Value.int .u8)).toArray 5
  refine ⟨.inr ⟨w.heap.size, 0, xs.length, rfl, fun i hi => ?_⟩, fun _ b hb => by simp [Sl.bs] at hb; subst hb; simp, fun h => by simp at h, by simp; omega⟩
  rw [Nat.zero_add, hr.cell]
  simp [hi]
structure KnI (w : World) (B p g l s0 s1 t0 : Nat) (cs : Array Value) (D : PDB) (t : Int) (xs : List Int) (F S : List Nat) (W : World) : Prop where
  inv : (BegS B p s0 s1).I (D, t) F W
  strm : StrmF W t0 xs 0 S
  rg : Row W g #[.slice (some ⟨l, 0, none⟩) 2 2, .bool false] tSc
  rl : Row W l cs tLn
  c0 : cs[0 * 3]? = some (.pointer (some ⟨s0, 0, none⟩))
  c1 : cs[0 * 3 + 1]? = some (.pointer (some ⟨t0, 0, none⟩))
  c3 : cs[1 * 3]? = some (.pointer (some ⟨s1, 0, none⟩))
  dis : ∀ b ∈ F, b ∉ S
  gl : (g ∉ F ∧ g ∉ S) ∧ l ∉ F ∧ l ∉ S
  fr : ∀ b ∈ F ++ S, w.heap.size ≤ b
  bl : Below w.heap.size w W
theorem KnI.same {w : World} {B p g l s0 s1 t0 : Nat} {cs : Array Value} {D : PDB} {t : Int} {xs : List Int} {F S : List Nat} {W W' : World} (h : KnI w B p g l s0 s1 t0 cs D t xs F S W) (k : Only [] W W') : KnI w B p g l s0 s1 t0 cs D t xs F S W' :=
  ⟨(begS_ok B p s0 s1).only _ _ _ _ _ h.inv k (by simp), h.strm.only k (by simp), h.rg.only k (by simp), h.rl.only k (by simp), h.c0, h.c1, h.c3, h.dis, h.gl, h.fr, h.bl.trans (k.toBelow h.bl.size (by simp))⟩
theorem KnI.fed {w : World} {B p g l s0 s1 t0 : Nat} {cs : Array Value} {D D' : PDB} {t t' : Int} {xs ys : List Int} {F S F' S' : List Nat} {W W' : World} (h : KnI w B p g l s0 s1 t0 cs D t xs F S W) (h1 : (BegS B p s0 s1).I (D', t') F' W') (h2 : StrmF W' t0 ys 0 S') (h3 : Only (F ++ S) W W') (h4 : ∀ b ∈ F', b ∈ F ∨ W.heap.size ≤ b) (h5 : ∀ b ∈ S', b ∈ S ∨ W.heap.size ≤ b) (h6 : ∀ b ∈ F', b ∉ S') : KnI w B p g l s0 s1 t0 cs D' t' ys F' S' W' := by
  have lg := h.rg.lt
  have ll := h.rl.lt
  have hs := h.bl.size
  refine ⟨h1, h2, h.rg.only h3 (by simp; exact h.gl.1), h.rl.only h3 (by simp; exact h.gl.2), h.c0, h.c1, h.c3, h6, ⟨⟨fun hm => (h4 _ hm).elim h.gl.1.1 fun h => by omega, fun hm => (h5 _ hm).elim h.gl.1.2 fun h => by omega⟩, fun hm => (h4 _ hm).elim h.gl.2.1 fun h => by omega, fun hm => (h5 _ hm).elim h.gl.2.2 fun h => by omega⟩, fun b hb => ?_, h.bl.trans (h3.toBelow hs h.fr)⟩
  rcases List.mem_append.1 hb with hb | hb
  · exact (h4 b hb).elim (fun h7 => h.fr b (List.mem_append_left _ h7)) fun h7 => by omega
  · exact (h5 b hb).elim (fun h7 => h.fr b (List.mem_append_right _ h7)) fun h7 => by omega
theorem kn_start {w w0 w1 : World} {p g l : Nat} {F H : List Nat} {ls : List (Nat × Nat × Bool)} {cs : Array Value} {wa : World} (hd : DbF wa w.heap.size p (newP 1) F H) (hb : Below w.heap.size w wa) (hO : Only [] wa w0) (hI : ResI g l 2 (baseV p) w0 2 w1 ls cs) (hg : wa.heap.size ≤ g) (hl : wa.heap.size ≤ l) (hgl : g ≠ l) (g0 : g < w0.heap.size) (l0 : l < w0.heap.size) :
    ∃ s0 s1 t0 F' S', KnI w w.heap.size p g l s0 s1 t0 cs (newP 1) 0 [] F' S' w1 := by
  obtain ⟨x0, x1, rfl⟩ : ∃ x0 x1, ls = [x0, x1] := by
    have h := hI.len
    match ls, h with
    | [a, b], _ => exact ⟨a, b, rfl⟩
  obtain ⟨s0, t0, b0⟩ := x0
  obtain ⟨s1, t1, b1⟩ := x1
  have e0 := hI.each (s0, t0, b0) (by simp)
  have e1 := hI.each (s1, t1, b1) (by simp)
  have fr := hI.fresh
  have nd := hI.nd
  have tk := hI.take
  simp only [List.flatMap_cons, List.flatMap_nil, List.cons_append, List.nil_append, List.append_nil, List.mem_cons, List.not_mem_nil, or_false, List.nodup_cons, List.nodup_nil, not_or] at fr nd
  have f0 := fr s0 (by simp)
  have f1 := fr s1 (by simp)
  have f2 := fr t0 (by simp)
  have hz := hO.size
  have hz2 := hI.only.size
  have hz3 := hb.size
  have hlt := hd.lt
  have hge := hd.ge
  have cell : ∀ j, j < 6 → cs[j]? = (lnL [(s0, t0, b0), (s1, t1, b1)])[j]? := fun j hj => by
    rw [← tk, List.getElem?_take_of_lt (by omega)]; simp
  have hdw : DbF w1 w.heap.size p (newP 1) F H := (hd.only hO (by simp)).only hI.only (by
    intro b hb
    simp at hb
    refine ⟨fun hm => ?_, fun hm => ?_⟩
    · have := hlt.1 b hm; omega
    · have := hlt.2 b hm; omega)
  refine ⟨s0, s1, t0, s0 :: s1 :: (F ++ H), [t0], ⟨F, H, hdw, by omega, e0.1, e1.1, ⟨fun hm => by have := hlt.1 _ hm; omega, fun hm => by have := hlt.2 _ hm; omega⟩, ⟨fun hm => by have := hlt.1 _ hm; omega, fun hm => by have := hlt.2 _ hm; omega⟩, nd.1.2.1, rfl⟩, e0.2.1, hI.rg, hI.rl, (cell 0 (by omega)).trans rfl, (cell 1 (by omega)).trans rfl, (cell 3 (by omega)).trans rfl, fun b hb hm => ?_, ⟨⟨fun hm => ?_, fun hm => ?_⟩, fun hm => ?_, fun hm => ?_⟩, fun b hb => ?_, ?_⟩
  · simp at hm
    subst hm
    simp at hb
    rcases hb with hb | hb | hb | hb
    · exact nd.1.1 hb.symm
    · exact nd.2.1.1 hb
    · have := hlt.1 _ hb; omega
    · have := hlt.2 _ hb; omega
  · simp at hm
    rcases hm with hm | hm | hm | hm
    · omega
    · omega
    · have := hlt.1 _ hm; omega
    · have := hlt.2 _ hm; omega
  · simp at hm; omega
  · simp at hm
    rcases hm with hm | hm | hm | hm
    · omega
    · omega
    · have := hlt.1 _ hm; omega
    · have := hlt.2 _ hm; omega
  · simp at hm; omega
  · simp at hb
    rcases hb with hb | hb | hb | hb | hb
    · omega
    · omega
    · exact hge.1 b hb
    · exact hge.2 b hb
    · omega
  · exact (hb.trans (hO.toBelow hz3 (by simp))).trans (hI.only.toBelow (by omega) (by intro i hi; simp at hi; omega))
theorem kn_feed1 {w : World} {B p g l s0 s1 t0 : Nat} {cs : Array Value} {F S : List Nat} {W : World} (h : KnI w B p g l s0 s1 t0 cs (newP 1) 0 [] F S W) (hw : w.heap.size ≤ W.heap.size) :
    Calls Tryz.prog 29 #[.pointer (some ⟨g, 0, none⟩), .int .i64 0, .slice (some ⟨W.heap.size, 0, none⟩) 3 3] (W.alloc (.cells #[.int .u8 1, .int .u8 0, .int .u8 0] 5)) fun e w' => ∃ a c F' S', e = .returned (.tuple #[.slice a 0 c, .int .i64 0]) ∧ KnI w B p g l s0 s1 t0 cs (newP 1) 0 [1, 0, 0] F' S' w' := by
  have h1 := h.same ((Only.refl [] W).alloc (.cells #[.int .u8 1, .int .u8 0, .int .u8 0] 5))
  have hu := lit_rd W [1, 0, 0] (by simp)
  have hz : sizeF ([] ++ [1, 0, 0]) = (0, 7) := by decide
  have by3 : IsBy [1, 0, 0] := by intro x hx; simp at hx; omega
  refine (feed_on (begS_ok B p s0 s1) (m := 0) (n := 2) (u := ⟨some ⟨W.heap.size, 0, none⟩, 3, [1, 0, 0]⟩) h1.inv h1.strm h1.rg h1.rl (by omega) (by omega) h1.c0 h1.c1 h1.dis h1.gl hu by3 IsBy.nil (by simp) (fun k hk => by rw [hz] at hk; simp at hk) (fun s' ys o hr => by have := (runs_stop hr hz).2.2.2; omega)).mono ?_
  rintro e w' ⟨s', ys, o, v, F', S', hr, rfl, ho, hI, hs, hO, hF, hS, hd, _, _⟩
  obtain ⟨rfl, rfl, rfl, _⟩ := runs_stop hr hz
  obtain ⟨a, c, rfl, _, _⟩ := own_shape ho
  exact ⟨a, c, F', S', rfl, h1.fed hI hs hO hF hS hd⟩
theorem kn_feed2 {w : World} {B p g l s0 s1 t0 : Nat} {cs : Array Value} {F S : List Nat} {W : World} (h : KnI w B p g l s0 s1 t0 cs (newP 1) 0 [1, 0, 0] F S W) (hw : w.heap.size ≤ W.heap.size) :
    Calls Tryz.prog 29 #[.pointer (some ⟨g, 0, none⟩), .int .i64 0, .slice (some ⟨W.heap.size, 0, none⟩) 2 2] (W.alloc (.cells #[.int .u8 0, .int .u8 1] 5)) fun e w' => ∃ a c D' F' S', e = .returned (.tuple #[.slice a 6 c, .int .i64 0]) ∧ Ints .u8 w' (.slice a 6 c) [2, 0, 0, 0, 1, 0] ∧ KnI w B p g l s0 s1 t0 cs D' 1 [] F' S' w' := by
  have h1 := h.same ((Only.refl [] W).alloc (.cells #[.int .u8 0, .int .u8 1] 5))
  have hu := lit_rd W [0, 1] (by simp)
  have hz : sizeF ([1, 0, 0] ++ [0, 1]) = (((1 : Nat) : Int), 0) := by decide
  have hz2 : sizeF (([1, 0, 0] ++ [0, 1] : List Int).drop (4 + 1)) = (0, 7) := by decide
  have by3 : IsBy [0, 1] := by intro x hx; simp at hx; omega
  have by4 : IsBy [1, 0, 0] := by intro x hx; simp at hx; omega
  refine (feed_on (begS_ok B p s0 s1) (m := 0) (n := 2) (u := ⟨some ⟨W.heap.size, 0, none⟩, 2, [0, 1]⟩) h1.inv h1.strm h1.rg h1.rl (by omega) (by omega) h1.c0 h1.c1 h1.dis h1.gl hu by3 by4 (by simp) (fun k hk => ?_) (fun s' ys o hr => ?_)).mono ?_
  · rw [hz] at hk
    simp only [Prod.mk.injEq, and_true] at hk
    have hk1 : k = 1 := by omega
    subst hk1
    refine ⟨⟨rfl, by simp [newP], by simp [newP], rfl⟩, fun s' zs _ k hk => ?_⟩
    rw [hz2] at hk
    simp at hk
  · obtain ⟨s1, zs, o1, hs, hr1, _⟩ := runs_step hr hz
    have := (runs_stop hr1 hz2).2.2.2
    omega
  rintro e w' ⟨s', ys, o, v, F', S', hr, rfl, ho, hI, hs, hO, hF, hS, hd, _, _⟩
  obtain ⟨s1', zs, o1, hst, hr1, rfl⟩ := runs_step hr hz
  obtain ⟨rfl, rfl, rfl, _⟩ := runs_stop hr1 hz2
  obtain ⟨hs2, rfl⟩ := hst
  have eo : leB (([1, 0] : List Int).length : Int) 4 ++ [1, 0] ++ [] = [2, 0, 0, 0, 1, 0] := by decide
  rw [eo] at ho
  have hi := ints_own ho
  obtain ⟨a, c, rfl, _, _⟩ := own_shape ho
  obtain ⟨D', t'⟩ := s'
  have ht : t' = 1 := hs2
  subst ht
  exact ⟨a, c, D', F', S', rfl, hi, h1.fed hI hs hO hF hS hd⟩
set_option maxRecDepth 100000 in
set_option maxHeartbeats 4000000 in
theorem known_on (w : World) : Calls Tryz.prog 25 #[] w fun e w' => e = .returned (.bool true) ∧ Below w.heap.size w w' := by
  have N1 := Lib.hid (new_on 1 w (by omega) (by omega))
  go_enter Tryz.func25, Tryz.ntmps25
  go_wp2_with fail
  refine N1.out.mono ?_
  rintro _ wa ⟨p, F, H, rfl, hd, hb⟩
  have HD := Lib.hid (And.intro hd hb)
  have N2 := Lib.hid (new_on_ (w := wa) (n := 2) (tb := 24) (pb := .pointer (some ⟨p, 0, none⟩)) (by omega) (by omega))
  clear hd hb N1
  go_wp2_with fail
  refine N2.out.mono ?_
  rintro _ w1 ⟨w0, g, l, ls, cs, rfl, hI, hO, hg, hl, hgl, g0, l0⟩
  obtain ⟨s0, s1, t0, F1, S1, hK⟩ := kn_start HD.out.1 HD.out.2 hO hI hg hl hgl g0 l0
  have K1 := Lib.hid hK
  have F1' := Lib.hid (kn_feed1 hK hK.bl.size)
  clear hI hO hg hl hgl g0 l0 hK N2
  go_wp2_with fail
  refine F1'.out.mono ?_
  rintro _ w2 ⟨a, c, F2, S2, rfl, hK⟩
  have K2 := Lib.hid hK
  have F2' := Lib.hid (kn_feed2 hK hK.bl.size)
  clear hK F1'
  go_wp2_with fail
  refine F2'.out.mono ?_
  rintro _ w3 ⟨a2, c2, D3, F3, S3, rfl, hi, hK⟩
  have K3 := Lib.hid hK
  have CV := conv_ints hi
  have es : strOfNums [2, 0, 0, 0, 1, 0] = ⟨#[2, 0, 0, 0, 1, 0]⟩ := by decide
  rw [es] at CV
  have X0 : Hid (Calls Tryz.prog 31 #[.pointer (some ⟨g, 0, none⟩), .int .i64 0] w3 fun e w' => e = .returned (.int .u64 1) ∧ w' = w3) := Lib.hid (by
    obtain ⟨G1, H1, h1, h2, h3, _⟩ := hK.inv
    exact sctxn_on (m := 0) hK.rg hK.rl (by omega) hK.c0 h3)
  have X1 : Hid (Calls Tryz.prog 31 #[.pointer (some ⟨g, 0, none⟩), .int .i64 1] w3 fun e w' => e = .returned (.int .u64 0) ∧ w' = w3) := Lib.hid (by
    obtain ⟨G1, H1, h1, h2, h3, h4, _⟩ := hK.inv
    exact sctxn_on (m := 1) hK.rg hK.rl (by omega) hK.c3 h4)
  clear hK hi F2'
  go_wp2_with fail
  refine X0.out.mono ?_
  rintro _ w4 ⟨rfl, hw⟩
  subst w4
  go_wp2_with fail
  refine X1.out.mono ?_
  rintro _ w4 ⟨rfl, hw⟩
  subst w4
  go_wp2_with fail
  go_ret
  exact ⟨rfl, K3.out.bl⟩
end Go.Proofs.YtcgmgdjeamidlaaGreat
