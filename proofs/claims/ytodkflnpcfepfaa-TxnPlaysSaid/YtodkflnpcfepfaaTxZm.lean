/- Look and Looks, of both. -/
import Derived.Test.YtodkflnpcfepfaaTxZk
namespace Go.Proofs.Ytodkflnpcfepfaa
open Go.RowKit Go.ChangeShapes Go.WideShapes Go.ChangeAt
set_option linter.unusedVariables false
set_option linter.unusedSimpArgs false

def Look2 (sf st bs er : Int) (ds : List (Int × Int)) (w1 : World) (e : Ending) (w2 : World) : Prop := ∃ a cc, e = .returned (.tuple #[.agg #[.int .u64 sf, .int .u64 st, .int .u64 bs, .slice a ds.length cc], .int .i64 er]) ∧ w2.ownsRow w1.heap.size tSt 2 (.slice a ds.length cc) ds.length (dsL ds) ∧ Below w1.heap.size w1 w2
def Look1 (q : Nat) (n sf st bs er : Int) (ds : List (Int × Int)) (w : World) (e : Ending) (w1 : World) : Prop := Look2 sf st bs er ds w e w1 ∧ ∀ y, Below w1.heap.size w1 y → Calls Try.prog 23 #[.pointer (some ⟨q, 0, none⟩), .int .u64 n] y (Look2 sf st bs er ds y)
theorem look_pair {W w : World} {p q c : Nat} {M : Mg} {F G : List Nat} {R : Rf} (h : TwoAt W w p M F q R G c) (hc : c < 900) (n : Int) :
    ∃ (sf st bs er : Int) (ds : List (Int × Int)), ds.length ≤ 1000 ∧ Calls Try.prog 14 #[.pointer (some ⟨p, 0, none⟩), .int .u64 n] w (Look1 q n sf st bs er ds w) := by
  rcases h.rel.find n with ⟨i, x, o, hf, hx, hn, hop, ho, hon, hos, hok⟩ | ⟨hf, ho⟩
  · refine ⟨n, o.start, M.base, 0, M.ds, by have := h.cnt.ds; omega, (look_yes h.mg ho).mono ?_⟩
    rintro e w1 ⟨a, m, cc, rfl, ho1, hb⟩
    obtain ⟨a2, c2, e2⟩ := own_len ho1
    simp only [Value.slice.injEq] at e2
    obtain ⟨rfl, rfl, rfl⟩ := e2
    refine ⟨⟨a, cc, rfl, ho1, hb⟩, fun y hy => ?_⟩
    have h2 := (h.only ((Only.refl [] w).below hb) (by simp)).only ((Only.refl [] w1).below hy) (by simp)
    obtain ⟨av, ra, hG⟩ := h2.rf
    refine (look_ref ra hf hx).mono ?_
    rintro e w2 ⟨a2, c2, rfl, ho2, hb2⟩
    rw [← h.rel.ds] at ho2 ⊢
    exact ⟨a2, c2, by rw [hos, h.rel.base]; rfl, ho2, hb2⟩
  · refine ⟨0, 0, 0, 12, [], by simp, (look_no h.mg ho).mono ?_⟩
    rintro e w1 ⟨rfl, hb⟩
    refine ⟨⟨none, 0, rfl, World.ownsRow_nil _ _ _ _, hb⟩, fun y hy => ?_⟩
    have h2 := (h.only ((Only.refl [] w).below hb) (by simp)).only ((Only.refl [] w1).below hy) (by simp)
    obtain ⟨av, ra, hG⟩ := h2.rf
    refine (look_refno ra hf).mono ?_
    rintro e w2 ⟨rfl, hb2⟩
    exact ⟨none, 0, rfl, World.ownsRow_nil _ _ _ _, hb2⟩
def Looks1 (q : Nat) (base : Int) (ds ks : List (Int × Int)) (w : World) (e : Ending) (w1 : World) : Prop := LooksTo base ds ks w e w1 ∧ Calls Try.prog 25 #[.pointer (some ⟨q, 0, none⟩)] w1 (LooksTo base ds ks w1)
theorem looks_pair {W w : World} {p q c : Nat} {M : Mg} {F G : List Nat} {R : Rf} (h : TwoAt W w p M F q R G c) (hc : c < 900) :
    ∃ (base : Int) (ds ks : List (Int × Int)), ds.length ≤ 1000 ∧ ks.length ≤ 1000 ∧ Calls Try.prog 24 #[.pointer (some ⟨p, 0, none⟩)] w (Looks1 q base ds ks w) := by
  have hds := h.cnt.ds
  have hos := h.cnt.os
  refine ⟨M.base, M.ds, looksK R, by omega, ?_, (looks_at h.mg (by omega) (by omega)).mono ?_⟩
  · have := congrArg List.length h.rel.opens
    simp at this
    simp [looksK]
    omega
  · rintro e w1 ⟨ys, ⟨h1, h2⟩, v, rfl, hl⟩
    obtain ⟨bo, bw, dv, hm, _⟩ := h.mg
    rw [looks_alike h.rel hm h1 h2] at hl
    refine ⟨⟨v, rfl, hl⟩, ?_⟩
    obtain ⟨xs, hx⟩ := hl
    have h3 := h.only ((Only.refl [] w).below hx.bl) (by simp)
    obtain ⟨av, ra, hG⟩ := h3.rf
    refine (looks_ref ra).mono ?_
    rw [← h.rel.ds, ← h.rel.base]
    exact fun _ _ hh => hh
theorem lksL_get (base : Int) (xs : List LkX) : ∀ (j : Nat) (x : LkX), xs[j]? = some x → ∀ i, i < 4 → (lksL base xs)[j * 4 + i]? = (lkC base x)[i]? := by
  induction xs with
  | nil => intro j x h; simp at h
  | cons y l ih =>
    intro j x h i hi
    show (lkC base y ++ lksL base l)[j * 4 + i]? = _
    cases j with
    | zero =>
      simp only [List.getElem?_cons_zero, Option.some.injEq] at h
      subst h
      rw [List.getElem?_append_left (by simp [lkC]; omega)]
      simp
    | succ j =>
      rw [List.getElem?_append_right (by simp [lkC]; omega)]
      have e : (j + 1) * 4 + i - (lkC base y).length = j * 4 + i := by simp [lkC]; omega
      rw [e]
      exact ih j x (by simpa using h) i hi
/-- A row of looks, to be read. -/
def LksIn (w : World) (a : Option Addr) (n : Nat) (base : Int) (ds ks : List (Int × Int)) : Prop := ks.length = n ∧ ∀ (j : Nat) (k : Int × Int), ks[j]? = some k → ∃ g da dc, a = some ⟨g, 0, none⟩ ∧ w.cell? ⟨g, j * 4, none⟩ = some (.int .u64 k.1) ∧ w.cell? ⟨g, j * 4 + 1, none⟩ = some (.int .u64 k.2) ∧ w.cell? ⟨g, j * 4 + 2, none⟩ = some (.int .u64 base) ∧ w.cell? ⟨g, j * 4 + 3, none⟩ = some (.slice da ds.length dc) ∧ StAt w da ds.length ds
theorem LkAt.to {w0 w : World} {base : Int} {ds ks : List (Int × Int)} {v : Value} (h : LkAt w0 w base ds v ks) : ∃ a c, v = .slice a ks.length c ∧ LksIn w a ks.length base ds ks ∧ Below w0.heap.size w0 w := by
  obtain ⟨xs, h⟩ := h
  have hl : xs.length = ks.length := by rw [← h.keys]; simp
  obtain ⟨a, c, rfl⟩ := own_len h.row.own
  rw [hl]
  refine ⟨a, c, rfl, ⟨rfl, fun j k hk => ?_⟩, h.bl⟩
  have hj : j < ks.length := (List.getElem?_eq_some_iff.1 hk).1
  obtain ⟨x, hx⟩ : ∃ x, xs[j]? = some x := ⟨_, List.getElem?_eq_getElem (by omega)⟩
  have hkx : (x.1, x.2.1) = k := by
    have := congrArg (fun l => l[j]?) h.keys
    simp only [List.getElem?_map, hx, hk, Option.map_some, Option.some.injEq] at this
    exact this
  subst hkx
  rcases h.row.own.2 with ⟨_, h0⟩ | ⟨g, cap, cur, e, _⟩
  · omega
  · simp only [Value.slice.injEq] at e
    obtain ⟨rfl, _, rfl⟩ := e
    have hxd := (h.row.each x (List.mem_of_getElem? hx)).1
    obtain ⟨da, dc, hv⟩ := own_len hxd
    have hc : ∀ i, i < 4 → w.cell? ⟨g, j * 4 + i, none⟩ = (lkC base x)[i]? := fun i hi => by
      rw [World.ownsRow.cellAt h.row.own (j * 4 + i) (by omega)]
      exact lksL_get base xs j x hx i hi
    have h3 := hc 3 (by omega)
    simp only [lkC, List.getElem?_cons_succ, List.getElem?_cons_zero, hv] at h3
    rw [hv] at hxd
    exact ⟨g, da, dc, rfl, hc 0 (by omega), hc 1 (by omega), hc 2 (by omega), h3, (StAt.of_own hxd rfl).2⟩
theorem LksIn.below {w w' : World} {a : Option Addr} {n : Nat} {base : Int} {ds ks : List (Int × Int)} (h : LksIn w a n base ds ks) (k : Below w.heap.size w w') : LksIn w' a n base ds ks :=
  ⟨h.1, fun j x hx => by
    obtain ⟨g, da, dc, rfl, h0, h1, h2, h3, h4⟩ := h.2 j x hx
    have up : ∀ o v, w.cell? ⟨g, o, none⟩ = some v → w'.cell? ⟨g, o, none⟩ = some v := fun o v hv => (k.cell (p := ⟨g, o, none⟩) (cell_lt hv)).trans hv
    exact ⟨g, da, dc, rfl, up _ _ h0, up _ _ h1, up _ _ h2, up _ _ h3, h4.below k⟩⟩
end Go.Proofs.Ytodkflnpcfepfaa
