/- Readers of bytes. -/
import Derived.Test.YtcgmgdjeamidlaaGreatSsE
namespace Go.Proofs.YtcgmgdjeamidlaaGreat
open Go.RowKit Go.ChangeShapes Go.WideShapes Go.ChangeAt
set_option linter.unusedVariables false
set_option linter.unusedSimpArgs false

abbrev tRd : TypeId := 239
/-- A reader in memory: what is left, and its error. -/
structure RdrAt (w : World) (r : Nat) (xs : List Int) (e : Int) : Prop where
  at_ : ∃ s : Sl, s.xs = xs ∧ Row w r #[s.v, .int .i64 e] tRd ∧ SlRd .u8 w s ∧ (xs ≠ [] → r ∉ s.bs) ∧ xs.length ≤ s.c
theorem RdrAt.only {w w' : World} {r : Nat} {xs : List Int} {e : Int} {G : List Nat} (h : RdrAt w r xs e) (k : Only G w w') (hG : ∀ b ∈ G, b < w.heap.size → False) : RdrAt w' r xs e := by
  obtain ⟨s, e1, h1, h2, h3, h4⟩ := h.at_
  refine ⟨s, e1, h1.only k fun hm => hG _ hm h1.lt, h2.only k fun he b hb hm => hG b hm (h2.lt he b hb), h3, h4⟩
theorem RdrAt.below {w w' : World} {r : Nat} {xs : List Int} {e : Int} (h : RdrAt w r xs e) (k : Below w.heap.size w w') : RdrAt w' r xs e := h.only ((Only.refl [] w).below k) (by simp)
theorem err_on (r : Nat) (v : Value) (e : Int) (w : World) (h : Row w r #[v, .int .i64 e] tRd) : Calls Tryz.prog 172 #[.pointer (some ⟨r, 0, none⟩)] w fun z w' => z = .returned (.int .i64 e) ∧ w' = w := by
  have c1 : w.cell? ⟨r, 1, none⟩ = some (.int .i64 e) := h.cell 1
  clear h
  go_enter Tryz.func172, Tryz.ntmps172
  go_wp2_with fail
  go_ret
  exact ⟨rfl, rfl⟩
/-- The first byte, of a reader that has one. -/
def U8To (r : Nat) (x : Int) (xs : List Int) (w : World) (e : Ending) (w' : World) : Prop := e = .returned (.int .u8 x) ∧ RdrAt w' r xs 0 ∧ Only [r] w w'
set_option maxRecDepth 100000 in
set_option maxHeartbeats 4000000 in
theorem fixed_one {r : Nat} {x : Int} {xs : List Int} {w : World} (h : RdrAt w r (x :: xs) 0) (hx : 0 ≤ x ∧ x < 256) : Calls Tryz.prog 169 #[.pointer (some ⟨r, 0, none⟩), .int .i64 1] w fun e w' => e = .returned (.int .u64 x) ∧ RdrAt w' r xs 0 ∧ Only [r] w w' := by
  obtain ⟨s, e1, hr, hs, hne, hc⟩ := h.at_
  obtain ⟨b, o, ea, hcell⟩ := hs.at_ (j := 0) (z := x) (by rw [e1]; rfl)
  have c0' := hcell 0 x (by rw [e1]; rfl)
  rw [Nat.add_zero] at c0'
  obtain ⟨n, hn⟩ : ∃ n, xs.length = n := ⟨_, rfl⟩
  have hl : s.xs.length = n + 1 := by rw [e1, ← hn]; rfl
  obtain ⟨c, hcc⟩ : ∃ c, s.c = c := ⟨_, rfl⟩
  have NL : Hid (n ≤ 1000000 ∧ n + 1 ≤ c) := Lib.hid ⟨by have := hs.le; omega, by simp at hc; omega⟩
  have ev : s.v = .slice (some ⟨b, o, none⟩) (n + 1) c := by unfold Sl.v; rw [ea, hl, hcc]
  rw [ev] at hr
  have r0 : w.cell? ⟨r, 0, none⟩ = some (.slice (some ⟨b, o, none⟩) (n + 1) c) := hr.cell 0
  have f0 := hr.free 0
  have ER := Lib.hid (err_on r _ 0 w hr)
  have HR := Lib.hid hr
  have bs : s.bs = [b] := by simp [Sl.bs, ea]
  have HB : Hid (r ≠ b ∧ b < w.heap.size) := Lib.hid ⟨fun e => hne (by simp) (by rw [bs, e]; simp), hs.lt (by rw [e1]; simp) b (by rw [bs]; simp)⟩
  have HS : Hid (∀ i z, (x :: xs)[i]? = some z → w.cell? ⟨b, o + i, none⟩ = some (.int .u8 z)) := Lib.hid fun i z hz => hcell i z (by rw [e1]; exact hz)
  have kn : ¬ ((n : Int) + 1 < 1) := by omega
  have k1 : (1 : Int) ≤ (c : Int) := by have := NL.out; omega
  have k2 : 1 ≤ c := by have := NL.out; omega
  have k3 : (1 : Int) ≤ (n : Int) + 1 := by omega
  have dk : decide ((n : Int) + 1 < 1) = false := decide_eq_false kn
  have wx : IntKind.u64.wrap x = x := by rw [show IntKind.u64.wrap x = x % 18446744073709551616 from rfl]; omega
  have ox : bits .or .u64 0 x = x := by
    obtain ⟨y, rfl⟩ := Int.eq_ofNat_of_zero_le hx.1
    have := u64_or_nat 0 y (by omega) (by omega)
    simpa using this
  have HN := Lib.hid hn
  clear h hs hne hc hcell e1 hn hl hcc ev hr bs ea hx
  by_cases hc1 : c = 1
  · subst hc1
    obtain rfl : n = 0 := by have := NL.out; omega
    have F9 : Hid (RdrAt (w.setCell ⟨r, 0, none⟩ (.slice (some ⟨b, o, none⟩) 0 0)) r xs 0) := Lib.hid (by
      have hx : xs = [] := List.length_eq_zero_iff.1 HN.out
      subst hx
      exact ⟨⟨some ⟨b, o, none⟩, 0, []⟩, rfl, HR.out.set 0 (.slice (some ⟨b, o, none⟩) 0 0), ⟨.inl ⟨rfl, _, _, rfl⟩, fun h => absurd rfl h, (fun h => by cases h), by simp⟩, fun h => absurd rfl h, by simp⟩)
    go_enter Tryz.func169, Tryz.ntmps169
    go_wp2_with fail
    refine ER.out.mono ?_
    rintro _ w' ⟨rfl, hw'⟩
    subst w'
    go_wp2_with fail
    refine wp_loop_rounds 2 ?_
    rw [rounds_succ]
    go_wp2_with fail
    rw [rounds_succ]
    go_wp2_with fail
    go_ret
    exact ⟨rfl, F9.out, (Only.refl [r] w).setCell (.inl (by simp)) _⟩
  · have F9 : Hid (RdrAt (w.setCell ⟨r, 0, none⟩ (.slice (some ⟨b, o + 1, none⟩) n (c - 1))) r xs 0) := Lib.hid (by
      have hr := HR.out.set 0 (.slice (some ⟨b, o + 1, none⟩) n (c - 1))
      have K : Only [r] w (w.setCell ⟨r, 0, none⟩ (.slice (some ⟨b, o + 1, none⟩) n (c - 1))) := (Only.refl [r] w).setCell (.inl (by simp)) _
      refine ⟨⟨some ⟨b, o + 1, none⟩, c - 1, xs⟩, rfl, by simpa [Sl.v, HN.out] using hr, ⟨.inr ⟨b, o + 1, c - 1, rfl, fun i hi => ?_⟩, fun _ b' hb' => ?_, (fun h => by cases h), by have := NL.out; have := HN.out; show xs.length ≤ 1000000; omega⟩, fun _ hm => ?_, by have := NL.out; have := HN.out; show xs.length ≤ c - 1; omega⟩
      · rw [K.cell HB.out.2 (by simp; exact fun e => HB.out.1 e.symm), show o + 1 + i = o + (i + 1) by omega, HS.out (i + 1) (xs[i]) (by rw [List.getElem?_cons_succ, List.getElem?_eq_getElem hi])]
        simp [hi]
      · simp [Sl.bs] at hb'
        subst hb'
        simpa using HB.out.2
      · simp [Sl.bs] at hm
        exact HB.out.1 hm)
    have t1 : (c - 1 : Nat) ≠ 0 := by omega
    have t2 : n + 1 - 1 = n := rfl
    go_enter Tryz.func169, Tryz.ntmps169
    go_wp2_with fail
    refine ER.out.mono ?_
    rintro _ w' ⟨rfl, hw'⟩
    subst w'
    go_wp2_with fail
    refine wp_loop_rounds 2 ?_
    rw [rounds_succ]
    go_wp2_with fail
    rw [rounds_succ]
    go_wp2_with fail
    go_ret
    exact ⟨rfl, F9.out, (Only.refl [r] w).setCell (.inl (by simp)) _⟩
theorem u8_first {r : Nat} {x : Int} {xs : List Int} {w : World} (h : RdrAt w r (x :: xs) 0) (hx : 0 ≤ x ∧ x < 256) : Calls Tryz.prog 100 #[.pointer (some ⟨r, 0, none⟩)] w (U8To r x xs w) := by
  have F := Lib.hid (fixed_one h hx)
  have wx : IntKind.u8.wrap x = x := by rw [show IntKind.u8.wrap x = x % 256 from rfl]; omega
  clear h hx
  go_enter Tryz.func100, Tryz.ntmps100
  go_wp2_with fail
  refine F.out.mono ?_
  rintro _ w2 ⟨rfl, h1, h2⟩
  have N := Lib.hid (And.intro h1 h2)
  clear h1 h2 F
  go_wp2_with fail
  go_ret
  exact ⟨rfl, N.out.1, N.out.2⟩
end Go.Proofs.YtcgmgdjeamidlaaGreat
