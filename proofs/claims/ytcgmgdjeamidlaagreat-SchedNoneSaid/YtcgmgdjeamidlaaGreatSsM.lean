/- Streams: New, Feed, Next (printed by gen_ssm.py). -/
import Derived.Test.YtcgmgdjeamidlaaGreatSsL
namespace Go.Proofs.YtcgmgdjeamidlaaGreat
open Go.RowKit Go.ChangeShapes Go.WideShapes Go.ChangeAt
set_option linter.unusedVariables false
set_option linter.unusedSimpArgs false

abbrev tSt : TypeId := 190
/-- A stream whose bytes are the call's own. -/
structure StrmAt (w : World) (B s : Nat) (xs : List Int) : Prop where
  at_ : ∃ v, Row w s #[.int .i64 0, v] tSt ∧ w.ownsRow B 5 1 v xs.length (xs.map (Value.int .u8)) ∧ v.ownBlock ≠ some s
/-- .. that are only read. -/
structure StrmRd (w : World) (s : Nat) (xs : List Int) : Prop where
  at_ : ∃ sl : Sl, Row w s #[.int .i64 0, sl.v] tSt ∧ SlRd .u8 w sl ∧ sl.xs = xs ∧ xs.length ≤ sl.c ∧ (xs ≠ [] → s ∉ sl.bs)
theorem StrmAt.rd {w : World} {B s : Nat} {xs : List Int} (h : StrmAt w B s xs) (hl : xs.length ≤ 1000000) : StrmRd w s xs := by
  obtain ⟨v, hr, ho, hn⟩ := h.at_
  obtain ⟨sl, rfl, e2, h3, h4, h5⟩ := own_sl ho hl
  refine ⟨sl, hr, h3, e2, h5, fun _ hm => hn ?_⟩
  unfold Sl.bs at hm
  cases ha : sl.a with
  | none => rw [ha] at hm; simp at hm
  | some a =>
    rw [ha] at hm
    simp at hm
    simp [Sl.v, ha, Value.ownBlock, hm]
theorem StrmAt.only {w w' : World} {B s : Nat} {xs : List Int} {G : List Nat} (h : StrmAt w B s xs) (k : Only G w w') (hs : ∀ b ∈ G, b < B) (hG : s ∉ G) : StrmAt w' B s xs := by
  obtain ⟨v, hr, ho, hn⟩ := h.at_
  exact ⟨v, hr.only k hG, own_keep ho fun g hg => k.block g (ho.lt g hg).2 (fun hm => by have := hs _ hm; have := (ho.lt g hg).1; omega), hn⟩
theorem StrmRd.below {w w' : World} {s : Nat} {xs : List Int} (h : StrmRd w s xs) (k : Below w.heap.size w w') : StrmRd w' s xs := by
  obtain ⟨sl, h1, h2, h3, h4, h5⟩ := h.at_
  exact ⟨sl, h1.only ((Only.refl [] w).below k) (by simp), h2.only ((Only.refl [] w).below k) (by simp), h3, h4, h5⟩
theorem strm_new (w : World) : Calls Tryz.prog 65 #[] w fun e w' => e = .returned (.pointer (some ⟨w.heap.size, 0, none⟩)) ∧ w' = w.alloc (.cells #[.int .i64 0, .slice none 0 0] tSt) := by
  go_enter Tryz.func65, Tryz.ntmps65
  go_wp2_with fail
  go_ret
  exact ⟨rfl, rfl⟩
set_option maxRecDepth 100000 in
set_option maxHeartbeats 4000000 in
theorem strm_feed {s B : Nat} {xs : List Int} {u : Sl} {w : World} (h : StrmAt w B s xs) (hB : B ≤ w.heap.size) (hu : SlRd .u8 w u) (hl : xs.length + u.xs.length ≤ 1000000) : Calls Tryz.prog 57 #[.pointer (some ⟨s, 0, none⟩), u.v] w fun e w' => e = .returned (.int .i64 0) ∧ StrmAt w' B s (xs ++ u.xs) ∧ ∃ G, (∀ b ∈ G, b = s ∨ B ≤ b) ∧ Only G w w' := by
  obtain ⟨i0', hi0, hz0, hz1, hz2⟩ := info_parts infoBy
  obtain ⟨v, hr, ho, hn⟩ := h.at_
  have HR := Lib.hid hr
  have HO := Lib.hid ho
  have HN := Lib.hid hn
  have HBB := Lib.hid hB
  have HL := Lib.hid hl
  have SR := Lib.hid hu.src
  have c0 : w.cell? ⟨s, 0, none⟩ = some (.int .i64 0) := hr.cell 0
  have c1 : w.cell? ⟨s, 1, none⟩ = some v := hr.cell 1
  unfold Sl.v at SR ⊢
  clear h hr ho hn hu hl hB
  go_enter Tryz.func57, Tryz.ntmps57
  go_wp2_with (at_builtin; refine wpList_append_src rfl (.tmp 17) (.tmp 18) 30 rfl B 5 i0' (.int .u8 0) 1 1 Tryz.underlying30 hi0 hz0 hz1 hz2 rfl (by decide) _ xs.length (xs.map (Value.int .u8)) rfl HO.out _ u.xs.length (u.xs.map (Value.int .u8)) rfl ?s1 ?s2 ?s3 ?s4 ?s5 ?s6)
  case s1 => exact SR.out
  case s2 => simp [Value.oneCell']
  case s3 => have := HL.out; unfold maxLen; omega
  case s4 => have := HL.out; omega
  case s5 => exact HBB.out
  case s6 =>
    intro v1 w3 hown1 hg1
    obtain ⟨a1, cc1, rfl⟩ : ∃ a c, v1 = .slice a (xs.length + u.xs.length) c := by
      rcases hown1.2 with ⟨rfl, h0⟩ | ⟨g, cap, cur, rfl, _⟩
      · exact ⟨none, 0, by rw [h0]⟩
      · exact ⟨_, _, rfl⟩
    obtain ⟨v1, hv1⟩ : ∃ v1, v1 = Value.slice a1 (xs.length + u.xs.length) cc1 := ⟨_, rfl⟩
    have HV1 := Lib.hid hv1
    rw [← hv1] at hown1
    have O3 : Hid (Only v.ownBlock.toList w w3) := Lib.hid ((Only.refl _ w).grown hg1 (fun k hk => .inl (by simp [hk])))
    have NS : Hid (s ∉ v.ownBlock.toList) := Lib.hid (by intro hm; simp at hm; exact HN.out hm)
    have R3 := Lib.hid (HR.out.only O3.out NS.out)
    have f1 := R3.out.free 1
    have z0 : w3.cell? ⟨s, 0, none⟩ = some (.int .i64 0) := R3.out.cell 0
    have z1 : w3.cell? ⟨s, 1, none⟩ = some v := R3.out.cell 1
    have S3 : Hid (s < w.heap.size) := Lib.hid HR.out.lt
    have NV : Hid (v1.ownBlock ≠ some s) := Lib.hid (by
      intro hv
      rcases hown1.2 with ⟨e0, _⟩ | ⟨g, cap, cur, e0, _, hg, _⟩
      · rw [e0] at hv; simp [Value.ownBlock] at hv
      · rw [e0] at hv; simp [Value.ownBlock] at hv
        subst hv
        have h3 : w3.heap[g]? = some (.cells _ tSt (0, 0)) := R3.out
        rw [h3] at hg
        simp at hg
        exact absurd hg.2 (by decide))
    have R4 : Hid (Row (w3.setCell ⟨s, 1, none⟩ v1) s #[.int .i64 0, v1] tSt) := Lib.hid (by simpa using R3.out.set 1 v1)
    have O4 : Hid (Only [s] w3 (w3.setCell ⟨s, 1, none⟩ v1)) := Lib.hid ((Only.refl [s] w3).setCell (.inl (by simp)) _)
    have N4 : Hid (StrmAt (w3.setCell ⟨s, 1, none⟩ v1) B s (xs ++ u.xs) ∧ ∃ G, (∀ b ∈ G, b = s ∨ B ≤ b) ∧ Only G w (w3.setCell ⟨s, 1, none⟩ v1)) := Lib.hid ⟨⟨v1, R4.out, by
      rw [List.length_append, List.map_append]
      exact own_keep hown1 fun g hg => O4.out.block g (hown1.lt g hg).2 (by simp; intro e; exact NV.out (by rw [hg, e])), NV.out⟩,
      s :: v.ownBlock.toList, by
        intro b hb
        simp at hb
        rcases hb with hb | hb
        · exact .inl hb
        · exact .inr (HO.out.lt b hb).1, (O3.out.mono (by intro i hi; left; simp at hi ⊢; exact .inr hi)).trans O4.out (by intro i hi; left; simp at hi ⊢; exact .inl hi)⟩
    have c40 : (w3.setCell ⟨s, 1, none⟩ v1).cell? ⟨s, 0, none⟩ = some (.int .i64 0) := R4.out.cell 0
    rw [HV1.out] at N4 c40 R4
    clear hown1 hg1 hv1 O4 NV R4 HV1
    go_wp2_with fail
    go_ret
    exact ⟨rfl, N4.out.1, N4.out.2⟩
end Go.Proofs.YtcgmgdjeamidlaaGreat
