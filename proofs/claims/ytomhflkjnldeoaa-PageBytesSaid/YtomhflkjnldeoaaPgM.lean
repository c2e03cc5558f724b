/- PageBytes: the walk. -/
import Derived.Test.YtomhflkjnldeoaaPgL
import Derived.Deep.CutRange
namespace Go.Proofs.Ytomhflkjnldeoaa.pageBytes
open Go.RowKit Go.ChangeShapes Go.WideShapes Go.ChangeAt
open Go.Proofs.Ytomhflkjnldeoaa.pageOpens (Lent lent_of)
set_option linter.unusedVariables false

def Goal (N : Int) (a : Option Addr) (n c : Nat) (w : World) : Prop := Calls Try.prog 3 #[.agg #[.int .u64 N, .slice a n c]] w fun e w' => e = .returned (.bool true) ∧ Below w.heap.size w w'
set_option maxHeartbeats 1000000 in
theorem long (N : Int) (a : Option Addr) (n c : Nat) (w : World) (h : 2000 < n) (hm : n ≤ 9223372036854775807) : Goal N a n c w := by
  unfold Goal
  have h1 : (2000 : Int) < (n : Int) := by omega
  have d1 : decide ((2000 : Int) < (n : Int)) = true := decide_eq_true h1
  go_enter Try.func3, Try.ntmps3
  go_wp2_with fail
  refine (known_any _).mono ?_
  rintro _ w' ⟨rfl, hb⟩
  go_wp2_with fail
  go_ret
  exact ⟨rfl, ((Below.refl _ _).alloc (Nat.le_refl _) _).trans (hb.mono (by simp))⟩
theorem append_src_eq {w : World} {base : Nat} {v : Value} {k : Nat} {ys : List Value} (ho : w.ownsRow base 5 1 v k ys) (src : Value) (m : Nat) (xs : List Int) (hs : SrcOf w src m 1 (xs.map (Value.int .u8))) (hn : k + m ≤ 100000) (hb : base ≤ w.heap.size) :
    ∃ v' w', (Builtin.append_ #[23, 23] 23 #[v, src]).run Try.prog w = .ok v' w' ∧ w'.ownsRow base 5 1 v' (k + m) (ys ++ xs.map (Value.int .u8)) ∧ Below base w w' ∧ w.grownBy w' v.ownBlock := by
  obtain ⟨i0', hi0, hz0, hz1, hz2⟩ := info_parts infoBy
  rcases hs with ⟨rfl, rfl, he⟩ | ⟨ad, c, rfl, hl, hc⟩
  · exact ⟨v, w, run_append_owned_none w base _ _ _ i0' 1 Try.underlying23 hi0 v k ys ho, by rw [he]; simpa using ho, Below.refl _ _, ⟨rfl, rfl, rfl, Nat.le_refl _, fun _ _ _ => rfl⟩⟩
  · obtain ⟨v', w', h1, h2, h3, h4⟩ := append_own_at (P := Try.prog) w base 23 23 5 i0' (.int .u8 0) 1 1 Try.underlying23 hi0 hz0 hz1 hz2 rfl (by decide) v k ys ho ad m c (xs.map (Value.int .u8)) hl hc (one_u8 xs) (by unfold maxLen; omega) (by omega) hb
    exact ⟨v', w', h1, h2, ⟨h3.os, h3.tape, h3.output, h3.size, fun k hk => h3.block k (by omega) fun e => by have := ho.lt k e.symm; omega⟩, h3⟩
theorem one_way {wP X : World} {h n : Nat} {src : Value} {xs : List Int} (hs : SrcOf wP src n 1 (xs.map (Value.int .u8))) (hx : xs.length = n) (hn : n ≤ 2000) (hX : Below wP.heap.size wP X) (ho : X.ownsRow wP.heap.size 5 1 (.slice (some ⟨h, 0, none⟩) 0 0) 0 []) :
    ∃ v1 w1, (Builtin.append_ #[23, 23] 23 #[.slice (some ⟨h, 0, none⟩) 0 0, src]).run Try.prog X = .ok v1 w1 ∧ X.grownBy w1 (some h) ∧
      ∀ (Y : World) (k : Nat), Below w1.heap.size w1 Y → Y.cell? ⟨k, 0, none⟩ = some (.int .u8 77) → ∃ g cap w5, (Builtin.append_ #[23, 23] 23 #[v1, .slice (some ⟨k, 0, none⟩) 1 1]).run Try.prog Y = .ok (.slice (some ⟨g, 0, none⟩) (n + 1) cap) w5 ∧ Lent wP w5 g cap n xs := by
  obtain ⟨v1, w1, run1, own1, bel1, gr1⟩ := append_src_eq ho src n xs (hs.below hX) (by omega) hX.size
  rw [Nat.zero_add, List.nil_append] at own1
  refine ⟨v1, w1, run1, gr1, fun Y k hY h77 => ?_⟩
  have bY : Below wP.heap.size wP Y := (hX.trans bel1).trans (hY.mono (hX.trans bel1).size)
  have ownY := own_keep own1 fun g hg => hY.block g (own1.lt g hg).2
  obtain ⟨v5, w5, run5, own5, bel5, _, _⟩ := append_ints ownY (some ⟨k, 0, none⟩) 1 1 [77] (.inr ⟨k, 0, 1, rfl, fun i hi => by
    obtain rfl : i = 0 := by simp at hi; omega
    exact h77⟩) rfl (by omega) (by omega) bY.size
  rw [List.map_append] at own5
  obtain ⟨g, cap, rfl, hl5⟩ := lent_of hx own5 (bY.trans bel5)
  exact ⟨g, cap, w5, run5, hl5⟩
set_option maxRecDepth 100000 in
set_option maxHeartbeats 20000000 in
theorem short (N : Int) (a : Option Addr) (n c : Nat) (xs : List Int) (w : World) (hx : xs.length = n) (hsrc : SrcOf w (.slice a n c) n 1 (xs.map (Value.int .u8))) (hi : Ints .u8 w (.slice a n c) xs) (hb : IsBy xs) (hn : n ≤ 2000) (hc : n ≤ c) (hc2 : c ≤ 9223372036854775807) (hN0 : 0 ≤ N) (hN1 : N < 18446744073709551616) : Goal N a n c w := by
  unfold Goal
  obtain ⟨i0', hi0, hz0, hz1, hz2⟩ := info_parts infoBy
  have h1 : ¬ (2000 : Int) < (n : Int) := by omega
  have d1 : decide ((2000 : Int) < (n : Int)) = false := decide_eq_false h1
  have S := Lib.hid hsrc
  have HI := Lib.hid hi
  have HX := Lib.hid hx
  have HB := Lib.hid hb
  have N0 := Lib.hid hN0
  have N1 := Lib.hid hN1
  clear hN0 hN1
  clear hsrc hi hx hb
  go_enter Try.func3, Try.ntmps3
  go_wp2_with fail
  have PP : Hid (Row (w.alloc (.cells #[.int .u64 N, .slice a n c] 25)) w.heap.size #[.int .u64 N, .slice a n c] 25) := Lib.hid (Row.made _ _ _)
  have HP := Lib.hid (HI.out.below' ((Below.refl _ w).alloc (Nat.le_refl _) (.cells #[.int .u64 N, .slice a n c] 25)))
  have SP := Lib.hid (S.out.below ((Below.refl _ w).alloc (Nat.le_refl _) (.cells #[.int .u64 N, .slice a n c] 25)))
  have BP := Lib.hid ((Below.refl _ w).alloc (Nat.le_refl _) (.cells #[.int .u64 N, .slice a n c] 25))
  have sz : (w.alloc (.cells #[.int .u64 N, .slice a n c] 25)).heap.size = w.heap.size + 1 := by simp [go_sem]
  have SZ := Lib.hid sz
  clear sz
  generalize hwP : w.alloc (.cells #[.int .u64 N, .slice a n c] 25) = wP at *
  have szP : wP.heap.size = w.heap.size + 1 := SZ.out
  go_cut [3] from 15 (fun s3 wc => ∃ g cap : Nat, s3 = .slice (some ⟨g, 0, none⟩) n cap ∧ Hid (Lent wP wc g cap n xs))
  case first =>
    obtain ⟨v1, w1, run1, g1, EA⟩ := one_way SP.out HX.out (by omega) (X := (wP.alloc (.cells #[] 5)).drew) ((Below.refl _ _).alloc (Nat.le_refl _) _).drew (World.ownsRow_made wP #[] 0 (Nat.le_refl _) (by unfold maxLen; omega) rfl)
    obtain ⟨v1b, w1b, run1b, g1b, EB⟩ := one_way SP.out HX.out (by omega) (X := ((wP.alloc (.cells #[] 5)).alloc (.cells #[.int .u8 77] 5)).drew) (((Below.refl _ _).alloc (Nat.le_refl _) _).alloc (by simp [go_sem]) _).drew ((World.ownsRow_made wP #[] 0 (Nat.le_refl _) (by unfold maxLen; omega) rfl).alloc _)
    obtain ⟨v1c, w1c, run1c, g1c, EC⟩ := one_way SP.out HX.out (by omega) (h := wP.heap.size + 1) (X := ((wP.alloc (.cells #[.int .u8 77] 5)).alloc (.cells #[] 5)).drew) (((Below.refl _ _).alloc (Nat.le_refl _) _).alloc (by simp [go_sem]) _).drew (by
      have h := World.ownsRow_made (e := 5) (size := 1) (base := wP.heap.size) (wP.alloc (.cells #[.int .u8 77] 5)) #[] 0 (by simp [go_sem]) (by unfold maxLen; omega) rfl
      rw [show (wP.alloc (.cells #[.int .u8 77] 5)).heap.size = wP.heap.size + 1 by simp [go_sem]] at h
      exact h)
    obtain ⟨gc, capc, w5c, run5c, Lc⟩ := EC w1c wP.heap.size (Below.refl _ _) ((g1c.cell (a := ⟨wP.heap.size, 0, none⟩) (v := .int .u8 77) (by simp [go_sem]) (by simp)))
    obtain ⟨ga, capa, w5a, run5a, La⟩ := EA (w1.alloc (.cells #[.int .u8 77] 5)) w1.heap.size ((Below.refl _ _).alloc (Nat.le_refl _) _) (by simp [go_sem])
    obtain ⟨gb, capb, w5b, run5b, Lb⟩ := EB w1b (wP.heap.size + 1) (Below.refl _ _) ((g1b.cell (a := ⟨wP.heap.size + 1, 0, none⟩) (v := .int .u8 77) (by simp [go_sem]) (by simp)))
    rw [szP] at run1 run1b run5b run1c run5c
    have l0 : wP.cell? ⟨w.heap.size, 0, none⟩ = some (.int .u64 N) := PP.out.cell 0
    have l1 : wP.cell? ⟨w.heap.size, 1, none⟩ = some (.slice a n c) := PP.out.cell 1
    have hq : w.heap.size < wP.heap.size := PP.out.lt
    have x1 : w1.cell? ⟨w.heap.size, 1, none⟩ = some (.slice a n c) := (PP.out.of_block ((((Below.refl _ wP).alloc (Nat.le_refl _) (.cells #[] 5)).drew.block _ hq).symm ▸ (g1.block _ (by simp [go_sem]; omega) (by simp; omega)).trans rfl)).cell 1
    have x1b : w1b.cell? ⟨w.heap.size, 1, none⟩ = some (.slice a n c) := (PP.out.of_block (((((Below.refl _ wP).alloc (Nat.le_refl _) (.cells #[] 5)).alloc (by simp [go_sem]) (.cells #[.int .u8 77] 5)).drew.block _ hq).symm ▸ (g1b.block _ (by simp [go_sem]; omega) (by simp; omega)).trans rfl)).cell 1
    have x1c : w1c.cell? ⟨w.heap.size, 1, none⟩ = some (.slice a n c) := (PP.out.of_block (((((Below.refl _ wP).alloc (Nat.le_refl _) (.cells #[.int .u8 77] 5)).alloc (by simp [go_sem]) (.cells #[] 5)).drew.block _ hq).symm ▸ (g1c.block _ (by simp [go_sem]; omega) (by simp; omega)).trans rfl)).cell 1
    have hq1 : w.heap.size < w1.heap.size := World.block_lt_of_cell? w1 _ x1
    have GO : Hid (∀ (w5 : World) (g cap : Nat), Lent wP w5 g cap n xs → Row w5 w.heap.size #[.int .u64 N, .slice a n c] 25) := Lib.hid fun w5 g cap h => PP.out.of_block (h.bl.block _ PP.out.lt)
    have EA' : Hid (∃ g cap w5, (Builtin.append_ #[23, 23] 23 #[v1, .slice (some ⟨w1.heap.size, 0, none⟩) 1 1]).run Try.prog (w1.alloc (.cells #[.int .u8 77] 5)) = .ok (.slice (some ⟨g, 0, none⟩) (n + 1) cap) w5 ∧ Lent wP w5 g cap n xs) := Lib.hid ⟨_, _, _, run5a, La⟩
    have EB' : Hid (∃ g cap w5, (Builtin.append_ #[23, 23] 23 #[v1b, .slice (some ⟨w.heap.size + 1 + 1, 0, none⟩) 1 1]).run Try.prog w1b = .ok (.slice (some ⟨g, 0, none⟩) (n + 1) cap) w5 ∧ Lent wP w5 g cap n xs) := Lib.hid ⟨_, _, _, run5b, Lb⟩
    have EC' : Hid (∃ g cap w5, (Builtin.append_ #[23, 23] 23 #[v1c, .slice (some ⟨w.heap.size + 1, 0, none⟩) 1 1]).run Try.prog w1c = .ok (.slice (some ⟨g, 0, none⟩) (n + 1) cap) w5 ∧ Lent wP w5 g cap n xs) := Lib.hid ⟨_, _, _, run5c, Lc⟩
    clear g1 g1b g1c EA EB EC hwP La Lb Lc run5a run5b run5c
    go_region_law (first
      | (refine step_append_eq rfl (.tmp 15) (.tmp 17) 23 rfl (.slice (some ⟨w.heap.size + 1, 0, none⟩) 0 0) (.slice a n c) v1 w1 (by simp [Act.eval, Act.put]) (by simp [Act.eval, Act.put]) run1 ?_)
      | (refine step_append_eq rfl (.tmp 15) (.tmp 17) 23 rfl (.slice (some ⟨w.heap.size + 1, 0, none⟩) 0 0) (.slice a n c) v1b w1b (by simp [Act.eval, Act.put]) (by simp [Act.eval, Act.put]) run1b ?_)
      | (refine step_append_eq rfl (.tmp 15) (.tmp 17) 23 rfl (.slice (some ⟨w.heap.size + 1 + 1, 0, none⟩) 0 0) (.slice a n c) v1c w1c (by simp [Act.eval, Act.put]) (by simp [Act.eval, Act.put]) run1c ?_)
      | (obtain ⟨g, cap, w5, hrun, hl⟩ := EA'.out; refine step_append_eq rfl (.tmp 18) (.tmp 19) 23 rfl v1 (.slice (some ⟨w1.heap.size, 0, none⟩) 1 1) (.slice (some ⟨g, 0, none⟩) (n + 1) cap) w5 (by simp [Act.eval, Act.put]) (by simp [Act.eval, Act.put]) hrun ?_; (have L5 := Lib.hid hl; have c0 := (GO.out _ _ _ hl).cell 0; have c1 := (GO.out _ _ _ hl).cell 1; simp at c0 c1; have k1 : (n : Int) ≤ (cap : Int) := (by have := hl.r1; omega); have k2 : (n : Int) + 1 ≤ (cap : Int) := (by have := hl.r1; omega); have k3 : cap ≠ 0 := (by have := hl.r1; omega); clear hrun hl))
      | (obtain ⟨g, cap, w5, hrun, hl⟩ := EB'.out; refine step_append_eq rfl (.tmp 18) (.tmp 19) 23 rfl v1b (.slice (some ⟨w.heap.size + 1 + 1, 0, none⟩) 1 1) (.slice (some ⟨g, 0, none⟩) (n + 1) cap) w5 (by simp [Act.eval, Act.put]) (by simp [Act.eval, Act.put]) hrun ?_; (have L5 := Lib.hid hl; have c0 := (GO.out _ _ _ hl).cell 0; have c1 := (GO.out _ _ _ hl).cell 1; simp at c0 c1; have k1 : (n : Int) ≤ (cap : Int) := (by have := hl.r1; omega); have k2 : (n : Int) + 1 ≤ (cap : Int) := (by have := hl.r1; omega); have k3 : cap ≠ 0 := (by have := hl.r1; omega); clear hrun hl))
      | (obtain ⟨g, cap, w5, hrun, hl⟩ := EC'.out; refine step_append_eq rfl (.tmp 18) (.tmp 19) 23 rfl v1c (.slice (some ⟨w.heap.size + 1, 0, none⟩) 1 1) (.slice (some ⟨g, 0, none⟩) (n + 1) cap) w5 (by simp [Act.eval, Act.put]) (by simp [Act.eval, Act.put]) hrun ?_; (have L5 := Lib.hid hl; have c0 := (GO.out _ _ _ hl).cell 0; have c1 := (GO.out _ _ _ hl).cell 1; simp at c0 c1; have k1 : (n : Int) ≤ (cap : Int) := (by have := hl.r1; omega); have k2 : (n : Int) + 1 ≤ (cap : Int) := (by have := hl.r1; omega); have k3 : cap ≠ 0 := (by have := hl.r1; omega); clear hrun hl)))
    all_goals
      clear run1 run1b run1c EA' EB' EC' l0 l1 x1 x1b x1c hq1
      go_wp2_with fail
      go_meet
      exact ⟨g, cap, rfl, L5⟩
  case rest =>
    obtain ⟨g, cap, rfl, L5⟩ := hcut
    have k1 : (n : Int) ≤ (cap : Int) := by have := L5.out.r1; omega
    have k2 : (n : Int) + 1 ≤ (cap : Int) := by have := L5.out.r1; omega
    have k3 : cap ≠ 0 := by have := L5.out.r1; omega
    have P5 := Lib.hid (PP.out.of_block (L5.out.bl.block _ PP.out.lt))
    have c0 : wc.cell? ⟨w.heap.size, 0, none⟩ = some (.int .u64 N) := P5.out.cell 0
    have c1 : wc.cell? ⟨w.heap.size, 1, none⟩ = some (.slice a n c) := P5.out.cell 1
    clear hwP szP
    by_cases h500 : n = 500
    · have K1 : Calls Try.prog 8 #[.agg #[.int .u64 N, .slice (some ⟨g, 0, none⟩) n cap]] wc (BytesPost N xs wc) := by
        subst h500
        exact bytes_ok N N0.out N1.out (some ⟨g, 0, none⟩) cap xs wc HX.out (L5.out.ints HX.out) HB.out
      have X500 : Hid (xs.length = 500) := Lib.hid (HX.out.trans h500)
      have K2 := Lib.hid fun (y : World) (h : Ints .u8 y (.slice a n c) xs) => (by
        subst h500
        exact rbytes_ok N N0.out N1.out a c xs y HX.out h HB.out : Calls Try.prog 9 #[.agg #[.int .u64 N, .slice a n c]] y (BytesPost N xs y))
      have hn' := Lib.hid h500
      clear h500
      go_wp2_with fail
      refine K1.mono ?_
      rintro _ w6 ⟨g6, c6, rfl, ho6, hb6, hg6⟩
      clear K1
      have L6 := Lib.hid (L5.out.below hb6)
      have P6 := Lib.hid (P5.out.of_block (hb6.block _ P5.out.lt))
      have d0 : w6.cell? ⟨w.heap.size, 0, none⟩ = some (.int .u64 N) := P6.out.cell 0
      have d1' : w6.cell? ⟨w.heap.size, 1, none⟩ = some (.slice a n c) := P6.out.cell 1
      have O6 := Lib.hid ho6
      have G6 : Hid (g < wc.heap.size ∧ wc.heap.size ≤ g6) := Lib.hid ⟨L5.out.lt, hg6⟩
      clear hb6 c0 c1 L5 P5 ho6 hg6
      go_wp2_with fail
      refine (K2.out w6 (HP.out.below' L6.out.bl)).mono ?_
      rintro _ w7 ⟨g7, c7, rfl, ho7, hb7, hg7⟩
      have L7 := Lib.hid (L6.out.below hb7)
      have P7 := Lib.hid (P6.out.of_block (hb7.block _ P6.out.lt))
      have O7 := Lib.hid (own_keep O6.out fun k hk => hb7.block _ (O6.out.lt k hk).2)
      have PL : Hid ((pageB N xs).length = 512) := Lib.hid (by rw [pageB_len, X500.out])
      have Q0 := conv_ints (ints_own' O7.out PL.out)
      have Q0' := conv_ints (ints_own' ho7 PL.out)
      have OP := Lib.hid (open_page N0.out N1.out X500.out HB.out)
      obtain ⟨S0, hS0⟩ : ∃ S, strOfNums (pageB N xs) = S := ⟨_, rfl⟩
      rw [hS0] at Q0 Q0'
      clear hb7 d0 d1' L6 P6 hS0 ho7 hg7 O6
      have b6c : Hid (512 ≤ c6 ∧ c6 ≤ 9223372036854775807) := Lib.hid (by
        obtain ⟨p', c', hv, h1, h2⟩ := own_shape O7.out
        simp only [Value.slice.injEq] at hv
        obtain ⟨_, _, rfl⟩ := hv
        exact ⟨h1, h2⟩)
      go_wp2_with fail
      refine (open_any (some ⟨g6, 0, none⟩) 512 c6 (pageB N xs) w7 PL.out (ints_own' O7.out PL.out) (pageB_by HB.out) b6c.out.1).mono ?_
      obtain ⟨op1, op2, op3⟩ := OP.out
      have KO : Hid (∀ e w', OpenPost (pageB N xs) w7 e w' → ∃ v, e = .returned (.tuple #[.agg #[.int .u64 N, v], .int .i64 0]) ∧ w'.ownsRow w7.heap.size 5 1 v 500 (xs.map (Value.int .u8)) ∧ Below w7.heap.size w7 w') := Lib.hid fun e w' h => by
        unfold OpenPost at h
        rw [op1, op2, op3, X500.out] at h
        exact h
      clear op1 op2 op3 Q0 Q0'
      rintro e8 w8 h8
      obtain ⟨v8, rfl, ho8, hb8⟩ := KO.out _ _ h8
      obtain ⟨g8, c8, rfl, hg8, hl8, _⟩ : ∃ g c, v8 = .slice (some ⟨g, 0, none⟩) 500 c ∧ w7.heap.size ≤ g ∧ g < w8.heap.size ∧ True := by
        have h := ho8
        rw [← X500.out] at h
        obtain ⟨g, c, hv, h1, h2, _⟩ := own_parts h (by rw [X500.out]; omega)
        rw [X500.out] at hv
        exact ⟨g, c, hv, h1, h2, trivial⟩
      have L8 := Lib.hid (L7.out.below hb8)
      have P8 := Lib.hid (P7.out.of_block (hb8.block _ P7.out.lt))
      have O8 := Lib.hid (own_keep O7.out fun k hk => hb8.block _ (O7.out.lt k hk).2)
      have X8 := Lib.hid ho8
      have S8 : Hid (wc.heap.size ≤ g6 ∧ g6 < w7.heap.size ∧ w7.heap.size ≤ g8 ∧ g8 < w8.heap.size ∧ w.heap.size < wc.heap.size) := Lib.hid ⟨(O7.out.lt g6 rfl).1, (O7.out.lt g6 rfl).2, hg8, hl8, Nat.lt_of_lt_of_le (by have := SZ.out; have := L7.out.ge; omega) (Nat.le_of_lt G6.out.1)⟩
      have c0 : w8.cell? ⟨w.heap.size, 0, none⟩ = some (.int .u64 N) := P8.out.cell 0
      have c1 : w8.cell? ⟨w.heap.size, 1, none⟩ = some (.slice a n c) := P8.out.cell 1
      have hq : w.heap.size < w8.heap.size := P8.out.lt
      have SM := Lib.hid fun (y : World) (u1 u2 : Value) (h1 : Ints .u8 y u1 xs) (h2 : Ints .u8 y u2 xs) => (same_any y N N u1 u2 xs xs h1 h2 HB.out HB.out : _)
      rw [show decide (N = N ∧ xs = xs) = true from by simp] at SM
      clear h8 KO hb8 ho8 OP L7 P7 O7 hg8 hl8
      go_wp2_with fail
      clear c0 c1 hq
      have L9 := Lib.hid (L8.out.below ((Below.refl _ w8).alloc (Nat.le_refl _) (.cells #[.int .u64 N, .slice (some ⟨g8, 0, none⟩) 500 c8] 25)))
      have P9 : Hid (Row (w8.alloc (.cells #[.int .u64 N, .slice (some ⟨g8, 0, none⟩) 500 c8] 25)) w.heap.size #[.int .u64 N, .slice a n c] 25) := Lib.hid (P8.out.only ((Only.refl [] _).alloc _) (by simp))
      have R9 : Hid (Row (w8.alloc (.cells #[.int .u64 N, .slice (some ⟨g8, 0, none⟩) 500 c8] 25)) w8.heap.size #[.int .u64 N, .slice (some ⟨g8, 0, none⟩) 500 c8] 25) := Lib.hid (Row.made _ _ _)
      have O9 : Hid ((w8.alloc (.cells #[.int .u64 N, .slice (some ⟨g8, 0, none⟩) 500 c8] 25)).ownsRow wc.heap.size 5 1 (.slice (some ⟨g6, 0, none⟩) 512 c6) 512 ((pageB N xs).map (Value.int .u8))) := Lib.hid (O8.out.alloc _)
      have X9 : Hid ((w8.alloc (.cells #[.int .u64 N, .slice (some ⟨g8, 0, none⟩) 500 c8] 25)).ownsRow w7.heap.size 5 1 (.slice (some ⟨g8, 0, none⟩) 500 c8) 500 (xs.map (Value.int .u8))) := Lib.hid (X8.out.alloc _)
      have S9 : Hid (wc.heap.size ≤ g6 ∧ g6 < w7.heap.size ∧ w7.heap.size ≤ g8 ∧ g8 < w8.heap.size ∧ w.heap.size < wc.heap.size) := S8
      generalize w8.alloc (.cells #[.int .u64 N, .slice (some ⟨g8, 0, none⟩) 500 c8] 25) = w9 at *
      generalize w8.heap.size = q9 at *
      clear L8 P8 O8 X8 S8
      refine (SM.out w9 _ _ (ints_own' X9.out X500.out) (HP.out.below' L9.out.bl)).mono ?_
      rintro _ w10 ⟨rfl, hb10⟩
      have L10 := Lib.hid (L9.out.below hb10)
      have P10 := Lib.hid (P9.out.of_block (hb10.block _ P9.out.lt))
      have R10 := Lib.hid (R9.out.of_block (hb10.block _ R9.out.lt))
      have O10 := Lib.hid (own_keep O9.out fun k hk => hb10.block _ (O9.out.lt k hk).2)
      have X10 := Lib.hid (own_keep X9.out fun k hk => hb10.block _ (X9.out.lt k hk).2)
      clear hb10 L9 P9 R9 O9 X9 SM
      have l1 : w10.cell? ⟨q9, 1, none⟩ = some (.slice (some ⟨g8, 0, none⟩) 500 c8) := R10.out.cell 1
      have l2 : w10.cell? ⟨g8, 0, none⟩ = some (.int .u8 (xs[0]?.getD 0)) := by
        rw [X10.out.cellAt 0 (by omega), List.getElem?_map, List.getElem?_eq_getElem (by have := X500.out; omega)]; rfl
      have f2 := X10.out.frozenAt 0
      obtain ⟨z8, hz8⟩ : ∃ z, xs[0]?.getD 0 = z := ⟨_, rfl⟩
      rw [hz8] at l2
      have O11 : Hid (∀ u, (w10.setCell ⟨g8, 0, none⟩ u).ownsRow wc.heap.size 5 1 (.slice (some ⟨g6, 0, none⟩) 512 c6) 512 ((pageB N xs).map (Value.int .u8))) := Lib.hid fun u => own_keep O10.out fun k hk => Below.heap_setCell _ _ _ _ (by
        simp only [Value.ownBlock, Option.some.injEq] at hk
        subst hk
        show g6 ≠ g8
        have := S9.out
        omega)
      have l3 : ∀ u, (w10.setCell ⟨g8, 0, none⟩ u).cell? ⟨g6, 5, none⟩ = some (.int .u8 ((pageB N xs)[5]?.getD 0)) := fun u => by
        rw [(O11.out u).cellAt 5 (by omega), List.getElem?_map, List.getElem?_eq_getElem (by have := PL.out; omega)]; rfl
      have f3 : ∀ u, (w10.setCell ⟨g8, 0, none⟩ u).frozen? ⟨g6, 5, none⟩ = false := fun u => (O11.out u).frozenAt 5
      obtain ⟨z6, hz6⟩ : ∃ z, (pageB N xs)[5]?.getD 0 = z := ⟨_, rfl⟩
      rw [hz6] at l3
      clear hz8 hz6
      go_upto_region 14 with fail
      clear l1 l2 l3 f2 f3 O11
      have LP : Hid (∀ x y, Lent wP ((w10.setCell ⟨g8, 0, none⟩ x).setCell ⟨g6, 5, none⟩ y) g cap n xs ∧ Row ((w10.setCell ⟨g8, 0, none⟩ x).setCell ⟨g6, 5, none⟩ y) w.heap.size #[.int .u64 N, .slice a n c] 25) := Lib.hid fun x y => by
        have k1 : Only [g8] w10 (w10.setCell ⟨g8, 0, none⟩ x) := (Only.refl [g8] w10).setCell (.inl (by simp)) (p := ⟨g8, 0, none⟩) _
        have k2 : Only [g6] (w10.setCell ⟨g8, 0, none⟩ x) ((w10.setCell ⟨g8, 0, none⟩ x).setCell ⟨g6, 5, none⟩ y) := (Only.refl [g6] _).setCell (.inl (by simp)) (p := ⟨g6, 5, none⟩) _
        have s := S9.out
        have l := L10.out.ge
        have m := G6.out.1
        have z := SZ.out
        exact ⟨(L10.out.but k1 (by omega) (by omega)).but k2 (by omega) (by omega), (P10.out.only k1 (by simp; omega)).only k2 (by simp; omega)⟩
      have L12 := Lib.hid (LP.out (.int .u8 ((z8 + 1) % 256)) (.int .u8 ((z6 + 1) % 256))).1
      have P12 := Lib.hid (LP.out (.int .u8 ((z8 + 1) % 256)) (.int .u8 ((z6 + 1) % 256))).2
      generalize (w10.setCell ⟨g8, 0, none⟩ (.int .u8 ((z8 + 1) % 256))).setCell ⟨g6, 5, none⟩ (.int .u8 ((z6 + 1) % 256)) = w12 at *
      clear LP L10 P10 R10 O10 X10 S9 G6 K2
      have LZ := L12.out.below ((Below.refl _ _).drew)
      have Q1 := conv_ints (LZ.ints HX.out)
      have Q2 := conv_ints (HP.out.below' LZ.bl)
      have l77 : w12.drew.cell? ⟨g, n, none⟩ = some (.int .u8 77) := LZ.last
      have e1 : w12.drew.cell? ⟨w.heap.size, 1, none⟩ = some (.slice a n c) := P12.out.cell 1
      have WB := Lib.hid (BP.out.trans (LZ.bl.mono BP.out.size))
      obtain ⟨S1, hS1⟩ : ∃ S, strOfNums xs = S := ⟨_, rfl⟩
      rw [hS1] at Q1 Q2
      have k4 : (n : Int) < (n : Int) + 1 := by omega
      have k5 : n < n + 1 := by omega
      have k6 : (0 : Int) ≤ (n : Int) + 1 := by omega
      have k7 : ((n : Int) + 1).toNat = n + 1 := by omega
      have k8 : n + 1 ≤ cap := LZ.r1
      have k0 : (0 : Int) ≤ (n : Int) := Int.natCast_nonneg _
      have k9 : IntKind.i64.wrap ((n : Int) + 1) = (n : Int) + 1 := IntWalk.i64_in _ (by omega)
      clear hS1 LZ
      go_wp2_with fail
      go_region_with (first
        | (go_at_call 7; refine (known_any _).mono ?_; rintro _ w14 ⟨rfl, hb14⟩; have W4 := Lib.hid (WB.out.trans (hb14.mono WB.out.size)); clear hb14))
      all_goals
        go_wp2_with fail
        go_ret
        exact ⟨by rfl, W4.out⟩
    · go_wp2_with fail
      refine (bytes_bad N (some ⟨g, 0, none⟩) n cap wc h500).mono ?_
      rintro _ w6 ⟨rfl, hb6⟩
      have L6 := Lib.hid (L5.out.below hb6)
      have P6 := Lib.hid (P5.out.of_block (hb6.block _ P5.out.lt))
      have d0 : w6.cell? ⟨w.heap.size, 0, none⟩ = some (.int .u64 N) := P6.out.cell 0
      have d1' : w6.cell? ⟨w.heap.size, 1, none⟩ = some (.slice a n c) := P6.out.cell 1
      clear hb6 c0 c1 L5 P5
      go_wp2_with fail
      refine (rbytes_bad N a n c w6 h500).mono ?_
      rintro _ w7 ⟨rfl, hb7⟩
      have L7 := Lib.hid (L6.out.below hb7)
      have P7 := Lib.hid (P6.out.of_block (hb7.block _ P6.out.lt))
      have Q0 := conv_ints (w := w7) (v := .slice none 0 0) (xs := []) (.inl ⟨rfl, none, 0, rfl⟩)
      obtain ⟨S0, hS0⟩ : ∃ S, strOfNums [] = S := ⟨_, rfl⟩
      rw [hS0] at Q0
      clear hb7 d0 d1' L6 P6 hS0
      have LZ := L7.out.below ((Below.refl _ _).drew)
      have Q1 := conv_ints (LZ.ints HX.out)
      have Q2 := conv_ints (HP.out.below' LZ.bl)
      have l77 : w7.drew.cell? ⟨g, n, none⟩ = some (.int .u8 77) := LZ.last
      have e1 : w7.drew.cell? ⟨w.heap.size, 1, none⟩ = some (.slice a n c) := P7.out.cell 1
      have WB := Lib.hid (BP.out.trans (LZ.bl.mono BP.out.size))
      obtain ⟨S1, hS1⟩ : ∃ S, strOfNums xs = S := ⟨_, rfl⟩
      rw [hS1] at Q1 Q2
      have k4 : (n : Int) < (n : Int) + 1 := by omega
      have k5 : n < n + 1 := by omega
      have k6 : (0 : Int) ≤ (n : Int) + 1 := by omega
      have k7 : ((n : Int) + 1).toNat = n + 1 := by omega
      have k8 : n + 1 ≤ cap := LZ.r1
      have k0 : (0 : Int) ≤ (n : Int) := Int.natCast_nonneg _
      have k9 : IntKind.i64.wrap ((n : Int) + 1) = (n : Int) + 1 := IntWalk.i64_in _ (by omega)
      clear hS1 LZ
      go_wp2_with fail
      go_region_with (first
        | (go_at_call 7; refine (known_any _).mono ?_; rintro _ w14 ⟨rfl, hb14⟩; have W4 := Lib.hid (WB.out.trans (hb14.mono WB.out.size)); clear hb14))
      all_goals
        go_wp2_with fail
        go_ret
        exact ⟨by rfl, W4.out⟩
end Go.Proofs.Ytomhflkjnldeoaa.pageBytes
