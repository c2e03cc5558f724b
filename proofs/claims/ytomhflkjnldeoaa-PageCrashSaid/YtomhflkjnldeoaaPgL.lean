/- PageOpens: the walk. -/
import Derived.Test.YtomhflkjnldeoaaPgK
namespace Go.Proofs.Ytomhflkjnldeoaa.pageOpens
open Go.RowKit Go.ChangeShapes Go.WideShapes Go.ChangeAt
set_option linter.unusedVariables false

def Goal (a : Option Addr) (n c : Nat) (w : World) : Prop := Calls Try.prog 4 #[.slice a n c] w fun e w' => e = .returned (.bool true) ∧ Below w.heap.size w w'
set_option maxHeartbeats 1000000 in
theorem long (a : Option Addr) (n c : Nat) (w : World) (h : 2000 < n) (hm : n ≤ 9223372036854775807) : Goal a n c w := by
  unfold Goal
  have h1 : (2000 : Int) < (n : Int) := by omega
  have d1 : decide ((2000 : Int) < (n : Int)) = true := decide_eq_true h1
  go_enter Try.func4, Try.ntmps4
  go_wp2_with fail
  refine (known_any _).mono ?_
  rintro _ w' ⟨rfl, hb⟩
  go_wp2_with fail
  go_ret
  exact ⟨rfl, hb⟩
/-- A copy of what came in, 77 behind it. -/
structure Lent (w wr : World) (g cap n : Nat) (xs : List Int) : Prop where
  cells : ∀ i, i < n → wr.cell? ⟨g, i, none⟩ = some (.int .u8 (xs[i]?.getD 0))
  last : wr.cell? ⟨g, n, none⟩ = some (.int .u8 77)
  lt : g < wr.heap.size
  ge : w.heap.size ≤ g
  bl : Below w.heap.size w wr
  r1 : n + 1 ≤ cap
  r2 : cap ≤ 9223372036854775807
theorem Lent.below {w wr w' : World} {g cap n : Nat} {xs : List Int} (h : Lent w wr g cap n xs) (k : Below wr.heap.size wr w') : Lent w w' g cap n xs :=
  ⟨fun i hi => (k.cell (p := ⟨g, i, none⟩) h.lt).trans (h.cells i hi), (k.cell (p := ⟨g, n, none⟩) h.lt).trans h.last, Nat.lt_of_lt_of_le h.lt k.size, h.ge, h.bl.trans (k.mono h.bl.size), h.r1, h.r2⟩
theorem Lent.ints {w wr : World} {g cap n : Nat} {xs : List Int} (h : Lent w wr g cap n xs) (hx : xs.length = n) : Ints .u8 wr (.slice (some ⟨g, 0, none⟩) n cap) xs :=
  .inr ⟨g, 0, cap, by rw [hx], fun i hi => by rw [Nat.zero_add]; exact h.cells i (by omega)⟩
theorem Lent.but {w wr w' : World} {g cap n g6 : Nat} {xs : List Int} (h : Lent w wr g cap n xs) (k : Only [g6] wr w') (hne : g6 ≠ g) (hge : w.heap.size ≤ g6) : Lent w w' g cap n xs :=
  ⟨fun i hi => (k.cell h.lt (by simp; exact fun e => hne e.symm)).trans (h.cells i hi), (k.cell h.lt (by simp; exact fun e => hne e.symm)).trans h.last, Nat.lt_of_lt_of_le h.lt k.size, h.ge, h.bl.trans (k.toBelow h.bl.size (by simpa using hge)), h.r1, h.r2⟩
/-- Between two rounds. -/
structure Bump (w wr : World) (g cap n : Nat) (xs : List Int) (q : Nat) (p6 : Option Addr) (M c6 : Nat) (N : Int) : Prop where
  lent : Lent w wr g cap n xs
  row : Row wr q #[.int .u64 N, .slice p6 M c6] 25
  own : ∃ zs : List Int, wr.ownsRow w.heap.size 5 1 (.slice p6 M c6) M (zs.map (Value.int .u8))
  far : ∀ k, p6 = some k → k.block ≠ g ∧ k.block ≠ q ∧ w.heap.size ≤ k.block
theorem lent_of {w wr : World} {v : Value} {n : Nat} {xs : List Int} (hx : xs.length = n) (ho : wr.ownsRow w.heap.size 5 1 v (n + 1) (xs.map (Value.int .u8) ++ [.int .u8 77])) (hb : Below w.heap.size w wr) :
    ∃ g cap, v = .slice (some ⟨g, 0, none⟩) (n + 1) cap ∧ Lent w wr g cap n xs := by
  have hlt := ho.lt
  rcases ho.2 with ⟨_, h0⟩ | ⟨g, cap, cur, rfl, hbg, hg, hc, hm, _⟩
  · omega
  · refine ⟨g, cap, rfl, fun i hi => ?_, ?_, (hlt g rfl).2, hbg, hb, hc, by unfold maxLen at hm; omega⟩
    · rw [ho.cellAt i (by omega), List.getElem?_append_left (by simp; omega), List.getElem?_map, List.getElem?_eq_getElem (by omega)]; rfl
    · rw [ho.cellAt n (by omega), List.getElem?_append_right (by simp; omega)]; simp [hx]
theorem zs_ints {w : World} {g : Nat} (h : Row w g zs500 5) : Ints .u8 w (.slice (some ⟨g, 0, none⟩) 500 500) (List.replicate 500 0) := by
  have := ints_own (zs_own (base := 0) h (Nat.zero_le _))
  exact this
theorem zs_by : IsBy (List.replicate 500 0) := fun x hx => by have := (List.mem_replicate.1 hx).2; omega
theorem openB_by {xs : List Int} (h : IsBy xs) : IsBy (openB xs) := by
  unfold openB
  split
  · intro x hx; simp at hx
  · split
    · intro x hx; have := (List.mem_replicate.1 hx).2; omega
    · split
      · exact fun x hx => h x (List.mem_of_mem_drop hx)
      · intro x hx; simp at hx
set_option maxRecDepth 100000 in
set_option maxHeartbeats 4000000 in
theorem short (a : Option Addr) (n c : Nat) (xs : List Int) (w : World) (hx : xs.length = n) (hsrc : SrcOf w (.slice a n c) n 1 (xs.map (Value.int .u8))) (hi : Ints .u8 w (.slice a n c) xs) (hb : IsBy xs) (hn : n ≤ 2000) (hc : n ≤ c) (hc2 : c ≤ 9223372036854775807) : Goal a n c w := by
  unfold Goal
  obtain ⟨i0', hi0, hz0, hz1, hz2⟩ := info_parts infoBy
  have h1 : ¬ (2000 : Int) < (n : Int) := by omega
  have d1 : decide ((2000 : Int) < (n : Int)) = false := decide_eq_false h1
  have S := Lib.hid hsrc
  have HI := Lib.hid hi
  have HX := Lib.hid hx
  have HB := Lib.hid hb
  clear hsrc hi hx hb
  go_enter Try.func4, Try.ntmps4
  go_wp2_with (at_builtin; refine wpList_append_src rfl (.tmp 13) (.tmp 14) 23 rfl w.heap.size 5 i0' (.int .u8 0) 1 1 Try.underlying23 hi0 hz0 hz1 hz2 rfl (by decide) _ 0 [] rfl (World.ownsRow_made w #[] 0 (Nat.le_refl _) (by decide) rfl) _ n (xs.map (Value.int .u8)) rfl ?s1 ?s2 ?s3 ?s4 ?s5 ?s6)
  case s1 => exact S.out.below ((Below.refl _ _).alloc (Nat.le_refl _) _)
  case s2 => exact fun a _ => rfl
  case s3 => unfold maxLen; omega
  case s4 => omega
  case s6 =>
    intro v1 w1 hown1 hg1
    have b1 : Below w.heap.size w w1 := ((Below.refl _ _).alloc (Nat.le_refl _) _).grown hg1 (by simp) (by simp [Value.ownBlock])
    have O1 : Hid (w1.ownsRow w.heap.size 5 1 v1 n (xs.map (Value.int .u8))) := Lib.hid (by simpa using hown1)
    have B1 := Lib.hid b1
    clear hown1 hg1 b1
    go_wp2_with (at_builtin; refine wpList_append_at rfl (.tmp 15) (.tmp 16) 23 rfl w.heap.size 5 i0' (.int .u8 0) 1 1 Try.underlying23 hi0 hz0 hz1 hz2 rfl (by decide) v1 n (xs.map (Value.int .u8)) rfl (O1.out.alloc _) ⟨w1.heap.size, 0, none⟩ 1 1 [.int .u8 77] rfl rfl (fun q u hq => by rcases q with _ | q <;> simp at hq <;> subst hq <;> simp [go_sem]) (by simp [Value.oneCell']) (by unfold maxLen; omega) (by omega) (by have := B1.out.size; simp; omega) ?_)
    intro v5 w5 hown5 hg5 hf5
    have hb5 : Below w.heap.size w w5 := (B1.out.alloc B1.out.size _).grown hg5 (by have := B1.out.size; simp; omega) (fun k hk => (O1.out.lt k hk).1)
    obtain ⟨g, cap, rfl, hl5⟩ := lent_of HX.out hown5 hb5
    have L5 := Lib.hid hl5
    have k1 : (n : Int) ≤ (cap : Int) := by have := hl5.r1; omega
    have k2 : (n : Int) + 1 ≤ (cap : Int) := by have := hl5.r1; omega
    have k3 : cap ≠ 0 := by have := hl5.r1; omega
    clear hown5 hg5 hf5 hb5 hl5 O1 B1
    have SM := Lib.hid fun (y : World) (u1 u2 : Value) (h1 : Ints .u8 y u1 (openB xs)) (h2 : Ints .u8 y u2 (openB xs)) => (same_any y (openN xs) (openN xs) u1 u2 (openB xs) (openB xs) h1 h2 (openB_by HB.out) (openB_by HB.out) : _)
    rw [show decide (openN xs = openN xs ∧ openB xs = openB xs) = true from by simp] at SM
    go_wp2_with fail
    refine (open_any (some ⟨g, 0, none⟩) n cap xs w5 HX.out (L5.out.ints HX.out) HB.out (by have := L5.out.r1; omega)).mono ?_
    rintro _ w6 ⟨v6, rfl, ho6, hb6⟩
    obtain ⟨p6, c6, rfl, hp6, hq6⟩ := own_shape ho6
    have L6 := Lib.hid (L5.out.below hb6)
    have O6 := Lib.hid ho6
    have NE : Hid (∃ N E M, openN xs = N ∧ openE xs = E ∧ (openB xs).length = M) := Lib.hid ⟨_, _, _, rfl, rfl, rfl⟩
    obtain ⟨N, E, M, hN, hE, hM⟩ := NE.out
    have HM := Lib.hid hM
    rw [hN] at SM
    have RO := ropen_all a n c xs
    unfold OpenPost at RO
    rw [hN, hE, hM] at RO
    rw [hN, hE, hM]
    rw [hM] at O6
    have RK := Lib.hid RO
    clear ho6 hb6 RO hM hN hE NE
    go_wp2_with fail
    have L7 := Lib.hid (L6.out.below ((Below.refl _ w6).alloc (Nat.le_refl _) (.cells #[.int .u64 N, .slice p6 M c6] 25)))
    have P7 : Hid (Row (w6.alloc (.cells #[.int .u64 N, .slice p6 M c6] 25)) w6.heap.size #[.int .u64 N, .slice p6 M c6] 25) := Lib.hid (Row.made _ _ _)
    have O7 : Hid ((w6.alloc (.cells #[.int .u64 N, .slice p6 M c6] 25)).ownsRow w5.heap.size 5 1 (.slice p6 M c6) M ((openB xs).map (Value.int .u8))) := Lib.hid (O6.out.alloc _)
    have Q7 : Hid (∀ k, p6 = some k → k.block < w6.heap.size) := Lib.hid fun k hk => (O6.out.lt k.block (by rw [hk]; rfl)).2
    generalize w6.alloc (.cells #[.int .u64 N, .slice p6 M c6] 25) = w7 at *
    generalize w6.heap.size = q at *
    clear L6 O6
    refine (RK.out w7 HX.out (HI.out.below' L7.out.bl) HB.out hc hc2).mono ?_
    rintro _ w8 ⟨v8, rfl, ho8, hb8⟩
    obtain ⟨p8, c8, rfl, hp8, hq8⟩ := own_shape ho8
    have L8 := Lib.hid (L7.out.below hb8)
    have O8 := Lib.hid ho8
    have P8 := Lib.hid (P7.out.of_block (hb8.block _ P7.out.lt))
    have V8 : Hid (w8.ownsRow w5.heap.size 5 1 (.slice p6 M c6) M ((openB xs).map (Value.int .u8))) := Lib.hid (own_keep O7.out fun k hk => hb8.block _ (O7.out.lt k hk).2)
    clear ho8 hb8 O7 P7 L7 RK
    have c0 : w8.cell? ⟨q, 0, none⟩ = some (.int .u64 N) := P8.out.cell 0
    have c1 : w8.cell? ⟨q, 1, none⟩ = some (.slice p6 M c6) := P8.out.cell 1
    have hq : q < w8.heap.size := P8.out.lt
    have I6 : Hid (Ints .u8 (w8.alloc (.cells #[.int .u64 N, .slice p8 M c8] 25)) (.slice p6 M c6) (openB xs)) := Lib.hid ((ints_own' V8.out HM.out).below' ((Below.refl _ _).alloc (Nat.le_refl _) _))
    have I8 : Hid (Ints .u8 (w8.alloc (.cells #[.int .u64 N, .slice p8 M c8] 25)) (.slice p8 M c8) (openB xs)) := Lib.hid ((ints_own' O8.out HM.out).below' ((Below.refl _ _).alloc (Nat.le_refl _) _))
    go_wp2_with fail
    have L9 := Lib.hid (L8.out.below ((Below.refl _ w8).alloc (Nat.le_refl _) (.cells #[.int .u64 N, .slice p8 M c8] 25)))
    have P9 : Hid (Row (w8.alloc (.cells #[.int .u64 N, .slice p8 M c8] 25)) q #[.int .u64 N, .slice p6 M c6] 25) := Lib.hid (P8.out.only ((Only.refl [] _).alloc _) (by simp))
    have V9 : Hid ((w8.alloc (.cells #[.int .u64 N, .slice p8 M c8] 25)).ownsRow w5.heap.size 5 1 (.slice p6 M c6) M ((openB xs).map (Value.int .u8))) := Lib.hid (V8.out.alloc _)
    generalize w8.alloc (.cells #[.int .u64 N, .slice p8 M c8] 25) = w9 at *
    generalize w8.heap.size = q9 at *
    refine (SM.out w9 _ _ I6.out I8.out).mono ?_
    rintro _ w10 ⟨rfl, hb10⟩
    have LG : Hid (g < w5.heap.size) := Lib.hid L5.out.lt
    have F0 : Hid (Bump w w10 g cap n xs q p6 M c6 N) := Lib.hid ⟨L9.out.below hb10, P9.out.of_block (hb10.block _ P9.out.lt), ⟨openB xs, own_lower (own_keep V9.out fun k hk => hb10.block _ (V9.out.lt k hk).2) L5.out.bl.size⟩, fun k hk => ⟨by
      have := (V9.out.lt k.block (by rw [hk]; rfl)).1
      have := LG.out
      omega, by have := Q7.out k hk; omega, by
      have := (V9.out.lt k.block (by rw [hk]; rfl)).1
      have := L5.out.bl.size
      omega⟩⟩
    clear hb10 L9 P9 V9 I6 I8 L8 P8 V8 c0 c1 hq O8 Q7 SM LG
    have en : (E != E) = false := by simp
    go_wp2_with fail
    go_loopw [8] (fun u wr => ∃ i : Nat, i ≤ M ∧ u = .int .i64 i ∧ Hid (Bump w wr g cap n xs q p6 M c6 N)) (fun u _ => M - (intOf u).toNat)
    case atStart => exact ⟨0, by omega, rfl, F0⟩
    case round =>
      clear F0
      obtain ⟨i, hi, rfl, HF⟩ := hrel
      have hi0 : (0 : Int) ≤ (i : Int) := Int.natCast_nonneg _
      have c1 : wr.cell? ⟨q, 1, none⟩ = some (.slice p6 M c6) := HF.out.row.cell 1
      by_cases hlt : i < M
      · have d1 : decide ((i : Int) < (M : Int)) = true := decide_eq_true (by omega)
        have hilt : (i : Int) < (M : Int) := by omega
        obtain ⟨zs, ho⟩ := HF.out.own
        obtain ⟨g6, hp⟩ : ∃ g6, p6 = some ⟨g6, 0, none⟩ := by
          rcases ho.2 with ⟨_, h0⟩ | ⟨g6, cap', cur, hv, _⟩
          · omega
          · simp only [Value.slice.injEq] at hv
            exact ⟨g6, hv.1⟩
        subst hp
        have hzl : zs.length = M := by have := ho.1; simpa using this
        have l1 : wr.cell? ⟨g6, i, none⟩ = some (.int .u8 (zs[i]?.getD 0)) := by
          rw [ho.cellAt i (by omega), List.getElem?_map, List.getElem?_eq_getElem (by omega)]; rfl
        have f1 := ho.frozenAt i
        obtain ⟨z, hz⟩ : ∃ z, zs[i]?.getD 0 = z := ⟨_, rfl⟩
        rw [hz] at l1
        have F1 : Hid (∀ x : Int, Bump w (wr.setCell ⟨g6, i, none⟩ (.int .u8 x)) g cap n xs q (some ⟨g6, 0, none⟩) M c6 N) := Lib.hid fun x => by
          obtain ⟨f1, f2, f3⟩ := HF.out.far _ rfl
          have hs := (ho.stored i (.int .u8 x)).1
          rw [show (zs.map (Value.int .u8)).set i (.int .u8 x) = (zs.set i x).map (Value.int .u8) by rw [List.map_set]] at hs
          have kk : Only [g6] wr (wr.setCell ⟨g6, i, none⟩ (.int .u8 x)) := (Only.refl [g6] wr).setCell (.inl (by simp)) (p := ⟨g6, i, none⟩) _
          exact ⟨HF.out.lent.but kk (by simpa using f1) (by simpa using f3), HF.out.row.only kk (by simp; exact fun e => f2 e.symm), ⟨_, hs⟩, HF.out.far⟩
        clear ho hz hzl HF
        go_wp2_with fail
        go_roundw
        case rel => exact ⟨i + 1, by omega, by go_num, Lib.hid (F1.out _)⟩
        case measure => simp [intOf]; omega
      · have d1 : decide ((i : Int) < (M : Int)) = false := decide_eq_false (by omega)
        have Q1 := conv_ints (HF.out.lent.ints HX.out)
        have Q2 := conv_ints (HI.out.below' HF.out.lent.bl)
        have l77 : wr.cell? ⟨g, n, none⟩ = some (.int .u8 77) := HF.out.lent.last
        generalize strOfNums xs = S1 at Q1 Q2
        have k4 : (n : Int) < (n : Int) + 1 := by omega
        have k5 : n < n + 1 := by omega
        go_wp2_with fail
        have W0 := Lib.hid HF.out.lent.bl
        clear Q1 Q2 l77 HF c1
        refine (blank_any _).mono ?_
        rintro _ w11 ⟨ga, rfl, hga, hra, hoa⟩
        have W1 := Lib.hid (W0.out.trans (hoa.toBelow W0.out.size (by simp)))
        have RA := Lib.hid hra
        clear hga hra hoa W0
        go_wp2_with fail
        refine (rblank_any _).mono ?_
        rintro _ w12 ⟨gb, rfl, hgb, hrb, hob⟩
        have W2 := Lib.hid (W1.out.trans (hob.toBelow W1.out.size (by simp)))
        have RA2 := Lib.hid (RA.out.only hob (by simp))
        have RB := Lib.hid hrb
        have SB := same_any w12 0 0 (.slice (some ⟨ga, 0, none⟩) 500 500) (.slice (some ⟨gb, 0, none⟩) 500 500) (List.replicate 500 0) (List.replicate 500 0) (zs_ints RA2.out) (zs_ints RB.out) zs_by zs_by
        rw [show decide ((0 : Int) = 0 ∧ List.replicate 500 (0 : Int) = List.replicate 500 0) = true from decide_eq_true ⟨rfl, rfl⟩] at SB
        have SB' := Lib.hid SB
        clear hgb hrb hob W1 RA SB
        go_wp2_with fail
        refine SB'.out.mono ?_
        rintro _ w13 ⟨rfl, hb13⟩
        have W3 := Lib.hid (W2.out.trans (hb13.mono W2.out.size))
        clear hb13 SB' W2
        go_wp2_with fail
        refine (known_any _).mono ?_
        rintro _ w14 ⟨rfl, hb14⟩
        have W4 := Lib.hid (W3.out.trans (hb14.mono W3.out.size))
        clear hb14 W3
        go_wp2_with fail
        go_ret
        exact ⟨by rfl, W4.out⟩
end Go.Proofs.Ytomhflkjnldeoaa.pageOpens
