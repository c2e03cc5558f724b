/- page.Write. -/
import Derived.Test.YtomhflkjnldeoaaPgN
import Derived.Test.YtomhflkjnldeoaaDkI
namespace Go.Proofs.Ytomhflkjnldeoaa
open Go.RowKit Go.ChangeShapes Go.WideShapes Go.ChangeAt
open Go.Proofs.Ytomhflkjnldeoaa.dk (Dk Dev stepW errOff DoneTo IsSec Bytes write_dev opD putD writeD opD_sectors opD_most)
set_option linter.unusedVariables false

def secAt (b : List Int) (i : Nat) : List Int := (b.drop (128 * i)).take 128
theorem secAt_is {b : List Int} (hl : b.length = 512) (hb : IsBy b) {i : Nat} (hi : i < 4) : IsSec (secAt b i) :=
  ⟨by unfold secAt; rw [List.length_take, List.length_drop]; omega, fun x hx => by have := hb x (List.mem_of_mem_drop (List.mem_of_mem_take hx)); omega⟩
theorem secAt_bytes {w : World} {g : Nat} {b : List Int} (h : Bytes w g 0 b) (i : Nat) : Bytes w g (128 * i) (secAt b i) := fun j v hj => by
  unfold secAt at hj
  rw [List.getElem?_map, List.getElem?_take] at hj
  split at hj
  · rw [List.getElem?_drop, ← List.getElem?_map] at hj
    have := h _ _ hj
    rwa [Nat.zero_add] at this
  · simp at hj
/-- A page's sectors written, as long as the power is on. -/
def pageW (D : Dk) (k : Int) (b : List Int) : Nat → Dk
  | 0 => D
  | i + 1 => stepW (pageW D k b i) (k + (i : Int)) (secAt b i)
theorem stepW_sectors (D : Dk) (k : Int) (s : List Int) : (stepW D k s).sectors = D.sectors := by
  unfold stepW
  split
  · rfl
  · unfold writeD; rw [opD_sectors]; rfl
theorem stepW_most (D : Dk) (k : Int) (s : List Int) : (stepW D k s).most = D.most := by
  unfold stepW
  split
  · rfl
  · unfold writeD; rw [opD_most]; rfl
theorem pageW_sectors (D : Dk) (k : Int) (b : List Int) : ∀ i, (pageW D k b i).sectors = D.sectors
  | 0 => rfl
  | i + 1 => by rw [pageW, stepW_sectors, pageW_sectors D k b i]
theorem pageW_most (D : Dk) (k : Int) (b : List Int) : ∀ i, (pageW D k b i).most = D.most
  | 0 => rfl
  | i + 1 => by rw [pageW, stepW_most, pageW_most D k b i]
theorem pageW_off (D : Dk) (k : Int) (b : List Int) (i : Nat) (h : (pageW D k b i).off = true) : ∀ j, pageW D k b (i + j) = pageW D k b i
  | 0 => rfl
  | j + 1 => by
    rw [← Nat.add_assoc, pageW, pageW_off D k b i h j, stepW, if_pos h]
structure WInv (W w wr : World) (p : Nat) (D : Dk) (F : List Nat) (k : Int) (bs : List Int) (q g : Nat) (i : Nat) : Prop where
  dev : Dev W wr p (pageW D k bs i) F
  place : Row wr q #[.pointer (some ⟨p, 0, none⟩), .int .i64 k] 73
  cells : Bytes wr g 0 bs
  only : Only F w wr
  on : i = 0 ∨ (pageW D k bs i).off = false
theorem Bytes_of_own {w : World} {base g c : Nat} {bs : List Int} (hl : bs.length = 512) (h : w.ownsRow base 5 1 (.slice (some ⟨g, 0, none⟩) 512 c) 512 (bs.map (Value.int .u8))) : Bytes w g 0 bs := fun j v hj => by
  have hlt : j < 512 := by have := (List.getElem?_eq_some_iff.1 hj).1; simp at this; omega
  rw [Nat.zero_add, h.cellAt j (by omega)]; exact hj
theorem Bytes_lt {w : World} {g : Nat} {bs : List Int} (hl : bs.length = 512) (h : Bytes w g 0 bs) : g < w.heap.size :=
  World.block_lt_of_cell? w _ (h 0 (.int .u8 (bs[0]?.getD 0)) (by rw [List.getElem?_map, List.getElem?_eq_getElem (by omega)]; rfl))
theorem Bytes_only {F : List Nat} {w w' : World} {g : Nat} {bs : List Int} (hl : bs.length = 512) (h : Bytes w g 0 bs) (k : Only F w w') (hF : g ∉ F) : Bytes w' g 0 bs := fun j v hj => by
  rw [k.cell (Bytes_lt hl h) hF]; exact h j v hj
theorem WInv.next {W w wr w6 : World} {p : Nat} {D D' : Dk} {F : List Nat} {k : Int} {bs : List Int} {q g i : Nat} (h : WInv W w wr p D F k bs q g i) (hl : bs.length = 512) (hq : q ∉ F) (hg : g ∉ F) (hd : Dev W w6 p D' F ∧ Only F wr.drew w6) (hD : stepW (pageW D k bs i) (k + (i : Int)) (secAt bs i) = D') (ho : D'.off = false) : WInv W w w6 p D F k bs q g (i + 1) := by
  have k0 : Only F wr w6 := ((Only.refl F wr).drew).trans hd.2 fun i hi => .inl hi
  exact ⟨by rw [pageW, hD]; exact hd.1, h.place.only k0 hq, Bytes_only hl h.cells k0 hg, h.only.and k0, .inr (by rw [pageW, hD]; exact ho)⟩
theorem WInv.cut {W w wr w6 : World} {p : Nat} {D D' : Dk} {F : List Nat} {k : Int} {bs : List Int} {q g i : Nat} (h : WInv W w wr p D F k bs q g i) (hi : i < 4) (hd : Dev W w6 p D' F ∧ Only F wr.drew w6) (hD : stepW (pageW D k bs i) (k + (i : Int)) (secAt bs i) = D') (ho : D'.off = true) : DoneTo W p F (pageW D k bs 4) (errOff (pageW D k bs 4).off) w (.returned (.int .i64 6)) w6 := by
  have k0 : Only F wr w6 := ((Only.refl F wr).drew).trans hd.2 fun i hi => .inl hi
  have e : pageW D k bs 4 = D' := by
    have e1 : pageW D k bs (i + 1) = D' := by rw [pageW, hD]
    have := pageW_off D k bs (i + 1) (by rw [e1]; exact ho) (3 - i)
    rw [show i + 1 + (3 - i) = 4 by omega] at this
    rw [this, e1]
  rw [e, ho]
  exact ⟨rfl, hd.1, h.only.and k0⟩
theorem WInv.all {W w wr : World} {p : Nat} {D : Dk} {F : List Nat} {k : Int} {bs : List Int} {q g : Nat} (h : WInv W w wr p D F k bs q g 4) : DoneTo W p F (pageW D k bs 4) (errOff (pageW D k bs 4).off) w (.returned (.int .i64 0)) wr := by
  have ho : (pageW D k bs 4).off = false := h.on.elim (fun e => by omega) id
  rw [ho]
  exact ⟨rfl, h.dev, h.only⟩
set_option maxRecDepth 100000 in
set_option maxHeartbeats 4000000 in
theorem write_page {W w : World} {p : Nat} {D : Dk} {F : List Nat} (h : Dev W w p D F) (b n N : Int) (a : Option Addr) (c : Nat) (xs : List Int) (hl : Lies D.sectors b n) (hm : D.most = D.sectors) (h0 : 0 ≤ N) (h1 : N < 18446744073709551616) (hx : xs.length = 500) (hi : Ints .u8 w (.slice a 500 c) xs) (hb : IsBy xs) :
    Calls Try.prog 18 #[.pointer (some ⟨p, 0, none⟩), .int .i64 b, .int .i64 n, .agg #[.int .u64 N, .slice a 500 c]] w (DoneTo W p F (pageW D (b + 4 * n) (pageB N xs) 4) (errOff (pageW D (b + 4 * n) (pageB N xs) 4).off) w) := by
  obtain ⟨l0, l1, l2, l3⟩ := id hl
  have s1 := h.fine.s1
  have KB : Hid (0 ≤ b + 4 * n ∧ b + 4 * n + 4 ≤ D.sectors ∧ D.sectors ≤ 65536) := Lib.hid (by omega)
  have HL := Lib.hid hl
  have HM := Lib.hid hm
  have HD := Lib.hid h
  have HI := Lib.hid hi
  have PL : Hid ((pageB N xs).length = 512) := Lib.hid (by rw [pageB_len, hx])
  have PB : Hid (IsBy (pageB N xs)) := Lib.hid (pageB_by hb)
  have BO := Lib.hid fun y (hy : Ints .u8 y (.slice a 500 c) xs) => bytes_ok N h0 h1 a c xs y hx hy hb
  clear hl hm h h0 h1 hx hi hb l0 l1 l2 l3 s1
  go_enter Try.func18, Try.ntmps18
  go_wp2_with fail
  have P1 : Hid (Row (w.alloc (.cells #[.int .u64 N, .slice a 500 c] 25)) w.heap.size #[.int .u64 N, .slice a 500 c] 25) := Lib.hid (Row.made _ _ _)
  have O1 : Hid (Only [] w (w.alloc (.cells #[.int .u64 N, .slice a 500 c] 25))) := Lib.hid ((Only.refl [] w).alloc _)
  generalize w.alloc (.cells #[.int .u64 N, .slice a 500 c] 25) = w1 at *
  refine (find_ok (HD.out.none O1.out) b n HL.out).mono ?_
  rintro _ w2 ⟨rfl, k2⟩
  have P2 := Lib.hid (P1.out.only k2 (by simp))
  have O2 := Lib.hid (O1.out.and k2)
  have c0 : w2.cell? ⟨w.heap.size, 0, none⟩ = some (.int .u64 N) := P2.out.cell 0
  have c1 : w2.cell? ⟨w.heap.size, 1, none⟩ = some (.slice a 500 c) := P2.out.cell 1
  have hq : w.heap.size < w2.heap.size := P2.out.lt
  clear k2 P1 O1
  obtain ⟨k, hk⟩ : ∃ k, b + 4 * n = k := ⟨_, rfl⟩
  rw [hk] at KB
  rw [hk]
  have HK := Lib.hid hk
  clear hk HL
  go_wp2_with fail
  have Q3 : Hid (Row (w2.alloc (.cells #[.pointer (some ⟨p, 0, none⟩), .int .i64 k] 73)) w2.heap.size #[.pointer (some ⟨p, 0, none⟩), .int .i64 k] 73) := Lib.hid (Row.made _ _ _)
  have O3 : Hid (Only [] w (w2.alloc (.cells #[.pointer (some ⟨p, 0, none⟩), .int .i64 k] 73))) := Lib.hid (O2.out.alloc _)
  have QQ : Hid (w.heap.size < w2.heap.size) := Lib.hid hq
  clear c0 c1 hq
  generalize w2.alloc (.cells #[.pointer (some ⟨p, 0, none⟩), .int .i64 k] 73) = w3 at *
  generalize w2.heap.size = q at *
  refine (BO.out w3 (HI.out.below' (O3.out.toBelow (Nat.le_refl _) (by simp)))).mono ?_
  rintro _ w4 ⟨g, cap, rfl, ho4, hb4, hg4⟩
  obtain ⟨bs, hbs⟩ : ∃ bs, pageB N xs = bs := ⟨_, rfl⟩
  rw [hbs] at ho4 PL PB
  rw [hbs]
  have HBS := Lib.hid hbs
  have O4 : Hid (Only [] w w4) := Lib.hid (O3.out.below hb4)
  have GF : Hid (g ∉ F ∧ q ∉ F ∧ 512 ≤ cap) := Lib.hid ⟨fun hf => by have := HD.out.lt _ hf; have := O3.out.size; omega, fun hf => by have := HD.out.lt _ hf; have := QQ.out; omega, by
    obtain ⟨p', c', hv, h1, h2⟩ := own_shape ho4
    simp only [Value.slice.injEq] at hv
    obtain ⟨_, _, rfl⟩ := hv
    exact h1⟩
  have F0 : Hid (WInv W w w4 p D F k bs q g 0) := Lib.hid ⟨HD.out.none O4.out, Q3.out.only ((Only.refl [] w3).below hb4) (by simp), Bytes_of_own PL.out ho4, O4.out.mono (by simp), .inl rfl⟩
  clear hbs ho4 hb4 hg4 O3 O4 Q3 P2 O2 BO HI HD QQ
  go_wp2_with fail
  go_loopw [32] (fun u wr => ∃ (i : Nat) (j : Int), j = i ∧ i ≤ 4 ∧ u = .int .i64 j ∧ Hid (WInv W w wr p D F k bs q g i)) (fun u _ => 4 - (intOf u).toNat)
  case atStart => exact ⟨0, 0, rfl, by omega, rfl, F0⟩
  case round =>
    clear F0
    obtain ⟨i, j, hj, hi, rfl, HF⟩ := hrel
    by_cases hlt : i < 4
    · have c0 : wr.drew.cell? ⟨q, 0, none⟩ = some (.pointer (some ⟨p, 0, none⟩)) := HF.out.place.cell 0
      have c1 : wr.drew.cell? ⟨q, 1, none⟩ = some (.int .i64 k) := HF.out.place.cell 1
      have K := Lib.hid (write_dev (k := k + (i : Int)) (g := g) (off := 128 * i) (cap := cap - 128 * i) (s := secAt bs i) (HF.out.dev.none ((Only.refl [] wr).drew)) (by have := KB.out; omega) (by rw [pageW_sectors]; have := KB.out; omega) (by rw [pageW_most, pageW_sectors]; exact HM.out) (secAt_is PL.out PB.out hlt) (secAt_bytes (Bytes_only PL.out HF.out.cells ((Only.refl [] wr).drew) (by simp)) i) (by have := GF.out.2.2; omega))
      have KE := Lib.hid KB.out
      unfold DoneTo at K
      obtain ⟨E, hE⟩ : ∃ E, errOff (stepW (pageW D k bs i) (k + (i : Int)) (secAt bs i)).off = E := ⟨_, rfl⟩
      obtain ⟨D', hD'⟩ : ∃ D', stepW (pageW D k bs i) (k + (i : Int)) (secAt bs i) = D' := ⟨_, rfl⟩
      rw [hD'] at K hE
      rw [hE] at K
      have HE := Lib.hid hE
      have HD' := Lib.hid hD'
      clear hE hD'
      have q0 : IntKind.i64.wrap 0 = 0 := by decide
      have q1 : IntKind.i64.wrap 1 = 1 := by decide
      have q2 : IntKind.i64.wrap 2 = 2 := by decide
      have q3 : IntKind.i64.wrap 3 = 3 := by decide
      have q4 : IntKind.i64.wrap 4 = 4 := by decide
      have q128 : IntKind.i64.wrap 128 = 128 := by decide
      have q256 : IntKind.i64.wrap 256 = 256 := by decide
      have q384 : IntKind.i64.wrap 384 = 384 := by decide
      have q512 : IntKind.i64.wrap 512 = 512 := by decide
      have qk : IntKind.i64.wrap k = k := IntWalk.i64_in _ (by have := KE.out; omega)
      rcases (by omega : i = 0 ∨ i = 1 ∨ i = 2 ∨ i = 3) with rfl | rfl | rfl | rfl
      · obtain rfl : j = 0 := hj
        have e1 : IntKind.i64.wrap (k + 0) = k + 0 := IntWalk.i64_in _ (by have := KE.out; omega)
        have g3 : 128 ≤ cap := by have := GF.out.2.2; omega
        have g4 : (128 : Int) ≤ (cap : Int) := by omega
        have g5 : 0 ≤ cap := by omega
        have g6 : cap ≠ 0 := by omega
        have K2 : Hid (Calls Try.prog 37 #[.pointer (some ⟨p, 0, none⟩), .int .i64 k, .slice (some ⟨g, 0, none⟩) 128 cap] wr.drew fun e w' => e = .returned (.int .i64 E) ∧ Dev W w' p D' F ∧ Only F wr.drew w') := Lib.hid (by
          have h := K.out
          rw [show k + ((0 : Nat) : Int) = k from Int.add_zero k] at h
          exact h)
        clear K
        go_wp2_with fail
        go_region_with (first
          | (go_at_call 37; refine K2.out.mono ?_; rintro _ w6 ⟨rfl, hd6⟩; have H6 := Lib.hid hd6; clear hd6))
        all_goals
          cases hoff : D'.off
          · obtain rfl : E = 0 := by rw [← HE.out, hoff]; rfl
            have HF' := Lib.hid (HF.out.next PL.out GF.out.2.1 GF.out.1 H6.out HD'.out hoff)
            clear HF H6 c0 c1
            go_wp2_with fail
            go_roundw
            case rel => exact ⟨1, 1, rfl, by omega, rfl, HF'⟩
            case measure => decide
          · obtain rfl : E = 6 := by rw [← HE.out, hoff]; rfl
            have HF' := Lib.hid (HF.out.cut hlt H6.out HD'.out hoff)
            clear HF H6 c0 c1
            go_wp2_with fail
            go_ret
            rw [HK.out, HBS.out]
            exact HF'.out
      · obtain rfl : j = 1 := hj
        have e1 : IntKind.i64.wrap (k + 1) = k + 1 := IntWalk.i64_in _ (by have := KE.out; omega)
        have g3 : 256 ≤ cap := by have := GF.out.2.2; omega
        have g4 : (256 : Int) ≤ (cap : Int) := by omega
        have g5 : 128 ≤ cap := by omega
        have g6 : cap ≠ 128 := by omega
        have K2 : Hid (Calls Try.prog 37 #[.pointer (some ⟨p, 0, none⟩), .int .i64 (k + 1), .slice (some ⟨g, 128, none⟩) 128 (cap - 128)] wr.drew fun e w' => e = .returned (.int .i64 E) ∧ Dev W w' p D' F ∧ Only F wr.drew w') := Lib.hid (K.out)
        clear K
        go_wp2_with fail
        go_region_with (first
          | (go_at_call 37; refine K2.out.mono ?_; rintro _ w6 ⟨rfl, hd6⟩; have H6 := Lib.hid hd6; clear hd6))
        all_goals
          cases hoff : D'.off
          · obtain rfl : E = 0 := by rw [← HE.out, hoff]; rfl
            have HF' := Lib.hid (HF.out.next PL.out GF.out.2.1 GF.out.1 H6.out HD'.out hoff)
            clear HF H6 c0 c1
            go_wp2_with fail
            go_roundw
            case rel => exact ⟨2, 2, rfl, by omega, rfl, HF'⟩
            case measure => decide
          · obtain rfl : E = 6 := by rw [← HE.out, hoff]; rfl
            have HF' := Lib.hid (HF.out.cut hlt H6.out HD'.out hoff)
            clear HF H6 c0 c1
            go_wp2_with fail
            go_ret
            rw [HK.out, HBS.out]
            exact HF'.out
      · obtain rfl : j = 2 := hj
        have e1 : IntKind.i64.wrap (k + 2) = k + 2 := IntWalk.i64_in _ (by have := KE.out; omega)
        have g3 : 384 ≤ cap := by have := GF.out.2.2; omega
        have g4 : (384 : Int) ≤ (cap : Int) := by omega
        have g5 : 256 ≤ cap := by omega
        have g6 : cap ≠ 256 := by omega
        have K2 : Hid (Calls Try.prog 37 #[.pointer (some ⟨p, 0, none⟩), .int .i64 (k + 2), .slice (some ⟨g, 256, none⟩) 128 (cap - 256)] wr.drew fun e w' => e = .returned (.int .i64 E) ∧ Dev W w' p D' F ∧ Only F wr.drew w') := Lib.hid (K.out)
        clear K
        go_wp2_with fail
        go_region_with (first
          | (go_at_call 37; refine K2.out.mono ?_; rintro _ w6 ⟨rfl, hd6⟩; have H6 := Lib.hid hd6; clear hd6))
        all_goals
          cases hoff : D'.off
          · obtain rfl : E = 0 := by rw [← HE.out, hoff]; rfl
            have HF' := Lib.hid (HF.out.next PL.out GF.out.2.1 GF.out.1 H6.out HD'.out hoff)
            clear HF H6 c0 c1
            go_wp2_with fail
            go_roundw
            case rel => exact ⟨3, 3, rfl, by omega, rfl, HF'⟩
            case measure => decide
          · obtain rfl : E = 6 := by rw [← HE.out, hoff]; rfl
            have HF' := Lib.hid (HF.out.cut hlt H6.out HD'.out hoff)
            clear HF H6 c0 c1
            go_wp2_with fail
            go_ret
            rw [HK.out, HBS.out]
            exact HF'.out
      · obtain rfl : j = 3 := hj
        have e1 : IntKind.i64.wrap (k + 3) = k + 3 := IntWalk.i64_in _ (by have := KE.out; omega)
        have g3 : 512 ≤ cap := by have := GF.out.2.2; omega
        have g4 : (512 : Int) ≤ (cap : Int) := by omega
        have g5 : 384 ≤ cap := by omega
        have g6 : cap ≠ 384 := by omega
        have K2 : Hid (Calls Try.prog 37 #[.pointer (some ⟨p, 0, none⟩), .int .i64 (k + 3), .slice (some ⟨g, 384, none⟩) 128 (cap - 384)] wr.drew fun e w' => e = .returned (.int .i64 E) ∧ Dev W w' p D' F ∧ Only F wr.drew w') := Lib.hid (K.out)
        clear K
        go_wp2_with fail
        go_region_with (first
          | (go_at_call 37; refine K2.out.mono ?_; rintro _ w6 ⟨rfl, hd6⟩; have H6 := Lib.hid hd6; clear hd6))
        all_goals
          cases hoff : D'.off
          · obtain rfl : E = 0 := by rw [← HE.out, hoff]; rfl
            have HF' := Lib.hid (HF.out.next PL.out GF.out.2.1 GF.out.1 H6.out HD'.out hoff)
            clear HF H6 c0 c1
            go_wp2_with fail
            go_roundw
            case rel => exact ⟨4, 4, rfl, by omega, rfl, HF'⟩
            case measure => decide
          · obtain rfl : E = 6 := by rw [← HE.out, hoff]; rfl
            have HF' := Lib.hid (HF.out.cut hlt H6.out HD'.out hoff)
            clear HF H6 c0 c1
            go_wp2_with fail
            go_ret
            rw [HK.out, HBS.out]
            exact HF'.out
    · obtain rfl : i = 4 := by omega
      obtain rfl : j = 4 := hj
      have HF' := Lib.hid HF.out.all
      clear HF
      go_wp2_with fail
      go_ret
      rw [HK.out, HBS.out]
      exact HF'.out
end Go.Proofs.Ytomhflkjnldeoaa
