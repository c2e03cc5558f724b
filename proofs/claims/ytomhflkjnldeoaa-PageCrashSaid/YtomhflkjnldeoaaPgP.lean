/- page.Read. -/
import Derived.Test.YtomhflkjnldeoaaPgO
import Derived.Test.YtomhflkjnldeoaaPgL
namespace Go.Proofs.Ytomhflkjnldeoaa
open Go.RowKit Go.ChangeShapes Go.WideShapes Go.ChangeAt
open Go.Proofs.Ytomhflkjnldeoaa.dk (Dk Dev Bytes sectorD sectorD_is ReadTo read_dev IsSec)
set_option linter.unusedVariables false

/-- What lies on a device from sector k on. -/
def pageOn (D : Dk) (k : Int) : Nat → List Int
  | 0 => []
  | i + 1 => pageOn D k i ++ sectorD D (k + (i : Int))
theorem pageOn_len {D : Dk} (h : D.Fine) (k : Int) : ∀ i, (pageOn D k i).length = 128 * i
  | 0 => rfl
  | i + 1 => by rw [pageOn, List.length_append, pageOn_len h k i, (sectorD_is h _).1]; omega
theorem pageOn_by {D : Dk} (h : D.Fine) (k : Int) : ∀ i, IsBy (pageOn D k i)
  | 0 => by intro x hx; simp [pageOn] at hx
  | i + 1 => by rw [pageOn]; exact by_append (pageOn_by h k i) (fun x hx => by have := (sectorD_is h _).2 x hx; omega)
structure RInv (W w wr : World) (p : Nat) (D : Dk) (F : List Nat) (k : Int) (q : Nat) (v : Value) (i : Nat) : Prop where
  dev : Dev W wr p D F
  res : Row wr w.heap.size #[.int .u64 0, .slice none 0 0] 25
  place : Row wr q #[.pointer (some ⟨p, 0, none⟩), .int .i64 k] 73
  own : wr.ownsRow (w.heap.size + 1) 5 1 v (128 * i) ((pageOn D k i).map (Value.int .u8))
  far : ∀ b, v.ownBlock = some b → b ≠ q
  bl : Only [] w wr
theorem RInv.none {W w wr w' : World} {p : Nat} {D : Dk} {F : List Nat} {k : Int} {q : Nat} {v : Value} {i : Nat} (h : RInv W w wr p D F k q v i) (kk : Only [] wr w') : RInv W w w' p D F k q v i :=
  ⟨h.dev.none kk, h.res.only kk (by simp), h.place.only kk (by simp), own_keep h.own fun b hb => kk.block _ (h.own.lt b hb).2 (by simp), h.far, h.bl.and kk⟩
theorem RInv.grow {W w w6 w' : World} {p : Nat} {D : Dk} {F : List Nat} {k : Int} {q : Nat} {v v' : Value} {i : Nat} (h : RInv W w w6 p D F k q v i) (hF : ∀ b ∈ F, b < w.heap.size) (hW : W.heap.size ≤ w.heap.size) (hq : w.heap.size < q)
    (ho : w'.ownsRow (w.heap.size + 1) 5 1 v' (128 * i + 128) ((pageOn D k i).map (Value.int .u8) ++ (sectorD D (k + (i : Int))).map (Value.int .u8))) (hg : w6.grownBy w' v.ownBlock) (hf : v'.ownBlock = v.ownBlock ∨ ∀ g, v'.ownBlock = some g → w6.heap.size ≤ g) : RInv W w w' p D F k q v' (i + 1) := by
  have hlt : ∀ b, v.ownBlock = some b → w.heap.size + 1 ≤ b := fun b hb => (h.own.lt b hb).1
  have k1 : Only v.ownBlock.toList w6 w' := (Only.refl _ w6).grown hg fun b hb => .inl (by simp [hb])
  have hm : ∀ b ∈ v.ownBlock.toList, w.heap.size + 1 ≤ b ∧ b ≠ q := fun b hb => ⟨hlt b (by simpa using hb), h.far b (by simpa using hb)⟩
  refine ⟨h.dev.only k1 (fun b hb hf => by have := hF b hf; have := (hm b hb).1; omega) (fun b hb => by have := (hm b hb).1; omega), h.res.only k1 (fun hb => by have := (hm _ hb).1; omega), h.place.only k1 (fun hb => (hm _ hb).2 rfl), ?_, ?_, h.bl.grown hg fun b hb => .inr (by have := hlt b hb; omega)⟩
  · rw [pageOn, List.map_append, show 128 * (i + 1) = 128 * i + 128 by omega]; exact ho
  · intro b hb
    rcases hf with hf | hf
    · exact h.far b (hf ▸ hb)
    · have := hf b hb; have := h.place.lt; omega
/-- What Read answers of what lies there. -/
def ReadPost (W : World) (p : Nat) (F : List Nat) (D : Dk) (k : Int) (w : World) (e : Ending) (w' : World) : Prop := ∃ v, e = .returned (.tuple #[.agg #[.int .u64 (openN (pageOn D k 4)), v], .int .i64 (openE (pageOn D k 4))]) ∧ w'.ownsRow w.heap.size 5 1 v (openB (pageOn D k 4)).length ((openB (pageOn D k 4)).map (Value.int .u8)) ∧ Dev W w' p D F ∧ Only [] w w'
set_option maxRecDepth 100000 in
set_option maxHeartbeats 8000000 in
theorem read_page {W w : World} {p : Nat} {D : Dk} {F : List Nat} (h : Dev W w p D F) (b n : Int) (hl : Lies D.sectors b n) (ho : D.off = false) :
    Calls Try.prog 20 #[.pointer (some ⟨p, 0, none⟩), .int .i64 b, .int .i64 n] w (ReadPost W p F D (b + 4 * n) w) := by
  obtain ⟨i0', hi0, hz0, hz1, hz2⟩ := info_parts infoBy
  obtain ⟨l0, l1, l2, l3⟩ := id hl
  have s1 := h.fine.s1
  have KB : Hid (0 ≤ b + 4 * n ∧ b + 4 * n + 4 ≤ D.sectors ∧ D.sectors ≤ 65536) := Lib.hid (by omega)
  have HL := Lib.hid hl
  have HD := Lib.hid h
  have HO := Lib.hid ho
  have FI := Lib.hid h.fine
  have FL := Lib.hid h.lt
  have WW : Hid (W.heap.size ≤ w.heap.size) := Lib.hid h.bl.size
  clear hl ho h l0 l1 l2 l3 s1
  go_enter Try.func20, Try.ntmps20
  go_wp2_with fail
  have R1 : Hid (Row (w.alloc (.cells #[.int .u64 0, .slice none 0 0] 25)) w.heap.size #[.int .u64 0, .slice none 0 0] 25) := Lib.hid (Row.made _ _ _)
  have O1 : Hid (Only [] w (w.alloc (.cells #[.int .u64 0, .slice none 0 0] 25))) := Lib.hid ((Only.refl [] w).alloc _)
  have Z1 : Hid ((w.alloc (.cells #[.int .u64 0, .slice none 0 0] 25)).heap.size = w.heap.size + 1) := Lib.hid (by simp [go_sem])
  generalize w.alloc (.cells #[.int .u64 0, .slice none 0 0] 25) = w1 at *
  refine (find_ok (HD.out.none O1.out) b n HL.out).mono ?_
  rintro _ w2 ⟨rfl, k2⟩
  have R2 := Lib.hid (R1.out.only k2 (by simp))
  have O2 := Lib.hid (O1.out.and k2)
  have Z2 : Hid (w.heap.size + 1 ≤ w2.heap.size) := Lib.hid (by have := k2.size; have := Z1.out; omega)
  obtain ⟨k, hk⟩ : ∃ k, b + 4 * n = k := ⟨_, rfl⟩
  rw [hk] at KB
  rw [hk]
  have HK := Lib.hid hk
  clear hk HL k2 R1 O1 Z1
  go_wp2_with fail
  have F0 : Hid (RInv W w (w2.alloc (.cells #[.pointer (some ⟨p, 0, none⟩), .int .i64 k] 73)) p D F k w2.heap.size (.slice none 0 0) 0) := Lib.hid ⟨(HD.out.none O2.out).none ((Only.refl [] _).alloc _), R2.out.only ((Only.refl [] _).alloc _) (by simp), Row.made _ _ _, World.ownsRow_nil _ _ _ _, by simp [Value.ownBlock], O2.out.alloc _⟩
  have QZ : Hid (w.heap.size < w2.heap.size) := Lib.hid Z2.out
  generalize w2.alloc (.cells #[.pointer (some ⟨p, 0, none⟩), .int .i64 k] 73) = w3 at *
  generalize w2.heap.size = q at *
  clear R2 O2 Z2 HD
  go_loopw [10, 25] (fun u v wr => ∃ (i : Nat) (j : Int), j = i ∧ i ≤ 4 ∧ v = .int .i64 j ∧ Hid (RInv W w wr p D F k q u i)) (fun _ v _ => 4 - (intOf v).toNat)
  case atStart => exact ⟨0, 0, rfl, by omega, rfl, F0⟩
  case round =>
    clear F0
    obtain ⟨i, j, hj, hi, rfl, HF⟩ := hrel
    by_cases hlt : i < 4
    · have c0 : wr.cell? ⟨q, 0, none⟩ = some (.pointer (some ⟨p, 0, none⟩)) := HF.out.place.cell 0
      have c1 : wr.cell? ⟨q, 1, none⟩ = some (.int .i64 k) := HF.out.place.cell 1
      have K := Lib.hid (read_dev (k := k + (i : Int)) HF.out.dev HO.out (by have := KB.out; omega) (by have := KB.out; omega))
      have e1 : IntKind.i64.wrap (k + j) = k + j := IntWalk.i64_in _ (by have := KB.out; omega)
      have e2 : IntKind.i64.wrap (j + 1) = j + 1 := IntWalk.i64_in _ (by omega)
      have d1 : decide (j < 4) = true := decide_eq_true (by omega)
      have d2 : j < 4 := by omega
      rw [← hj] at K
      have HJ := Lib.hid hj
      clear hj
      go_wp2_with fail
      refine K.out.mono ?_
      rintro _ w6 ⟨rfl, hr6, hd6, k6, hs6⟩
      have I6 := Lib.hid (HF.out.none k6)
      have B6 := Lib.hid hr6
      have S6 : Hid (w.heap.size + 1 ≤ w6.heap.size) := Lib.hid (by have := QZ.out; have := I6.out.place.lt; omega)
      have SL : Hid ((sectorD D (k + j)).length = 128) := Lib.hid (sectorD_is FI.out _).1
      have HI := Lib.hid hi
      clear hr6 hd6 k6 hs6 c0 c1 K HF hi
      generalize wr.heap.size = g6 at *
      go_wp2_with (at_builtin; refine wpList_append_at rfl (.tmp 42) (.tmp 43) 23 rfl (w.heap.size + 1) 5 i0' (.int .u8 0) 1 1 Try.underlying23 hi0 hz0 hz1 hz2 rfl (by decide) u10 (128 * i) _ rfl I6.out.own ⟨g6, 0, none⟩ 128 128 ((sectorD D (k + j)).map (Value.int .u8)) rfl (by rw [List.length_map, SL.out]) (fun q' u hq => by have := B6.out q' u hq; rw [add_plain]; exact this) (one_u8 _) (by unfold maxLen; have := HI.out; omega) (by have := HI.out; omega) S6.out ?_)
      intro v7 w7 hown7 hg7 hf7
      have I7 : Hid (RInv W w w7 p D F k q v7 (i + 1)) := Lib.hid (I6.out.grow FL.out WW.out QZ.out (by rw [← HJ.out]; exact hown7) hg7 hf7)
      clear hown7 hg7 hf7 I6 B6 S6 SL
      go_wp2_with fail
      go_roundw
      case rel => exact ⟨i + 1, j + 1, by have := HJ.out; omega, by omega, rfl, I7⟩
      case measure =>
        have := HJ.out
        have := e2
        simp [intOf, e2]
        omega
    · obtain rfl : i = 4 := by omega
      obtain rfl : j = 4 := hj
      obtain ⟨a7, c7, rfl, h7, h7'⟩ := own_shape HF.out.own
      have IK : Hid (Ints .u8 wr (.slice a7 (128 * 4) c7) (pageOn D k 4)) := Lib.hid (ints_own' HF.out.own (pageOn_len FI.out k 4))
      have K := Lib.hid (open_any a7 512 c7 (pageOn D k 4) wr (pageOn_len FI.out k 4) IK.out (pageOn_by FI.out k 4) (by omega))
      clear h7 h7' IK
      go_wp2_with fail
      refine K.out.mono ?_
      rintro _ w8 ⟨v8, rfl, ho8, hb8⟩
      have k8 : Only [] wr w8 := (Only.refl [] wr).below hb8
      have I8 := Lib.hid (HF.out.none k8)
      have O8 := Lib.hid ho8
      have S8 : Hid (w.heap.size < wr.heap.size) := Lib.hid HF.out.res.lt
      obtain ⟨a8, c8, rfl, h8, h8'⟩ := own_shape ho8
      obtain ⟨N8, hN8⟩ : ∃ N, openN (pageOn D k 4) = N := ⟨_, rfl⟩
      obtain ⟨E8, hE8⟩ : ∃ N, openE (pageOn D k 4) = N := ⟨_, rfl⟩
      obtain ⟨M8, hM8⟩ : ∃ N, (openB (pageOn D k 4)).length = N := ⟨_, rfl⟩
      rw [hM8] at O8
      rw [hN8, hE8, hM8]
      have HN8 := Lib.hid hN8
      have HE8 := Lib.hid hE8
      have HM8 := Lib.hid hM8
      have c0 : w8.cell? ⟨w.heap.size, 0, none⟩ = some (.int .u64 0) := I8.out.res.cell 0
      have c1 : w8.cell? ⟨w.heap.size, 1, none⟩ = some (.slice none 0 0) := I8.out.res.cell 1
      have f0 := I8.out.res.free 0
      have f1 := I8.out.res.free 1
      clear K HF ho8 hb8 k8 h8 h8' hN8 hE8 hM8
      go_wp2_with fail
      refine bodyPost_ret (results_paper2 rfl _ _ w.heap.size (.int .u64 N8) (.slice a8 M8 c8) rfl (stored_row I8.out.res)) rfl ?_
      have kk : Only [w.heap.size] w8 ((w8.setCell ⟨w.heap.size, 0, none⟩ (.int .u64 N8)).setCell ⟨w.heap.size, 1, none⟩ (.slice a8 M8 c8)) := ((Only.refl [w.heap.size] w8).setCell (.inl (by simp)) _).setCell (.inl (by simp)) _
      rw [HK.out]
      refine ⟨.slice a8 M8 c8, by rw [HN8.out, HE8.out]; rfl, ?_, ?_, ?_⟩
      · rw [HM8.out]
        exact own_lower (own_stored O8.out fun b hb => by have := (O8.out.lt b hb).1; have := S8.out; omega) (Nat.le_of_lt S8.out)
      · exact I8.out.dev.only kk (fun b hb hf => by simp at hb; have := FL.out b hf; omega) (fun b hb => by simp at hb; have := WW.out; omega)
      · exact (I8.out.bl.setCell (.inr (Nat.le_refl _)) _).setCell (.inr (Nat.le_refl _)) _
end Go.Proofs.Ytomhflkjnldeoaa
