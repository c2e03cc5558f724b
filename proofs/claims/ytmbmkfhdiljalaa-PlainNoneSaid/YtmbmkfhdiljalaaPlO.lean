/- Plain: what was committed is seen by who begins then, and no one else (known). -/
import Derived.Test.YtmbmkfhdiljalaaPlK
namespace Go.Proofs.Ytmbmkfhdiljalaa
open Go.RowKit Go.Shelf Go.ChangeShapes Go.WideShapes Go.ChangeAt
set_option linter.unusedVariables false
set_option linter.unusedSimpArgs false

set_option maxRecDepth 100000 in
set_option maxHeartbeats 8000000 in
theorem known_on (w : World) : Calls Try.prog 18 #[] w fun e w' => e = .returned (.bool true) ∧ Below w.heap.size w w' := by
  go_enter Try.func18, Try.ntmps18
  go_wp2_with fail
  refine (new_on 1 w (by omega) (by omega)).mono ?_
  rintro _ w1 ⟨p, F, H, rfl, hd, hb⟩
  have D1 := Lib.hid hd
  have B1 := Lib.hid hb
  have G1 : Hid (∀ b ∈ F, w.heap.size ≤ b) := Lib.hid hd.ge.1
  clear hd hb
  go_wp2_with fail
  refine (begin_on D1.out B1.out.size (by simp [newP]) (by simp [newP])).mono ?_
  rintro _ w2 ⟨bt1, bm1, F2, rfl, hd, ho, hk⟩
  have D2 := Lib.hid hd
  have B2 : Hid (Below w.heap.size w w2) := Lib.hid (B1.out.trans (ho.toBelow B1.out.size G1.out))
  have G2 : Hid (∀ b ∈ F2, w.heap.size ≤ b) := Lib.hid hd.ge.1
  clear hd ho hk D1 G1
  simp only [newP, Int.zero_add]
  go_wp2_with fail
  refine (begin_on D2.out B2.out.size (by simp [newP, beginP]) (by simp [newP, beginP])).mono ?_
  rintro _ w3 ⟨bt2, bm2, F3, rfl, hd, ho, hk⟩
  have D3 := Lib.hid hd
  have B3 : Hid (Below w.heap.size w w3) := Lib.hid (B2.out.trans (ho.toBelow B2.out.size G2.out))
  have G3 : Hid (∀ b ∈ F3, w.heap.size ≤ b) := Lib.hid hd.ge.1
  clear hd ho hk D2 G2
  go_wp2_with fail
  have R4 : Hid (Row (w3.alloc (.cells #[.int .i32 5] 21)) w3.heap.size #[.int .i32 5] 21) := Lib.hid (Row.made _ _ _)
  have K4 : Hid (Only [] w3 (w3.alloc (.cells #[.int .i32 5] 21))) := Lib.hid ((Only.refl [] w3).alloc _)
  have S4 : Hid (SlAt .i32 (w3.alloc (.cells #[.int .i32 5] 21)) ⟨some ⟨w3.heap.size, 0, none⟩, 1, [5]⟩) := Lib.hid ⟨.inr ⟨_, 0, 1, rfl, fun i hi => by
    obtain rfl : i = 0 := by simpa using hi
    exact R4.out.cell 0⟩, fun b hb => by simp [Sl.bs] at hb; subst hb; exact R4.out.lt, fun h => by simp at h, by simp⟩
  generalize w3.alloc (.cells #[.int .i32 5] 21) = w4 at *
  have P4 := Lib.hid (put_on (n := 1) (key := 1) (o := ⟨1, 0, bt1, bm1, []⟩) (D3.out.only K4.out (by simp)) (Nat.le_trans B3.out.size K4.out.size) (by simp [findP, beginP, newP]) S4.out (SlAt.no .u8 w4) (by simp [beginP, newP]) (by simp [Sl.no]))
  refine P4.out.mono ?_
  rintro _ w5 ⟨v, H5, rfl, v0, v1, v2, v3, v4, hd, ho, hk⟩
  have D5 := Lib.hid hd
  have B5 : Hid (Below w.heap.size w w5) := Lib.hid ((B3.out.trans (K4.out.toBelow B3.out.size (by simp))).trans (ho.toBelow (Nat.le_trans B3.out.size K4.out.size) G3.out))
  have V := Lib.hid (And.intro v1 (And.intro v2 v3))
  clear hd ho hk D3 P4 S4 R4 K4 v0 v1 v2 v3 v4
  have E5 : Hid (wroteP (beginP (beginP (newP 1) bt1 bm1) bt2 bm2) 1 1 v = ⟨1, 2, 0, [], [⟨1, 0, bt1, bm1, [(1, v)]⟩, ⟨2, 0, bt2, bm2, []⟩]⟩) := Lib.hid (by simp [wroteP, beginP, newP, upV])
  have D5 := Lib.hid (E5.out ▸ D5.out)
  clear E5
  go_wp2_with fail
  have P5 := Lib.hid (commit_on (n := 1) (o := ⟨1, 0, bt1, bm1, [(1, v)]⟩) D5.out B5.out.size (by simp [findP]) (by simp) (fun j => by simp [vsOf, Vs.no]))
  refine P5.out.mono ?_
  rintro _ w6 ⟨F6, H6, ho, hk1, hk2, ⟨hc, _⟩ | ⟨_, rfl, all', hd, hall⟩⟩
  · exfalso
    obtain ⟨y, _, u, hu, _⟩ := hc
    simp [vsOf, Vs.no] at hu
  have B6 : Hid (Below w.heap.size w w6) := Lib.hid (B5.out.trans (ho.toBelow B5.out.size G3.out))
  have G6 : Hid (∀ b ∈ F6, w.heap.size ≤ b) := Lib.hid hd.ge.1
  have E6 : Hid (({ shutP ⟨1, 2, 0, [], [⟨1, 0, bt1, bm1, [(1, v)]⟩, ⟨2, 0, bt2, bm2, []⟩]⟩ 1 with last := 1, all := all' } : PDB) = ⟨1, 2, 1, all', [⟨2, 0, bt2, bm2, []⟩]⟩) := Lib.hid (by simp [shutP])
  have D6 : Hid (DbF w6 w.heap.size p ⟨1, 2, 1, all', [⟨2, 0, bt2, bm2, []⟩]⟩ F6 H6) := Lib.hid (by rw [← E6.out]; exact hd)
  have A6 : Hid ((vsOf all' 1).vs = [{ v with at_ := 1 }]) := Lib.hid (by
    have := hall 1
    rw [this]
    rw [show vsOf ([] : List (Int × Vs)) 1 = Vs.no from rfl]
    simp [Vs.no, lkV])
  clear hd ho hk1 hk2 hall E6 P5 D5 G3
  go_wp2_with fail
  refine (begin_on D6.out B6.out.size (by simp) (by simp)).mono ?_
  rintro _ w7 ⟨bt3, bm3, F7, rfl, hd, ho, hk⟩
  have B7 : Hid (Below w.heap.size w w7) := Lib.hid (B6.out.trans (ho.toBelow B6.out.size G6.out))
  have D7 : Hid (DbF w7 w.heap.size p ⟨1, 3, 1, all', [⟨2, 0, bt2, bm2, []⟩, ⟨3, 1, bt3, bm3, []⟩]⟩ F7 H6) := Lib.hid (by simpa [beginP] using hd)
  clear hd ho hk D6 G6
  simp only [Int.reduceAdd]
  go_wp2_with fail
  obtain ⟨ba, bo, h7, _, _⟩ := D7.out
  have H7 := Lib.hid h7
  clear h7
  have P7 := Lib.hid (get_on (n := 2) (key := 1) (o := ⟨2, 0, bt2, bm2, []⟩) H7.out (by simp [findP]) (by rw [A6.out]; simp))
  have S7 : Hid (seesR ⟨1, 3, 1, all', [⟨2, 0, bt2, bm2, []⟩, ⟨3, 1, bt3, bm3, []⟩]⟩ ⟨2, 0, bt2, bm2, []⟩ 1 = none) := Lib.hid (by simp [seesR, lkV, A6.out, asofL])
  rw [S7.out] at P7
  refine P7.out.mono ?_
  rintro _ w8 ⟨rfl, hb⟩
  have K8 : Hid (Only [] w7 w8) := Lib.hid ((Only.refl [] w7).below hb)
  have B8 : Hid (Below w.heap.size w w8) := Lib.hid (B7.out.trans (hb.mono B7.out.size))
  clear hb P7 S7
  unfold itemV
  go_wp2_with fail
  have K9 : Hid (Only [] w7 (w8.alloc (.cells #[.int .u64 0, .slice none 0 0, .slice none 0 0] tIt))) := Lib.hid (K8.out.alloc _)
  have B9 : Hid (Below w.heap.size w (w8.alloc (.cells #[.int .u64 0, .slice none 0 0, .slice none 0 0] tIt))) := Lib.hid (B8.out.alloc B8.out.size _)
  generalize w8.alloc (.cells #[.int .u64 0, .slice none 0 0, .slice none 0 0] tIt) = w9 at *
  have P9 := Lib.hid (get_on (n := 3) (key := 1) (o := ⟨3, 1, bt3, bm3, []⟩) (H7.out.only K9.out (by simp)) (by simp [findP]) (by rw [A6.out]; simp))
  have S9 : Hid (seesR ⟨1, 3, 1, all', [⟨2, 0, bt2, bm2, []⟩, ⟨3, 1, bt3, bm3, []⟩]⟩ ⟨3, 1, bt3, bm3, []⟩ 1 = some { v with at_ := 1 }) := Lib.hid (by simp [seesR, lkV, A6.out, asofL])
  rw [S9.out] at P9
  unfold GetTo at P9
  simp only [V.out.1, Bool.false_eq_true, if_false] at P9
  refine P9.out.mono ?_
  rintro _ w10 ⟨va, ta, rfl, e1, e2, m1, m2, fr, hb⟩
  have B10 : Hid (Below w.heap.size w w10) := Lib.hid (B9.out.trans (hb.mono B9.out.size))
  obtain ⟨b, o, c, hv, hc, hlt⟩ : ∃ (b o c : Nat), va.v = .slice (some ⟨b, o, none⟩) 1 c ∧ w10.cell? ⟨b, o, none⟩ = some (.int .i32 5) ∧ b < w10.heap.size := by
    have hx : va.xs = [5] := e1.trans V.out.2.2
    rcases m1.ints with ⟨h, _⟩ | ⟨b, o, c, h, hc⟩
    · rw [hx] at h; simp at h
    · rw [hx] at h hc
      exact ⟨b, o, c, h, by have := hc 0 (by simp); simpa using this, World.block_lt_of_cell? _ _ (hc 0 (by simp))⟩
  rw [hv]
  have c1 : (w10.alloc (.cells #[.int .u64 ({ v with at_ := 1 } : Ver).key, .slice (some ⟨b, o, none⟩) 1 c, ta.v] tIt)).cell? ⟨b, o, none⟩ = some (.int .i32 5) := by rw [((Only.refl [] w10).alloc _).cell hlt (by simp)]; exact hc
  obtain ⟨t1, t2, t3, ht⟩ : ∃ a n c, ta.v = .slice a n c := ⟨_, _, _, rfl⟩
  rw [ht] at c1 ⊢
  clear e1 e2 m1 m2 fr hb hv hc hlt ht P9 S9
  go_wp2_with fail
  go_ret
  exact ⟨rfl, B10.out.alloc B10.out.size _⟩
end Go.Proofs.Ytmbmkfhdiljalaa
