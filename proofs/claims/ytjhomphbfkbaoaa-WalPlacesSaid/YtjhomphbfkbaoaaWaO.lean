/- logrec.Read of what is undone wholly. -/
import Derived.Test.YtjhomphbfkbaoaaWaG
import Derived.Test.YtjhomphbfkbaoaaWaN
import Derived.Laws.ResultCell
import Derived.Deep.RegionHeld3
namespace Go.Proofs.Ytjhomphbfkbaoaa
open Go.RowKit Go.ChangeShapes Go.WideShapes Go.ChangeAt
set_option linter.unusedVariables false

theorem leN_leB (k : Nat) : ∀ n : Int, 0 ≤ n → n < 256 ^ k → leN (leB n k) = n := by
  intro n h0 h1
  obtain ⟨m, rfl⟩ := Int.eq_ofNat_of_zero_le h0
  have key : ∀ j, j ≤ k → leN (leB (m : Int) j) = ((m : Int) % 256 ^ j) := by
    intro j
    induction j with
    | zero => intro _; simp [leB, leN]
    | succ j ih =>
      intro hj
      rw [leB_succ, leN_append, ih (by omega), leB_len]
      simp only [leN, leAt]
      rw [show (2 : Int) ^ (8 * j) = 256 ^ j by rw [Int.pow_mul]; rfl, Int.pow_succ]
      have e1 : (m : Int) % 256 ^ j = ((m % 256 ^ j : Nat) : Int) := by rw [Int.natCast_emod, Int.natCast_pow]; rfl
      have e2 : (m : Int) / 256 ^ j % 256 = ((m / 256 ^ j % 256 : Nat) : Int) := by rw [Int.natCast_emod, Int.natCast_ediv, Int.natCast_pow]; rfl
      have e3 : (m : Int) % (256 ^ j * 256) = ((m % (256 ^ j * 256) : Nat) : Int) := by rw [Int.natCast_emod, Int.natCast_mul, Int.natCast_pow]; rfl
      rw [e1, e2, e3, Nat.mod_mul, Int.natCast_add, Int.natCast_mul, Int.natCast_pow, Int.mul_zero, Int.add_zero]
      rfl
  rw [key k (Nat.le_refl _)]
  exact Int.emod_eq_of_lt h0 h1
/-- The first results lie in a block, the others in slots. -/
theorem results_rec3 {fn : Func} {p u v : Tmp} (h : fn.results = #[.cell p 43, .tmp u, .tmp v]) (tmps : Array Value) (w : World) (g : Nat) (R : Array Value) (hR : R.size = 15) (hp : tmps.getD p undef = .pointer (some ⟨g, 0, none⟩)) (hg : Row w g R 43) : (results fn tmps).run Try.prog w = .ok (.tuple #[.agg R, tmps.getD u undef, tmps.getD v undef]) w := by
  have hp' : tmps[p]?.getD undef = .pointer (some ⟨g, 0, none⟩) := by simpa using hp
  simp only [results, h]
  simp [Sem.run_bind, hp', asAddr, Result.andThen, run_loadVar_row w g _ _ _ _ _ hg Try.underlying43 rfl (by rw [recSize, hR])]
theorem RdAt.below {T : TypeId} {w w' : World} {r : Nat} {xs : List Int} (h : RdAt T w r xs) (hp : 0 < xs.length) (k : Below w.heap.size w w') : RdAt T w' r xs := by
  obtain ⟨g, o, c, h1, h2, h3, h4, h5⟩ := h.at_
  refine ⟨⟨g, o, c, h1.of_block (k.block _ h1.lt), fun i hi => ?_, h3, h4, h5⟩⟩
  exact (k.cell (p := ⟨g, o + i, none⟩) (World.block_lt_of_cell? w _ (h2 i hi))).trans (h2 i hi)
def rec0 : Array Value := recR 0 0 0 0 0 0 (.slice none 0 0) (.slice none 0 0)
/-- A call that reads a record: its result's block, its reader. -/
structure RInv (w wr : World) (r : Nat) (rest : List Int) : Prop where
  rd : RdAt tRd wr r rest
  res : Row wr w.heap.size rec0 43
  bl : Below w.heap.size w wr
  hr : w.heap.size < r
theorem RInv.below {w wr w' : World} {r : Nat} {rest : List Int} (h : RInv w wr r rest) (hp : 0 < rest.length) (k : Below wr.heap.size wr w') : RInv w w' r rest :=
  ⟨h.rd.below hp k, h.res.of_block (k.block _ h.res.lt), h.bl.trans (k.mono h.bl.size), h.hr⟩
theorem RInv.read {w wr w' : World} {r : Nat} {rest rest' : List Int} (h : RInv w wr r rest) (hr : RdAt tRd w' r rest') (k : Only [r] wr w') : RInv w w' r rest' :=
  ⟨hr, h.res.only k (by simp; have := h.hr; omega), h.bl.trans (k.toBelow h.bl.size fun i hi => by simp at hi; have := h.hr; omega), h.hr⟩
theorem RInv.drew {w wr : World} {r : Nat} {rest : List Int} (h : RInv w wr r rest) : RInv w wr.drew r rest :=
  ⟨⟨h.rd.at_⟩, h.res, h.bl.drew, h.hr⟩
/-- What formD's bytes hold. -/
theorem formD_len (lsn ep txn : Int) : (formD lsn ep txn).length = 27 := by simp [formD, wrapB_len, headB_len, leB_len]
theorem formD_by (lsn ep txn : Int) : IsBy (formD lsn ep txn) := by
  unfold formD wrapB
  refine by_append (leB_by _ _) (midB_by (by_append (by_append (by_append (leB_by _ _) (leB_by _ _)) fun x hx => ?_) (leB_by _ _)))
  simp at hx; omega
structure DFacts (lsn ep txn : Int) (S : Nat) (x0 x1 x2 x3 x4 x5 : List Int) : Prop where
  e0 : x0 = formD lsn ep txn
  d1 : x0.drop 4 = x1
  d2 : x1.drop 2 = x2
  d3 : x2.drop 8 = x3
  d4 : x3.drop 4 = x4
  d5 : x4.drop 1 = x5
  l0 : x0.length = 27
  l1 : x1.length = 23
  l2 : x2.length = 21
  l3 : x3.length = 13
  l4 : x4.length = 9
  l5 : x5.length = 8
  b0 : IsBy x0
  b1 : IsBy x1
  b2 : IsBy x2
  b3 : IsBy x3
  b4 : IsBy x4
  b5 : IsBy x5
  s : leN (x0.take 4) = (S : Int)
  t2 : leN (x2.take 8) = lsn
  t3 : leN (x3.take 4) = ep
  t4 : leN (x4.take 1) = 4
  t5 : leN x5 = txn
  sum : sumI x1 = S
  g4 : x0[4]? = some 27
  g5 : x0[5]? = some 0
theorem dfacts (lsn ep txn : Int) (h0 : 0 ≤ lsn) (h1 : lsn < 18446744073709551616) (h2 : 0 ≤ ep) (h3 : ep < 4294967296) (h4 : 0 ≤ txn) (h5 : txn < 18446744073709551616) : ∃ S x0 x1 x2 x3 x4 x5, DFacts lsn ep txn S x0 x1 x2 x3 x4 x5 := by
  have p8 : (256 : Int) ^ 8 = 18446744073709551616 := by decide
  have p4 : (256 : Int) ^ 4 = 4294967296 := by decide
  have hb0 := formD_by lsn ep txn
  have hl0 := formD_len lsn ep txn
  have e0 : formD lsn ep txn = leB (sumI (midB (headB 4 lsn ep ++ leB txn 8)) : Nat) 4 ++ midB (headB 4 lsn ep ++ leB txn 8) := rfl
  have e1 : midB (headB 4 lsn ep ++ leB txn 8) = leB 27 2 ++ (headB 4 lsn ep ++ leB txn 8) := by unfold midB; simp [headB_len, leB_len]
  have eh : headB 4 lsn ep ++ leB txn 8 = leB lsn 8 ++ (leB ep 4 ++ ([4] ++ leB txn 8)) := by simp [headB]
  have s1 : sumI (midB (headB 4 lsn ep ++ leB txn 8)) < 4294967296 := sumI_lt _
  have q0 : (formD lsn ep txn).take 4 = leB (sumI (midB (headB 4 lsn ep ++ leB txn 8)) : Nat) 4 := by rw [e0, List.take_left' (leB_len _ _)]
  have q1 : (formD lsn ep txn).drop 4 = midB (headB 4 lsn ep ++ leB txn 8) := by rw [e0, List.drop_left' (leB_len _ _)]
  refine ⟨_, _, _, _, _, _, _, ⟨rfl, q1, by rw [e1, List.drop_left' (leB_len _ _)], by rw [eh, List.drop_left' (leB_len _ _)], List.drop_left' (leB_len _ _), List.drop_left' (l₁ := [4]) rfl, hl0, ?_, ?_, ?_, ?_, leB_len _ _, hb0, ?_, ?_, ?_, ?_, leB_by _ _, ?_, ?_, ?_, ?_, leN_leB 8 _ h4 (by omega), rfl, ?_, ?_⟩⟩
  · simp [midB_len, headB_len, leB_len]
  · simp [headB_len, leB_len]
  · simp [leB_len]
  · simp [leB_len]
  · rw [← q1]; exact fun x hx => hb0 x (List.mem_of_mem_drop hx)
  · have := hb0; rw [e0, e1] at this; exact fun x hx => this x (List.mem_append_right _ (List.mem_append_right _ hx))
  · have := hb0; rw [e0, e1, eh] at this; exact fun x hx => this x (List.mem_append_right _ (List.mem_append_right _ (List.mem_append_right _ hx)))
  · have := hb0; rw [e0, e1, eh] at this; exact fun x hx => this x (List.mem_append_right _ (List.mem_append_right _ (List.mem_append_right _ (List.mem_append_right _ hx))))
  · rw [q0]; exact leN_leB 4 _ (Int.natCast_nonneg _) (by omega)
  · rw [eh, List.take_left' (leB_len _ _)]; exact leN_leB 8 _ h0 (by omega)
  · rw [List.take_left' (leB_len _ _)]; exact leN_leB 4 _ h2 (by omega)
  · rfl
  · rw [e0, List.getElem?_append_right (by rw [leB_len]; omega), leB_len, e1]; rfl
  · rw [e0, List.getElem?_append_right (by rw [leB_len]; omega), leB_len, e1]; rfl
theorem rec_stored {w : World} {g : Nat} (h : Row w g rec0 43) (a0 a1 a2 a3 a4 a5 a6 a7 a8 a9 a10 a11 a12 a13 a14 : Value) : Row (((((((((((((((w.setCell ⟨g, 0, none⟩ a0).setCell ⟨g, 1, none⟩ a1).setCell ⟨g, 2, none⟩ a2).setCell ⟨g, 3, none⟩ a3).setCell ⟨g, 4, none⟩ a4).setCell ⟨g, 5, none⟩ a5).setCell ⟨g, 6, none⟩ a6).setCell ⟨g, 7, none⟩ a7).setCell ⟨g, 8, none⟩ a8).setCell ⟨g, 9, none⟩ a9).setCell ⟨g, 10, none⟩ a10).setCell ⟨g, 11, none⟩ a11).setCell ⟨g, 12, none⟩ a12).setCell ⟨g, 13, none⟩ a13).setCell ⟨g, 14, none⟩ a14) g #[a0, a1, a2, a3, a4, a5, a6, a7, a8, a9, a10, a11, a12, a13, a14] 43 := by
  have h' := (((((((((((((((h.set 0 a0).set 1 a1).set 2 a2).set 3 a3).set 4 a4).set 5 a5).set 6 a6).set 7 a7).set 8 a8).set 9 a9).set 10 a10).set 11 a11).set 12 a12).set 13 a13).set 14 a14)
  simpa [rec0, recR] using h'
theorem rec_below {W w : World} {B g : Nat} (h : Below B W w) (hB : B ≤ g) (a0 a1 a2 a3 a4 a5 a6 a7 a8 a9 a10 a11 a12 a13 a14 : Value) : Below B W (((((((((((((((w.setCell ⟨g, 0, none⟩ a0).setCell ⟨g, 1, none⟩ a1).setCell ⟨g, 2, none⟩ a2).setCell ⟨g, 3, none⟩ a3).setCell ⟨g, 4, none⟩ a4).setCell ⟨g, 5, none⟩ a5).setCell ⟨g, 6, none⟩ a6).setCell ⟨g, 7, none⟩ a7).setCell ⟨g, 8, none⟩ a8).setCell ⟨g, 9, none⟩ a9).setCell ⟨g, 10, none⟩ a10).setCell ⟨g, 11, none⟩ a11).setCell ⟨g, 12, none⟩ a12).setCell ⟨g, 13, none⟩ a13).setCell ⟨g, 14, none⟩ a14) :=
  (((((((((((((((h.setCell hB _).setCell hB _).setCell hB _).setCell hB _).setCell hB _).setCell hB _).setCell hB _).setCell hB _).setCell hB _).setCell hB _).setCell hB _).setCell hB _).setCell hB _).setCell hB _).setCell hB _)
end Go.Proofs.Ytjhomphbfkbaoaa
