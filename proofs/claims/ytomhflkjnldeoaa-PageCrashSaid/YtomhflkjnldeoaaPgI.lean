/- page.Open. -/
import Derived.Test.YtomhflkjnldeoaaPgH
namespace Go.Proofs.Ytomhflkjnldeoaa
open Go.RowKit Go.ChangeShapes Go.WideShapes Go.ChangeAt
set_option linter.unusedVariables false

theorem zerosIn_eq {xs : List Int} (hb : IsBy xs) : zerosIn xs = xs.length ↔ xs = List.replicate xs.length 0 := by
  unfold zerosIn Lib.countByte Lib.bytesOf
  rw [show xs.length = (xs.map fun x => x.toNat.toUInt8).length by simp, List.count_eq_length]
  constructor
  · intro h
    refine List.eq_replicate_iff.2 ⟨by simp, fun x hx => ?_⟩
    have h1 := h _ (List.mem_map.2 ⟨x, hx, rfl⟩)
    have h2 := hb x hx
    have h3 := congrArg UInt8.toNat h1
    simp at h3
    omega
  · intro h y hy
    obtain ⟨x, hx, rfl⟩ := List.mem_map.1 hy
    rw [h] at hx
    obtain rfl := (List.mem_replicate.1 hx).2
    rfl
def sumOk (xs : List Int) : Prop := leN (xs.take 4) = (sumI (xs.drop 4) : Nat)
instance (xs : List Int) : Decidable (sumOk xs) := inferInstanceAs (Decidable (_ = _))
def openE (xs : List Int) : Int := if xs.length ≠ 512 then 2 else if zerosIn xs = 512 then 0 else if sumOk xs then 0 else 14
def openN (xs : List Int) : Int := if xs.length ≠ 512 then 0 else if zerosIn xs = 512 then 0 else if sumOk xs then leN ((xs.drop 4).take 8) else 0
def openB (xs : List Int) : List Int := if xs.length ≠ 512 then [] else if zerosIn xs = 512 then List.replicate 500 0 else if sumOk xs then xs.drop 12 else []
def OpenPost (xs : List Int) (w : World) (e : Ending) (w' : World) : Prop := ∃ v, e = .returned (.tuple #[.agg #[.int .u64 (openN xs), v], .int .i64 (openE xs)]) ∧ w'.ownsRow w.heap.size 5 1 v (openB xs).length ((openB xs).map (Value.int .u8)) ∧ Below w.heap.size w w'
theorem RdAt.below {T : TypeId} {w w' : World} {r : Nat} {xs : List Int} (h : RdAt T w r xs) (hp : 0 < xs.length) (k : Below w.heap.size w w') : RdAt T w' r xs := by
  obtain ⟨g, o, c, h1, h2, h3, h4, h5⟩ := h.at_
  refine ⟨⟨g, o, c, h1.of_block (k.block _ h1.lt), fun i hi => ?_, h3, h4, h5⟩⟩
  exact (k.cell (p := ⟨g, o + i, none⟩) (World.block_lt_of_cell? w _ (h2 i hi))).trans (h2 i hi)
/-- A call that opens: its result's block, its reader, its source. -/
structure OInv (T : TypeId) (w wr : World) (b o c r : Nat) (xs rest : List Int) : Prop where
  rd : RdAt T wr r rest
  src : ∀ i, i < xs.length → wr.cell? ⟨b, o + i, none⟩ = some (.int .u8 (xs[i]?.getD 0))
  res : Row wr w.heap.size #[.int .u64 0, .slice none 0 0] 25
  bl : Below w.heap.size w wr
  hr : w.heap.size < r
  hb : b < w.heap.size
theorem OInv.below {T : TypeId} {w wr w' : World} {b o c r : Nat} {xs rest : List Int} (h : OInv T w wr b o c r xs rest) (hp : 0 < rest.length) (k : Below wr.heap.size wr w') : OInv T w w' b o c r xs rest :=
  ⟨h.rd.below hp k, fun i hi => (k.cell (p := ⟨b, o + i, none⟩) (Nat.lt_of_lt_of_le h.hb h.bl.size)).trans (h.src i hi), h.res.of_block (k.block _ h.res.lt), h.bl.trans (k.mono h.bl.size), h.hr, h.hb⟩
theorem OInv.read {T : TypeId} {w wr w' : World} {b o c r : Nat} {xs rest rest' : List Int} (h : OInv T w wr b o c r xs rest) (hr : RdAt T w' r rest') (k : Only [r] wr w') : OInv T w w' b o c r xs rest' :=
  ⟨hr, fun i hi => (k.cell (Nat.lt_of_lt_of_le h.hb h.bl.size) (by simp; have := h.hr; have := h.hb; omega)).trans (h.src i hi), h.res.only k (by simp; have := h.hr; omega), h.bl.trans (k.toBelow h.bl.size fun i hi => by simp at hi; have := h.hr; omega), h.hr, h.hb⟩
theorem OInv.drew {T : TypeId} {w wr : World} {b o c r : Nat} {xs rest : List Int} (h : OInv T w wr b o c r xs rest) : OInv T w wr.drew b o c r xs rest :=
  ⟨⟨h.rd.at_⟩, h.src, h.res, h.bl.drew, h.hr, h.hb⟩
theorem OInv.ints {T : TypeId} {w wr : World} {b o c r : Nat} {xs rest : List Int} (h : OInv T w wr b o c r xs rest) (k n c' : Nat) (hk : k + n = xs.length) : Ints .u8 wr (.slice (some ⟨b, o + k, none⟩) n c') (xs.drop k) := by
  refine .inr ⟨b, o + k, c', by rw [List.length_drop]; congr 1; omega, fun i hi => ?_⟩
  rw [List.length_drop] at hi
  rw [Nat.add_assoc, h.src (k + i) (by omega), List.getElem?_drop]
theorem stored_row {w : World} {q : Nat} {x y a b : Value} {T : TypeId} (h : Row w q #[x, y] T) : Row ((w.setCell ⟨q, 0, none⟩ a).setCell ⟨q, 1, none⟩ b) q #[a, b] T := by
  have := (h.set 0 a).set 1 b
  simpa using this
theorem own_stored {w : World} {base : Nat} {e : TypeId} {size : Nat} {v : Value} {n : Nat} {xs : List Value} {q : Nat} {a b : Value} (h : w.ownsRow base e size v n xs) (hq : ∀ k, v.ownBlock = some k → k ≠ q) : ((w.setCell ⟨q, 0, none⟩ a).setCell ⟨q, 1, none⟩ b).ownsRow base e size v n xs :=
  own_keep h fun k hk => (Below.heap_setCell _ _ _ _ (hq k hk)).trans (Below.heap_setCell _ _ _ _ (hq k hk))
theorem own_lower {w : World} {base base' : Nat} {e : TypeId} {size : Nat} {v : Value} {n : Nat} {xs : List Value} (h : w.ownsRow base' e size v n xs) (hb : base ≤ base') : w.ownsRow base e size v n xs := by
  refine ⟨h.1, ?_⟩
  rcases h.2 with h | ⟨g, cap, cur, r1, r2, r3⟩
  · exact .inl h
  · exact .inr ⟨g, cap, cur, r1, Nat.le_trans hb r2, r3⟩
theorem own_row {w : World} {g base n : Nat} {cur : Array Value} {e : TypeId} (h : Row w g cur e) (hn : cur.size = n) (hb : base ≤ g) (hm : n ≤ maxLen) : w.ownsRow base e 1 (.slice (some ⟨g, 0, none⟩) n n) n cur.toList :=
  ⟨by simp [hn], .inr ⟨g, n, cur, rfl, hb, h, Nat.le_refl _, hm, by simp [hn], by rw [Nat.mul_one, List.take_of_length_le (by simp [hn])]⟩⟩
theorem zs_own {w : World} {g base : Nat} (h : Row w g zs500 5) (hb : base ≤ g) : w.ownsRow base 5 1 (.slice (some ⟨g, 0, none⟩) 500 500) (List.replicate 500 (0 : Int)).length ((List.replicate 500 (0 : Int)).map (Value.int .u8)) := by
  have := own_row (n := 500) h (by unfold zs500; rw [Array.size_replicate]) hb (by unfold maxLen; omega)
  rw [List.length_replicate, List.map_replicate]
  rw [show zs500.toList = List.replicate 500 (.int .u8 0) from by unfold zs500; exact Array.toList_replicate] at this
  exact this
set_option maxHeartbeats 2000000 in
theorem open_len (a : Option Addr) (n c : Nat) (xs : List Int) (w : World) (hx : xs.length = n) (hn : n ≠ 512) :
    Calls Try.prog 10 #[.slice a n c] w (OpenPost xs w) := by
  have d1 : decide ((n : Int) = 512) = false := decide_eq_false (by omega)
  have d2 : ((n : Int) != 512) = true := by simp; omega
  have d3 : ¬ (n : Int) = 512 := by omega
  have E1 : Hid (openE xs = 2 ∧ openN xs = 0 ∧ openB xs = []) := Lib.hid (by unfold openE openN openB; simp [hx, hn])
  clear hx hn
  go_enter Try.func10, Try.ntmps10
  go_wp2_with fail
  refine bodyPost_ret (results_paper2 rfl _ _ w.heap.size (.int .u64 0) (.slice none 0 0) rfl (Row.made w _ _)) rfl ?_
  obtain ⟨h1, h2, h3⟩ := E1.out
  refine ⟨.slice none 0 0, by rw [h1, h2]; rfl, by rw [h3]; exact World.ownsRow_nil _ _ _ _, (Below.refl _ _).alloc (Nat.le_refl _) _⟩
set_option maxHeartbeats 4000000 in
theorem open_zero (b o c : Nat) (xs : List Int) (w : World) (hx : xs.length = 512) (hi : Ints .u8 w (.slice (some ⟨b, o, none⟩) 512 c) xs) (hz : zerosIn xs = 512) :
    Calls Try.prog 10 #[.slice (some ⟨b, o, none⟩) 512 c] w (OpenPost xs w) := by
  have E1 : Hid (openE xs = 0 ∧ openN xs = 0 ∧ openB xs = List.replicate 500 0) := Lib.hid (by unfold openE openN openB; simp [hx, hz])
  have K := Lib.hid fun (w1 : World) (b2 : Nat) (k : Below w.heap.size w w1) (h2 : w1.cell? ⟨b2, 0, none⟩ = some (.int .u8 0)) => count_any b o 512 c b2 0 1 xs w1 hx (fun i hlt => by
    obtain ⟨b', o', c', hv, hc⟩ := (hi.below' k).shape (by omega)
    simp only [Value.slice.injEq, Option.some.injEq, Addr.mk.injEq] at hv
    obtain ⟨⟨rfl, rfl, _⟩, _, rfl⟩ := hv
    rw [hc i (by omega), List.getD_eq_getElem?_getD]) h2
  rw [hz] at K
  clear hx hi hz
  go_enter Try.func10, Try.ntmps10
  go_wp2_with fail
  have B2 : Hid (Below w.heap.size w ((w.alloc (.cells #[.int .u64 0, .slice none 0 0] 25)).alloc (.cells #[.int .u8 0] 5))) := Lib.hid (((Below.refl _ w).alloc (Nat.le_refl _) _).alloc (by simp [go_sem]) _)
  have R2 : Hid (Row ((w.alloc (.cells #[.int .u64 0, .slice none 0 0] 25)).alloc (.cells #[.int .u8 0] 5)) w.heap.size #[.int .u64 0, .slice none 0 0] 25) := Lib.hid ((Row.made w _ _).only ((Only.refl [] _).alloc _) (by simp))
  have C2 : Hid (((w.alloc (.cells #[.int .u64 0, .slice none 0 0] 25)).alloc (.cells #[.int .u8 0] 5)).cell? ⟨w.heap.size + 1, 0, none⟩ = some (.int .u8 0)) := Lib.hid (by simp [go_sem])
  refine (K.out _ _ B2.out C2.out).mono ?_
  rintro _ w3 ⟨rfl, hw3⟩
  have B3 : Hid (Below w.heap.size w w3) := Lib.hid (by rw [hw3]; exact B2.out)
  have R3 : Hid (Row w3 w.heap.size #[.int .u64 0, .slice none 0 0] 25) := Lib.hid (by rw [hw3]; exact R2.out)
  clear hw3 B2 R2 C2 K
  go_wp2_with fail
  refine (blank_any _).mono ?_
  rintro _ w4 ⟨g, rfl, hg, hr, ho⟩
  have R4 := Lib.hid (R3.out.only ho (by simp))
  have B4 := Lib.hid (B3.out.trans (ho.toBelow B3.out.size (by simp)))
  have G4 : Hid (w.heap.size < g) := Lib.hid (Nat.lt_of_lt_of_le R3.out.lt hg)
  have Z4 := Lib.hid hr
  have c0 : w4.cell? ⟨w.heap.size, 0, none⟩ = some (.int .u64 0) := R4.out.cell 0
  have c1 : w4.cell? ⟨w.heap.size, 1, none⟩ = some (.slice none 0 0) := R4.out.cell 1
  have f0 := R4.out.free 0
  have f1 := R4.out.free 1
  clear hg hr ho R3 B3
  go_wp2_with fail
  refine bodyPost_ret (results_paper2 rfl _ _ w.heap.size (.int .u64 0) (.slice (some ⟨g, 0, none⟩) 500 500) rfl ?_) rfl ?_
  · exact stored_row R4.out
  · obtain ⟨h1, h2, h3⟩ := E1.out
    refine ⟨.slice (some ⟨g, 0, none⟩) 500 500, by rw [h1, h2]; rfl, ?_, (B4.out.setCell (by simp) _).setCell (by simp) _⟩
    rw [h3]
    exact own_stored (zs_own Z4.out (Nat.le_of_lt G4.out)) fun k hk => by simp [Value.ownBlock] at hk; have := G4.out; omega
theorem sum_get {xs : List Int} (hb : IsBy xs) : 0 ≤ leN (xs.take 4) := (leN_range _ fun x hx => hb x (List.mem_of_mem_take hx)).1
set_option maxHeartbeats 4000000 in
theorem open_more (b o c : Nat) (xs : List Int) (w : World) (hx : xs.length = 512) (hi : Ints .u8 w (.slice (some ⟨b, o, none⟩) 512 c) xs) (hb : IsBy xs) (hz : zerosIn xs ≠ 512) (hc : 512 ≤ c) :
    Calls Try.prog 10 #[.slice (some ⟨b, o, none⟩) 512 c] w (OpenPost xs w) := by
  have E1 : Hid (openE xs = (if sumOk xs then 0 else 14) ∧ openN xs = (if sumOk xs then leN ((xs.drop 4).take 8) else 0) ∧ openB xs = (if sumOk xs then xs.drop 12 else [])) := Lib.hid (by unfold openE openN openB; simp [hx, hz])
  have K := Lib.hid fun (w1 : World) (b2 : Nat) (k : Below w.heap.size w w1) (h2 : w1.cell? ⟨b2, 0, none⟩ = some (.int .u8 0)) => count_any b o 512 c b2 0 1 xs w1 hx (fun i hlt => by
    obtain ⟨b', o', c', hv, hc⟩ := (hi.below' k).shape (by omega)
    simp only [Value.slice.injEq, Option.some.injEq, Addr.mk.injEq] at hv
    obtain ⟨⟨rfl, rfl, _⟩, _, rfl⟩ := hv
    rw [hc i (by omega), List.getD_eq_getElem?_getD]) h2
  obtain ⟨Z, hZ⟩ : ∃ Z, zerosIn xs = Z := ⟨_, rfl⟩
  rw [hZ] at K hz
  have hz1 : ((Z : Int) == 512) = false := by simp; omega
  have hz2 : ¬ (Z : Int) = 512 := by omega
  have hz3 : decide ((Z : Int) = 512) = false := decide_eq_false hz2
  have HI := Lib.hid hi
  have HB := Lib.hid hb
  have HX := Lib.hid hx
  have hbl : b < w.heap.size := by
    obtain ⟨b', o', c', hv, hc⟩ := hi.shape (by omega)
    simp only [Value.slice.injEq, Option.some.injEq, Addr.mk.injEq] at hv
    obtain ⟨⟨rfl, rfl, _⟩, _, rfl⟩ := hv
    exact World.block_lt_of_cell? w _ (hc 0 (by omega))
  have HBL := Lib.hid hbl
  have t4 : (c - 4 : Nat) ≠ 0 := by omega
  have t12 : (c - 12 : Nat) ≠ 0 := by omega
  have cc : (512 : Int) ≤ (c : Int) := by omega
  clear hx hi hz hb hbl hZ
  go_enter Try.func10, Try.ntmps10
  go_wp2_with fail
  have B2 : Hid (Below w.heap.size w ((w.alloc (.cells #[.int .u64 0, .slice none 0 0] 25)).alloc (.cells #[.int .u8 0] 5))) := Lib.hid (((Below.refl _ w).alloc (Nat.le_refl _) _).alloc (by simp [go_sem]) _)
  have R2 : Hid (Row ((w.alloc (.cells #[.int .u64 0, .slice none 0 0] 25)).alloc (.cells #[.int .u8 0] 5)) w.heap.size #[.int .u64 0, .slice none 0 0] 25) := Lib.hid ((Row.made w _ _).only ((Only.refl [] _).alloc _) (by simp))
  have C2 : Hid (((w.alloc (.cells #[.int .u64 0, .slice none 0 0] 25)).alloc (.cells #[.int .u8 0] 5)).cell? ⟨w.heap.size + 1, 0, none⟩ = some (.int .u8 0)) := Lib.hid (by simp [go_sem])
  refine (K.out _ _ B2.out C2.out).mono ?_
  rintro _ w3 ⟨rfl, hw3⟩
  have B3 : Hid (Below w.heap.size w w3) := Lib.hid (by rw [hw3]; exact B2.out)
  have R3 : Hid (Row w3 w.heap.size #[.int .u64 0, .slice none 0 0] 25) := Lib.hid (by rw [hw3]; exact R2.out)
  clear hw3 B2 R2 C2 K
  go_wp2_with fail
  refine (newrd_any b o 512 c xs w3 HX.out (HI.out.below' B3.out) (by omega) (by omega)).mono ?_
  rintro _ w4 ⟨r, rfl, hr, hb4, hrg⟩
  have I4 : Hid (OInv tRd w w4 b o c r xs xs) := Lib.hid ⟨hr, fun i hlt => by
    obtain ⟨b', o', c', hv, hc⟩ := ((HI.out.below' B3.out).below' hb4).shape (by omega)
    simp only [Value.slice.injEq, Option.some.injEq, Addr.mk.injEq] at hv
    obtain ⟨⟨rfl, rfl, _⟩, _, rfl⟩ := hv
    exact hc i hlt, R3.out.of_block (hb4.block _ R3.out.lt), B3.out.trans (hb4.mono B3.out.size), Nat.lt_of_lt_of_le R3.out.lt hrg, HBL.out⟩
  clear hr hb4 hrg R3 B3
  have I5 := Lib.hid I4.out.drew
  have L4 : Hid ((xs.drop 4).length = 508) := Lib.hid (by rw [List.length_drop, HX.out])
  have BY4 : Hid (IsBy (xs.drop 4)) := Lib.hid fun x hx => HB.out x (List.mem_of_mem_drop hx)
  have UK := Lib.hid fun (y : World) (h : RdAt tRd y r xs) => u32r_any r xs y h HB.out (by rw [HX.out]; omega)
  have SK := Lib.hid fun (y : World) (h : Ints .u8 y (.slice (some ⟨b, o + 4, none⟩) 508 (c - 4)) (xs.drop 4)) => by
    have := sum_any _ _ _ _ y L4.out h BY4.out (by omega)
    unfold SumPost at this
    exact this
  have HS : Hid (sumOk xs ↔ leN (xs.take 4) = ((sumI (xs.drop 4) : Nat) : Int)) := Lib.hid Iff.rfl
  generalize leN (xs.take 4) = T at *
  generalize sumI (xs.drop 4) = S at *
  clear I4
  go_wp2_with fail
  go_region_with (first
    | (go_at_call 32; refine (UK.out y3 J3.out.rd).mono ?_; rintro _ w6 ⟨rfl, hr6, k6⟩; have I6 := Lib.hid (J3.out.read hr6 k6); clear hr6 k6)
    | (go_at_call 32; refine (UK.out _ I5.out.rd).mono ?_; rintro _ y4 ⟨rfl, hr6, k6⟩; have J4 := Lib.hid (I5.out.read hr6 k6); clear hr6 k6)
    | (go_at_call 27; refine (SK.out y4 (J4.out.ints 4 508 _ HX.out.symm)).mono ?_; rintro _ w6 ⟨rfl, hb6⟩; have I6 := Lib.hid (J4.out.below (by rw [L4.out]; omega) hb6); clear hb6)
    | (go_at_call 27; refine (SK.out _ (I5.out.ints 4 508 _ HX.out.symm)).mono ?_; rintro _ y3 ⟨rfl, hb6⟩; have J3 := Lib.hid (I5.out.below (by rw [HX.out]; omega) hb6); clear hb6))
  all_goals
    by_cases hT : T = (S : Int)
    · have E2 : Hid (openE xs = 0 ∧ openN xs = leN ((xs.drop 4).take 8) ∧ openB xs = xs.drop 12) := Lib.hid (by
        have h := HS.out.2 hT
        have h1 := E1.out
        rw [if_pos h, if_pos h, if_pos h] at h1
        exact h1)
      have e1 : (T != (S : Int)) = false := by simp [hT]
      have I7 := Lib.hid I6.out.drew
      have L12 : Hid ((xs.drop 12).length = 500) := Lib.hid (by rw [List.length_drop, HX.out])
      have VK := Lib.hid fun (y : World) (h : RdAt tRd y r (xs.drop 4)) => u64r_any r (xs.drop 4) y h BY4.out (by rw [L4.out]; omega)
      have CK := Lib.hid fun (y : World) (h : Ints .u8 y (.slice (some ⟨b, o + 12, none⟩) 500 (c - 12)) (xs.drop 12)) => clone_any b (o + 12) 500 (c - 12) (xs.drop 12) y L12.out h (by omega) (by omega)
      generalize leN ((xs.drop 4).take 8) = N8 at *
      clear hT UK SK E1 HS I6
      go_wp2_with fail
      go_region_with (first
        | (go_at_call 33; refine (VK.out y5 J5.out.rd).mono ?_; rintro _ w8 ⟨rfl, hr8, k8⟩; have I8 := Lib.hid (J5.out.read hr8 k8); have OV : Hid (w8.ownsRow w.heap.size 5 1 (.slice (some ⟨g, 0, none⟩) (xs.drop 12).length c9) (xs.drop 12).length ((xs.drop 12).map (Value.int .u8))) := Lib.hid (own_keep OW.out fun k hk => k8.block _ (by simp [Value.ownBlock] at hk; have := GR.out; omega) (by simp [Value.ownBlock] at hk; have := GR.out; simp; omega)); have c0 : w8.cell? ⟨w.heap.size, 0, none⟩ = some (.int .u64 0) := I8.out.res.cell 0; have c1 : w8.cell? ⟨w.heap.size, 1, none⟩ = some (.slice none 0 0) := I8.out.res.cell 1; have f0 := I8.out.res.free 0; have f1 := I8.out.res.free 1; clear hr8 k8)
        | (go_at_call 33; refine (VK.out _ I7.out.rd).mono ?_; rintro _ y6 ⟨rfl, hr8, k8⟩; have J6 := Lib.hid (I7.out.read hr8 k8); clear hr8 k8)
        | (go_at_call 34; refine (CK.out y6 (J6.out.ints 12 500 _ HX.out.symm)).mono ?_; rintro _ w8 ⟨v, rfl, hv8, hb8⟩; obtain ⟨g, c9, rfl, hg1, hg2, _⟩ := own_parts hv8 (by rw [L12.out]; omega); have I8 := Lib.hid (J6.out.below (by rw [List.length_drop, L4.out]; omega) hb8); have OV : Hid (w8.ownsRow w.heap.size 5 1 (.slice (some ⟨g, 0, none⟩) (xs.drop 12).length c9) (xs.drop 12).length ((xs.drop 12).map (Value.int .u8))) := Lib.hid (own_lower hv8 J6.out.bl.size); have GR : Hid (r < g ∧ g < w8.heap.size) := Lib.hid ⟨by have h1 := J6.out.rd.at_; obtain ⟨_, _, _, h2, _⟩ := h1; have := h2.lt; omega, hg2⟩; have c0 : w8.cell? ⟨w.heap.size, 0, none⟩ = some (.int .u64 0) := I8.out.res.cell 0; have c1 : w8.cell? ⟨w.heap.size, 1, none⟩ = some (.slice none 0 0) := I8.out.res.cell 1; have f0 := I8.out.res.free 0; have f1 := I8.out.res.free 1; clear hv8 hb8 hg1 hg2)
        | (go_at_call 34; refine (CK.out _ (I7.out.ints 12 500 _ HX.out.symm)).mono ?_; rintro _ y5 ⟨v, rfl, hv8, hb8⟩; obtain ⟨g, c9, rfl, hg1, hg2, _⟩ := own_parts hv8 (by rw [L12.out]; omega); have J5 := Lib.hid (I7.out.below (by rw [L4.out]; omega) hb8); have OW : Hid (y5.ownsRow w.heap.size 5 1 (.slice (some ⟨g, 0, none⟩) (xs.drop 12).length c9) (xs.drop 12).length ((xs.drop 12).map (Value.int .u8))) := Lib.hid (own_lower hv8 I7.out.bl.size); have GR : Hid (r < g ∧ g < y5.heap.size) := Lib.hid ⟨by have h1 := I7.out.rd.at_; obtain ⟨_, _, _, h2, _⟩ := h1; have := h2.lt; omega, hg2⟩; clear hv8 hb8 hg1 hg2))
      all_goals
        go_wp2_with fail
        refine bodyPost_ret (results_paper2 rfl _ _ w.heap.size (.int .u64 N8) (.slice (some ⟨g, 0, none⟩) (xs.length - 12) c9) rfl (stored_row I8.out.res)) rfl ?_
        obtain ⟨h1, h2, h3⟩ := E2.out
        refine ⟨_, by rw [h1, h2]; rfl, ?_, (I8.out.bl.setCell (by simp) _).setCell (by simp) _⟩
        rw [h3, ← List.length_drop]
        exact own_stored OV.out fun k hk => by simp [Value.ownBlock] at hk; have := GR.out; have := I8.out.hr; omega
    · have E2 : Hid (openE xs = 14 ∧ openN xs = 0 ∧ openB xs = []) := Lib.hid (by
        have h : ¬ sumOk xs := fun h => hT (HS.out.1 h)
        have h1 := E1.out
        rw [if_neg h, if_neg h, if_neg h] at h1
        exact h1)
      have e1 : (T != (S : Int)) = true := by simp [hT]
      have c0 : w6.cell? ⟨w.heap.size, 0, none⟩ = some (.int .u64 0) := I6.out.res.cell 0
      have c1 : w6.cell? ⟨w.heap.size, 1, none⟩ = some (.slice none 0 0) := I6.out.res.cell 1
      have f0 := I6.out.res.free 0
      have f1 := I6.out.res.free 1
      clear UK SK E1 HS
      go_wp2_with fail
      refine bodyPost_ret (results_paper2 rfl _ _ w.heap.size (.int .u64 0) (.slice none 0 0) rfl (stored_row I6.out.res)) rfl ?_
      obtain ⟨h1, h2, h3⟩ := E2.out
      refine ⟨.slice none 0 0, by rw [h1, h2]; rfl, by rw [h3]; exact World.ownsRow_nil _ _ _ _, (I6.out.bl.setCell (by simp) _).setCell (by simp) _⟩
end Go.Proofs.Ytomhflkjnldeoaa
