/- What a crash leaves; strings of sectors. -/
import Derived.Test.YtomhflkjnldeoaaDkIs
namespace Go.Proofs.Ytomhflkjnldeoaa.dk
open Go.RowKit Go.ChangeShapes Go.WideShapes Go.ChangeAt
set_option linter.unusedVariables false

/-! ### what a crash leaves -/
theorem lastC_val {D : Dk} {pk : List Int} {k : Int} (hn : (keysD D).Nodup) : ∀ i, i ≤ (keysD D).length →
    (k ∉ (keysD D).take i → lastC D pk i k = D.last k) ∧ (∀ j, j < i → (keysD D)[j]? = some k → lastC D pk i k = mixS (pickAt pk j) ((findS k D.waits).getD blank) (D.last k))
  | 0, _ => ⟨fun _ => rfl, fun j hj => by omega⟩
  | i + 1, hi => by
    obtain ⟨h1, h2⟩ := lastC_val (k := k) (pk := pk) hn i (by omega)
    have hlt : i < (keysD D).length := by omega
    have hg : (keysD D)[i]?.getD 0 = (keysD D)[i] := by rw [List.getElem?_eq_getElem hlt]; rfl
    have ht : (keysD D).take (i + 1) = (keysD D).take i ++ [(keysD D)[i]] := List.take_succ_eq_append_getElem hlt
    refine ⟨fun hk => ?_, fun j hj hjk => ?_⟩
    · rw [ht, List.mem_append, not_or] at hk
      show (if k = (keysD D)[i]?.getD 0 then _ else _) = _
      rw [hg, if_neg (by simpa using hk.2), h1 hk.1]
    · show (if k = (keysD D)[i]?.getD 0 then _ else _) = _
      rw [hg]
      obtain ⟨hjl, hjv⟩ := List.getElem?_eq_some_iff.1 hjk
      by_cases hji : j = i
      · subst hji
        rw [if_pos hjv.symm, h1]
        intro hm
        obtain ⟨m, hm1, hm2⟩ := List.getElem_of_mem hm
        rw [List.length_take] at hm1
        rw [List.getElem_take, ← hjv] at hm2
        have := (List.getElem_inj hn).1 hm2
        omega
      · rw [if_neg, h2 j (by omega) hjk]
        intro e
        rw [e] at hjv
        have := (List.getElem_inj hn).1 hjv
        omega
theorem keysD_nodup {D : Dk} (h : (D.waits.map (·.1)).Nodup) : (keysD D).Nodup := (sortI_perm _).nodup_iff.2 h
theorem keysD_mem {D : Dk} {k : Int} : k ∈ keysD D ↔ (findS k D.waits).isSome = true := by
  rw [keysD, (sortI_perm _).mem_iff]
  have : ∀ l : List (Int × List Int), k ∈ l.map (·.1) ↔ (findS k l).isSome = true := by
    intro l
    induction l with
    | nil => simp [findS]
    | cons x r ih =>
      obtain ⟨j, u⟩ := x
      simp only [List.map_cons, List.mem_cons, findS]
      by_cases e : k = j
      · simp [e]
      · rw [if_neg e, ← ih]; simp [e]
  exact this _
/-- Sector k behind a crash: as it lasted, if it did not wait; else a mixture. -/
theorem crash_sector {D : Dk} {pk : List Int} (hn : (D.waits.map (·.1)).Nodup) (k : Int) :
    (findS k D.waits = none ∧ sectorD (crashD D pk) k = D.last k) ∨ ∃ j s, (keysD D)[j]? = some k ∧ findS k D.waits = some s ∧ sectorD (crashD D pk) k = mixS (pickAt pk j) s (D.last k) := by
  have hk := keysD_nodup hn
  have e : sectorD (crashD D pk) k = lastC D pk D.waits.length k := rfl
  have hl := keysD_len D
  obtain ⟨h1, h2⟩ := lastC_val (pk := pk) (k := k) hk D.waits.length (by omega)
  cases hf : findS k D.waits with
  | none =>
    left
    refine ⟨rfl, ?_⟩
    rw [e, h1]
    intro hm
    have := keysD_mem.1 (List.mem_of_mem_take hm)
    rw [hf] at this; cases this
  | some s =>
    right
    obtain ⟨j, hj1, hj2⟩ := List.getElem_of_mem (keysD_mem.2 (by rw [hf]; rfl : (findS k D.waits).isSome = true))
    refine ⟨j, s, by rw [List.getElem?_eq_getElem hj1, hj2], rfl, ?_⟩
    rw [e, h2 j (by omega) (by rw [List.getElem?_eq_getElem hj1, hj2]), hf]; rfl
theorem sectorD_waits {D : Dk} {k : Int} {s : List Int} (h : findS k D.waits = some s) : sectorD D k = s := by unfold sectorD; rw [h]; rfl
theorem sectorD_last {D : Dk} {k : Int} (h : findS k D.waits = none) : sectorD D k = D.last k := by unfold sectorD; rw [h]; rfl
theorem sectorD_putD (D : Dk) (a k : Int) (s : List Int) : sectorD (putD D a s) k = if k = a then s else sectorD D k := by
  show ((findS k (upS a s D.waits)).getD (D.last k)) = _
  rw [findS_up]
  by_cases e : k = a
  · rw [if_pos e, if_pos e]; rfl
  · rw [if_neg e, if_neg e]; rfl
theorem mixS_half {c : Int} {s old : List Int} (h0 : 0 ≤ c) (h3 : c ≤ 3) (h1 : s.length = 128) (h2 : old.length = 128) :
    ((mixS c s old).take 64 = old.take 64 ∨ (mixS c s old).take 64 = s.take 64) ∧ ((mixS c s old).drop 64 = old.drop 64 ∨ (mixS c s old).drop 64 = s.drop 64) := by
  have t1 : (s.take 64).length = 64 := by simp; omega
  have t2 : (old.take 64).length = 64 := by simp; omega
  rcases (by omega : c = 0 ∨ c = 1 ∨ c = 2 ∨ c = 3) with rfl | rfl | rfl | rfl
  · rw [mixS, if_pos (by simp), mixA, if_pos (by decide), List.drop_left' t1, List.take_append_drop]
    exact ⟨.inl rfl, .inl rfl⟩
  · rw [mixS, if_neg (by simp), mixA, if_neg (by decide)]
    exact ⟨.inr rfl, .inr rfl⟩
  · rw [mixS, if_neg (by simp), mixA, if_pos (by decide)]
    exact ⟨.inr (List.take_left' t1), .inl (List.drop_left' t1)⟩
  · rw [mixS, if_pos (by simp), mixA, if_neg (by decide)]
    exact ⟨.inl (List.take_left' t2), .inr (List.drop_left' t2)⟩
theorem mixS_zero (s old : List Int) (h1 : s.length = 128) (h2 : old.length = 128) : mixS 0 s old = old := by
  have t1 : (s.take 64).length = 64 := by simp; omega
  rw [mixS, if_pos (by simp), mixA, if_pos (by decide), List.drop_left' t1, List.take_append_drop]
theorem mixS_one (s old : List Int) : mixS 1 s old = s := by rw [mixS, if_neg (by simp), mixA, if_neg (by decide)]
theorem pickAt_range (pk : List Int) (j : Nat) : 0 ≤ pickAt pk j ∧ pickAt pk j ≤ 3 := by unfold pickAt; split <;> omega
/-- Each half of a sector behind a crash is as it lasted or as it was. -/
theorem crash_half {D : Dk} {pk : List Int} (hf : D.Fine) (hn : (D.waits.map (·.1)).Nodup) (k : Int) :
    ((sectorD (crashD D pk) k).take 64 = (D.last k).take 64 ∨ (sectorD (crashD D pk) k).take 64 = (sectorD D k).take 64) ∧ ((sectorD (crashD D pk) k).drop 64 = (D.last k).drop 64 ∨ (sectorD (crashD D pk) k).drop 64 = (sectorD D k).drop 64) := by
  rcases crash_sector (pk := pk) hn k with ⟨_, e⟩ | ⟨j, s, _, hs, e⟩
  · rw [e]; exact ⟨.inl rfl, .inl rfl⟩
  · rw [e, sectorD_waits hs]
    have h1 : s.length = 128 := by rw [← sectorD_waits hs]; exact (sectorD_is hf k).1
    exact mixS_half (pickAt_range pk j).1 (pickAt_range pk j).2 h1 (hf.la k).1
theorem Dev.keysNodup {W w : World} {p : Nat} {D : Dk} {F : List Nat} (h : Dev W w p D F) : (D.waits.map (·.1)).Nodup := by
  obtain ⟨bl, bw, bn, hd, rfl, hB⟩ := h.dk
  exact hd.keysNodup
theorem picks_ok {W w : World} {p m pc : Nat} {D : Dk} {F : List Nat} {pa : Option Addr} {pz : List Int} (h : Dev W w p D F) (hp : IsRow .u8 W pa m pc pz) :
    Ints .u8 w (.slice pa m pc) (pz.take m) ∧ (∀ x ∈ pz.take m, 0 ≤ x ∧ x < 256) ∧ (0 < m → ∀ a, pa = some a → a.block ∉ F) := by
  have hi := hp.ints
  refine ⟨hi.below' h.bl, fun x hx => ?_, fun hm a ha hF => ?_⟩
  · have := hp.wf x hx
    have e0 : IntKind.u8.min = 0 := rfl
    have e1 : IntKind.u8.max = 255 := rfl
    simp only [Lit.wf, e0, e1, Bool.and_eq_true, decide_eq_true_eq] at this
    omega
  · obtain ⟨b, off, cap, hv, hc⟩ := hi.shape (by rw [hp.length]; exact hm)
    simp only [Value.slice.injEq] at hv
    obtain ⟨h1, _, _⟩ := hv
    rw [h1] at ha
    cases ha
    have h1 : b < W.heap.size := World.block_lt_of_cell? W _ (hc 0 (by rw [hp.length]; exact hm))
    have h2 : W.heap.size ≤ b := h.ge _ hF
    omega
theorem crash_picks {W w : World} {p m pc : Nat} {D : Dk} {F : List Nat} {pa : Option Addr} {pz : List Int} (h : Dev W w p D F) (hp : IsRow .u8 W pa m pc pz) :
    Calls Try.prog 23 #[.pointer (some ⟨p, 0, none⟩), .slice pa m pc] w (DoneTo W p F (crashD D (pz.take m)) 0 w) := by
  obtain ⟨h1, h2, h3⟩ := picks_ok h hp
  exact crash_dev h hp.length h1 h2 h3
/-! ### the list of those that wait -/
def WaitsTo (D : Dk) (w : World) (e : Ending) (w' : World) : Prop := ∃ v, e = .returned v ∧ w'.ownsRow w.heap.size 3 1 v D.waits.length ((keysD D).map (Value.int .i64)) ∧ Below w.heap.size w w'
theorem waits_dev {W w : World} {p : Nat} {D : Dk} {F : List Nat} (h : Dev W w p D F) : Calls Try.prog 42 #[.pointer (some ⟨p, 0, none⟩)] w (WaitsTo D w) := by
  obtain ⟨bl, bw, bn, hd, rfl, hB⟩ := h.dk
  exact waits_at w p bl bw bn D hd
theorem Dev.below {W w w' : World} {p : Nat} {D : Dk} {F : List Nat} (h : Dev W w p D F) (k : Below w.heap.size w w') : Dev W w' p D F :=
  ⟨h.dk.below k, h.bl.trans (k.mono h.bl.size)⟩
/-! ### strings -/
def strV (s : List Int) : Value := .string (strOfNums s)
theorem byteArray_ext' {a b : ByteArray} (h : a.data.toList = b.data.toList) : a = b := by
  cases a; cases b
  simp only [ByteArray.mk.injEq]
  exact Array.toList_inj.1 h
theorem str_size {s : List Int} (h : s.length = 128) : (strOfNums s).size = 128 := by rw [strOfNums_size, h]
theorem str_lo (s : List Int) : (strOfNums s).extract 0 64 = strOfNums (s.take 64) := by
  refine byteArray_ext' ?_
  rw [ByteArray.data_extract, Array.toList_extract, strOfNums_data, strOfNums_data]
  simp [List.extract, List.map_take]
theorem str_hi {s : List Int} (h : s.length = 128) : (strOfNums s).extract 64 128 = strOfNums (s.drop 64) := by
  refine byteArray_ext' ?_
  rw [ByteArray.data_extract, Array.toList_extract, strOfNums_data, strOfNums_data]
  simp [List.extract, List.map_drop]
  rw [List.take_of_length_le (by simp; omega)]
end Go.Proofs.Ytomhflkjnldeoaa.dk
