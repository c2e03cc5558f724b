/- What a device holds behind pages that were written: no program in sight. -/
import Derived.Test.YtomhflkjnldeoaaPgQ
namespace Go.Proofs.Ytomhflkjnldeoaa
open Go.Proofs.Ytomhflkjnldeoaa.dk (Dk sectorD putD newD findS upS stepW sectorD_is)
set_option linter.unusedVariables false

theorem sectorD_put (D : Dk) (k : Int) (s : List Int) (k' : Int) : sectorD (putD D k s) k' = if k' = k then s else sectorD D k' := by
  unfold sectorD putD
  simp only [dk.findS_up]
  split <;> rfl
theorem pageW_calm {D : Dk} (h : dk.Calm D) (k : Int) (b : List Int) : ∀ i, dk.Calm (pageW D k b i)
  | 0 => h
  | i + 1 => by rw [pageW, (pageW_calm h k b i).write]; exact (pageW_calm h k b i).putD _ _
theorem pageW_at {D : Dk} (h : dk.Calm D) (k : Int) (b : List Int) (k' : Int) : ∀ i : Nat, sectorD (pageW D k b i) k' = if k ≤ k' ∧ k' < k + i then secAt b (k' - k).toNat else sectorD D k'
  | 0 => by rw [if_neg (by omega)]; rfl
  | i + 1 => by
    rw [pageW, (pageW_calm h k b i).write, sectorD_put, pageW_at h k b k' i]
    by_cases e : k' = k + i
    · subst e
      rw [if_pos rfl, if_pos (by omega), show (k + (i : Int) - k).toNat = i by omega]
    · rw [if_neg e]
      by_cases e2 : k ≤ k' ∧ k' < k + i
      · rw [if_pos e2, if_pos (by omega)]
      · rw [if_neg e2, if_neg (by omega)]
theorem secAt_all {b : List Int} (hl : b.length = 512) : secAt b 0 ++ secAt b 1 ++ secAt b 2 ++ secAt b 3 = b := by
  unfold secAt
  have e3 : (b.drop (128 * 3)).take 128 = b.drop (128 * 3) := List.take_of_length_le (by rw [List.length_drop]; omega)
  rw [e3, List.append_assoc, List.append_assoc]
  have h (i : Nat) : (b.drop (128 * i)).take 128 ++ b.drop (128 * (i + 1)) = b.drop (128 * i) := by
    rw [show 128 * (i + 1) = 128 * i + 128 by omega, ← List.drop_drop, List.take_append_drop]
  rw [h 2, h 1, h 0]
  rfl
theorem pageOn_four (D : Dk) (k : Int) : pageOn D k 4 = sectorD D k ++ sectorD D (k + 1) ++ sectorD D (k + 2) ++ sectorD D (k + 3) := by
  simp only [pageOn, List.nil_append]
  rw [show k + ((0 : Nat) : Int) = k from Int.add_zero k]
  rfl
theorem pageOn_same {D : Dk} (h : dk.Calm D) (k : Int) {b : List Int} (hl : b.length = 512) : pageOn (pageW D k b 4) k 4 = b := by
  have e : ∀ j : Nat, j < 4 → sectorD (pageW D k b 4) (k + j) = secAt b j := fun j hj => by
    rw [pageW_at h, if_pos (by omega), show (k + (j : Int) - k).toNat = j by omega]
  have e0 := e 0 (by omega)
  rw [show k + ((0 : Nat) : Int) = k from Int.add_zero k] at e0
  have e1 := e 1 (by omega)
  have e2 := e 2 (by omega)
  have e3 := e 3 (by omega)
  rw [pageOn_four, e0, show k + 1 = k + ((1 : Nat) : Int) from rfl, e1, show k + 2 = k + ((2 : Nat) : Int) from rfl, e2, show k + 3 = k + ((3 : Nat) : Int) from rfl, e3, secAt_all hl]
theorem pageOn_other {D : Dk} (h : dk.Calm D) {k k' : Int} (b : List Int) (hk : k' + 4 ≤ k ∨ k + 4 ≤ k') : pageOn (pageW D k b 4) k' 4 = pageOn D k' 4 := by
  have e : ∀ j : Int, 0 ≤ j → j < 4 → sectorD (pageW D k b 4) (k' + j) = sectorD D (k' + j) := fun j h0 h1 => by
    rw [pageW_at h, if_neg (by omega)]
  have e0 := e 0 (by omega) (by omega)
  rw [Int.add_zero] at e0
  rw [pageOn_four, pageOn_four, e0, e 1 (by omega) (by omega), e 2 (by omega) (by omega), e 3 (by omega) (by omega)]
/-- Each page that lies there opens as what is told of it. -/
def Told (D : Dk) (s base : Int) (l : List Pg) : Prop := ∀ n : Nat, Lies s base n → ∃ p, l[n]? = some p ∧ openE (pageOn D (base + 4 * n) 4) = 0 ∧ openN (pageOn D (base + 4 * n) 4) = p.n ∧ openB (pageOn D (base + 4 * n) 4) = p.xs
theorem Told.write {D : Dk} {s base : Int} {l : List Pg} (h : Told D s base l) (hc : dk.Calm D) {n : Nat} {p : Pg} (hn : n < l.length) (h0 : 0 ≤ p.n) (h1 : p.n < 18446744073709551616) (hx : p.xs.length = 500) (hb : IsBy p.xs) :
    Told (pageW D (base + 4 * n) (pageB p.n p.xs) 4) s base (l.set n p) := fun m hm => by
  have hl : (pageB p.n p.xs).length = 512 := by rw [pageB_len, hx]
  by_cases e : m = n
  · subst e
    obtain ⟨o1, o2, o3⟩ := open_page h0 h1 hx hb
    rw [pageOn_same hc _ hl]
    exact ⟨p, by rw [List.getElem?_set_self hn], o1, o2, o3⟩
  · rw [pageOn_other hc _ (by omega), List.getElem?_set_ne (by omega)]
    exact h m hm
theorem told_new (s base : Int) (l : List Pg) (hs : s ≤ 60) (hl : l.length = 15) (hz : ∀ p ∈ l, zeroPg p) : Told (newD s s) s base l := fun n hn => by
  have h15 : n < l.length := by unfold Lies at hn; omega
  have hp : l[n] ∈ l := List.getElem_mem h15
  obtain ⟨z1, z2⟩ := hz _ hp
  have e : ∀ k, sectorD (newD s s) k = List.replicate 128 0 := fun k => rfl
  have e512 : pageOn (newD s s) (base + 4 * n) 4 = List.replicate 512 0 := by
    rw [pageOn_four, e, e, e, e, List.replicate_append_replicate, List.replicate_append_replicate, List.replicate_append_replicate]
  have hlen : (List.replicate 512 (0 : Int)).length = 512 := List.length_replicate
  have hzs : zerosIn (List.replicate 512 0) = 512 := by
    have := (zerosIn_eq (xs := List.replicate 512 0) (fun x hx => by have := (List.mem_replicate.1 hx).2; omega)).2 (by rw [hlen])
    rw [hlen] at this
    exact this
  refine ⟨l[n], List.getElem?_eq_getElem h15, ?_, ?_, ?_⟩
  · rw [e512]; unfold openE; rw [if_neg (by simp only [hlen, ne_eq, not_true_eq_false, not_false_eq_true]), if_pos hzs]
  · rw [e512, z1]; unfold openN; rw [if_neg (by simp only [hlen, ne_eq, not_true_eq_false, not_false_eq_true]), if_pos hzs]
  · rw [e512, z2]; unfold openB; rw [if_neg (by simp only [hlen, ne_eq, not_true_eq_false, not_false_eq_true]), if_pos hzs]
end Go.Proofs.Ytomhflkjnldeoaa
