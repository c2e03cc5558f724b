/- PageCrash: what a device holds behind writes that the power may cut, a sync, a crash: no program in sight. -/
import Derived.Test.YtomhflkjnldeoaaPgR
import Derived.Test.YtomhflkjnldeoaaDkM
namespace Go.Proofs.Ytomhflkjnldeoaa
open Go.Proofs.Ytomhflkjnldeoaa.dk (Dk sectorD putD newD findS upS stepW stepS sectorD_is opD opD_waits opD_last writeD crashD crash_half crash_sector syncD)
set_option linter.unusedVariables false

theorem stepW_waits (D : Dk) (k : Int) (s : List Int) (k' : Int) : findS k' (stepW D k s).waits = (if D.off = false ∧ k' = k then some s else findS k' D.waits) ∧ (stepW D k s).last = D.last := by
  unfold stepW
  cases ho : D.off
  · rw [if_neg (by simp)]
    unfold writeD
    rw [opD_waits, opD_last]
    refine ⟨?_, rfl⟩
    show findS k' (upS k s D.waits) = _
    rw [dk.findS_up]
    by_cases e : k' = k
    · rw [if_pos e, if_pos ⟨rfl, e⟩]
    · rw [if_neg e, if_neg (fun h => e h.2)]
  · rw [if_pos rfl, if_neg (by simp)]
    exact ⟨rfl, rfl⟩
theorem stepW_off {D : Dk} {k : Int} {s : List Int} (h : (stepW D k s).off = false) : D.off = false := by
  unfold stepW at h
  cases ho : D.off
  · rfl
  · rw [if_pos ho, ho] at h; cases h
theorem pageW_last (D : Dk) (k : Int) (b : List Int) : ∀ i, (pageW D k b i).last = D.last
  | 0 => rfl
  | i + 1 => by rw [pageW, (stepW_waits _ _ _ 0).2, pageW_last D k b i]
/-- Of each sector: what waited, or a part of what was written. -/
theorem pageW_waits (D : Dk) (k : Int) (b : List Int) (k' : Int) : ∀ i, findS k' (pageW D k b i).waits = findS k' D.waits ∨ ∃ t : Nat, t < i ∧ k' = k + t ∧ findS k' (pageW D k b i).waits = some (secAt b t)
  | 0 => .inl rfl
  | i + 1 => by
    rw [pageW, (stepW_waits _ _ _ k').1]
    by_cases e : (pageW D k b i).off = false ∧ k' = k + i
    · rw [if_pos e]; exact .inr ⟨i, by omega, e.2, rfl⟩
    · rw [if_neg e]
      rcases pageW_waits D k b k' i with h | ⟨t, h1, h2, h3⟩
      · exact .inl h
      · exact .inr ⟨t, by omega, h2, h3⟩
theorem pageW_before {D : Dk} {k : Int} {b : List Int} : ∀ {i}, (pageW D k b i).off = false → D.off = false
  | 0, h => h
  | i + 1, h => pageW_before (stepW_off h)
/-- With the power on to the end all of it was written. -/
theorem pageW_on (D : Dk) (k : Int) (b : List Int) (k' : Int) : ∀ i : Nat, (pageW D k b i).off = false → sectorD (pageW D k b i) k' = if k ≤ k' ∧ k' < k + i then secAt b (k' - k).toNat else sectorD D k'
  | 0, _ => by rw [if_neg (by omega)]; rfl
  | i + 1, h => by
    have h0 : (pageW D k b i).off = false := stepW_off h
    have ih := pageW_on D k b k' i h0
    obtain ⟨hw, hl⟩ := stepW_waits (pageW D k b i) (k + (i : Int)) (secAt b i) k'
    rw [pageW]
    unfold sectorD
    rw [hw, hl]
    by_cases e : k' = k + i
    · subst e
      rw [if_pos ⟨h0, rfl⟩, if_pos (by omega), show (k + (i : Int) - k).toNat = i by omega]
      rfl
    · rw [if_neg (fun h => e h.2)]
      show sectorD (pageW D k b i) k' = _
      rw [ih]
      by_cases e2 : k ≤ k' ∧ k' < k + i
      · rw [if_pos e2, if_pos (by omega)]; 
      · rw [if_neg e2, if_neg (by omega)]; rfl
/-! ### the pages -/
def z512 : List Int := List.replicate 512 0
theorem z512_len : z512.length = 512 := List.length_replicate
/-- A page's bytes on a device. -/
def devB (p : Pg) : List Int := if p.n = 0 then z512 else pageB p.n p.xs
/-- The bytes of the page that round k writes. -/
def roundB (k : Nat) : List Int := pageB ((k : Int) + 1) (bodyL ((k : Int) + 1))
theorem roundB_len (k : Nat) : (roundB k).length = 512 := by unfold roundB; rw [pageB_len, bodyL_len]
/-- A page of before round i, at place j (where: which place a round writes at). -/
def Made (at_ : Nat → Nat) (i j : Nat) (p : Pg) : Prop := zeroPg p ∨ ∃ k, k < i ∧ at_ k = j ∧ p.n = (k : Int) + 1 ∧ p.xs = bodyL ((k : Int) + 1)
theorem Made.up {at_ : Nat → Nat} {i i' j : Nat} {p : Pg} (h : Made at_ i j p) (hi : i ≤ i') : Made at_ i' j p :=
  h.elim .inl fun ⟨k, h1, h2⟩ => .inr ⟨k, by omega, h2⟩
theorem Made.devB {at_ : Nat → Nat} {i j : Nat} {p : Pg} (h : Made at_ i j p) : devB p = z512 ∧ zeroPg p ∨ ∃ k, k < i ∧ at_ k = j ∧ devB p = roundB k := by
  rcases h with h | ⟨k, h1, h2, h3, h4⟩
  · left; exact ⟨by unfold Go.Proofs.Ytomhflkjnldeoaa.devB; rw [if_pos h.1], h⟩
  · right; exact ⟨k, h1, h2, by unfold Go.Proofs.Ytomhflkjnldeoaa.devB roundB; rw [if_neg (by omega), h3, h4]⟩
theorem Made.lt {at_ : Nat → Nat} {i j : Nat} {p : Pg} (h : Made at_ i j p) : p.n < (i : Int) + 1 := by
  rcases h with h | ⟨k, h1, h2, h3, h4⟩
  · rw [h.1]; omega
  · omega
structure CInv (at_ : Nat → Nat) (D : Dk) (ls ns : List Pg) (i : Nat) : Prop where
  ll : ls.length = 8
  ln : ns.length = 8
  ml : ∀ (j : Nat) (p : Pg), ls[j]? = some p → Made at_ i j p
  mn : ∀ (j : Nat) (p : Pg), ns[j]? = some p → Made at_ i j p
  last : ∀ (j : Nat) (p : Pg), ls[j]? = some p → ∀ t : Nat, t < 4 → D.last (4 * (j : Int) + t) = secAt (devB p) t
  waits : ∀ j : Nat, j < 8 → ∀ t : Nat, t < 4 → ∀ s, findS (4 * (j : Int) + t) D.waits = some s → (∃ k, k < i ∧ at_ k = j ∧ s = secAt (roundB k) t) ∧ ∀ (p q : Pg), ls[j]? = some p → ns[j]? = some q → p.n ≠ q.n
/-- .. and the power is on: all that was written is there. -/
def CNow (D : Dk) (ns : List Pg) : Prop := ∀ (j : Nat) (p : Pg), ns[j]? = some p → ∀ t : Nat, t < 4 → sectorD D (4 * (j : Int) + t) = secAt (devB p) t
theorem CInv.write {at_ : Nat → Nat} {D : Dk} {ls ns : List Pg} {i j : Nat} {x : Pg} (h : CInv at_ D ls ns i) (hj : j < 8) (ha : at_ i = j) (h0 : x.n = (i : Int) + 1) (hx : x.xs = bodyL ((i : Int) + 1)) :
    CInv at_ (pageW D (4 * (j : Int)) (roundB i) 4) ls (ns.set j x) (i + 1) := by
  refine ⟨h.ll, by rw [List.length_set]; exact h.ln, fun j' p hp => (h.ml j' p hp).up (by omega), fun j' p hp => ?_, fun j' p hp t ht => by rw [pageW_last]; exact h.last j' p hp t ht, fun j' hj' t ht s hs => ?_⟩
  · by_cases e : j = j'
    · subst e
      rw [List.getElem?_set_self (by rw [h.ln]; exact hj)] at hp
      simp only [Option.some.injEq] at hp
      subst hp
      exact .inr ⟨i, by omega, ha, h0, hx⟩
    · rw [List.getElem?_set_ne e] at hp
      exact (h.mn j' p hp).up (by omega)
  · rcases pageW_waits D (4 * (j : Int)) (roundB i) (4 * (j' : Int) + t) 4 with e | ⟨t', h1, h2, h3⟩
    · rw [e] at hs
      obtain ⟨⟨k, k1, k2, k3⟩, hne⟩ := h.waits j' hj' t ht s hs
      refine ⟨⟨k, by omega, k2, k3⟩, fun p q hp hq => ?_⟩
      by_cases e2 : j = j'
      · subst e2
        rw [List.getElem?_set_self (by rw [h.ln]; exact hj)] at hq
        simp only [Option.some.injEq] at hq
        subst hq
        have := (h.ml j p hp).lt
        omega
      · rw [List.getElem?_set_ne e2] at hq
        exact hne p q hp hq
    · have e1 : j' = j := by omega
      subst e1
      have e2 : t' = t := by omega
      subst e2
      rw [h3] at hs
      simp only [Option.some.injEq] at hs
      refine ⟨⟨i, by omega, ha, hs.symm⟩, fun p q hp hq => ?_⟩
      rw [List.getElem?_set_self (by rw [h.ln]; exact hj)] at hq
      simp only [Option.some.injEq] at hq
      subst hq
      have := (h.ml j' p hp).lt
      omega
theorem CNow.write {D : Dk} {ns : List Pg} {i j : Nat} {x : Pg} (h : CNow D ns) (hl : ns.length = 8) (hj : j < 8) (h0 : x.n = (i : Int) + 1) (hx : x.xs = bodyL ((i : Int) + 1)) (ho : (pageW D (4 * (j : Int)) (roundB i) 4).off = false) :
    CNow (pageW D (4 * (j : Int)) (roundB i) 4) (ns.set j x) := fun j' p hp t ht => by
  rw [pageW_on _ _ _ _ 4 ho]
  by_cases e : j = j'
  · subst e
    rw [List.getElem?_set_self (by omega)] at hp
    simp only [Option.some.injEq] at hp
    subst hp
    rw [if_pos (by omega), show (4 * (j : Int) + (t : Int) - 4 * (j : Int)).toNat = t by omega]
    unfold devB roundB
    rw [if_neg (by omega), h0, hx]
  · rw [List.getElem?_set_ne e] at hp
    rw [if_neg (by omega)]
    exact h j' p hp t ht
theorem CInv.sync {at_ : Nat → Nat} {D : Dk} {ls ns : List Pg} {i : Nat} (h : CInv at_ D ls ns i) (hn : CNow D ns) : CInv at_ (syncD D) ns ns i ∧ CNow (syncD D) ns := by
  refine ⟨⟨h.ln, h.ln, h.mn, h.mn, fun j p hp t ht => hn j p hp t ht, fun j hj t ht s hs => ?_⟩, fun j p hp t ht => hn j p hp t ht⟩
  have : findS (4 * (j : Int) + t) (syncD D).waits = none := rfl
  rw [this] at hs
  cases hs
theorem cinv_new (at_ : Nat → Nat) (D : Dk) (hD : D.last = fun _ => List.replicate 128 0) (hw : D.waits = []) {ls ns : List Pg} (h1 : ls.length = 8) (h2 : ns.length = 8) (z1 : ∀ p ∈ ls, zeroPg p) (z2 : ∀ p ∈ ns, zeroPg p) : CInv at_ D ls ns 0 ∧ CNow D ns := by
  have e : ∀ (p : Pg) (t : Nat), zeroPg p → t < 4 → secAt (devB p) t = List.replicate 128 0 := fun p t hp ht => by
    unfold devB secAt z512
    rw [if_pos hp.1, List.drop_replicate, List.take_replicate, Nat.min_eq_left (by omega)]
  refine ⟨⟨h1, h2, fun j p hp => .inl (z1 p (List.mem_of_getElem? hp)), fun j p hp => .inl (z2 p (List.mem_of_getElem? hp)), fun j p hp t ht => by rw [e p t (z1 p (List.mem_of_getElem? hp)) ht, hD], fun j hj t ht s hs => by rw [hw] at hs; cases hs⟩, fun j p hp t ht => ?_⟩
  rw [e p t (z2 p (List.mem_of_getElem? hp)) ht]
  unfold sectorD
  rw [hw, hD]
  rfl
end Go.Proofs.Ytomhflkjnldeoaa
