/- PageCrash: what is read behind a crash: no program in sight. -/
import Derived.Test.YtomhflkjnldeoaaPgV
namespace Go.Proofs.Ytomhflkjnldeoaa
open Go.Proofs.Ytomhflkjnldeoaa.dk (Dk sectorD findS sectorD_is crashD crash_half crash_sector sectorD_waits)
set_option linter.unusedVariables false

theorem leN_inj : ∀ {a b : List Int}, IsBy a → IsBy b → a.length = b.length → leN a = leN b → a = b
  | [], [], _, _, _, _ => rfl
  | [], _ :: _, _, _, h, _ => by simp at h
  | _ :: _, [], _, _, h, _ => by simp at h
  | c :: r, d :: s, ha, hb, h, e => by
    simp only [leN] at e
    have h1 := ha c (List.mem_cons_self ..)
    have h2 := hb d (List.mem_cons_self ..)
    have e1 : c = d := by omega
    subst e1
    rw [leN_inj (fun x hx => ha x (List.mem_cons_of_mem _ hx)) (fun x hx => hb x (List.mem_cons_of_mem _ hx)) (by simpa using h) (by omega)]
theorem leB_leN {l : List Int} (h : IsBy l) {k : Nat} (hk : l.length = k) : leB (leN l) k = l := by
  have r := leN_range l h
  rw [hk] at r
  exact leN_inj (leB_by _ _) h (by rw [leB_len, hk]) (leN_leB k _ r.1 r.2)
def halfAt (b : List Int) (h : Nat) : List Int := (b.drop (64 * h)).take 64
theorem halfAt_lo (b : List Int) (t : Nat) : halfAt b (2 * t) = (secAt b t).take 64 := by
  unfold halfAt secAt
  rw [List.take_take, show 64 * (2 * t) = 128 * t by omega]
  rfl
theorem halfAt_hi (b : List Int) (t : Nat) : halfAt b (2 * t + 1) = (secAt b t).drop 64 := by
  unfold halfAt secAt
  rw [List.drop_take, List.drop_drop, show 64 * (2 * t + 1) = 128 * t + 64 by omega]
theorem halfAt_by {b : List Int} (h : IsBy b) (i : Nat) : IsBy (halfAt b i) := fun x hx => h x (List.mem_of_mem_drop (List.mem_of_mem_take hx))
theorem halfAt_len {b : List Int} (h : b.length = 512) {i : Nat} (hi : i < 8) : (halfAt b i).length = 64 := by unfold halfAt; rw [List.length_take, List.length_drop]; omega
theorem sec_of {D : Dk} (h : D.Fine) (k : Int) {t : Nat} (ht : t < 4) : secAt (pageOn D k 4) t = sectorD D (k + t) := by
  have hl : ∀ j, (sectorD D j).length = 128 := fun j => (sectorD_is h j).1
  have key : ∀ i, t < i → secAt (pageOn D k i) t = sectorD D (k + t) := by
    intro i
    induction i with
    | zero => intro h; omega
    | succ i ih =>
      intro hi
      have hpl := pageOn_len h k i
      unfold secAt
      rw [pageOn]
      by_cases e : t = i
      · subst e
        rw [List.drop_left' (by rw [hpl]), List.take_of_length_le (by rw [hl]; omega)]
      · have := ih (by omega)
        unfold secAt at this
        rw [List.drop_append_of_le_length (by rw [hpl]; omega), List.take_append_of_le_length (by rw [List.length_drop, hpl]; omega), this]
  exact key 4 ht
theorem sec_all {b c : List Int} (hb : b.length = 512) (hc : c.length = 512) (h : ∀ t, t < 4 → secAt b t = secAt c t) : b = c := by
  rw [← secAt_all hb, ← secAt_all hc, h 0 (by omega), h 1 (by omega), h 2 (by omega), h 3 (by omega)]
theorem devB_len {at_ : Nat → Nat} {i j : Nat} {p : Pg} (h : Made at_ i j p) : (devB p).length = 512 := by
  rcases h.devB with ⟨e, _⟩ | ⟨k, _, _, e⟩
  · rw [e, z512_len]
  · rw [e, roundB_len]
/-- What lies at place j behind a crash. -/
structure Mixed (at_ : Nat → Nat) (i j : Nat) (p : Pg) (B : List Int) : Prop where
  len : B.length = 512
  by_ : IsBy B
  half : ∀ h, h < 8 → halfAt B h = halfAt (devB p) h ∨ ∃ k, k < i ∧ at_ k = j ∧ halfAt B h = halfAt (roundB k) h
theorem CInv.crash {at_ : Nat → Nat} {D : Dk} {ls ns : List Pg} {i j : Nat} {p q : Pg} {pk : List Int} (h : CInv at_ D ls ns i) (hf : D.Fine) (hf' : (crashD D pk).Fine) (hn : (D.waits.map (·.1)).Nodup) (hj : j < 8) (hp : ls[j]? = some p) (hq : ns[j]? = some q) :
    Mixed at_ i j p (pageOn (crashD D pk) (4 * (j : Int)) 4) ∧ (p.n = q.n → pageOn (crashD D pk) (4 * (j : Int)) 4 = devB p) := by
  have hl : (pageOn (crashD D pk) (4 * (j : Int)) 4).length = 512 := pageOn_len hf' _ 4
  have key : ∀ t : Nat, t < 4 → ((sectorD (crashD D pk) (4 * (j : Int) + t)).take 64 = (secAt (devB p) t).take 64 ∨ ∃ k, k < i ∧ at_ k = j ∧ (sectorD (crashD D pk) (4 * (j : Int) + t)).take 64 = (secAt (roundB k) t).take 64) ∧
      ((sectorD (crashD D pk) (4 * (j : Int) + t)).drop 64 = (secAt (devB p) t).drop 64 ∨ ∃ k, k < i ∧ at_ k = j ∧ (sectorD (crashD D pk) (4 * (j : Int) + t)).drop 64 = (secAt (roundB k) t).drop 64) := by
    intro t ht
    have e := h.last j p hp t ht
    obtain ⟨a, b⟩ := crash_half (pk := pk) hf hn (4 * (j : Int) + t)
    rw [e] at a b
    have w : sectorD D (4 * (j : Int) + t) = secAt (devB p) t ∨ ∃ k, k < i ∧ at_ k = j ∧ sectorD D (4 * (j : Int) + t) = secAt (roundB k) t := by
      cases hw : findS (4 * (j : Int) + t) D.waits with
      | none => left; unfold sectorD; rw [hw]; exact e
      | some s =>
        obtain ⟨⟨k, k1, k2, k3⟩, _⟩ := h.waits j hj t ht s hw
        exact .inr ⟨k, k1, k2, by rw [sectorD_waits hw, k3]⟩
    refine ⟨?_, ?_⟩
    · rcases a with a | a
      · exact .inl a
      · rcases w with w | ⟨k, k1, k2, w⟩
        · rw [w] at a; exact .inl a
        · rw [w] at a; exact .inr ⟨k, k1, k2, a⟩
    · rcases b with b | b
      · exact .inl b
      · rcases w with w | ⟨k, k1, k2, w⟩
        · rw [w] at b; exact .inl b
        · rw [w] at b; exact .inr ⟨k, k1, k2, b⟩
  refine ⟨⟨hl, pageOn_by hf' _ 4, fun h hh => ?_⟩, fun hne => ?_⟩
  · by_cases par : h % 2 = 0
    · obtain ⟨t, rfl⟩ : ∃ t, h = 2 * t := ⟨h / 2, by omega⟩
      rw [halfAt_lo, halfAt_lo, sec_of hf' _ (by omega)]
      rcases (key t (by omega)).1 with a | ⟨k, k1, k2, a⟩
      · exact .inl a
      · exact .inr ⟨k, k1, k2, by rw [halfAt_lo]; exact a⟩
    · obtain ⟨t, rfl⟩ : ∃ t, h = 2 * t + 1 := ⟨h / 2, by omega⟩
      rw [halfAt_hi, halfAt_hi, sec_of hf' _ (by omega)]
      rcases (key t (by omega)).2 with a | ⟨k, k1, k2, a⟩
      · exact .inl a
      · exact .inr ⟨k, k1, k2, by rw [halfAt_hi]; exact a⟩
  · refine sec_all hl (devB_len (h.ml j p hp)) fun t ht => ?_
    rw [sec_of hf' _ ht]
    rcases crash_sector (pk := pk) hn (4 * (j : Int) + t) with ⟨_, e⟩ | ⟨_, s, _, hs, _⟩
    · rw [e]; exact h.last j p hp t ht
    · exact absurd hne ((h.waits j hj t ht s hs).2 p q hp hq)
set_option maxRecDepth 100000 in
theorem round_half (k : Nat) : halfAt (roundB k) 1 ≠ List.replicate 64 0 := fun e => by
  have g : ∀ m : Nat, m < 64 → (roundB k)[64 + m]? = some 0 := fun m hm => by
    have h1 : (halfAt (roundB k) 1)[m]? = some 0 := by rw [e, List.getElem?_replicate, if_pos hm]
    unfold halfAt at h1
    rw [List.getElem?_take, if_pos hm, List.getElem?_drop] at h1
    exact h1
  have b : ∀ m : Nat, m < 64 → (bodyL ((k : Int) + 1))[52 + m]? = some 0 := fun m hm => by
    have h1 := g m hm
    unfold roundB pageB restB at h1
    rw [List.getElem?_append_right (by rw [leB_len]; omega), List.getElem?_append_right (by rw [leB_len, leB_len]; omega), leB_len, leB_len] at h1
    rw [← h1]
    congr 1
    omega
  have b0 := b 0 (by omega)
  have b1 := b 1 (by omega)
  unfold bodyL at b0 b1
  rw [List.getElem?_map, List.getElem?_range (by omega)] at b0 b1
  simp only [Option.map_some, Option.some.injEq] at b0 b1
  omega
theorem Mixed.zero {at_ : Nat → Nat} {i j : Nat} {p : Pg} {B : List Int} (h : Mixed at_ i j p B) (hm : Made at_ i j p) (hz : B = z512) : zeroPg p := by
  rcases hm.devB with ⟨_, hp⟩ | ⟨k, _, _, e⟩
  · exact hp
  · exfalso
    have hz1 : halfAt B 1 = List.replicate 64 0 := by rw [hz]; unfold halfAt z512; rw [List.drop_replicate, List.take_replicate, Nat.min_eq_left (by omega)]
    rcases h.half 1 (by omega) with a | ⟨k', _, _, a⟩
    · rw [e, hz1] at a; exact round_half k a.symm
    · rw [hz1] at a; exact round_half k' a.symm
/-! ### opening -/
theorem zeros_z512 : zerosIn z512 = 512 := by
  have := (zerosIn_eq (xs := z512) (fun x hx => by unfold z512 at hx; have := (List.mem_replicate.1 hx).2; omega)).2 (by rw [z512_len]; rfl)
  rw [z512_len] at this
  exact this
theorem zeros_iff {B : List Int} (hl : B.length = 512) (hb : IsBy B) : zerosIn B = 512 ↔ B = z512 := by
  have := zerosIn_eq hb
  rw [hl] at this
  exact this
theorem openE_two {B : List Int} (hl : B.length = 512) : openE B = 0 ∨ openE B = 14 := by
  unfold openE
  rw [if_neg (by simp only [hl, ne_eq, not_true_eq_false, not_false_eq_true])]
  split
  · exact .inl rfl
  · split
    · exact .inl rfl
    · exact .inr rfl
theorem open_z512 : openE z512 = 0 ∧ openN z512 = 0 ∧ openB z512 = List.replicate 500 0 := by
  have hl := z512_len
  have hz := zeros_z512
  have hn : ¬ z512.length ≠ 512 := fun h => h hl
  refine ⟨?_, ?_, ?_⟩
  · unfold openE; rw [if_neg hn, if_pos hz]
  · unfold openN; rw [if_neg hn, if_pos hz]
  · unfold openB; rw [if_neg hn, if_pos hz]
theorem open_dev {at_ : Nat → Nat} {i j : Nat} {p : Pg} (h : Made at_ i j p) (hi : i ≤ 40) : openE (devB p) = 0 := by
  rcases h.devB with ⟨e, _⟩ | ⟨k, hk, _, e⟩
  · rw [e]; exact open_z512.1
  · rw [e]; exact (open_page (by omega) (by omega) (bodyL_len _) (bodyL_by _)).1
/-- Bytes that open are a page's. -/
theorem open_back {B : List Int} (hl : B.length = 512) (hb : IsBy B) (he : openE B = 0) (hz : B ≠ z512) : pageB (openN B) (openB B) = B ∧ (openB B).length = 500 ∧ IsBy (openB B) ∧ 0 ≤ openN B ∧ openN B < 18446744073709551616 := by
  have hnz : ¬ zerosIn B = 512 := fun e => hz ((zeros_iff hl hb).1 e)
  have hn : ¬ B.length ≠ 512 := by simp only [hl, ne_eq, not_true_eq_false, not_false_eq_true]
  unfold openE at he
  rw [if_neg hn, if_neg hnz] at he
  have hs : sumOk B := by
    by_cases h : sumOk B
    · exact h
    · rw [if_neg h] at he; omega
  have eN : openN B = leN ((B.drop 4).take 8) := by unfold openN; rw [if_neg hn, if_neg hnz, if_pos hs]
  have eB : openB B = B.drop 12 := by unfold openB; rw [if_neg hn, if_neg hnz, if_pos hs]
  have b8 : IsBy ((B.drop 4).take 8) := fun x hx => hb x (List.mem_of_mem_drop (List.mem_of_mem_take hx))
  have l8 : ((B.drop 4).take 8).length = 8 := by rw [List.length_take, List.length_drop]; omega
  have r8 := leN_range _ b8
  rw [l8] at r8
  have r9 : leN ((B.drop 4).take 8) < 18446744073709551616 := by
    have e : (256 : Int) ^ 8 = 18446744073709551616 := by decide
    rw [e] at r8
    exact r8.2
  have hr : restB (openN B) (openB B) = B.drop 4 := by
    unfold restB
    rw [eN, eB, leB_leN b8 l8, show B.drop 12 = (B.drop 4).drop 8 by rw [List.drop_drop], List.take_append_drop]
  refine ⟨?_, by rw [eB, List.length_drop]; omega, by rw [eB]; exact fun x hx => hb x (List.mem_of_mem_drop hx), by rw [eN]; exact r8.1, by rw [eN]; exact r9⟩
  unfold pageB
  rw [hr]
  unfold sumOk at hs
  rw [← hs, leB_leN (fun x hx => hb x (List.mem_of_mem_take hx)) (by rw [List.length_take]; omega), List.take_append_drop]
end Go.Proofs.Ytomhflkjnldeoaa
