/- QuantSteps: a whole number at one scale, told at another that has fewer bits, is that number divided by as many twos, to the nearest, half to even; at one that has more it is multiplied, or clipped: for every input. -/
import Derived.Test.YtkohgkbeecadeaaQuStB
namespace Go.Proofs.Ytkohgkbeecadeaa.quantSteps
open Go.ChangeShapes Go.WideShapes Go.ChangeAt Go.RowKit Go.Joins
set_option linter.unusedVariables false
theorem pow64 (d : Nat) (h : d ≤ 40) : wrap64 ((2 : Int) ^ d) = ((2 ^ d : Nat) : Int) ∧ 1 ≤ 2 ^ d ∧ 2 ^ d ≤ 1099511627776 := by
  have h1 : 2 ^ d ≤ 2 ^ 40 := Nat.pow_le_pow_right (by omega) h
  have h2 : 1 ≤ 2 ^ d := Nat.one_le_two_pow
  have e : ((2 : Int) ^ d) = ((2 ^ d : Nat) : Int) := by rw [Int.natCast_pow]; rfl
  rw [e]
  generalize 2 ^ d = D at h1 h2
  refine ⟨?_, h2, h1⟩
  unfold wrap64
  omega
theorem limV_in (s : Bool) (N : Nat) (ex : Bool) (h : N ≤ 2147483647) : limV s N = (if s then -(N : Int) else N) ∧ limM s N ex = (if ex then 0 else 1) + (if s then (if N = 0 then 4 else 0) else 0) := by
  unfold limV limM
  cases s
  · simp only [Bool.false_eq_true, if_false]; rw [if_neg (by omega), if_neg (by omega)]; exact ⟨rfl, by omega⟩
  · simp only [if_true]; rw [if_neg (by omega), if_neg (by omega)]; exact ⟨rfl, rfl⟩

theorem down0 (v a b x V M : Int) (dd : Nat) (w : World) (A : Hid (BI v a x 0)) (B : Hid (QI x b V M 0)) (v0 : v ≠ 0) (h1 : -2147483648 ≤ v) (h2 : v ≤ 2147483647) (a1 : -64 ≤ a) (a2 : a ≤ 64) (b1 : -64 ≤ b) (b2 : b ≤ 64) (hd : a - b = (dd : Int)) (d0 : 0 < dd) (d1 : dd ≤ 40) (hV : V = limV (ngI v) (Fl.cut (szI v) dd)) (hM : M = limM (ngI v) (Fl.cut (szI v) dd) (decide (szI v % 2 ^ dd = 0))) : Calls Try.prog 5 #[.int .i32 v, .int .i64 a, .int .i64 b] w fun e w' => e = .returned (.bool true) ∧ Below w.heap.size w w' := by
  obtain ⟨p1, p2, p3⟩ := pow64 dd d1
  obtain ⟨D, hD⟩ : ∃ D : Nat, D = 2 ^ dd := ⟨_, rfl⟩
  have e1 : wrap64 ((2 : Int) ^ dd) = (D : Int) := by rw [p1, hD]
  have D1 : (1 : Int) ≤ (D : Int) := by omega
  have D2 : (D : Int) ≤ 1099511627776 := by omega
  have hn : szI v ≤ 2147483648 := by unfold szI; omega
  have hc := cut_le_half (szI v) dd hn (by omega)
  obtain ⟨l1, l2⟩ := limV_in (ngI v) (Fl.cut (szI v) dd) (decide (szI v % 2 ^ dd = 0)) (by omega)
  rw [l1] at hV
  rw [l2] at hM
  clear l1 l2
  have hr := Nat.mod_lt (szI v) (Nat.pow_pos (n := dd) (show 0 < 2 by omega))
  have hq : szI v / 2 ^ dd ≤ szI v := Nat.div_le_self _ _
  have hdm := Nat.div_add_mod (szI v) (2 ^ dd)
  have e2 : (szI v : Int) / (D : Int) = ((szI v / 2 ^ dd : Nat) : Int) := by rw [hD, Int.natCast_ediv]
  have e3 : (szI v : Int) % (D : Int) = ((szI v % 2 ^ dd : Nat) : Int) := by rw [hD, Int.natCast_emod]
  by_cases hs : v < 0
  · have hng : ngI v = true := by unfold ngI; exact decide_eq_true hs
    have hvn : v = -(szI v : Int) := by unfold szI; omega
    have t2 : v.tdiv (D : Int) = -((szI v / 2 ^ dd : Nat) : Int) := by
      rw [hvn, Int.neg_tdiv, Int.tdiv_eq_ediv_of_nonneg (by omega), e2, ← hvn]
    have t3 : v.tmod (D : Int) = -((szI v % 2 ^ dd : Nat) : Int) := by
      rw [hvn, Int.neg_tmod, Int.tmod_eq_emod_of_nonneg (by omega), e3, ← hvn]
    have u2 : v.tdiv (D : Int) = -((szI v / 2 ^ dd : Nat) : Int) := t2
    have u3 : v.tmod (D : Int) = -((szI v % 2 ^ dd : Nat) : Int) := t3
    rw [hng] at hV hM
    simp only [if_true] at hV hM
    by_cases hz : szI v % 2 ^ dd = 0
    · have hcut := Fl.cut_exact _ _ hz
      rw [hcut] at hV hM
      have hq0 : szI v / 2 ^ dd ≠ 0 := by
        intro h
        rw [h, hz, Nat.mul_zero, Nat.add_zero] at hdm
        omega
      rw [decide_eq_true hz, if_pos rfl, if_neg hq0] at hM
      rw [hV, hM] at B
      rw [hz] at u3
      exact dn0N0 v a b x _ _ w A B h1 h2 a1 a2 b1 b2 dd hd d0 d1 D e1 D1 D2 u2 u3 hs (by omega) (by omega) (by omega) (by omega) (by omega) (by omega) (by decide +kernel) (by decide +kernel) (by decide +kernel) (by decide +kernel) (by decide +kernel) (by decide +kernel)
    · have hcut := cut_rnd_neg (szI v) dd hz
      rw [decide_eq_false hz, if_neg (by simp)] at hM
      rw [← hV] at hcut
      have hzero : Fl.cut (szI v) dd = 0 ↔ V = 0 := by omega
      unfold rndI at hcut
      simp only [← hD] at *
      generalize szI v % D = r at *
      generalize szI v / D = q at *
      have par : (-(q : Int) - 1).tmod 2 = if q % 2 = 0 then -1 else 0 := by
        rw [show -(q : Int) - 1 = -((q : Int) + 1) by omega, Int.neg_tmod, Int.tmod_eq_emod_of_nonneg (by omega)]
        split <;> omega
      rcases Int.lt_trichotomy (2 * (-(r : Int) + (D : Int))) (D : Int) with g | g | g
      · rw [if_neg (by rintro (x | ⟨x, _⟩) <;> omega)] at hcut
        have hVz : V ≠ 0 := by omega
        rw [if_neg (fun h => hVz (hzero.1 h))] at hM
        rw [hcut, hM] at B
        exact dn0N1 v a b x _ _ w A B h1 h2 a1 a2 b1 b2 dd hd d0 d1 D e1 D1 D2 u2 u3 hs (by omega) (by omega) (by omega) (by omega) (by omega) (by omega) (by omega) (by decide +kernel) (by decide +kernel) (by decide +kernel) (by decide +kernel) (by decide +kernel) (by decide +kernel)
      · by_cases gp : q % 2 = 0
        · rw [if_pos gp] at par
          rw [if_pos (.inr ⟨by omega, by omega⟩)] at hcut
          by_cases hVz : V = 0
          · rw [if_pos (hzero.2 hVz)] at hM
            rw [hcut, hM] at B
            exact dn0N3z v a b x _ _ w A B h1 h2 a1 a2 b1 b2 dd hd d0 d1 D e1 D1 D2 u2 u3 hs (by omega) (by omega) (by omega) (by omega) (by omega) (by omega) par (by omega) (by decide +kernel) (by decide +kernel) (by decide +kernel) (by decide +kernel) (by decide +kernel) (by decide +kernel)
          · rw [if_neg (fun h => hVz (hzero.1 h))] at hM
            rw [hcut, hM] at B
            exact dn0N3 v a b x _ _ w A B h1 h2 a1 a2 b1 b2 dd hd d0 d1 D e1 D1 D2 u2 u3 hs (by omega) (by omega) (by omega) (by omega) (by omega) (by omega) par (by omega) (by decide +kernel) (by decide +kernel) (by decide +kernel) (by decide +kernel) (by decide +kernel) (by decide +kernel)
        · rw [if_neg gp] at par
          rw [if_neg (by rintro (x | ⟨_, x⟩) <;> omega)] at hcut
          have hVz : V ≠ 0 := by omega
          rw [if_neg (fun h => hVz (hzero.1 h))] at hM
          rw [hcut, hM] at B
          exact dn0N2 v a b x _ _ w A B h1 h2 a1 a2 b1 b2 dd hd d0 d1 D e1 D1 D2 u2 u3 hs (by omega) (by omega) (by omega) (by omega) (by omega) (by omega) par (by omega) (by decide +kernel) (by decide +kernel) (by decide +kernel) (by decide +kernel) (by decide +kernel) (by decide +kernel)
      · rw [if_pos (.inl (by omega))] at hcut
        by_cases hVz : V = 0
        · rw [if_pos (hzero.2 hVz)] at hM
          rw [hcut, hM] at B
          exact dn0N4z v a b x _ _ w A B h1 h2 a1 a2 b1 b2 dd hd d0 d1 D e1 D1 D2 u2 u3 hs (by omega) (by omega) (by omega) (by omega) (by omega) (by omega) (by omega) (by decide +kernel) (by decide +kernel) (by decide +kernel) (by decide +kernel) (by decide +kernel) (by decide +kernel)
        · rw [if_neg (fun h => hVz (hzero.1 h))] at hM
          rw [hcut, hM] at B
          exact dn0N4 v a b x _ _ w A B h1 h2 a1 a2 b1 b2 dd hd d0 d1 D e1 D1 D2 u2 u3 hs (by omega) (by omega) (by omega) (by omega) (by omega) (by omega) (by omega) (by decide +kernel) (by decide +kernel) (by decide +kernel) (by decide +kernel) (by decide +kernel) (by decide +kernel)
  · have hng : ngI v = false := by unfold ngI; exact decide_eq_false hs
    have hvn : v = (szI v : Int) := by unfold szI; omega
    have v00 : 0 ≤ v := by omega
    rw [← hvn] at e2 e3
    have u2 : v / (D : Int) = ((szI v / 2 ^ dd : Nat) : Int) := e2
    have u3 : v % (D : Int) = ((szI v % 2 ^ dd : Nat) : Int) := e3
    rw [hng] at hV hM
    simp only [Bool.false_eq_true, if_false] at hV hM
    have hcut := cut_rnd (szI v) dd
    rw [← hV] at hcut
    unfold rndI at hcut
    simp only [← hD] at *
    generalize szI v % D = r at *
    generalize szI v / D = q at *
    by_cases hz : r = 0
    · subst hz
      rw [if_neg (by rintro (x | ⟨x, _⟩) <;> omega)] at hcut
      rw [decide_eq_true rfl, if_pos rfl] at hM
      rw [hcut, hM] at B
      exact dn0P0 v a b x _ _ w A B h1 h2 a1 a2 b1 b2 dd hd d0 d1 D e1 D1 D2 u2 u3 v00 (by omega) (by omega) (by omega) (by omega) (by omega) (by omega) (by decide +kernel) (by decide +kernel) (by decide +kernel) (by decide +kernel) (by decide +kernel) (by decide +kernel)
    · rw [decide_eq_false hz, if_neg (by simp)] at hM
      rw [hM] at B
      rcases Nat.lt_trichotomy (2 * r) D with g | g | g
      · rw [if_neg (by rintro (x | ⟨x, _⟩) <;> omega)] at hcut
        rw [hcut] at B
        exact dn0P1 v a b x _ _ w A B h1 h2 a1 a2 b1 b2 dd hd d0 d1 D e1 D1 D2 u2 u3 v00 (by omega) (by omega) (by omega) (by omega) (by omega) (by omega) (by decide +kernel) (by decide +kernel) (by decide +kernel) (by decide +kernel) (by decide +kernel) (by decide +kernel)
      · by_cases gp : q % 2 = 0
        · rw [if_neg (by rintro (x | ⟨_, x⟩) <;> omega)] at hcut
          rw [hcut] at B
          exact dn0P2 v a b x _ _ w A B h1 h2 a1 a2 b1 b2 dd hd d0 d1 D e1 D1 D2 u2 u3 v00 (by omega) (by omega) (by omega) (by omega) (by omega) (by omega) (by omega) (by decide +kernel) (by decide +kernel) (by decide +kernel) (by decide +kernel) (by decide +kernel) (by decide +kernel)
        · rw [if_pos (.inr ⟨by omega, by omega⟩)] at hcut
          rw [hcut] at B
          exact dn0P3 v a b x _ _ w A B h1 h2 a1 a2 b1 b2 dd hd d0 d1 D e1 D1 D2 u2 u3 v00 (by omega) (by omega) (by omega) (by omega) (by omega) (by omega) (by omega) (by decide +kernel) (by decide +kernel) (by decide +kernel) (by decide +kernel) (by decide +kernel) (by decide +kernel)
      · rw [if_pos (.inl (by omega))] at hcut
        rw [hcut] at B
        exact dn0P4 v a b x _ _ w A B h1 h2 a1 a2 b1 b2 dd hd d0 d1 D e1 D1 D2 u2 u3 v00 (by omega) (by omega) (by omega) (by omega) (by omega) (by omega) (by decide +kernel) (by decide +kernel) (by decide +kernel) (by decide +kernel) (by decide +kernel) (by decide +kernel)

theorem down1 (v a b x V M : Int) (dd : Nat) (w : World) (A : Hid (BI v a x 0)) (B : Hid (QI x b V M 0)) (v0 : v ≠ 0) (h1 : -2147483648 ≤ v) (h2 : v ≤ 2147483647) (a1 : -64 ≤ a) (a2 : a ≤ 64) (b1 : -64 ≤ b) (b2 : b ≤ 64) (hlt : 40 < a - b) (hdd : dd = 40) (hV : V = limV (ngI v) (Fl.cut (szI v) dd)) (hM : M = limM (ngI v) (Fl.cut (szI v) dd) (decide (szI v % 2 ^ dd = 0))) : Calls Try.prog 5 #[.int .i32 v, .int .i64 a, .int .i64 b] w fun e w' => e = .returned (.bool true) ∧ Below w.heap.size w w' := by
  have hDD : (2 ^ dd : Nat) = 1099511627776 := by rw [hdd]
  obtain ⟨D, hD⟩ : ∃ D : Nat, D = 2 ^ dd := ⟨_, rfl⟩
  have D1 : (1 : Int) ≤ (D : Int) := by omega
  have hDl : (D : Int) = 1099511627776 := by omega
  have hn : szI v ≤ 2147483648 := by unfold szI; omega
  have hc := cut_le_half (szI v) dd hn (by omega)
  obtain ⟨l1, l2⟩ := limV_in (ngI v) (Fl.cut (szI v) dd) (decide (szI v % 2 ^ dd = 0)) (by omega)
  rw [l1] at hV
  rw [l2] at hM
  clear l1 l2
  have hr := Nat.mod_lt (szI v) (Nat.pow_pos (n := dd) (show 0 < 2 by omega))
  have hq : szI v / 2 ^ dd ≤ szI v := Nat.div_le_self _ _
  have hdm := Nat.div_add_mod (szI v) (2 ^ dd)
  have e2 : (szI v : Int) / (D : Int) = ((szI v / 2 ^ dd : Nat) : Int) := by rw [hD, Int.natCast_ediv]
  have e3 : (szI v : Int) % (D : Int) = ((szI v % 2 ^ dd : Nat) : Int) := by rw [hD, Int.natCast_emod]
  by_cases hs : v < 0
  · have hng : ngI v = true := by unfold ngI; exact decide_eq_true hs
    have hvn : v = -(szI v : Int) := by unfold szI; omega
    have t2 : v.tdiv (D : Int) = -((szI v / 2 ^ dd : Nat) : Int) := by
      rw [hvn, Int.neg_tdiv, Int.tdiv_eq_ediv_of_nonneg (by omega), e2, ← hvn]
    have t3 : v.tmod (D : Int) = -((szI v % 2 ^ dd : Nat) : Int) := by
      rw [hvn, Int.neg_tmod, Int.tmod_eq_emod_of_nonneg (by omega), e3, ← hvn]
    have u2 : v.tdiv 1099511627776 = -((szI v / 2 ^ dd : Nat) : Int) := by rw [← hDl]; exact t2
    have u3 : v.tmod 1099511627776 = -((szI v % 2 ^ dd : Nat) : Int) := by rw [← hDl]; exact t3
    rw [hng] at hV hM
    simp only [if_true] at hV hM
    by_cases hz : szI v % 2 ^ dd = 0
    · have hcut := Fl.cut_exact _ _ hz
      rw [hcut] at hV hM
      have hq0 : szI v / 2 ^ dd ≠ 0 := by
        intro h
        rw [h, hz, Nat.mul_zero, Nat.add_zero] at hdm
        omega
      rw [decide_eq_true hz, if_pos rfl, if_neg hq0] at hM
      rw [hV, hM] at B
      rw [hz] at u3
      exact dn1N0 v a b x _ _ w A B h1 h2 a1 a2 b1 b2 hlt u2 u3 hs (by omega) (by omega) (by omega) (by omega) (by omega) (by omega) (by decide +kernel) (by decide +kernel) (by decide +kernel) (by decide +kernel) (by decide +kernel) (by decide +kernel)
    · have hcut := cut_rnd_neg (szI v) dd hz
      rw [decide_eq_false hz, if_neg (by simp)] at hM
      rw [← hV] at hcut
      have hzero : Fl.cut (szI v) dd = 0 ↔ V = 0 := by omega
      unfold rndI at hcut
      simp only [← hD] at *
      generalize szI v % D = r at *
      generalize szI v / D = q at *
      have par : (-(q : Int) - 1).tmod 2 = if q % 2 = 0 then -1 else 0 := by
        rw [show -(q : Int) - 1 = -((q : Int) + 1) by omega, Int.neg_tmod, Int.tmod_eq_emod_of_nonneg (by omega)]
        split <;> omega
      rcases Int.lt_trichotomy (2 * (-(r : Int) + (D : Int))) (D : Int) with g | g | g
      · rw [if_neg (by rintro (x | ⟨x, _⟩) <;> omega)] at hcut
        have hVz : V ≠ 0 := by omega
        rw [if_neg (fun h => hVz (hzero.1 h))] at hM
        rw [hcut, hM] at B
        exact dn1N1 v a b x _ _ w A B h1 h2 a1 a2 b1 b2 hlt u2 u3 hs (by omega) (by omega) (by omega) (by omega) (by omega) (by omega) (by omega) (by decide +kernel) (by decide +kernel) (by decide +kernel) (by decide +kernel) (by decide +kernel) (by decide +kernel)
      · by_cases gp : q % 2 = 0
        · rw [if_pos gp] at par
          rw [if_pos (.inr ⟨by omega, by omega⟩)] at hcut
          by_cases hVz : V = 0
          · rw [if_pos (hzero.2 hVz)] at hM
            rw [hcut, hM] at B
            exact dn1N3z v a b x _ _ w A B h1 h2 a1 a2 b1 b2 hlt u2 u3 hs (by omega) (by omega) (by omega) (by omega) (by omega) (by omega) par (by omega) (by decide +kernel) (by decide +kernel) (by decide +kernel) (by decide +kernel) (by decide +kernel) (by decide +kernel)
          · rw [if_neg (fun h => hVz (hzero.1 h))] at hM
            rw [hcut, hM] at B
            exact dn1N3 v a b x _ _ w A B h1 h2 a1 a2 b1 b2 hlt u2 u3 hs (by omega) (by omega) (by omega) (by omega) (by omega) (by omega) par (by omega) (by decide +kernel) (by decide +kernel) (by decide +kernel) (by decide +kernel) (by decide +kernel) (by decide +kernel)
        · rw [if_neg gp] at par
          rw [if_neg (by rintro (x | ⟨_, x⟩) <;> omega)] at hcut
          have hVz : V ≠ 0 := by omega
          rw [if_neg (fun h => hVz (hzero.1 h))] at hM
          rw [hcut, hM] at B
          exact dn1N2 v a b x _ _ w A B h1 h2 a1 a2 b1 b2 hlt u2 u3 hs (by omega) (by omega) (by omega) (by omega) (by omega) (by omega) par (by omega) (by decide +kernel) (by decide +kernel) (by decide +kernel) (by decide +kernel) (by decide +kernel) (by decide +kernel)
      · rw [if_pos (.inl (by omega))] at hcut
        by_cases hVz : V = 0
        · rw [if_pos (hzero.2 hVz)] at hM
          rw [hcut, hM] at B
          exact dn1N4z v a b x _ _ w A B h1 h2 a1 a2 b1 b2 hlt u2 u3 hs (by omega) (by omega) (by omega) (by omega) (by omega) (by omega) (by omega) (by decide +kernel) (by decide +kernel) (by decide +kernel) (by decide +kernel) (by decide +kernel) (by decide +kernel)
        · rw [if_neg (fun h => hVz (hzero.1 h))] at hM
          rw [hcut, hM] at B
          exact dn1N4 v a b x _ _ w A B h1 h2 a1 a2 b1 b2 hlt u2 u3 hs (by omega) (by omega) (by omega) (by omega) (by omega) (by omega) (by omega) (by decide +kernel) (by decide +kernel) (by decide +kernel) (by decide +kernel) (by decide +kernel) (by decide +kernel)
  · have hng : ngI v = false := by unfold ngI; exact decide_eq_false hs
    have hvn : v = (szI v : Int) := by unfold szI; omega
    have v00 : 0 ≤ v := by omega
    rw [← hvn] at e2 e3
    have u2 : v / 1099511627776 = ((szI v / 2 ^ dd : Nat) : Int) := by rw [← hDl]; exact e2
    have u3 : v % 1099511627776 = ((szI v % 2 ^ dd : Nat) : Int) := by rw [← hDl]; exact e3
    rw [hng] at hV hM
    simp only [Bool.false_eq_true, if_false] at hV hM
    have hcut := cut_rnd (szI v) dd
    rw [← hV] at hcut
    unfold rndI at hcut
    simp only [← hD] at *
    generalize szI v % D = r at *
    generalize szI v / D = q at *
    by_cases hz : r = 0
    · subst hz
      rw [if_neg (by rintro (x | ⟨x, _⟩) <;> omega)] at hcut
      rw [decide_eq_true rfl, if_pos rfl] at hM
      rw [hcut, hM] at B
      exact dn1P0 v a b x _ _ w A B h1 h2 a1 a2 b1 b2 hlt u2 u3 v00 (by omega) (by omega) (by omega) (by omega) (by omega) (by omega) (by decide +kernel) (by decide +kernel) (by decide +kernel) (by decide +kernel) (by decide +kernel) (by decide +kernel)
    · rw [decide_eq_false hz, if_neg (by simp)] at hM
      rw [hM] at B
      rcases Nat.lt_trichotomy (2 * r) D with g | g | g
      · rw [if_neg (by rintro (x | ⟨x, _⟩) <;> omega)] at hcut
        rw [hcut] at B
        exact dn1P1 v a b x _ _ w A B h1 h2 a1 a2 b1 b2 hlt u2 u3 v00 (by omega) (by omega) (by omega) (by omega) (by omega) (by omega) (by decide +kernel) (by decide +kernel) (by decide +kernel) (by decide +kernel) (by decide +kernel) (by decide +kernel)
      · by_cases gp : q % 2 = 0
        · rw [if_neg (by rintro (x | ⟨_, x⟩) <;> omega)] at hcut
          rw [hcut] at B
          exact dn1P2 v a b x _ _ w A B h1 h2 a1 a2 b1 b2 hlt u2 u3 v00 (by omega) (by omega) (by omega) (by omega) (by omega) (by omega) (by omega) (by decide +kernel) (by decide +kernel) (by decide +kernel) (by decide +kernel) (by decide +kernel) (by decide +kernel)
        · rw [if_pos (.inr ⟨by omega, by omega⟩)] at hcut
          rw [hcut] at B
          exact dn1P3 v a b x _ _ w A B h1 h2 a1 a2 b1 b2 hlt u2 u3 v00 (by omega) (by omega) (by omega) (by omega) (by omega) (by omega) (by omega) (by decide +kernel) (by decide +kernel) (by decide +kernel) (by decide +kernel) (by decide +kernel) (by decide +kernel)
      · rw [if_pos (.inl (by omega))] at hcut
        rw [hcut] at B
        exact dn1P4 v a b x _ _ w A B h1 h2 a1 a2 b1 b2 hlt u2 u3 v00 (by omega) (by omega) (by omega) (by omega) (by omega) (by omega) (by decide +kernel) (by decide +kernel) (by decide +kernel) (by decide +kernel) (by decide +kernel) (by decide +kernel)

/-- Upwards, of a number that is not nought. -/
theorem mono_pow (n j d : Nat) (h : j ≤ d) : n * 2 ^ j ≤ n * 2 ^ d := Nat.mul_le_mul_left _ (Nat.pow_le_pow_right (by omega) h)
theorem cast_pow (n d : Nat) : (n : Int) * 2 ^ d = ((n * 2 ^ d : Nat) : Int) := by rw [Int.natCast_mul, Int.natCast_pow]; rfl
theorem up (v a b x V M : Int) (d : Nat) (w : World) (A : Hid (BI v a x 0)) (B : Hid (QI x b V M 0)) (v0 : v ≠ 0) (h1 : -2147483648 ≤ v) (h2 : v ≤ 2147483647) (a1 : -64 ≤ a) (a2 : a ≤ 64) (b1 : -64 ≤ b) (b2 : b ≤ 64) (hd : b - a = (d : Int)) (hV : V = limV (ngI v) (szI v * 2 ^ d)) (hM : M = limM (ngI v) (szI v * 2 ^ d) true) : Calls Try.prog 5 #[.int .i32 v, .int .i64 a, .int .i64 b] w fun e w' => e = .returned (.bool true) ∧ Below w.heap.size w w' := by
  have hm := fun j h => mono_pow (szI v) j d h
  have hn : szI v ≤ 2147483648 := by unfold szI; omega
  have hn0 : 1 ≤ szI v := by unfold szI; omega
  have d31 : szI v * 2 ^ d ≤ 2147483648 → d ≤ 31 := by
    intro h
    rcases Nat.lt_or_ge 31 d with g | g
    · have : 2 ^ 32 ≤ 2 ^ d := Nat.pow_le_pow_right (by omega) (by omega)
      have : 1 * 2 ^ d ≤ szI v * 2 ^ d := Nat.mul_le_mul_right _ hn0
      omega
    · exact g
  have d32 : d ≤ 32 → szI v * 2 ^ d ≤ szI v * 4294967296 := fun h => mono_pow (szI v) d 32 h
  by_cases hs : v < 0
  · have hng : ngI v = true := by unfold ngI; exact decide_eq_true hs
    have hvn : v = -(szI v : Int) := by unfold szI; omega
    have hp : ∀ j, v * 2 ^ j = -((szI v * 2 ^ j : Nat) : Int) := fun j => by
      have := cast_pow (szI v) j
      rw [hvn, Int.neg_mul, this, ← hvn]
    rw [hng] at hV hM
    by_cases hc : 2147483648 < szI v * 2 ^ d
    · obtain ⟨q1, q2⟩ := limV_big true (szI v * 2 ^ d) true hc
      rw [q1] at hV
      rw [q2] at hM
      subst hV hM
      by_cases hf : 32 < b - a
      · exact upLo1 v a b x d w A B h1 h2 a1 a2 b1 b2 hd hs (Lib.hid (by rw [hp]; omega)) hf
      · refine upLo0 v a b x d w A B h1 h2 a1 a2 b1 b2 hd hs (Lib.hid (by rw [hp]; omega)) (by omega) (v * 2 ^ d) ?_ ?_
        · have := d32 (by omega)
          rw [hp]; unfold wrap64; omega
        · rw [hp]; omega
    · have e1 : V = v * 2 ^ d := by rw [hV, hp]; unfold limV; rw [if_pos rfl, if_neg hc]
      have e2 : M = 0 := by rw [hM]; unfold limM; rw [if_pos rfl, if_neg hc, if_pos rfl, if_neg (by have := Nat.mul_pos (show 0 < szI v by omega) (Nat.pow_pos (n := d) (show 0 < 2 by omega)); omega)]; rfl
      subst e2
      have HV : Hid (∀ j, j ≤ d → -2147483648 ≤ v * 2 ^ j ∧ v * 2 ^ j ≤ 2147483647) := Lib.hid (fun j hj => by rw [hp]; have := hm j hj; omega)
      have hpd := hp d
      by_cases g : V = -2147483648
      · refine upMin v a b x V d w A B h1 h2 a1 a2 b1 b2 hd HV (Lib.hid e1) g (d31 (by omega)) ?_
        rw [← e1]; unfold wrap64; omega
      · exact upMid v a b x V d w A B h1 h2 a1 a2 b1 b2 hd HV (Lib.hid e1) (by omega) (by omega)
  · have hng : ngI v = false := by unfold ngI; exact decide_eq_false hs
    have hvn : v = (szI v : Int) := by unfold szI; omega
    have hp : ∀ j, v * 2 ^ j = ((szI v * 2 ^ j : Nat) : Int) := fun j => by
      have := cast_pow (szI v) j
      rw [← hvn] at this
      exact this
    have hn' : szI v ≤ 2147483647 := by omega
    rw [hng] at hV hM
    by_cases hc : 2147483647 < szI v * 2 ^ d
    · have q1 : limV false (szI v * 2 ^ d) = 2147483647 := by unfold limV; rw [if_neg (by simp), if_pos hc]
      have q2 : limM false (szI v * 2 ^ d) true = 2 := by unfold limM; rw [if_neg (by simp), if_pos hc]
      rw [q1] at hV
      rw [q2] at hM
      subst hV hM
      by_cases hf : 32 < b - a
      · exact upHi1 v a b x d w A B h1 h2 a1 a2 b1 b2 hd (by omega) (Lib.hid (by rw [hp]; omega)) hf
      · refine upHi0 v a b x d w A B h1 h2 a1 a2 b1 b2 hd (by omega) (Lib.hid (by rw [hp]; omega)) (by omega) (v * 2 ^ d) ?_ ?_
        · have := d32 (by omega)
          rw [hp]; unfold wrap64; omega
        · rw [hp]; omega
    · have e1 : V = v * 2 ^ d := by rw [hV, hp]; unfold limV; rw [if_neg (by simp), if_neg hc]
      have e2 : M = 0 := by rw [hM]; unfold limM; rw [if_neg (by simp), if_neg hc, if_pos rfl]
      subst e2
      have HV : Hid (∀ j, j ≤ d → -2147483648 ≤ v * 2 ^ j ∧ v * 2 ^ j ≤ 2147483647) := Lib.hid (fun j hj => by rw [hp]; have := hm j hj; omega)
      have hpd := hp d
      by_cases g : V = 2147483647
      · refine upMax v a b x V d w A B h1 h2 a1 a2 b1 b2 hd HV (Lib.hid e1) g (d31 (by omega)) ?_
        rw [← e1]; unfold wrap64; omega
      · exact upMid v a b x V d w A B h1 h2 a1 a2 b1 b2 hd HV (Lib.hid e1) (by omega) (by omega)
theorem walk (v a b : Int) (w : World) (wv : (Lit.int .i32 v).wf = true) (wa : (Lit.int .i64 a).wf = true) (wb : (Lit.int .i64 b).wf = true) : Calls Try.prog 5 #[.int .i32 v, .int .i64 a, .int .i64 b] w fun e w' => e = .returned (.bool true) ∧ Below w.heap.size w w' := by
  obtain ⟨h1, h2⟩ := i32_wf wv
  have A : Hid (BI v a (backG v a).1 (backG v a).2) := Lib.hid (back_any v a h1 h2)
  have B : Hid (QI (backG v a).1 b (quantG (backG v a).1 b).1 (quantG (backG v a).1 b).2.1 (quantG (backG v a).1 b).2.2) := Lib.hid (quant_any _ b (back_lt v a h1 h2))
  by_cases ha : a < -64 ∨ 64 < a
  · have e : backG v a = (0, 2) := by unfold backG; rw [if_pos ha]
    rw [e] at A B
    refine ref1 v a b _ _ _ _ w A B ?_
    unfold quantG
    by_cases hb : b < -64 ∨ 64 < b
    · rw [if_pos hb]; exact .inr rfl
    · rw [if_neg hb, if_neg (by decide), if_neg (by decide)]; exact .inl rfl
  · have a1 : -64 ≤ a := by omega
    have a2 : a ≤ 64 := by omega
    have e2 : (backG v a).2 = 0 := by unfold backG; rw [if_neg ha]; split <;> rfl
    rw [e2] at A
    by_cases hb : b < -64 ∨ 64 < b
    · have e : quantG (backG v a).1 b = (0, 0, 2) := by unfold quantG; rw [if_pos hb]
      rw [e] at B
      exact ref2 v a b _ _ _ w A B
    · have b1 : -64 ≤ b := by omega
      have b2 : b ≤ 64 := by omega
      by_cases v0 : v = 0
      · subst v0
        rw [quant_zero a b a1 a2 b1 b2] at B
        generalize ((backG 0 a).1 : Int) = x at A B
        by_cases hab : a ≤ b
        · exact upMid 0 a b x 0 (b - a).toNat w A B h1 h2 a1 a2 b1 b2 (by omega) (Lib.hid (fun j _ => by rw [Int.zero_mul]; omega)) (Lib.hid (by rw [Int.zero_mul])) (by omega) (by omega)
        · by_cases hf : 40 < a - b
          · exact dn1P0 0 a b x 0 0 w A B h1 h2 a1 a2 b1 b2 hf (by decide) (by decide) (by omega) (by omega) (by omega) (by omega) (by omega) (by omega) (by omega) (by decide +kernel) (by decide +kernel) (by decide +kernel) (by decide +kernel) (by decide +kernel) (by decide +kernel)
          · obtain ⟨p1, p2, p3⟩ := pow64 (a - b).toNat (by omega)
            exact dn0P0 0 a b x 0 0 w A B h1 h2 a1 a2 b1 b2 (a - b).toNat (by omega) (by omega) (by omega) _ p1 (by omega) (by omega) (Int.zero_ediv _) (Int.zero_emod _) (by omega) (by omega) (by omega) (by omega) (by omega) (by omega) (by omega) (by decide +kernel) (by decide +kernel) (by decide +kernel) (by decide +kernel) (by decide +kernel) (by decide +kernel)
      · have hq := quant_step v a b v0 h1 h2 a1 a2 b1 b2
        rw [hq] at B
        generalize ((backG v a).1 : Int) = x at A B
        by_cases hab : a ≤ b
        · rw [nearF_up (szI v) (b - a).toNat (b - a) (by omega)] at B
          exact up v a b x _ _ (b - a).toNat w A B v0 h1 h2 a1 a2 b1 b2 (by omega) rfl rfl
        · rw [nearF_dn (szI v) (a - b).toNat (b - a) (by omega) (by omega)] at B
          by_cases hf : 40 < a - b
          · obtain ⟨f1, f2, f3, f4⟩ := cut_far (szI v) (a - b).toNat (by unfold szI; omega) (by omega)
            refine down1 v a b x _ _ 40 w A B v0 h1 h2 a1 a2 b1 b2 hf rfl ?_ ?_
            · show limV _ _ = _
              rw [f1, f2]
            · show limM _ _ _ = _
              rw [f1, f2, f3, f4]
          · exact down0 v a b x _ _ (a - b).toNat w A B v0 h1 h2 a1 a2 b1 b2 (by omega) (by omega) (by omega) rfl rfl

theorem own : ownKnob Try.prog.godebug = none := by kernel_rfl
theorem laidOut : laidOutB Try.prog = true := by kernel_rfl

set_option maxRecDepth 100000 in
theorem contract (H : Type) (enc : TypeId × Value → H) (W : World) (base : Nat) (args : Array Value) (ds gs : List (DataW H)) (before : List MemPlace)
    (hval0 : ∀ (j : Nat) t v, Try.f5.params[j]? = some t → args[j]? = some v → Value.okWide Try.prog W .any base t v)
    (hW : DataW.Whole enc Try.prog Try.f5.params.toList Rows.quantStepsSpec.vars false W args.toList ds gs before)
    (hsz0 : (DataW.weightsEach Try.prog (Try.f5.params.toList ++ Rows.quantStepsSpec.plain.varTypes Try.prog) (ds ++ gs)).all (· ≤ reachBytes) = true) :
    Calls Try.prog 5 args W fun e W' => ∃ v, e = .returned v ∧ Rows.quantStepsSpec.post enc Try.prog Try.f5 false true false false W args v W' := by
  have hval : ∀ (j : Nat) t v, Try.f5.params[j]? = some t → args[j]? = some v → Value.okWide Try.prog W .any base t v := hval0
  have hW' := hW
  obtain ⟨p, q, hA0, hV, rfl, hfz, hnd⟩ := hW
  have hA : DataW.TrodAll enc Try.prog W 0 (fun _ => true) true Try.f5.params.toList args.toList ds p := hA0
  have hsz : (DataW.weightsEach Try.prog (Try.f5.params.toList ++ Rows.quantStepsSpec.plain.varTypes Try.prog) (ds ++ gs)).all (· ≤ reachBytes) = true := hsz0
  rw [Try.params5] at hA hval hsz
  obtain ⟨v0, vs0, d0, ds0, p0, q0, hargs, rfl, rfl, h0, r0'⟩ := trodAll_cons hA
  obtain ⟨v1, vs1, d1, ds1, p1, q1, rfl, rfl, rfl, h1, r1'⟩ := trodAll_cons r0'
  obtain ⟨v2, vs2, d2, ds2, p2, q2, rfl, rfl, rfl, h2, r2'⟩ := trodAll_cons r1'
  obtain ⟨rfl, rfl, rfl⟩ := trodAll_nil r2'
  obtain rfl : args = #[v0, v1, v2] := by cases args; simp_all
  obtain ⟨rfl, rfl⟩ := trodVars_none hV
  have k0 := h0
  have lt0 : ∀ x ∈ p0, x.block < W.heap.size := by obtain ⟨m, hm⟩ := k0; exact DataW.trod_lt m _ _ _ hm
  have k1 := h1
  have lt1 : ∀ x ∈ p1, x.block < W.heap.size := by obtain ⟨m, hm⟩ := k1; exact DataW.trod_lt m _ _ _ hm
  have k2 := h2
  have lt2 : ∀ x ∈ p2, x.block < W.heap.size := by obtain ⟨m, hm⟩ := k2; exact DataW.trod_lt m _ _ _ hm
  obtain ⟨x0, rfl, hd0, hp0, w0⟩ := open_int Try.underlying21 (hval 0 21 v0 rfl rfl) h0
  obtain ⟨x1, rfl, hd1, hp1, w1⟩ := open_int Try.underlying3 (hval 1 3 v1 rfl rfl) h1
  obtain ⟨x2, rfl, hd2, hp2, w2⟩ := open_int Try.underlying3 (hval 2 3 v2 rfl rfl) h2
  clear hA0 hval0 hsz0
  refine (walk x0 x1 x2 W w0 w1 w2).mono fun e W' ⟨he, bel⟩ => ?_
  subst he
  exact ⟨_, rfl, _, _, _, [], _, [], hW', trodAll_mk1 (shut_bool Try.underlying4 _), (trodAll_cons_mk (Below.trod laidOut (by kernel_rfl) (of_decide_eq_true (by kernel_rfl)) k0 bel lt0) (trodAll_cons_mk (Below.trod laidOut (by kernel_rfl) (of_decide_eq_true (by kernel_rfl)) k1 bel lt1) (trodAll_cons_mk (Below.trod laidOut (by kernel_rfl) (of_decide_eq_true (by kernel_rfl)) k2 bel lt2) trodAll_mk0))), rfl, bel.frame _, fun h => by cases h⟩

set_option maxRecDepth 100000 in
theorem lifted (os : Os) (started : os.Started) (H : Type) (enc : TypeId × Value → H) :
    ReturnsInHanded {} Try.checked os 5 .any (Rows.quantStepsSpec.pre6 enc Try.prog Try.f5 Rows.quantStepsRow.domain false) (Rows.quantStepsSpec.post enc Try.prog Try.f5 false true false false) := by
  refine returnsInHanded_of_change_sized (C := Try.checked) own started (by kernel_rfl) Try.func5
    (ChangeSpec.witness6 (enc := enc) (C := Try.checked) false ⟨#[], #[.int .i32 0, .int .i64 0, .int .i64 0], []⟩ 8 (by kernel_rfl) (by kernel_rfl) (by kernel_rfl) (by kernel_rfl)) ?_
  intro W base args ds gs before hval hW _ hsz _
  exact contract H enc W base args ds gs before hval hW hsz

theorem over : Rows.quantStepsRow.holds Try.pinned (OpenSpec.ofChange Rows.quantStepsSpec) :=
  OpenClaim.holds_of_wide 5 Try.f5 rfl rfl rfl rfl rfl rfl rfl ⟨rfl, rfl, rfl, rfl, rfl⟩ rfl rfl rfl rfl rfl (by kernel_rfl) Try.func5 (by kernel_rfl)
    (of_decide_eq_true (by kernel_rfl)) (by unfold Func.isWrapper; first | (rw [if_pos (by decide +kernel)]; kernel_rfl) | (rw [if_neg (by decide +kernel)]; exact ⟨rfl, rfl⟩))
    (fun os started H enc _ => lifted os started H enc)

theorem proved : Rows.QuantStepsSaid := over
#print axioms proved
end Go.Proofs.Ytkohgkbeecadeaa.quantSteps
