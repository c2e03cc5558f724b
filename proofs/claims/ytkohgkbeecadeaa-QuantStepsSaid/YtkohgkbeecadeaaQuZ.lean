/- The reference's Quant, whole. -/
import Derived.Test.YtkohgkbeecadeaaQuY
namespace Go.Proofs.Ytkohgkbeecadeaa
open Go.RowKit Go.ChangeShapes Go.WideShapes Go.ChangeAt
set_option linter.unusedVariables false

def limV (s : Bool) (N : Nat) : Int := if s then (if 2147483648 < N then -2147483648 else -(N : Int)) else (if 2147483647 < N then 2147483647 else N)
def limM (s : Bool) (N : Nat) (ex : Bool) : Int := if s then (if 2147483648 < N then 2 else (if ex then 0 else 1) + (if N = 0 then 4 else 0)) else (if 2147483647 < N then 2 else (if ex then 0 else 1))
/-- What a float becomes: the number, the marks, the refusal. -/
def quantG (x : Nat) (k : Int) : Int × Int × Int :=
  if k < -64 ∨ 64 < k then (0, 0, 2) else if 9218868437227405312 < Fl.rg x then (0, 0, 10) else if Fl.rg x = 9218868437227405312 then (if Fl.sg x then -2147483648 else 2147483647, 2, 0)
  else (limV (Fl.sg x) (nearG (Fl.mM x) ((Fl.mE x : Int) - 1075 + k)).1, limM (Fl.sg x) (nearG (Fl.mM x) ((Fl.mE x : Int) - 1075 + k)).1 (nearG (Fl.mM x) ((Fl.mE x : Int) - 1075 + k)).2, 0)
theorem lim_ok {m : Nat} {p : Int} {N : Nat} {ex : Bool} (h : NearOk m p N ex) (s : Bool) : limV s N = limV s (nearG m p).1 ∧ limM s N ex = limM s (nearG m p).1 (nearG m p).2 := by
  obtain ⟨h1, h2, h3⟩ := h
  rw [← h1]
  rcases h3 with h3 | ⟨h3, h4⟩
  · rw [h3]; exact ⟨rfl, rfl⟩
  · unfold limV limM
    rw [h3]
    cases s
    · simp only [Bool.false_eq_true, if_false]
      rw [if_pos (by omega), if_pos (by omega), if_pos (by omega), if_pos (by omega)]
      exact ⟨rfl, rfl⟩
    · simp only [if_true]
      rw [if_pos (by omega), if_pos (by omega), if_pos (by omega), if_pos (by omega)]
      exact ⟨rfl, rfl⟩
theorem rquant_any (x : Nat) (k : Int) (w : World) (hx : x < 18446744073709551616) : QR x k (quantG x k).1 (quantG x k).2.1 (quantG x k).2.2 w := by
  have HK := Lib.hid (fun w => rkind_any x w hx)
  have hkd := kind_rg x
  have s0 : ¬ Fl.sg x = true → bits .and .u64 (x : Int) 9223372036854775808 = 0 := fun h => hiand_lo x (by omega) (by unfold Fl.sg at h; simp at h; omega)
  have s1 : Fl.sg x = true → bits .and .u64 (x : Int) 9223372036854775808 = 9223372036854775808 := fun h => hiand_hi x (by unfold Fl.sg at h; simp at h; omega) (by omega)
  unfold quantG
  by_cases hk : k < -64 ∨ 64 < k
  · rw [if_pos hk]
    by_cases hs : Fl.sg x = true
    · rcases hk with hk | hk
      · exact rq_lon x k _ w HK (s1 hs) hk
      · exact rq_hin x k _ w HK (s1 hs) hk
    · rcases hk with hk | hk
      · exact rq_lop x k _ w HK (s0 hs) hk
      · exact rq_hip x k _ w HK (s0 hs) hk
  · rw [if_neg hk]
    have h1 : -64 ≤ k := by omega
    have h2 : k ≤ 64 := by omega
    by_cases hn : 9218868437227405312 < Fl.rg x
    · rw [if_pos hn] at hkd ⊢
      by_cases hs : Fl.sg x = true
      · exact rq_nann x k _ w HK (s1 hs) hkd h1 h2
      · exact rq_nanp x k _ w HK (s0 hs) hkd h1 h2
    · rw [if_neg hn] at hkd ⊢
      by_cases hi : Fl.rg x = 9218868437227405312
      · rw [if_pos hi] at hkd ⊢
        by_cases hs : Fl.sg x = true
        · rw [if_pos hs]
          exact rq_infn x k _ w HK (s1 hs) hkd h1 h2
        · rw [if_neg hs]
          exact rq_infp x k _ w HK (s0 hs) hkd h1 h2
      · rw [if_neg hi] at hkd ⊢
        have k5 : (kindF x == 5) = false := by rw [hkd]; (repeat' split) <;> rfl
        have k4 : (kindF x == 4) = false := by rw [hkd]; (repeat' split) <;> rfl
        obtain ⟨r1, r2, r3, r4, r5, _⟩ := Fl.rung_eq x
        obtain ⟨N, ex, hN, hok⟩ := near_any (Fl.mM x) ((Fl.mE x : Int) - 1075 + k) r2 (by omega)
        have hlim := lim_ok hok (Fl.sg x)
        have HP := Lib.hid (fun w => parts_any x w hx)
        have HN := Lib.hid hN
        have hNb := hok.2.1
        show QR x k (limV _ _) (limM _ _ _) 0 w
        rw [← hlim.1, ← hlim.2]
        have e1 : -1100 ≤ (Fl.mE x : Int) - 1075 := by omega
        by_cases hs : Fl.sg x = true
        · rw [hs]
          unfold limV limM
          rw [if_pos rfl, if_pos rfl]
          by_cases hb : 2147483648 < N
          · rw [if_pos hb, if_pos hb]
            cases ex
            · exact rq_fnc1 x k _ _ _ N w HK (s1 hs) k5 k4 h1 h2 e1 (by omega) HP HN (by omega) (by omega)
            · exact rq_fnc0 x k _ _ _ N w HK (s1 hs) k5 k4 h1 h2 e1 (by omega) HP HN (by omega) (by omega)
          · rw [if_neg hb, if_neg hb]
            by_cases hz : N = 0
            · subst hz
              cases ex
              · exact rq_fnz1 x k _ _ _ w HK (s1 hs) k5 k4 h1 h2 e1 (by omega) HP HN
              · exact rq_fnz0 x k _ _ _ w HK (s1 hs) k5 k4 h1 h2 e1 (by omega) HP HN
            · rw [if_neg hz]
              have nz : ((N : Int) == 0) = false := by simpa using hz
              cases ex
              · exact rq_fn1 x k _ _ _ N w HK (s1 hs) k5 k4 h1 h2 e1 (by omega) HP HN (by omega) (by omega) nz
              · exact rq_fn0 x k _ _ _ N w HK (s1 hs) k5 k4 h1 h2 e1 (by omega) HP HN (by omega) (by omega) nz
        · have hs' : Fl.sg x = false := by simpa using hs
          rw [hs']
          unfold limV limM
          simp only [Bool.false_eq_true, if_false]
          by_cases hb : 2147483647 < N
          · rw [if_pos hb, if_pos hb]
            cases ex
            · exact rq_fpc1 x k _ _ _ N w HK (s0 hs) k5 k4 h1 h2 e1 (by omega) HP HN (by omega) (by omega)
            · exact rq_fpc0 x k _ _ _ N w HK (s0 hs) k5 k4 h1 h2 e1 (by omega) HP HN (by omega) (by omega)
          · rw [if_neg hb, if_neg hb]
            cases ex
            · exact rq_fp1 x k _ _ _ N w HK (s0 hs) k5 k4 h1 h2 e1 (by omega) HP HN (by omega) (by omega)
            · exact rq_fp0 x k _ _ _ N w HK (s0 hs) k5 k4 h1 h2 e1 (by omega) HP HN (by omega) (by omega)
end Go.Proofs.Ytkohgkbeecadeaa
