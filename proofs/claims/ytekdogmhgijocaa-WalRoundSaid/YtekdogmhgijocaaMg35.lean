/- wal: the records that are held, one behind the other (plain). -/
import Derived.Test.YtekdogmhgijocaaWbI
import Derived.Test.YtekdogmhgijocaaWbF
namespace Go.Proofs.Ytekdogmhgijocaa
open Go.RowKit Go.ChangeShapes Go.WideShapes Go.ChangeAt
open Go.Proofs.Ytekdogmhgijocaa.dk (Dk Dev sectorD)
set_option linter.unusedVariables false
set_option linter.unusedSimpArgs false

structure Rd1 where
  p : Nat
  pg : Nat
  F : List Int
structure Rd1.Ok (r : Rd1) : Prop where
  pos : 0 < r.F.length
  le : r.F.length ≤ 900
  rd : Reads r.F 1 (r.p : Int) 1 0 (r.pg : Int) 0
def Held (X : List Int) : Nat → List Rd1 → Prop
  | e, [] => e = X.length
  | e, r :: rs => r.p = e ∧ r.Ok ∧ (∃ rest, X.drop e = r.F ++ rest) ∧ Held X (e + r.F.length) rs
theorem Held.le {X : List Int} : ∀ {e : Nat} {rs : List Rd1}, Held X e rs → e ≤ X.length ∧ X.length ≤ e + 900 * rs.length
  | e, [], h => by cases h; simp
  | e, r :: rs, h => by
    obtain ⟨_, ok, ⟨rest, h2⟩, h3⟩ := h
    have := Held.le h3
    have hl := congrArg List.length h2
    rw [List.length_drop, List.length_append] at hl
    have := ok.le
    have := ok.pos
    simp only [List.length_cons]
    omega
theorem Held.app {X : List Int} {r : Rd1} (hp : r.p = X.length) (ok : r.Ok) : ∀ {e : Nat} {rs : List Rd1}, Held X e rs → Held (X ++ r.F) e (rs ++ [r])
  | e, [], h => by
    cases h
    refine ⟨hp, ok, ⟨[], by simp⟩, by simp [Held]⟩
  | e, q :: rs, h => by
    obtain ⟨h1, h2, ⟨rest, h3⟩, h4⟩ := h
    refine ⟨h1, h2, ⟨rest ++ r.F, ?_⟩, Held.app hp ok h4⟩
    have hl := congrArg List.length h3
    rw [List.length_drop, List.length_append] at hl
    have := h2.pos
    rw [List.drop_append_of_le_length (by omega), h3, List.append_assoc]
theorem Held.next {X : List Int} {e : Nat} {r : Rd1} {rs : List Rd1} (h : Held X e (r :: rs)) : Held X (e + r.F.length) rs := h.2.2.2
theorem Held.at_ {X : List Int} : ∀ {e : Nat} {rs : List Rd1}, Held X e rs → ∀ {k : Nat} {r : Rd1}, rs[k]? = some r → e ≤ r.p ∧ r.p < X.length ∧ r.Ok ∧ ∃ rest, X.drop r.p = r.F ++ rest
  | e, [], h, k, r, hk => by simp at hk
  | e, q :: rs, h, k, r, hk => by
    obtain ⟨h1, h2, ⟨rest, h3⟩, h4⟩ := h
    have hl := congrArg List.length h3
    rw [List.length_drop, List.length_append] at hl
    have := h2.pos
    cases k with
    | zero =>
      simp only [List.getElem?_cons_zero, Option.some.injEq] at hk
      subst hk
      exact ⟨by omega, by omega, h2, rest, by rw [h1, h3]⟩
    | succ k =>
      rw [List.getElem?_cons_succ] at hk
      have ih := Held.at_ h4 hk
      exact ⟨by omega, ih.2⟩
theorem Held.chain {X : List Int} {fr : Nat} : ∀ {e : Nat} {rs : List Rd1}, fr ≤ e → Held X e rs → Chain (X.drop fr) fr e X.length
  | e, [], hf, h => by
    cases h
    refine .stop _ hf (by rw [List.length_drop]; omega) fun y sl hs hx hc => ?_
    have h0 : sl.xs = [] := by rw [hx, List.drop_drop, List.drop_of_length_le (by omega)]
    have := read_short sl.a sl.xs.length sl.c y (by rw [h0]; decide)
    exact this
  | e, r :: rs, hf, h => by
    obtain ⟨h1, h2, ⟨rest, h3⟩, h4⟩ := h
    have h5 := Held.le h4
    refine .step e X.length r.F rest 1 1 0 r.pg 0 hf (by rw [List.drop_drop, show fr + (e - fr) = e by omega, h3]) h2.pos (by rw [← h1]; exact h2.rd) (Held.chain (by omega) h4)
theorem write_ok {lsn pg : Nat} {b : List Int} (h1 : lsn < 1000000) (h2 : pg < 1000000) (hb : IsBy b) (hl : 0 < b.length ∧ b.length ≤ 400) : Rd1.Ok ⟨lsn, pg, formW (lsn : Int) 1 (pg : Int) 0 b b⟩ := by
  have WP := wparts (lsn := (lsn : Int)) (ep := 1) (pg := (pg : Int)) (off := 0) (xs := b) (ys := b) rfl rfl (by omega) hb hb
  have hlen : (formW (lsn : Int) 1 (pg : Int) 0 b b).length ≤ 900 := by
    have h := formW_len (lsn : Int) 1 (pg : Int) 0 b.length (by omega) b b rfl rfl
    unfold roomS at h
    split at h <;> omega
  refine ⟨Nat.lt_of_lt_of_le (by decide : 0 < 6) WP.lo, hlen, fun y sl rest hs he hc => ?_⟩
  refine (read_write (lsn := (lsn : Int)) (ep := 1) (pg := (pg : Int)) (off := 0) (m := b.length) (rest := rest) (by omega) (by omega) (by decide) (by decide) (by omega) (by omega) rfl rfl hl.1 hb hb hs he hc).mono ?_
  rintro e w' ⟨a1, d1, a2, d2, rfl, _, _, hb⟩
  exact ⟨a1, b.length, d1, a2, b.length, d2, rfl, hb⟩
end Go.Proofs.Ytekdogmhgijocaa

/- wal: what a log holds from round to round (plain Lean). -/
namespace Go.Proofs.Ytekdogmhgijocaa
open Go.RowKit Go.ChangeShapes Go.WideShapes Go.ChangeAt
open Go.Proofs.Ytekdogmhgijocaa.dk (Dk Dev sectorD stepW stepS putD synD)
set_option linter.unusedVariables false
set_option linter.unusedSimpArgs false

theorem flW_out {L : Lg} {zs : List Int} {k : Int} (hk : ∀ n, secL L n ≠ k) : ∀ (f i : Nat) (D : Dk), dk.Calm D → dk.Calm (flW L zs f i D) ∧ sectorD (flW L zs f i D) k = sectorD D k
  | 0, i, D, h => ⟨h, rfl⟩
  | f + 1, i, D, h => by
    unfold flW
    split
    · exact ⟨h, rfl⟩
    · simp only
      rw [h.write]
      have h2 := h.putD (secL L (L.fl / 52 + (i : Int))) (secJ L zs i (sectorD D (secL L (L.fl / 52 + (i : Int)))) (cntF L zs i))
      rw [if_neg (by rw [h2.off]; decide)]
      have ih := flW_out (zs := zs) hk f (i + cntF L zs i) _ h2
      refine ⟨ih.1, ih.2.trans ?_⟩
      rw [sectorD_put, if_neg fun e => hk _ e.symm]
theorem flW_calm {L : Lg} {zs : List Int} : ∀ (f i : Nat) (D : Dk), dk.Calm D → dk.Calm (flW L zs f i D)
  | 0, i, D, h => h
  | f + 1, i, D, h => by
    unfold flW
    split
    · exact h
    · simp only
      rw [h.write]
      have h2 := h.putD (secL L (L.fl / 52 + (i : Int))) (secJ L zs i (sectorD D (secL L (L.fl / 52 + (i : Int)))) (cntF L zs i))
      rw [if_neg (by rw [h2.off]; decide)]
      exact flW_calm f _ _ h2
theorem flD_calm {L : Lg} {zs : List Int} {D : Dk} (h : dk.Calm D) : flD L zs D = synD (flW L zs zs.length 0 D) ∧ dk.Calm (flD L zs D) := by
  have h2 := flW_calm (L := L) (zs := zs) zs.length 0 D h
  have e : flD L zs D = synD (flW L zs zs.length 0 D) := by
    unfold flD
    rw [if_neg (by rw [h2.off]; decide), h2.sync]
  exact ⟨e, by rw [e]; exact h2.synD⟩
theorem halfD_eq {D D' : Dk} {L L' : Lg} (h1 : L.at_ = L'.at_) (h2 : L.count = L'.count) (n : Int) (hs : sectorD D (secL L n) = sectorD D' (secL L n)) : halfD D L n = halfD D' L' n := by
  unfold halfD
  rw [hs]
  unfold secL
  rw [h1, h2]
structure Log1 (D : Dk) (L : Lg) (s : Sl) (X : List Int) (e : Nat) (rs : List Rd1) : Prop where
  calm : dk.Calm D
  sec : D.sectors = 66 ∧ D.most = 66
  lat : L.at_ = 0 ∧ L.count = 64
  lep : L.ep = 1 ∧ L.pt = 0 ∧ L.ct = 52 ∧ L.down = false
  seq : 2 ≤ L.seq ∧ L.seq ≤ 1000000
  st : L.st = (e : Int) ∧ 52 ≤ e
  fl : L.fl = (X.length : Int) ∧ L.end_ = (X.length : Int)
  tail : s.xs = X.drop (X.length / 52 * 52)
  held : Held X e rs
  half : ∀ n : Nat, e / 52 ≤ n → 52 * n < X.length → halfD D L n = fpiece n 1 ((X.drop (52 * n)).take 52)
  old : ∀ n : Int, pieN (halfD D L n) * 52 < (X.length : Int)
  m0 : sectorD D (L.seq % 2) = masterB L.seq 1 (e : Int) 0 52
  m1 : ∃ t : Nat, t ≤ e ∧ sectorD D ((L.seq + 1) % 2) = masterB (L.seq - 1) 1 (t : Int) 0 52
  by_ : IsBy X
  le : X.length ≤ 800000
section
variable {D : Dk} {L : Lg} {s : Sl} {X : List Int} {e : Nat} {rs : List Rd1}
theorem Log1.lgx (h : Log1 D L s X e rs) : LgX D L s X := by
  have h1 := h.fl
  have h2 := h.st
  have h3 := h.le
  refine ⟨h1.2.symm, by omega, by omega, by omega, ?_, fun n h4 h5 => ?_⟩
  · rw [h.tail, h1.1]
    congr 1 <;> omega
  · rw [h.half n (by omega) (by omega)]
    exact fpiece_B (by omega) (by omega) (by rw [List.length_take]; omega)
theorem Log1.holds (h : Log1 D L s X e rs) (hr : rs.length ≤ 6) : Holds D ⟨0, 64, L.seq, 1, (e : Int), 0, 52, 0, 0, 0, false⟩ (X.drop (e / 52 * 52)) := by
  have hl := h.held.le
  have hfl := h.fl
  have hle := h.le
  have e1 : ∀ i : Nat, atL D ⟨0, 64, L.seq, 1, (e : Int), 0, 52, 0, 0, 0, false⟩ i = halfD D L (((e / 52 + i : Nat)) : Int) := fun i => by
    unfold atL
    rw [show (⟨0, 64, L.seq, 1, (e : Int), 0, 52, 0, 0, 0, false⟩ : Lg).st / 52 + (i : Int) = ((e / 52 + i : Nat) : Int) by show (e : Int) / 52 + _ = _; omega]
    exact halfD_eq h.lat.1.symm h.lat.2.symm _ rfl
  have hp : ∀ i : Nat, 52 * i < (X.drop (e / 52 * 52)).length → atL D ⟨0, 64, L.seq, 1, (e : Int), 0, 52, 0, 0, 0, false⟩ i = fpiece (((e / 52 + i : Nat)) : Int) 1 ((X.drop (52 * (e / 52 + i))).take 52) := fun i hi => by
    rw [List.length_drop] at hi
    rw [e1, h.half _ (by omega) (by omega)]
  have lt52 : ∀ l : List Int, (l.take 52).length ≤ 52 := fun l => by rw [List.length_take]; omega
  have hb : ∀ i : Nat, 52 * i < (X.drop (e / 52 * 52)).length → e / 52 + i < 20000 := fun i hi => by rw [List.length_drop] at hi; omega
  refine ⟨by rw [List.length_drop]; show _ ≤ 104 * (64 : Int); omega, fun i hi => ?_, fun i hi => ?_, fun i hi => ?_, fun i hi h2 => ?_⟩
  · rw [hp i hi, fpiece_N (by omega) (by have := hb i hi; omega) (lt52 _)]
    show _ = (e : Int) / 52 + _
    omega
  · have hpe : ∀ j : Nat, 52 * j < (X.drop (e / 52 * 52)).length → pieE (atL D ⟨0, 64, L.seq, 1, (e : Int), 0, 52, 0, 0, 0, false⟩ j) = 1 := fun j hj => by rw [hp j hj, fpiece_E (by decide) (by decide)]
    refine ⟨?_, by rw [hpe i hi]; exact Int.le_refl _, .inl (hpe i hi)⟩
    cases i with
    | zero => rw [hpe 0 hi]; show (0 : Int) ≤ 1; decide
    | succ i => show pieE _ ≤ pieE _; rw [hpe i (by omega), hpe (i + 1) hi]; exact Int.le_refl _
  · rw [hp i hi, fpiece_B (by omega) (by have := hb i hi; omega) (lt52 _), List.drop_drop]
    congr 2
    omega
  · rw [List.length_drop] at hi
    rw [e1]
    have := h.old ((e / 52 + i : Nat) : Int)
    intro hc
    rw [hc] at this
    have h3 : (⟨0, 64, L.seq, 1, (e : Int), 0, 52, 0, 0, 0, false⟩ : Lg).st / 52 = (e : Int) / 52 := rfl
    rw [h3] at this
    omega
/-- What is left of the tail. -/
theorem Log1.room (h : Log1 D L s X e rs) (hr : rs.length ≤ 5) {n : Nat} (hn : n ≤ 900) : (n : Int) ≤ leftL L := by
  have hl := h.held.le
  have h1 := h.fl
  have h2 := h.st
  have h3 := h.lat
  unfold leftL limL
  omega
/-- Append and Flush. -/
theorem Log1.put (h : Log1 D L s X e rs) (hf : D.Fine) (hr : rs.length ≤ 5) {r : Rd1} (hp : r.p = X.length) (ok : r.Ok) (hb : IsBy r.F) (hle : X.length + r.F.length ≤ 800000) {s' : Sl} (hs : s'.xs = s.xs ++ r.F) :
    FlOk (endL L r.F.length) s' ∧ (flD (endL L r.F.length) s'.xs D).off = false ∧ Log1 (flD (endL L r.F.length) s'.xs D) (flL (endL L r.F.length)) (s'.cut (flK (endL L r.F.length)) s'.xs.length) (X ++ r.F) e (rs ++ [r]) := by
  have h1 := h.fl
  have h2 := h.st
  have h3 := h.lat
  have h4 := h.lep
  have hlen : (X ++ r.F).length = X.length + r.F.length := List.length_append
  have hsx : s'.xs = (X ++ r.F).drop (X.length / 52 * 52) := by rw [hs, h.tail, List.drop_append_of_le_length (by omega)]
  have hsl : s'.xs.length = X.length + r.F.length - X.length / 52 * 52 := by rw [hsx, List.length_drop, hlen]
  have hby : IsBy (X ++ r.F) := by_append h.by_ hb
  have hzb : IsBy s'.xs := by rw [hsx]; exact fun x hx => hby x (List.mem_of_mem_drop hx)
  have hrp := ok.pos
  have hrl := ok.le
  obtain ⟨L', hL'⟩ : ∃ L', endL L r.F.length = L' := ⟨_, rfl⟩
  have g1 : L'.fl = (X.length : Int) ∧ L'.end_ = (X.length : Int) + r.F.length ∧ L'.at_ = 0 ∧ L'.count = 64 ∧ L'.ep = 1 ∧ L'.st = (e : Int) ∧ L'.seq = L.seq ∧ L'.pt = 0 ∧ L'.ct = 52 ∧ L'.down = false := by
    subst hL'
    exact ⟨h1.1, by show L.end_ + _ = _; rw [h1.2], h3.1, h3.2, h4.1, h2.1, rfl, h4.2.1, h4.2.2.1, h4.2.2.2⟩
  rw [hL']
  obtain ⟨g_fl, g_en, g_at, g_ct, g_ep, g_st, g_sq, g_pt, g_cu, g_dn⟩ := g1
  have FO : FlOk L' s' := ⟨by omega, by omega, by rw [hsl]; omega, by omega, by omega, by omega, hzb⟩
  have hc := h.calm
  have hFT := flW_to (L := L') (zs := s'.xs) (by omega) hzb (by rw [hsl, g_ct]; omega) s'.xs.length 0 D hf hc.off (by rw [g_at, g_ct, h.sec.1]; omega) (by omega)
  have hFC := flD_calm (L := L') (zs := s'.xs) hc
  have hsecne : ∀ k : Int, (k = 0 ∨ k = 1) → ∀ n, secL L' n ≠ k := fun k hk n => by
    unfold secL
    have := Int.emod_nonneg (n / 2) (show L'.count ≠ 0 by omega)
    omega
  have hms : ∀ k : Int, (k = 0 ∨ k = 1) → sectorD (flD L' s'.xs D) k = sectorD D k := fun k hk => by rw [hFC.1, sectorD_syn]; exact (flW_out (hsecne k hk) _ _ _ hc).2
  have hhalf : ∀ (K : Lg) n, K.at_ = 0 → K.count = 64 → halfD (flD L' s'.xs D) K n = halfD (flW L' s'.xs s'.xs.length 0 D) L' n := fun K n k1 k2 => halfD_eq (by omega) (by omega) n (by rw [hFC.1, sectorD_syn])
  have hhalf0 : ∀ n, halfD D L' n = halfD D L n := fun n => halfD_eq (by omega) (by omega) n rfl
  have hpie : ∀ j : Nat, 52 * j < s'.xs.length → pieF L' s'.xs j = fpiece (((X.length / 52 + j : Nat)) : Int) 1 (((X ++ r.F).drop (52 * (X.length / 52 + j))).take 52) := fun j hj => by
    unfold pieF chunk
    rw [g_fl, g_ep, hsx, List.drop_drop, show X.length / 52 * 52 + 52 * j = 52 * (X.length / 52 + j) by omega]
    congr 1
  have hoff : (flW L' s'.xs s'.xs.length 0 D).off = false := (flW_calm _ _ _ hc).off
  refine ⟨FO, hFC.2.off, ⟨hFC.2, ?_, ⟨g_at, g_ct⟩, ⟨g_ep, g_pt, g_cu, g_dn⟩, by show 2 ≤ L'.seq ∧ L'.seq ≤ 1000000; rw [g_sq]; exact h.seq, ⟨g_st, h2.2⟩, ?_, ?_, h.held.app hp ok, fun n n1 n2 => ?_, fun n => ?_, ?_, ?_, hby, by omega⟩⟩
  · rw [hFC.1]
    exact ⟨hFT.secs.trans h.sec.1, hFT.most.trans h.sec.2⟩
  · show L'.end_ = _ ∧ L'.end_ = _
    rw [hlen, g_en]
    omega
  · have hk : flK L' = (X.length + r.F.length) / 52 * 52 - X.length / 52 * 52 := by unfold flK; rw [g_en, g_fl]; omega
    unfold Sl.cut
    simp only
    rw [List.take_of_length_le (by rw [List.length_drop]; omega), hsx, List.drop_drop, hlen]
    congr 1
    omega
  · rw [hhalf (flL L') _ g_at g_ct]
    rw [hlen] at n2
    by_cases hn : X.length / 52 ≤ n
    · have h7 := hFT.new hoff (n - X.length / 52) (Nat.zero_le _) (by omega)
      rw [hpie _ (by omega), show X.length / 52 + (n - X.length / 52) = n by omega] at h7
      rw [← h7]
      congr 1
      rw [g_fl]
      omega
    · have hle6 := h.held.le
      rcases hFT.half (n : Int) with h7 | ⟨j, _, h8, h9, _⟩
      · rw [h7, hhalf0, h.half n n1 (by omega), List.drop_append_of_le_length (by omega), List.take_append_of_le_length (by rw [List.length_drop]; omega)]
      · exfalso
        rw [g_ct, g_fl] at h9
        omega
  · rw [hhalf (flL L') _ g_at g_ct, hlen]
    rcases hFT.half n with h7 | ⟨j, _, h8, _, h9⟩
    · rw [h7, hhalf0]
      have := h.old n
      omega
    · rw [h9, hpie j h8, fpiece_N (by omega) (by omega) (by rw [List.length_take]; omega)]
      omega
  · show sectorD _ (L'.seq % 2) = masterB L'.seq 1 _ 0 52
    rw [g_sq, hms _ (by omega)]
    exact h.m0
  · obtain ⟨t, h8, h9⟩ := h.m1
    refine ⟨t, h8, ?_⟩
    show sectorD _ ((L'.seq + 1) % 2) = masterB (L'.seq - 1) 1 _ 0 52
    rw [g_sq, hms _ (by omega)]
    exact h9
/-- Master: the first record is given up. -/
theorem Log1.drop {r : Rd1} (h : Log1 D L s X e (r :: rs)) (hs : L.seq < 1000000) :
    Log1 (toldD D L L.ep ((e + r.F.length : Nat) : Int) 0 L.ct) (toldL L L.ep ((e + r.F.length : Nat) : Int) 0 L.ct) s X (e + r.F.length) rs := by
  obtain ⟨T, hT⟩ : ∃ T, toldD D L L.ep ((e + r.F.length : Nat) : Int) 0 L.ct = T := ⟨_, rfl⟩
  have hsec : ∀ x, sectorD T x = if x = (L.seq + 1) % 2 then masterB (L.seq + 1) 1 ((e + r.F.length : Nat) : Int) 0 52 else sectorD D x := fun x => by
    rw [← hT]
    unfold toldD
    rw [sectorD_syn, sectorD_put, h.lat.1, h.lep.1, h.lep.2.2.1, Int.zero_add]
  have hseq := h.seq
  have hat := h.lat
  have hcal : dk.Calm T := by
    rw [← hT]
    exact (h.calm.putD _ _).synD
  have hsz : T.sectors = 66 ∧ T.most = 66 := by rw [← hT]; exact h.sec
  have hsecne : ∀ n, secL L n ≠ (L.seq + 1) % 2 := fun n => by
    unfold secL
    have := Int.emod_nonneg (n / 2) (show L.count ≠ 0 by omega)
    omega
  rw [hT]
  have hhalf : ∀ n, halfD T (toldL L L.ep ((e + r.F.length : Nat) : Int) 0 L.ct) n = halfD D L n := fun n => halfD_eq rfl rfl n ((hsec _).trans (if_neg (hsecne n)))
  have hst := h.st
  refine ⟨hcal, hsz, hat, ⟨h.lep.1, rfl, h.lep.2.2.1, h.lep.2.2.2⟩, by show 2 ≤ L.seq + 1 ∧ L.seq + 1 ≤ 1000000; omega, ⟨rfl, by omega⟩, h.fl, h.tail, h.held.next, fun n n1 n2 => ?_, fun n => ?_, ?_, ⟨e, by omega, ?_⟩, h.by_, h.le⟩
  · rw [hhalf]; exact h.half n (by omega) n2
  · rw [hhalf]; exact h.old n
  · show sectorD T ((L.seq + 1) % 2) = masterB (L.seq + 1) 1 _ 0 52
    rw [hsec, if_pos rfl]
  · show sectorD T ((L.seq + 1 + 1) % 2) = masterB (L.seq + 1 - 1) 1 _ 0 52
    rw [hsec, if_neg (by omega), show (L.seq + 1 + 1) % 2 = L.seq % 2 by omega, h.m0, show L.seq + 1 - 1 = L.seq by omega]
theorem Log1.made (hr : RingAt D 0 64 2) (hc : dk.Calm D) (hs : D.sectors = 66 ∧ D.most = 66) : Log1 D (madeL 0 64) Sl.no (List.replicate 52 0) 52 [] := by
  have hb : ∀ n : Int, pieN (halfD D (madeL 0 64) n) = 0 := fun n => by
    have h1 := Int.emod_nonneg (n / 2) (show (64 : Int) ≠ 0 by decide)
    have h2 := Int.emod_lt_of_pos (n / 2) (show (0 : Int) < 64 by decide)
    have e : secL (madeL 0 64) n = 0 + 2 + (((n / 2 % 64).toNat : Nat) : Int) := by
      show (0 : Int) + 2 + n / 2 % 64 = _
      omega
    unfold halfD
    rw [e, hr.ring _ (by omega)]
    rcases (show n % 2 = 0 ∨ n % 2 = 1 by omega) with h | h <;> rw [h]
    · exact pie_blank.1
    · exact pie_blank.2
  refine ⟨hc, hs, ⟨rfl, rfl⟩, ⟨rfl, rfl, rfl, rfl⟩, by show (2 : Int) ≤ 2 ∧ _; decide, ⟨rfl, Nat.le_refl _⟩, ⟨by simp [madeL], by simp [madeL]⟩, by simp [Sl.no], by simp [Held], fun n h1 h2 => by simp at h2; omega, fun n => by rw [hb]; simp, ?_, ⟨52, Nat.le_refl _, ?_⟩, fun x hx => by have := (List.mem_replicate.1 hx).2; omega, by simp⟩
  · exact hr.m2 (Nat.le_refl _)
  · have := hr.m1 (by decide)
    exact this
end
end Go.Proofs.Ytekdogmhgijocaa
