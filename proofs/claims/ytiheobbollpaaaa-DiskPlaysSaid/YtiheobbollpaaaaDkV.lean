/- The document's device: Write. -/
import Derived.Test.YtiheobbollpaaaaDkU
namespace Go.Proofs.Ytiheobbollpaaaa
open Go.RowKit Go.ChangeShapes Go.WideShapes Go.ChangeAt
set_option linter.unusedVariables false

theorem addK_nodup {k : Int} : ∀ {l : List Int}, l.Nodup → (addK k l).Nodup
  | [], _ => by simp [addK]
  | j :: r, h => by
    simp only [addK]
    by_cases e : k = j
    · rw [if_pos e]; exact h
    · rw [if_neg e]
      rw [List.nodup_cons] at h ⊢
      refine ⟨fun hm => ?_, addK_nodup h.2⟩
      rcases mem_addK.1 hm with h1 | h1
      · exact e h1.symm
      · exact h.1 h1
theorem upS_keys (k : Int) (s : List Int) : ∀ l : List (Int × List Int), (upS k s l).map (·.1) = addK k (l.map (·.1))
  | [] => rfl
  | (j, u) :: r => by
    simp only [upS, List.map_cons, addK]
    by_cases e : k = j
    · rw [if_pos e, if_pos e]; rfl
    · rw [if_neg e, if_neg e, List.map_cons, upS_keys k s r]
theorem RfAt.put {w : World} {q b1 b2 b3 n : Nat} {D : Dk} {k : Nat} {s : List Int} (h : RfAt w q b1 b2 b3 n D) (hk : k < n) (hs : IsSec s) :
    RfAt ((w.setCell ⟨b2, k, none⟩ (strV s)).setCell ⟨b3, k, none⟩ (.bool true)) q b1 b2 b3 n (putD D (k : Int) s) := by
  obtain ⟨n1, n2, n3, n4, n5, n6⟩ := h.ne
  have k1 : Only [b2, b3] w ((w.setCell ⟨b2, k, none⟩ (strV s)).setCell ⟨b3, k, none⟩ (.bool true)) := ((Only.refl _ _).setCell (by simp) _).setCell (by simp) _
  have kA : Only [b2] w (w.setCell ⟨b2, k, none⟩ (strV s)) := (Only.refl _ _).setCell (by simp) _
  have kB : Only [b3] (w.setCell ⟨b2, k, none⟩ (strV s)) ((w.setCell ⟨b2, k, none⟩ (strV s)).setCell ⟨b3, k, none⟩ (.bool true)) := (Only.refl _ _).setCell (by simp) _
  have hsec := h.sec
  refine ⟨h.row.only k1 (by simp; exact ⟨n2, n3⟩), h.r1.only k1 (by simp; exact ⟨n4, n5⟩), ?_, ?_, h.nd, putD_fine h.fine (by omega) (by omega) hs, h.sec, addK_nodup h.sn, ?_⟩
  · have := (h.r2.set k (strV s)).only kB (by simp; exact n6)
    rw [tab_set (h := waG (putD D (k : Int) s).waits)] at this
    · exact this
    · intro j hj
      show waG (upS (k : Int) s D.waits) j = _
      unfold waG
      rw [findS_up]
      by_cases e : j = k
      · subst e; rw [if_pos rfl, if_pos rfl]
      · rw [if_neg (by omega), if_neg e]
  · have := (h.r3.only kA (by simp; exact fun e => n6 e.symm)).set k (.bool true)
    rw [tab_set (h := seG (putD D (k : Int) s).seen)] at this
    · exact this
    · intro j hj
      show seG (addK (k : Int) D.seen) j = _
      unfold seG
      by_cases e : j = k
      · subst e; rw [if_pos rfl, decide_eq_true (mem_addK.2 (.inl rfl))]
      · rw [if_neg e]
        by_cases h1 : (j : Int) ∈ D.seen
        · rw [decide_eq_true h1, decide_eq_true (mem_addK.2 (.inr h1))]
        · rw [decide_eq_false h1, decide_eq_false]
          intro hm
          rcases mem_addK.1 hm with h2 | h2
          · omega
          · exact h1 h2
  · show ((upS (k : Int) s D.waits).map (·.1)).Nodup
    rw [upS_keys]; exact addK_nodup h.wn
def writeR (D : Dk) (k : Int) (len : Nat) (s : List Int) : Int × Dk :=
  if D.off = true then (6, D) else if k < 0 ∨ D.sectors ≤ k ∨ len ≠ 128 then (2, D) else if ¬ k ∈ D.seen ∧ D.most ≤ (D.seen.length : Int) then (5, D) else (errOff (writeD D k s).off, writeD D k s)
theorem RfAt.drewN {w : World} {q b1 b2 b3 n : Nat} {D : Dk} (h : RfAt w q b1 b2 b3 n D) (m : Nat) : RfAt (w.drewN m) q b1 b2 b3 n D := h.nil ((Only.refl [] w).drewN m)
set_option maxRecDepth 100000 in
set_option maxHeartbeats 4000000 in
theorem rwrite_at {w : World} {q b1 b2 b3 n : Nat} {D : Dk} (h : RfAt w q b1 b2 b3 n D) (x : Int) (g off len cap : Nat) (s : List Int) (hl : len ≤ 128) (hb : len = 128 → Bytes w g off s ∧ IsSec s) :
    Calls Try.prog 34 #[.pointer (some ⟨q, 0, none⟩), .int .i64 x, .slice (some ⟨g, off, none⟩) len cap] w (RfDone q b1 b2 b3 n (writeR D x len s).2 (writeR D x len s).1 w) := by
  have c5 := h.c5
  have c3 := h.c3
  have c2 := h.c2
  have c1 := h.c1
  have sec := h.sec
  have few := h.few
  have H := Lib.hid h
  by_cases ho : D.off = true
  · have e : writeR D x len s = (6, D) := by unfold writeR; rw [if_pos ho]
    rw [e]
    rw [ho] at c5
    have ho' := ho
    clear h ho ho' sec
    go_enter Try.func34, Try.ntmps34
    go_wp2_with fail
    go_ret
    exact ⟨rfl, H.out, Only.refl _ _⟩
  have ho' : D.off = false := by simpa using ho
  rw [ho'] at c5
  by_cases h1 : x < 0
  · have e : writeR D x len s = (2, D) := by unfold writeR; rw [if_neg ho, if_pos (.inl h1)]
    rw [e]
    have d1 : decide (x < 0) = true := decide_eq_true h1
    clear h ho ho' sec
    go_enter Try.func34, Try.ntmps34
    go_wp2_with fail
    go_ret
    exact ⟨rfl, H.out, Only.refl _ _⟩
  have d1 : decide (x < 0) = false := decide_eq_false h1
  by_cases h2 : (n : Int) ≤ x
  · have e : writeR D x len s = (2, D) := by unfold writeR; rw [if_neg ho, if_pos (.inr (.inl (by omega)))]
    rw [e]
    have d2 : decide ((n : Int) ≤ x) = true := decide_eq_true h2
    clear h ho ho' sec
    go_enter Try.func34, Try.ntmps34
    go_wp2_with fail
    go_ret
    exact ⟨rfl, H.out, Only.refl _ _⟩
  have d2 : decide ((n : Int) ≤ x) = false := decide_eq_false h2
  by_cases h3 : len = 128
  rotate_left
  · have e : writeR D x len s = (2, D) := by unfold writeR; rw [if_neg ho, if_pos (.inr (.inr h3))]
    rw [e]
    have d3 : ¬ (len : Int) = 128 := by omega
    clear h ho ho' sec
    go_enter Try.func34, Try.ntmps34
    go_wp2_with fail
    go_ret
    exact ⟨rfl, H.out, Only.refl _ _⟩
  subst h3
  obtain ⟨hB, hS⟩ := hb rfl
  have HB := Lib.hid hB
  have HS := Lib.hid hS
  obtain ⟨k, rfl⟩ : ∃ k : Nat, x = (k : Int) := ⟨x.toNat, by omega⟩
  have hk : k < n := by omega
  have k1 : (k : Int) < (n : Int) := by omega
  have k0 : (0 : Int) ≤ (k : Int) := Int.natCast_nonneg _
  have l3 := h.l3 hk
  unfold seG at l3
  have KU : ∀ m, Calls Try.prog 24 #[.pointer (some ⟨q, 0, none⟩)] (w.drewN m) fun e w' => e = .returned (.int .i64 (D.seen.length : Int)) ∧ ∃ n, w' = w.drewN n := fun m => (rused_at (h.drewN m)).mono fun e w' ⟨a, b⟩ => ⟨a, m, b⟩
  have WR : Hid (¬ (¬ (k : Int) ∈ D.seen ∧ D.most ≤ (D.seen.length : Int)) → writeR D k 128 s = (errOff (writeD D k s).off, writeD D k s)) := Lib.hid (fun hx => by unfold writeR; rw [if_neg ho, if_neg (by omega), if_neg hx])
  have WF : Hid ((¬ (k : Int) ∈ D.seen ∧ D.most ≤ (D.seen.length : Int)) → writeR D k 128 s = (5, D)) := Lib.hid (fun hx => by unfold writeR; rw [if_neg ho, if_neg (by omega), if_pos hx])
  clear h ho ho' hb hB hS sec
  by_cases hm : (k : Int) ∈ D.seen
  · rw [decide_eq_true hm] at l3
    rw [WR.out (fun h => h.1 hm)]
    clear hm WR WF
    go_enter Try.func34, Try.ntmps34
    go_wp2_with fail
    refine wp_region_quiet_lit (by kernel_rfl) (by kernel_rfl) ?_
    repeat (go_big_quiet_step ((go_at_call 24; exact KU _)))
    refine wpQuiet_nil ?_
    intro _ hw2
    obtain ⟨nq, rfl⟩ := hw2
    go_wp2_with fail
    have c1 : (w.drewN nq).cell? ⟨q, 1, none⟩ = some (.slice (some ⟨b2, 0, none⟩) n n) := c1
    have R2 := Lib.hid (H.out.drewN nq)
    have B2 : Hid (Bytes (w.drewN nq) g off s) := Lib.hid (HB.out.only ((Only.refl [] w).drewN nq) (by simp))
    have K0 : Hid (Only [q, b1, b2, b3] w (w.drewN nq).drew) := Lib.hid (((Only.refl _ w).drewN nq).drew)
    generalize w.drewN nq = w2 at *
    have R3 : Hid (RfAt w2.drew q b1 b2 b3 n D) := Lib.hid (R2.out.nil (Only.refl [] w2).drew)
    have cv := conv_bytes (cap := cap) (B2.out.only (Only.refl [] w2).drew (by simp)) HS.out.1
    have z1 : w2.drew.cell? ⟨q, 1, none⟩ = some (.slice (some ⟨b2, 0, none⟩) n n) := R3.out.c1
    have z2 : w2.drew.cell? ⟨q, 2, none⟩ = some (.slice (some ⟨b3, 0, none⟩) n n) := R3.out.c2
    have z3 := R3.out.l2 hk
    have z4 := R3.out.l3 hk
    have z5 := R3.out.r2.free k
    have z6 := R3.out.r3.free k
    have PUT := Lib.hid (R3.out.put hk HS.out)
    obtain ⟨n1, n2, n3, n4, n5, n6⟩ := R3.out.ne
    have n2' : b2 ≠ q := fun e => n2 e.symm
    have n6' : b3 ≠ b2 := fun e => n6 e.symm
    clear c1 c2 c5 KU l3
    refine wp_region_still_tail 8 (by kernel_rfl) (by kernel_rfl) ?_
    simp only [List.take_succ_cons, List.take_zero, List.drop_succ_cons, List.drop_zero]
    iterate 8 still_step
    refine wpStill_nil ?_
    change wpList _ _ _ _ _ w2.drew
    generalize w2.drew = wd at *
    go_wp2_with fail
    refine (goes_at (D := putD D (k : Int) s) PUT.out).mono ?_
    rintro _ w9 ⟨he, hr9, k9⟩
    have HR9 := Lib.hid hr9
    have HK9 : Hid (Only [q, b1, b2, b3] w w9) := Lib.hid ((K0.out.and (((Only.refl [b2, b3] wd).setCell (.inl (by simp)) (p := ⟨b2, k, none⟩) (strV s) |>.setCell (.inl (by simp)) (p := ⟨b3, k, none⟩) (.bool true)).sub (by simp))).and (k9.sub (by simp)))
    have EW : Hid (writeD D (k : Int) s = opD (putD D (k : Int) s)) := Lib.hid rfl
    clear hr9 k9
    cases hof : (opD (putD D (k : Int) s)).off
    · rw [hof] at he
      subst he
      have e0 : Hid (errOff (opD (putD D (k : Int) s)).off = 0) := Lib.hid (by rw [hof]; rfl)
      clear hof
      go_wp2_with fail
      go_ret
      exact ⟨by rw [EW.out, e0.out]; rfl, HR9.out, HK9.out⟩
    · rw [hof] at he
      subst he
      have e0 : Hid (errOff (opD (putD D (k : Int) s)).off = 6) := Lib.hid (by rw [hof]; rfl)
      clear hof
      go_wp2_with fail
      go_ret
      exact ⟨by rw [EW.out, e0.out]; rfl, HR9.out, HK9.out⟩
  · rw [decide_eq_false hm] at l3
    by_cases hf : D.most ≤ (D.seen.length : Int)
    · rw [WF.out ⟨hm, hf⟩]
      have d4 : decide (D.most ≤ (D.seen.length : Int)) = true := decide_eq_true hf
      clear hm WR WF
      go_enter Try.func34, Try.ntmps34
      go_wp2_with fail
      refine wp_region_quiet_lit (by kernel_rfl) (by kernel_rfl) ?_
      repeat (go_big_quiet_step ((go_at_call 24; exact KU _)))
      refine wpQuiet_nil ?_
      intro _ hw2
      obtain ⟨nq, rfl⟩ := hw2
      go_wp2_with fail
      go_ret
      exact ⟨rfl, H.out.drewN nq, (Only.refl _ _).drewN nq⟩
    · rw [WR.out (fun h => hf h.2)]
      have d4 : decide (D.most ≤ (D.seen.length : Int)) = false := decide_eq_false hf
      clear hm WR WF
      go_enter Try.func34, Try.ntmps34
      go_wp2_with fail
      refine wp_region_quiet_lit (by kernel_rfl) (by kernel_rfl) ?_
      repeat (go_big_quiet_step ((go_at_call 24; exact KU _)))
      refine wpQuiet_nil ?_
      intro _ hw2
      obtain ⟨nq, rfl⟩ := hw2
      go_wp2_with fail
      have c1 : (w.drewN nq).cell? ⟨q, 1, none⟩ = some (.slice (some ⟨b2, 0, none⟩) n n) := c1
      have R2 := Lib.hid (H.out.drewN nq)
      have B2 : Hid (Bytes (w.drewN nq) g off s) := Lib.hid (HB.out.only ((Only.refl [] w).drewN nq) (by simp))
      have K0 : Hid (Only [q, b1, b2, b3] w (w.drewN nq).drew) := Lib.hid (((Only.refl _ w).drewN nq).drew)
      generalize w.drewN nq = w2 at *
      have R3 : Hid (RfAt w2.drew q b1 b2 b3 n D) := Lib.hid (R2.out.nil (Only.refl [] w2).drew)
      have cv := conv_bytes (cap := cap) (B2.out.only (Only.refl [] w2).drew (by simp)) HS.out.1
      have z1 : w2.drew.cell? ⟨q, 1, none⟩ = some (.slice (some ⟨b2, 0, none⟩) n n) := R3.out.c1
      have z2 : w2.drew.cell? ⟨q, 2, none⟩ = some (.slice (some ⟨b3, 0, none⟩) n n) := R3.out.c2
      have z3 := R3.out.l2 hk
      have z4 := R3.out.l3 hk
      have z5 := R3.out.r2.free k
      have z6 := R3.out.r3.free k
      have PUT := Lib.hid (R3.out.put hk HS.out)
      obtain ⟨n1, n2, n3, n4, n5, n6⟩ := R3.out.ne
      have n2' : b2 ≠ q := fun e => n2 e.symm
      have n6' : b3 ≠ b2 := fun e => n6 e.symm
      clear c1 c2 c5 KU l3
      refine wp_region_still_tail 8 (by kernel_rfl) (by kernel_rfl) ?_
      simp only [List.take_succ_cons, List.take_zero, List.drop_succ_cons, List.drop_zero]
      iterate 8 still_step
      refine wpStill_nil ?_
      change wpList _ _ _ _ _ w2.drew
      generalize w2.drew = wd at *
      go_wp2_with fail
      refine (goes_at (D := putD D (k : Int) s) PUT.out).mono ?_
      rintro _ w9 ⟨he, hr9, k9⟩
      have HR9 := Lib.hid hr9
      have HK9 : Hid (Only [q, b1, b2, b3] w w9) := Lib.hid ((K0.out.and (((Only.refl [b2, b3] wd).setCell (.inl (by simp)) (p := ⟨b2, k, none⟩) (strV s) |>.setCell (.inl (by simp)) (p := ⟨b3, k, none⟩) (.bool true)).sub (by simp))).and (k9.sub (by simp)))
      have EW : Hid (writeD D (k : Int) s = opD (putD D (k : Int) s)) := Lib.hid rfl
      clear hr9 k9
      cases hof : (opD (putD D (k : Int) s)).off
      · rw [hof] at he
        subst he
        have e0 : Hid (errOff (opD (putD D (k : Int) s)).off = 0) := Lib.hid (by rw [hof]; rfl)
        clear hof
        go_wp2_with fail
        go_ret
        exact ⟨by rw [EW.out, e0.out]; rfl, HR9.out, HK9.out⟩
      · rw [hof] at he
        subst he
        have e0 : Hid (errOff (opD (putD D (k : Int) s)).off = 6) := Lib.hid (by rw [hof]; rfl)
        clear hof
        go_wp2_with fail
        go_ret
        exact ⟨by rw [EW.out, e0.out]; rfl, HR9.out, HK9.out⟩
end Go.Proofs.Ytiheobbollpaaaa
