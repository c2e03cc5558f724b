/- The document's All. -/
import Derived.Test.YtkohgkbeecadeaaQuL1
namespace Go.Proofs.Ytkohgkbeecadeaa
open Go.RowKit Go.ChangeShapes Go.WideShapes Go.ChangeAt
set_option linter.unusedVariables false

set_option maxHeartbeats 2000000 in
theorem rall_scale (v : Value) (k : Int) (w : World) (hk : k < -64 ∨ 64 < k) : AllC 18 v k [] 0 0 2 w := by
  unfold AllC
  rcases hk with hk | hk
  all_goals
    go_enter Try.func18, Try.ntmps18
    go_wp2_with fail
    refine bodyPost_ret (v := .tuple #[.slice none 0 0, .int .i64 0, .int .i64 0, .int .i64 2]) (by simp [results, Try.results18, go_sem]) rfl ⟨_, rfl, own_none _, Below.refl _ _⟩
set_option maxHeartbeats 2000000 in
theorem rall_dim (a : Option Addr) (n c : Nat) (k : Int) (w : World) (k1 : -64 ≤ k) (k2 : k ≤ 64) (hn : n = 0 ∨ 4096 < n) (hc : n ≤ 5000) : AllC 18 (.slice a n c) k [] 0 0 9 w := by
  unfold AllC
  rcases hn with rfl | hn
  all_goals
    go_enter Try.func18, Try.ntmps18
    go_wp2_with fail
    refine bodyPost_ret (v := .tuple #[.slice none 0 0, .int .i64 0, .int .i64 0, .int .i64 9]) (by simp [results, Try.results18, go_sem]) rfl ⟨_, rfl, own_none _, Below.refl _ _⟩
set_option maxHeartbeats 2000000 in
theorem rall_go (b off cap n : Nat) (k : Int) (l : List Nat) (vs : List Int) (m q er : Int) (w : World) (hx : ∀ x ∈ l, x < 18446744073709551616) (hl : l.length = n) (hcell : ∀ i, i < n → w.cell? ⟨b, off + i, none⟩ = some (.int .u64 ((nats l)[i]?.getD 0))) (hbw : b < w.heap.size) (n0 : 0 < n) (n1 : n ≤ 4096) (k1 : -64 ≤ k) (k2 : k ≤ 64) (hE : Hid (AllEnds k l vs m q er)) :
    AllC 18 (.slice (some ⟨b, off, none⟩) n cap) k vs m q er w := by
  unfold AllC
  have HC := Lib.hid hcell
  have HX := Lib.hid hx
  have HL := Lib.hid hl
  have HB := Lib.hid hbw
  obtain ⟨i0, hi0, hz0, hz1, hz2⟩ := info_parts infoI32
  clear hcell hx hl hbw
  have q1 : decide ((n : Int) < 1) = false := decide_eq_false (by omega)
  have q2 : decide ((4096 : Int) < (n : Int)) = false := decide_eq_false (by omega)
  go_enter Try.func18, Try.ntmps18
  go_wp2_with fail
  go_loopw [8, 9, 10] (fun o t u wr => ∃ i : Nat, i ≤ n ∧ u = .int .i64 i ∧ t = .int .i64 (markL k (l.take i)) ∧ Hid (okL k (l.take i)) ∧ Hid (wr.ownsRow w.heap.size 21 1 o i ((valL k (l.take i)).map (Value.int .i32))) ∧ Hid (Below w.heap.size w wr)) (fun _ _ u _ => n - (intOf u).toNat)
  case atStart => exact ⟨0, Nat.zero_le _, rfl, rfl, Lib.hid (by intro x hx; simp at hx), Lib.hid (own_none w), Lib.hid (Below.refl _ _)⟩
  case round =>
    obtain ⟨i, hin, rfl, rfl, OK, OI, BI⟩ := hrel
    by_cases hlt : i < n
    · have hil : i < l.length := by rw [HL.out]; exact hlt
      have HQ := Lib.hid (fun w => rquant_any l[i] k w (HX.out _ (List.getElem_mem hil)))
      have C := HC.out i hlt
      rw [nats_at l i hil, ← BI.out.cell (p := ⟨b, off + i, none⟩) HB.out] at C
      obtain ⟨wf1, wf2, wf3, wf4, wf5, wf6⟩ := quantG_wf l[i] k
      have HM := Lib.hid (markL_snoc k (l.take i) l[i])
      rw [← List.take_succ_eq_append_getElem hil] at HM
      have HV := Lib.hid (valL_snoc k (l.take i) l[i])
      rw [← List.take_succ_eq_append_getElem hil] at HV
      by_cases h0 : (quantG l[i] k).2.2 = 0
      · have OK2 := Lib.hid (take_ok OK.out hil h0)
        rw [h0] at HQ
        generalize (quantG l[i] k).1 = qv at *
        generalize (quantG l[i] k).2.1 = qm at *
        clear h0 wf5 wf6
        go_wp2_with fail
        refine (HQ.out _).mono ?_
        rintro _ w2 ⟨rfl, rfl⟩
        go_wp2_with (at_builtin; refine wpList_append_src rfl (.tmp 48) (.tmp 50) 38 rfl w.heap.size 21 i0 (.int .i32 0) 1 4 Try.underlying38 hi0 hz0 hz1 hz2 rfl (by decide) _ i ((valL k (l.take i)).map (Value.int .i32)) rfl (OI.out.alloc _) _ 1 [.int .i32 qv] rfl ?s1 ?s2 ?s3 ?s4 ?s5 ?s6)
        case s1 => exact .inr ⟨_, _, rfl, rfl, fun q u hq => by rcases q with _ | q <;> simp at hq <;> subst hq <;> simp [go_sem]⟩
        case s2 => simp [Value.oneCell']
        case s3 => unfold maxLen; omega
        case s4 => omega
        case s5 => have := BI.out.size; simp; omega
        case s6 =>
          intro v2 w3 hown2 hg2
          have b2 : Below w.heap.size w w3 := (BI.out.alloc BI.out.size _).grown hg2 (by have := BI.out.size; simp; omega) (fun k hk => (OI.out.lt k hk).1)
          have O3 : Hid (w3.ownsRow w.heap.size 21 1 v2 (i + 1) ((valL k (l.take (i + 1))).map (Value.int .i32))) := Lib.hid (by rw [HV.out, List.map_append]; exact hown2)
          have B3 := Lib.hid b2
          clear hown2 hg2 b2
          go_wp2_with fail
          go_roundw
          case rel => exact ⟨i + 1, by omega, by go_num, by rw [HM.out], OK2, O3, B3⟩
          case measure => simp [intOf]; omega
      · have hE2 := Lib.hid (hE.out.2 i hil OK.out h0)
        have hne : ((quantG l[i] k).2.2 == 0) = false := by simpa using h0
        generalize (quantG l[i] k).1 = qv at *
        generalize (quantG l[i] k).2.1 = qm at *
        generalize (quantG l[i] k).2.2 = qe at *
        go_wp2_with fail
        refine (HQ.out _).mono ?_
        rintro _ w2 ⟨rfl, rfl⟩
        go_wp2_with fail
        obtain ⟨rfl, rfl, rfl, rfl⟩ := hE2.out
        refine bodyPost_ret (v := .tuple #[.slice none 0 0, .int .i64 0, .int .i64 i, .int .i64 er]) (by simp [results, Try.results18, go_sem]) rfl ⟨_, rfl, own_mono (own_none _) BI.out.size, BI.out⟩
    · obtain rfl : i = n := by omega
      have ht : l.take i = l := List.take_of_length_le (by rw [HL.out]; exact Nat.le_refl _)
      rw [ht] at OK OI ⊢
      obtain ⟨rfl, rfl, rfl, rfl⟩ := hE.out.1 OK.out
      go_wp2_with fail
      have hv : (valL k l).length = i := by simp [valL, HL.out]
      refine bodyPost_ret (v := .tuple #[u8, .int .i64 (markL k l), .int .i64 0, .int .i64 0]) (by simp [results, Try.results18, go_sem]) rfl ⟨_, rfl, by rw [hv]; exact OI.out, BI.out⟩
/-- Both alike. -/
theorem alls (a : Option Addr) (n c : Nat) (k : Int) (l : List Nat) (hx : ∀ x ∈ l, x < 18446744073709551616) (hl : l.length = n) (hn : n ≤ 5000) : ∃ vs m q er, vs.length ≤ 4096 ∧ (∀ x ∈ vs, -2147483648 ≤ x ∧ x ≤ 2147483647) ∧
    ∀ (a : Option Addr) (c : Nat) (w : World), Ints .u64 w (.slice a n c) (nats l) → AllC 17 (.slice a n c) k vs m q er w ∧ AllC 18 (.slice a n c) k vs m q er w := by
  by_cases hk : k < -64 ∨ 64 < k
  · exact ⟨[], 0, 0, 2, by simp, by simp, fun a c w hi => ⟨all_scale _ k w hk, rall_scale _ k w hk⟩⟩
  · by_cases hd : n = 0 ∨ 4096 < n
    · exact ⟨[], 0, 0, 9, by simp, by simp, fun a c w hi => ⟨all_dim a n c k w (by omega) (by omega) hd hn, rall_dim a n c k w (by omega) (by omega) hd hn⟩⟩
    · have key : ∀ vs m q er, AllEnds k l vs m q er → ∀ (a : Option Addr) (c : Nat) (w : World), Ints .u64 w (.slice a n c) (nats l) → AllC 17 (.slice a n c) k vs m q er w ∧ AllC 18 (.slice a n c) k vs m q er w := by
        intro vs m q er hE a c w hi
        obtain ⟨b, off, cap, hv, hcell⟩ := hi.shape (by simp [nats]; omega)
        simp only [Value.slice.injEq] at hv
        obtain ⟨rfl, _, rfl⟩ := hv
        have hnl : (nats l).length = n := by simp [nats, hl]
        rw [hnl] at hcell
        have hbw := World.block_lt_of_cell? w _ (hcell 0 (by omega))
        exact ⟨all_go b off c n k l vs m q er w hx hl hcell hbw (by omega) (by omega) (by omega) (by omega) (Lib.hid hE), rall_go b off c n k l vs m q er w hx hl hcell hbw (by omega) (by omega) (by omega) (by omega) (Lib.hid hE)⟩
      by_cases ho : okL k l
      · refine ⟨valL k l, markL k l, 0, 0, by simp [valL]; omega, ?_, key _ _ _ _ ⟨fun _ => ⟨rfl, rfl, rfl, rfl⟩, fun i hi _ hb => absurd (ho _ (List.getElem_mem hi)) hb⟩⟩
        intro x hx
        obtain ⟨y, _, rfl⟩ := List.mem_map.1 hx
        exact ⟨(quantG_wf y k).1, (quantG_wf y k).2.1⟩
      · obtain ⟨i, hi, h1, h2⟩ : ∃ i, ∃ hi : i < l.length, okL k (l.take i) ∧ (quantG l[i] k).2.2 ≠ 0 := by
          have : ∀ j, j ≤ l.length → okL k (l.take j) ∨ ∃ i, ∃ hi : i < l.length, okL k (l.take i) ∧ (quantG l[i] k).2.2 ≠ 0 := by
            intro j
            induction j with
            | zero => intro _; exact .inl (by intro x hx; simp at hx)
            | succ j ih =>
              intro hj
              rcases ih (by omega) with h | h
              · by_cases g : (quantG (l[j]'(by omega)) k).2.2 = 0
                · exact .inl (take_ok h (by omega) g)
                · exact .inr ⟨j, by omega, h, g⟩
              · exact .inr h
          rcases this l.length (Nat.le_refl _) with h | h
          · rw [List.take_length] at h; exact absurd h ho
          · exact h
        refine ⟨[], 0, i, (quantG l[i] k).2.2, by simp, by simp, key _ _ _ _ ⟨fun h => absurd h ho, fun j hj g1 g2 => ?_⟩⟩
        have hij : i = j := by
          rcases Nat.lt_trichotomy i j with g | g | g
          · exact absurd (g1 l[i] (List.mem_take_iff_getElem.2 ⟨i, by omega, rfl⟩)) h2
          · exact g
          · exact absurd (h1 l[j] (List.mem_take_iff_getElem.2 ⟨j, by omega, rfl⟩)) g2
        subst hij
        exact ⟨rfl, rfl, rfl, rfl⟩
end Go.Proofs.Ytkohgkbeecadeaa
