/- maps.Copy at sectors, Sync. -/
import Derived.Test.YtekdogmhgijocaaMg09
import Derived.Laws.BytesArg
import Derived.Deep.RegionHeld3
set_option linter.unusedSimpArgs false
namespace Go.Proofs.Ytekdogmhgijocaa.dk
open Go.RowKit Go.ChangeShapes Go.WideShapes Go.ChangeAt
set_option linter.unusedVariables false

theorem _root_.Go.Proofs.Ytekdogmhgijocaa.Rng.left_eq {w : World} {b r : Nat} {q : IntKind} {L left : List (Int × Value)} (h : Rng w b r q L left) : w.rangeLeft b r = left.length := by
  obtain ⟨es, clock, since, seen, c0, hb, _, _, hr, _, _, _, hl⟩ := h
  simp only [World.rangeLeft, hb, hr]
  have := congrArg List.length hl
  simpa using this
theorem rm_lt {k : Int} {v : Value} {L : List (Int × Value)} (h : (k, v) ∈ L) : (rm k L).length < L.length := by
  unfold rm
  have h1 : (k, v) ∉ L.filter fun p => !decide (p.1 = k) := by simp
  rcases Nat.lt_or_ge (L.filter fun p => !decide (p.1 = k)).length L.length with g | g
  · exact g
  · have := List.filter_eq_self.1 ((List.filter_sublist (l := L) (p := fun p => !decide (p.1 = k))).eq_of_length_le g) (k, v) h
    simp at this
theorem mem_rm {k : Int} {L : List (Int × Value)} {p : Int × Value} : p ∈ rm k L ↔ p ∈ L ∧ p.1 ≠ k := by simp [rm]
theorem lk_up {k j : Int} {v : Value} : ∀ {L : List (Int × Value)}, lk j (up k v L) = if j = k then some v else lk j L
  | [] => by simp [up, lk]
  | (i, u) :: r => by
    simp only [up]
    by_cases e : k = i
    · rw [if_pos e]
      subst e
      simp only [lk]
      by_cases h : j = k
      · rw [if_pos h, if_pos h]
      · rw [if_neg h, if_neg h, if_neg h]
    · rw [if_neg e]
      simp only [lk]
      rw [lk_up (L := r)]
      by_cases h : j = i
      · rw [if_pos h, if_pos h, if_neg (by omega)]
      · rw [if_neg h, if_neg h]
theorem lk_rm {k j : Int} : ∀ {L : List (Int × Value)}, lk j (rm k L) = if j = k then none else lk j L
  | [] => by simp [rm, lk]
  | (i, u) :: r => by
    have ih := lk_rm (k := k) (j := j) (L := r)
    unfold rm at ih ⊢
    rw [List.filter_cons]
    by_cases e : i = k
    · subst e
      simp only [decide_true, Bool.not_true, Bool.false_eq_true, if_false, ih, lk]
      by_cases h : j = i
      · rw [if_pos h, if_pos h]
      · rw [if_neg h, if_neg h, if_neg h]
    · simp only [e, decide_false, Bool.not_false, if_true, lk, ih]
      by_cases h : j = i
      · rw [if_pos h, if_pos h, if_neg (by omega)]
      · rw [if_neg h, if_neg h]
theorem mem_up {k : Int} {v : Value} {p : Int × Value} : ∀ {L : List (Int × Value)}, p ∈ up k v L → p = (k, v) ∨ p ∈ L
  | [], h => by simp [up] at h; exact .inl h
  | (j, u) :: r, h => by
    simp only [up] at h
    by_cases e : k = j
    · rw [if_pos e] at h
      rcases List.mem_cons.1 h with h | h
      · exact .inl (by rw [h, e])
      · exact .inr (List.mem_cons_of_mem _ h)
    · rw [if_neg e] at h
      rcases List.mem_cons.1 h with h | h
      · exact .inr (by rw [h]; exact List.mem_cons_self ..)
      · rcases mem_up h with h | h
        · exact .inl h
        · exact .inr (List.mem_cons_of_mem _ h)
theorem lk_mem {k : Int} {v : Value} : ∀ {L : List (Int × Value)}, (L.map (·.1)).Nodup → (k, v) ∈ L → lk k L = some v
  | [], _, h => by simp at h
  | (j, u) :: r, hn, h => by
    simp only [List.map_cons, List.nodup_cons] at hn
    simp only [lk]
    rcases List.mem_cons.1 h with h1 | h1
    · cases h1; rw [if_pos rfl]
    · rw [if_neg (by rintro rfl; exact hn.1 (List.mem_map.2 ⟨(k, v), h1, rfl⟩)), lk_mem hn.2 h1]
theorem lk_some_mem {k : Int} {v : Value} : ∀ {L : List (Int × Value)}, lk k L = some v → (k, v) ∈ L
  | [], h => by simp [lk] at h
  | (j, u) :: r, h => by
    simp only [lk] at h
    by_cases e : k = j
    · rw [if_pos e] at h; cases h; rw [e]; exact List.mem_cons_self ..
    · rw [if_neg e] at h; exact List.mem_cons_of_mem _ (lk_some_mem h)
/-- Those of S that are no more in 'left' are copied into L: it is now C. -/
def Copied (S left L C : List (Int × Value)) : Prop :=
  (∀ k, lk k left = none → (lk k S).isSome = true → lk k C = lk k S) ∧ (∀ k, (lk k S = none ∨ (lk k left).isSome = true) → lk k C = lk k L) ∧ ∀ p ∈ C, ∃ q ∈ S ++ L, q.1 = p.1
theorem Copied.start (S L : List (Int × Value)) : Copied S S L L := ⟨fun k h1 h2 => by rw [h1] at h2; simp at h2, fun _ _ => rfl, fun p hp => ⟨p, by simp [hp], rfl⟩⟩
theorem Copied.step {S left L C : List (Int × Value)} (h : Copied S left L C) {k : Int} {v : Value} (hk : (k, v) ∈ S) (hn : (S.map (·.1)).Nodup) : Copied S (rm k left) L (up k v C) := by
  have hS := lk_mem hn hk
  refine ⟨fun j h1 h2 => ?_, fun j h1 => ?_, fun p hp => ?_⟩
  · rw [lk_up]
    by_cases e : j = k
    · rw [if_pos e, e, hS]
    · rw [if_neg e]
      rw [lk_rm, if_neg e] at h1
      exact h.1 j h1 h2
  · rw [lk_up]
    by_cases e : j = k
    · subst e
      rw [hS, lk_rm, if_pos rfl] at h1
      simp at h1
    · rw [if_neg e]
      rw [lk_rm, if_neg e] at h1
      exact h.2.1 j h1
  · rcases mem_up hp with rfl | hp
    · exact ⟨(k, v), by simp [hk], rfl⟩
    · exact h.2.2 p hp
def CopyF (bd bs : Nat) (S L : List (Int × Value)) (w : World) (e : Ending) (w' : World) : Prop := e = .returned (.tuple #[]) ∧ ∃ C, MapAt w' bd .i64 C ∧ Copied S [] L C ∧ Only [bd] w w'
def CopyInv (bd bs : Nat) (S L : List (Int × Value)) (w wr : World) : Prop := ∃ left C, Rng wr bs w.heap.size .i64 S left ∧ MapAt wr bd .i64 C ∧ Copied S left L C ∧ Only [bd] w wr ∧ w.heap.size < wr.heap.size
set_option maxHeartbeats 2000000 in
theorem copy_any (bd bs : Nat) (S : List (Int × List Int)) (L : List (Int × Value)) (w : World) (hne : bs ≠ bd) (h1 : MapAt w bs .i64 (waL S)) (h2 : MapAt w bd .i64 L) (h128 : ∀ p ∈ S, p.2.length = 128) :
    Calls Try.prog 60 #[.map (some bd), .map (some bs)] w (CopyF bd bs (waL S) L w) := by
  have H1 := Lib.hid h1
  have H2 := Lib.hid h2
  have HN := Lib.hid h1.nodup
  have HNE := Lib.hid hne
  have H128 := Lib.hid h128
  have hbs := h1.lt
  have hbd := h2.lt
  clear h1 h2 hne h128
  go_enter Try.func60, Try.ntmps60
  go_wp2_with (at_range; refine wpList_range_at _ rfl (.tmp 6) 57 rfl 3 84 .i64 Try.underlying57 bs (waL S) rfl H1.out ?_)
  intro w1 r1 o1 s1
  have I1 : Hid (CopyInv bd bs (waL S) L w w1) := Lib.hid ⟨_, L, r1, H2.out.only o1 (by simp), Copied.start _ _, o1.sub (by simp), by omega⟩
  clear r1 o1 s1
  go_wp2_with fail
  go_loopw [4, 5] (fun _ _ wr => Hid (CopyInv bd bs (waL S) L w wr)) (fun _ _ wr => wr.rangeLeft bs w.heap.size)
  case atStart => exact I1
  case round =>
    obtain ⟨left, C, hr, hm, hc, ho, hs⟩ := hrel.out
    have RG := Lib.hid hr
    have HM := Lib.hid hm
    have HC := Lib.hid hc
    have HO := Lib.hid ho
    clear hr hm hc ho hrel
    go_wp2_with (at_next; refine wpList_next_at _ rfl (.tmp 7) rfl bs w.heap.size .i64 (waL S) left rfl RG.out ?_ ?_)
    · intro hnil
      have HX := Lib.hid hnil
      clear hnil
      go_wp2_with fail
      go_end0
      have := HC.out
      rw [HX.out] at this
      exact ⟨rfl, C, HM.out, this, HO.out⟩
    · intro k v w2 hmem hr2 ho2 hs2 hen
      have HK := Lib.hid (RG.out.sub _ hmem)
      have HL := Lib.hid hmem
      obtain ⟨q, hq, he⟩ := List.mem_map.1 HK.out
      simp only [Prod.mk.injEq] at he
      obtain ⟨rfl, rfl⟩ := he
      have HQ := Lib.hid (H128.out q hq)
      have HR2 := Lib.hid hr2
      have HO2 := Lib.hid ho2
      have hs3 : w.heap.size < w2.heap.size := by omega
      clear hmem hq hr2 ho2 hs2
      go_wp2_with (first
        | (refine wpList_alloc_at rfl 84 rfl _ zeroSec ?_; intro w3 hr3 ho3 hs3')
        | (refine wpList_store_at rfl 84 (.tmp 5) (.tmp 12) rfl w2.heap.size rfl (bytesV q.2) rfl _ _ hr3 (by rw [bytesV_size, HQ.out]; exact sizeSec) (by rw [bytesV_size, Array.size_replicate, HQ.out]) (bytesV_one _) ?_; intro w4 hr4 ho4 hs4)
        | (refine wpList_load_cells rfl 84 (.tmp 5) rfl w2.heap.size 0 rfl (bytesV q.2).toList hr4.cells _ Try.underlying84 rfl (by rw [Array.length_toList, bytesV_size, HQ.out]; exact sizeSec) ?_)
        | (at_mapUpdate; refine wpList_update_at _ rfl (.tmp 13) (.tmp 14) (.tmp 15) 57 rfl 3 84 .i64 Try.underlying57 Try.underlying3 bd C rfl (((HM.out.only HO2.out (by simp; omega)).only ho3 (by simp)).only ho4 (by simp; omega)) q.1 (secV q.2) rfl (by simp [Act.eval, Act.put, secV]) ?_; intro w5 hm5 ho5 hs5))
      simp only [Act.put, List.setIfInBounds_toArray, List.set_cons_succ, List.set_cons_zero]
      go_roundw
      case rel =>
        refine Lib.hid ⟨rm q.1 left, up q.1 (secV q.2) C, (((HR2.out.only ho3 (by simp) (by simp)).only ho4 (by simp; omega) (by simp; omega)).only ho5 (by simp; exact HNE.out) (by simp; omega)), hm5, HC.out.step HK.out HN.out, ?_, by omega⟩
        exact (((HO.out.trans HO2.out (by simp)).trans ho3 (by simp)).trans ho4 (by simp; omega)).trans ho5 (by simp)
      case measure =>
        rw [(((HR2.out.only ho3 (by simp) (by simp)).only ho4 (by simp; omega) (by simp; omega)).only ho5 (by simp; exact HNE.out) (by simp; omega)).left_eq, RG.out.left_eq]
        exact rm_lt HL.out

/-! ### Sync -/
def syncD (D : Dk) : Dk := { opD D with last := fun k => (findS k D.waits).getD (D.last k), waits := [] }
def SyncPost (p bl bw bn : Nat) (D : Dk) (w : World) (e : Ending) (w' : World) : Prop := e = .returned (.int .i64 (errOff (opD D).off)) ∧ DkAt w' p bl bw bn (if (opD D).off = true then opD D else syncD D) ∧ Only [p, bl, bw] w w'
theorem findS_mem {k : Int} {s : List Int} : ∀ {l : List (Int × List Int)}, findS k l = some s → (k, s) ∈ l
  | [], h => by simp [findS] at h
  | (j, u) :: r, h => by
    simp only [findS] at h
    by_cases e : k = j
    · rw [if_pos e] at h; cases h; rw [e]; exact List.mem_cons_self ..
    · rw [if_neg e] at h; exact List.mem_cons_of_mem _ (findS_mem h)
theorem syncD_fine {D : Dk} (h : D.Fine) : (syncD D).Fine := by
  have h' := opD_fine h
  refine ⟨h'.s0, h'.s1, h'.m0, h'.m1, h'.a0, h'.a1, fun k => ?_, by simp [syncD], h'.se⟩
  exact sectorD_is h k
theorem DkAt.synced {w w1 w2 : World} {p bl bw bn : Nat} {D : Dk} {L C : List (Int × Value)} (h : DkAt w p bl bw bn (opD D)) (hR : Reads D.last D.sectors L) (hc : Copied (waL D.waits) [] L C) (k1 : Only [bl] w w1) (m1 : MapAt w1 bl .i64 C) (k2 : Only [bw] w1 w2) (m2 : MapAt w2 bw .i64 [])
    (hf : D.Fine) : DkAt w2 p bl bw bn (syncD D) := by
  have hnd := h.nd
  simp only [List.nodup_cons, List.mem_cons, not_or, List.not_mem_nil, not_false_eq_true] at hnd
  obtain ⟨⟨n1, n2, n3, _⟩, ⟨n4, n5, _⟩, ⟨n6, _⟩, _⟩ := hnd
  refine ⟨?_, ⟨C, m1.only k2 (by simp; exact n4), fun k => ?_, fun q hq => ?_⟩, m2, ?_, h.nd, syncD_fine hf⟩
  · have := (h.row.only k1 (by simp; exact n1)).only k2 (by simp; exact n2)
    simpa [Dk.cells, syncD] using this
  · show (lk k C).getD _ = secV ((findS k D.waits).getD (D.last k))
    cases e : findS k D.waits with
    | none =>
      rw [hc.2.1 k (.inl (by rw [lk_waL, e]; rfl)), hR.1 k]; rfl
    | some s =>
      rw [hc.1 k rfl (by rw [lk_waL, e]; rfl), lk_waL, e]; rfl
  · obtain ⟨x, hx, e⟩ := hc.2.2 q hq
    have hs : (syncD D).sectors = D.sectors := opD_sectors D
    rw [hs, ← e]
    rcases List.mem_append.1 hx with hx | hx
    · obtain ⟨y, hy, rfl⟩ := List.mem_map.1 hx
      exact ⟨(hf.wa y hy).1, (hf.wa y hy).2.1⟩
    · exact hR.2 x hx
  · have := (h.nm.only k1 (by simp; exact fun e => n5 e.symm)).only k2 (by simp; exact fun e => n6 e.symm)
    exact this
set_option maxRecDepth 100000 in
set_option maxHeartbeats 2000000 in
theorem sync_ok (w : World) (p bl bw bn : Nat) (D : Dk) (h : DkAt w p bl bw bn D) (ho : D.off = false) : Calls Try.prog 38 #[.pointer (some ⟨p, 0, none⟩)] w (SyncPost p bl bw bn D w) := by
  have T := there_at _ p bl bw bn _ h
  rw [ho] at T
  simp only [errOff] at T
  have T := Lib.hid T
  have O1 := Lib.hid (operate_at w p bl bw bn D h)
  have HF := Lib.hid h.fine
  have H := Lib.hid h
  clear h ho
  cases hoff : (opD D).off
  · have HX := Lib.hid hoff
    clear hoff
    go_enter Try.func38, Try.ntmps38
    go_wp2_with fail
    refine T.out.mono ?_
    rintro _ w' ⟨rfl, hw'⟩
    subst hw'
    go_wp2_with fail
    refine O1.out.mono ?_
    rintro _ w1 ⟨he, hd, ho, hs⟩
    rw [HX.out] at he
    subst he
    have HD := Lib.hid hd
    have HO := Lib.hid ho
    have E0 : errOff false = 0 := rfl
    clear hd ho hs T O1
    go_wp2_with fail
    have O3 : Hid (Only [] w1 w1.drew) := Lib.hid (Only.refl [] w1).drew
    have H3 : Hid (DkAt w1.drew p bl bw bn (opD D)) := Lib.hid (HD.out.only O3.out (by simp) (by simp) (by simp) (by simp))
    have e0 := H3.out.c0
    have e1 := H3.out.c1
    obtain ⟨L, hL, hR⟩ := H3.out.lm
    have HL := Lib.hid hL
    have HR := Lib.hid hR
    have HN := Lib.hid H3.out.nd
    have HW : Hid (MapAt w1.drew bw .i64 (waL D.waits)) := Lib.hid (opD_waits D ▸ H3.out.wm)
    clear hL hR
    refine wp_region_still_tail 8 (by kernel_rfl) (by kernel_rfl) ?_
    simp only [List.take_succ_cons, List.take_zero, List.drop_succ_cons, List.drop_zero]
    iterate 8 still_step
    refine wpStill_nil ?_
    change wpList _ _ _ _ _ w1.drew
    clear e0 e1
    have K1 := Lib.hid (copy_any bl bw D.waits L w1.drew (by have := HN.out; simp at this; omega) HW.out HL.out (fun q hq => (HF.out.wa q hq).2.2.1))
    go_wp2_with fail
    refine K1.out.mono ?_
    rintro _ w2 ⟨rfl, C, hm2, hc2, ho2⟩
    have e1 := (ho2.cell H3.out.row.lt (by have := HN.out; simp at this; simp; omega)).trans H3.out.c1
    go_wp2_with (refine wpList_clear_at rfl (.tmp 27) 57 rfl 3 84 .i64 Try.underlying57 bw (waL D.waits) rfl (HW.out.only ho2 (by have := HN.out; simp at this; simp; omega)) ?_; intro w3 hm3 ho3 hs3)
    go_ret
    refine ⟨by rw [HX.out]; rfl, ?_, ((((HO.out.sub (by simp)).and (O3.out.sub (by simp))).and (ho2.sub (by simp))).and (ho3.sub (by simp)))⟩
    rw [HX.out, if_neg (by simp)]
    refine H3.out.synced ?_ hc2 ho2 hm2 ho3 hm3 HF.out
    have := HR.out
    rw [opD_last, opD_sectors] at this
    exact this
  · have HX := Lib.hid hoff
    clear hoff
    go_enter Try.func38, Try.ntmps38
    go_wp2_with fail
    refine T.out.mono ?_
    rintro _ w' ⟨rfl, hw'⟩
    subst hw'
    go_wp2_with fail
    refine O1.out.mono ?_
    rintro _ w1 ⟨he, hd, ho, hs⟩
    rw [HX.out] at he
    subst he
    have HD := Lib.hid hd
    have HO := Lib.hid ho
    have E0 : errOff true = 6 := rfl
    clear hd ho hs T O1
    go_wp2_with fail
    go_ret
    refine ⟨by rw [HX.out]; rfl, ?_, HO.out.sub (by simp)⟩
    rw [HX.out, if_pos rfl]
    exact HD.out
end Go.Proofs.Ytekdogmhgijocaa.dk

/- Refused calls; the calls at the level of devices. -/
namespace Go.Proofs.Ytekdogmhgijocaa.dk
open Go.RowKit Go.ChangeShapes Go.WideShapes Go.ChangeAt
set_option linter.unusedVariables false

/-! ### the power is off -/
theorem there_off {w : World} {p bl bw bn : Nat} {D : Dk} (h : DkAt w p bl bw bn D) (ho : D.off = true) : Calls Try.prog 40 #[.pointer (some ⟨p, 0, none⟩)] w fun e w' => e = .returned (.int .i64 6) ∧ w' = w := by
  have T := there_at _ p bl bw bn _ h
  rw [ho] at T
  exact T
theorem write_off (w : World) (p bl bw bn : Nat) (D : Dk) (k : Int) (v : Value) (h : DkAt w p bl bw bn D) (ho : D.off = true) : Calls Try.prog 25 #[.pointer (some ⟨p, 0, none⟩), .int .i64 k, v] w fun e w' => e = .returned (.int .i64 6) ∧ w' = w := by
  have T := Lib.hid (there_off h ho)
  clear h ho
  go_enter Try.func25, Try.ntmps25
  go_wp2_with fail
  refine T.out.mono ?_
  rintro _ w' ⟨rfl, hw'⟩
  subst hw'
  go_wp2_with fail
  go_ret
  exact ⟨rfl, rfl⟩
theorem arm_off (w : World) (p bl bw bn : Nat) (D : Dk) (n : Int) (h : DkAt w p bl bw bn D) (ho : D.off = true) : Calls Try.prog 22 #[.pointer (some ⟨p, 0, none⟩), .int .i64 n] w fun e w' => e = .returned (.int .i64 6) ∧ w' = w := by
  have T := Lib.hid (there_off h ho)
  clear h ho
  go_enter Try.func22, Try.ntmps22
  go_wp2_with fail
  refine T.out.mono ?_
  rintro _ w' ⟨rfl, hw'⟩
  subst hw'
  go_wp2_with fail
  go_ret
  exact ⟨rfl, rfl⟩
theorem read_off (w : World) (p bl bw bn : Nat) (D : Dk) (k : Int) (h : DkAt w p bl bw bn D) (ho : D.off = true) : Calls Try.prog 30 #[.pointer (some ⟨p, 0, none⟩), .int .i64 k] w fun e w' => e = .returned (.tuple #[.slice none 0 0, .int .i64 6]) ∧ w' = w := by
  have T := Lib.hid (there_off h ho)
  clear h ho
  go_enter Try.func30, Try.ntmps30
  go_wp2_with fail
  refine T.out.mono ?_
  rintro _ w' ⟨rfl, hw'⟩
  subst hw'
  go_wp2_with fail
  go_ret2
  exact ⟨rfl, rfl⟩

/-! ### devices of a call -/
/-- In world w, behind W, block p is the device D of blocks F, all newer than W. -/
structure Dev (W w : World) (p : Nat) (D : Dk) (F : List Nat) : Prop where
  dk : DkF w W.heap.size p D F
  bl : Below W.heap.size W w
theorem Dev.only {W w w' : World} {p : Nat} {D : Dk} {F G : List Nat} (h : Dev W w p D F) (k : Only G w w') (hG : ∀ b ∈ G, b ∉ F) (hW : ∀ b ∈ G, W.heap.size ≤ b) : Dev W w' p D F :=
  ⟨h.dk.only k hG, h.bl.trans (k.toBelow h.bl.size hW)⟩
theorem Dev.none {W w w' : World} {p : Nat} {D : Dk} {F : List Nat} (h : Dev W w p D F) (k : Only [] w w') : Dev W w' p D F := h.only k (by simp) (by simp)
theorem Dev.ge {W w : World} {p : Nat} {D : Dk} {F : List Nat} (h : Dev W w p D F) : ∀ b ∈ F, W.heap.size ≤ b := h.dk.ge
theorem Dev.lt {W w : World} {p : Nat} {D : Dk} {F : List Nat} (h : Dev W w p D F) : ∀ b ∈ F, b < w.heap.size := h.dk.lt
theorem Dev.fine {W w : World} {p : Nat} {D : Dk} {F : List Nat} (h : Dev W w p D F) : D.Fine := h.dk.fine
/-- A call of a device that answers with a number. -/
def DoneTo (W : World) (p : Nat) (F : List Nat) (D' : Dk) (r : Int) (w : World) (e : Ending) (w' : World) : Prop := e = .returned (.int .i64 r) ∧ Dev W w' p D' F ∧ Only F w w'
theorem Dev.to {W w w' : World} {p bl bw bn : Nat} {D D' : Dk} {G : List Nat} (h : Dev W w p D [p, bl, bw, bn]) (hd : DkAt w' p bl bw bn D') (k : Only G w w') (hG : ∀ b ∈ G, b ∈ [p, bl, bw, bn]) : Dev W w' p D' [p, bl, bw, bn] ∧ Only [p, bl, bw, bn] w w' :=
  ⟨⟨⟨bl, bw, bn, hd, rfl, h.ge⟩, h.bl.trans (k.toBelow h.bl.size fun i hi => h.ge i (hG i hi))⟩, k.sub hG⟩
def stepW (D : Dk) (k : Int) (s : List Int) : Dk := if D.off = true then D else writeD D k s
def stepA (D : Dk) (n : Int) : Dk := if D.off = true then D else { D with armed := n }
theorem nodup_keys {D : Dk} (h : D.Fine) (hn : D.seen.Nodup) (hm : D.most = D.sectors) {k : Int} (h0 : 0 ≤ k) (h1 : k < D.sectors) : k ∈ D.seen ∨ (D.seen.length : Int) < D.most := by
  by_cases hk : k ∈ D.seen
  · exact .inl hk
  · right
    have h2 : ((k :: D.seen).map Int.toNat).Nodup := by
      rw [List.Nodup, List.pairwise_map]
      refine List.Pairwise.imp_of_mem ?_ (List.nodup_cons.2 ⟨hk, hn⟩)
      intro a b ha hb hne e
      have g : ∀ x ∈ k :: D.seen, 0 ≤ x := fun x hx => by
        rcases List.mem_cons.1 hx with rfl | hx
        · exact h0
        · exact (h.se x hx).1
      have := g a ha
      have := g b hb
      omega
    have := nodup_lt D.sectors.toNat _ h2 fun x hx => by
      simp only [List.mem_map] at hx
      obtain ⟨y, hy, rfl⟩ := hx
      rcases List.mem_cons.1 hy with rfl | hy
      · omega
      · have := h.se y hy; omega
    simp at this
    omega
theorem DkAt.seenNodup {w : World} {p bl bw bn : Nat} {D : Dk} (h : DkAt w p bl bw bn D) : D.seen.Nodup := by
  have := h.nm.nodup
  simpa [seL, List.map_map, Function.comp_def] using this
theorem write_dev {W w : World} {p : Nat} {D : Dk} {F : List Nat} (h : Dev W w p D F) {k : Int} {g off cap : Nat} {s : List Int} (h0 : 0 ≤ k) (h1 : k < D.sectors) (hm : D.most = D.sectors) (hs : IsSec s) (hg : Bytes w g off s) (hc : 128 ≤ cap) :
    Calls Try.prog 25 #[.pointer (some ⟨p, 0, none⟩), .int .i64 k, .slice (some ⟨g, off, none⟩) 128 cap] w (DoneTo W p F (stepW D k s) (errOff (stepW D k s).off) w) := by
  obtain ⟨bl, bw, bn, hd, rfl, hB⟩ := h.dk
  by_cases ho : D.off = true
  · refine (write_off w p bl bw bn D k _ hd ho).mono ?_
    rintro e w' ⟨rfl, rfl⟩
    rw [stepW, if_pos ho]
    exact ⟨by rw [ho]; rfl, h, Only.refl _ _⟩
  · have ho' : D.off = false := by simpa using ho
    refine (write_ok w p bl bw bn D k g off cap s hd ho' h0 h1 hs hg hc (nodup_keys hd.fine hd.seenNodup hm h0 h1)).mono ?_
    rintro e w' ⟨rfl, hd', k'⟩
    rw [stepW, if_neg ho]
    exact ⟨rfl, h.to hd' k' (by simp)⟩
theorem arm_dev {W w : World} {p : Nat} {D : Dk} {F : List Nat} (h : Dev W w p D F) {n : Int} (h0 : 0 ≤ n) (h1 : n ≤ 1073741824) :
    Calls Try.prog 22 #[.pointer (some ⟨p, 0, none⟩), .int .i64 n] w (DoneTo W p F (stepA D n) (errOff D.off) w) := by
  obtain ⟨bl, bw, bn, hd, rfl, hB⟩ := h.dk
  by_cases ho : D.off = true
  · refine (arm_off w p bl bw bn D n hd ho).mono ?_
    rintro e w' ⟨rfl, rfl⟩
    rw [stepA, if_pos ho]
    exact ⟨by rw [ho]; rfl, h, Only.refl _ _⟩
  · have ho' : D.off = false := by simpa using ho
    refine (arm_ok w p bl bw bn D n hd ho' h0 h1).mono ?_
    rintro e w' ⟨rfl, hd', k', _⟩
    rw [stepA, if_neg ho]
    exact ⟨by rw [ho']; rfl, h.to hd' k' (by simp)⟩
def ReadTo (W : World) (p : Nat) (F : List Nat) (D : Dk) (k : Int) (w : World) (e : Ending) (w' : World) : Prop := e = .returned (.tuple #[.slice (some ⟨w.heap.size, 0, none⟩) 128 128, .int .i64 0]) ∧ Bytes w' w.heap.size 0 (sectorD D k) ∧ Dev W w' p D F ∧ Only [] w w' ∧ w'.heap.size = w.heap.size + 1
theorem read_dev {W w : World} {p : Nat} {D : Dk} {F : List Nat} (h : Dev W w p D F) {k : Int} (ho : D.off = false) (h0 : 0 ≤ k) (h1 : k < D.sectors) :
    Calls Try.prog 30 #[.pointer (some ⟨p, 0, none⟩), .int .i64 k] w (ReadTo W p F D k w) := by
  obtain ⟨bl, bw, bn, hd, rfl, hB⟩ := h.dk
  refine (read_ok w p bl bw bn D k hd ho h0 h1).mono ?_
  rintro e w' ⟨rfl, hr, k', hs⟩
  refine ⟨rfl, ?_, h.none k', k', hs⟩
  have := hr.cells
  unfold Bytes
  simpa [bytesV] using this
theorem readoff_dev {W w : World} {p : Nat} {D : Dk} {F : List Nat} (h : Dev W w p D F) (k : Int) (ho : D.off = true) :
    Calls Try.prog 30 #[.pointer (some ⟨p, 0, none⟩), .int .i64 k] w fun e w' => e = .returned (.tuple #[.slice none 0 0, .int .i64 6]) ∧ w' = w := by
  obtain ⟨bl, bw, bn, hd, rfl, hB⟩ := h.dk
  exact read_off w p bl bw bn D k hd ho
def NewTo (W : World) (s m : Int) (w : World) (e : Ending) (w' : World) : Prop := ∃ p F, e = .returned (.tuple #[.pointer (some ⟨p, 0, none⟩), .int .i64 0]) ∧ Dev W w' p (newD s m) F ∧ Only [] w w' ∧ ∀ b ∈ F, w.heap.size ≤ b
theorem new_dev {W w : World} (hb : Below W.heap.size W w) (s m : Int) (h1 : 1 ≤ s) (h2 : s ≤ 65536) (h3 : 0 ≤ m) (h4 : m ≤ s) : Calls Try.prog 8 #[.int .i64 s, .int .i64 m] w (NewTo W s m w) := by
  refine (new_ok s m w h1 h2 h3 h4).mono ?_
  rintro e w' ⟨p, F, rfl, ⟨bl, bw, bn, hd, rfl, hB⟩, k'⟩
  have hs := hb.size
  exact ⟨p, _, rfl, ⟨⟨bl, bw, bn, hd, rfl, fun b hb' => Nat.le_trans hs (hB b hb')⟩, hb.trans (k'.toBelow hs (by simp))⟩, k', hB⟩
/-- A slice of 128 bytes as a string. -/
theorem conv_bytes {w : World} {b off cap : Nat} {s : List Int} (h : Bytes w b off s) (hl : s.length = 128) : (convert 32 9 (.slice (some ⟨b, off, none⟩) 128 cap)).run Try.prog w = .ok (.string (strOfNums s)) w :=
  run_convert_bytes_arg w 32 5 Try.underlying32 Try.underlying5 b off 128 cap s hl (fun i hi => by
    rw [h i (.int .u8 (s.getD i 0)) (by simp [List.getD, show i < s.length by omega])]) 9 Try.underlying9
end Go.Proofs.Ytekdogmhgijocaa.dk

/- known. -/
namespace Go.Proofs.Ytekdogmhgijocaa.dk
open Go.RowKit Go.ChangeShapes Go.WideShapes Go.ChangeAt
set_option linter.unusedVariables false

theorem newD_sectors (s m : Int) : (newD s m).sectors = s := rfl
/-- Whether the power is on, no operation is armed. -/
structure Calm (D : Dk) : Prop where
  off : D.off = false
  armed : D.armed = 0
theorem Calm.opD {D : Dk} (h : Calm D) : opD D = D := by unfold Go.Proofs.Ytekdogmhgijocaa.dk.opD; rw [h.armed]; simp
theorem Calm.write {D : Dk} (h : Calm D) (k : Int) (s : List Int) : stepW D k s = putD D k s := by
  have h2 : Calm (putD D k s) := ⟨h.off, h.armed⟩
  rw [stepW, if_neg (by rw [h.off]; simp), writeD, h2.opD]
theorem Calm.putD {D : Dk} (h : Calm D) (k : Int) (s : List Int) : Calm (putD D k s) := ⟨h.off, h.armed⟩
theorem calm_new (s m : Int) : Calm (newD s m) := ⟨rfl, rfl⟩
/-- String s of a sector, at any world at which the cells stand. -/
def ConvAt (b : Nat) (s : List Int) (x : World) : Prop := Bytes x b 0 s ∧ (convert 32 9 (.slice (some ⟨b, 0, none⟩) 128 128)).run Try.prog x = .ok (.string (strOfNums s)) x
theorem ConvAt.of {b : Nat} {s : List Int} {x : World} (h : Bytes x b 0 s) (hl : s.length = 128) : ConvAt b s x := ⟨h, conv_bytes h hl⟩
theorem ConvAt.only {b : Nat} {s : List Int} {x y : World} (h : ConvAt b s x) (k : Only [] x y) (hl : s.length = 128) : ConvAt b s y := .of (h.1.only k (by simp)) hl
end Go.Proofs.Ytekdogmhgijocaa.dk

/- Sync at the level of devices. -/
namespace Go.Proofs.Ytekdogmhgijocaa.dk
open Go.RowKit Go.ChangeShapes Go.WideShapes Go.ChangeAt
set_option linter.unusedVariables false
theorem sync_off (w : World) (p bl bw bn : Nat) (D : Dk) (h : DkAt w p bl bw bn D) (ho : D.off = true) : Calls Try.prog 38 #[.pointer (some ⟨p, 0, none⟩)] w fun e w' => e = .returned (.int .i64 6) ∧ w' = w := by
  have T := Lib.hid (there_off h ho)
  clear h ho
  go_enter Try.func38, Try.ntmps38
  go_wp2_with fail
  refine T.out.mono ?_
  rintro _ w' ⟨rfl, hw'⟩
  subst hw'
  go_wp2_with fail
  go_ret
  exact ⟨rfl, rfl⟩
def stepS (D : Dk) : Dk := if D.off = true then D else if (opD D).off = true then opD D else syncD D
theorem sync_dev {W w : World} {p : Nat} {D : Dk} {F : List Nat} (h : Dev W w p D F) :
    Calls Try.prog 38 #[.pointer (some ⟨p, 0, none⟩)] w (DoneTo W p F (stepS D) (errOff (stepS D).off) w) := by
  obtain ⟨bl, bw, bn, hd, rfl, hB⟩ := h.dk
  by_cases ho : D.off = true
  · refine (sync_off w p bl bw bn D hd ho).mono ?_
    rintro e w' ⟨rfl, rfl⟩
    rw [stepS, if_pos ho]
    exact ⟨by rw [ho]; rfl, h, Only.refl _ _⟩
  · have ho' : D.off = false := by simpa using ho
    refine (sync_ok w p bl bw bn D hd ho').mono ?_
    rintro e w' ⟨rfl, hd', k'⟩
    rw [stepS, if_neg ho]
    refine ⟨?_, h.to hd' k' (by simp)⟩
    by_cases h2 : (opD D).off = true
    · rw [if_pos h2]
    · rw [if_neg h2]; rfl
end Go.Proofs.Ytekdogmhgijocaa.dk

/- Calm devices synced. -/
namespace Go.Proofs.Ytekdogmhgijocaa.dk
open Go.RowKit Go.ChangeShapes Go.WideShapes Go.ChangeAt
set_option linter.unusedVariables false
def synD (D : Dk) : Dk := { D with last := fun k => (findS k D.waits).getD (D.last k), waits := [] }
theorem Calm.sync {D : Dk} (h : Calm D) : stepS D = synD D := by
  rw [stepS, if_neg (by rw [h.off]; simp), h.opD, if_neg (by rw [h.off]; simp), syncD, h.opD]; rfl
theorem Calm.synD {D : Dk} (h : Calm D) : Calm (synD D) := ⟨h.off, h.armed⟩
end Go.Proofs.Ytekdogmhgijocaa.dk
