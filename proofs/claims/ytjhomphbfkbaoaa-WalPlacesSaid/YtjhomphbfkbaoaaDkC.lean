/- Write, Read. -/
import Derived.Test.YtjhomphbfkbaoaaDkB
namespace Go.Proofs.Ytjhomphbfkbaoaa.dk
open Go.RowKit Go.ChangeShapes Go.WideShapes Go.ChangeAt
set_option linter.unusedVariables false

theorem zeroBool (w : World) : (zeroValue 4).run Try.prog w = .ok (.bool false) w := by kernel_rfl
/-! ### the lists -/
def upS (k : Int) (s : List Int) : List (Int × List Int) → List (Int × List Int)
  | [] => [(k, s)]
  | (j, u) :: r => if k = j then (j, s) :: r else (j, u) :: upS k s r
def findS (k : Int) : List (Int × List Int) → Option (List Int)
  | [] => none
  | (j, u) :: r => if k = j then some u else findS k r
def addK (k : Int) : List Int → List Int
  | [] => [k]
  | j :: r => if k = j then j :: r else j :: addK k r
theorem up_waL (k : Int) (s : List Int) : ∀ l, up k (secV s) (waL l) = waL (upS k s l)
  | [] => rfl
  | (j, u) :: r => by
    simp only [waL, List.map_cons, up, upS]
    by_cases h : k = j
    · rw [if_pos h, if_pos h]; simp
    · rw [if_neg h, if_neg h]
      have := up_waL k s r
      simp only [waL] at this
      simp [this]
theorem up_seL (k : Int) : ∀ l, up k (.bool true) (seL l) = seL (addK k l)
  | [] => rfl
  | j :: r => by
    simp only [seL, List.map_cons, up, addK]
    by_cases h : k = j
    · rw [if_pos h, if_pos h]; simp
    · rw [if_neg h, if_neg h]
      have := up_seL k r
      simp only [seL] at this
      simp [this]
theorem lk_waL (k : Int) : ∀ l, lk k (waL l) = (findS k l).map secV
  | [] => rfl
  | (j, u) :: r => by
    simp only [waL, List.map_cons, lk, findS]
    by_cases h : k = j
    · rw [if_pos h, if_pos h]; rfl
    · rw [if_neg h, if_neg h]; exact lk_waL k r
theorem lk_seL (k : Int) : ∀ l, lk k (seL l) = if k ∈ l then some (.bool true) else none
  | [] => by simp [seL, lk]
  | j :: r => by
    simp only [seL, List.map_cons, lk]
    by_cases h : k = j
    · rw [if_pos h, if_pos (by simp [h])]
    · rw [if_neg h]
      have := lk_seL k r
      simp only [seL] at this
      rw [this]
      simp [h]
theorem mem_upS {k : Int} {s : List Int} {p : Int × List Int} : ∀ {l}, p ∈ upS k s l → p = (k, s) ∨ p ∈ l
  | [], h => by simp [upS] at h; exact .inl h
  | (j, u) :: r, h => by
    simp only [upS] at h
    by_cases e : k = j
    · rw [if_pos e] at h
      rcases List.mem_cons.1 h with h | h
      · exact .inl (by rw [h, e])
      · exact .inr (List.mem_cons_of_mem _ h)
    · rw [if_neg e] at h
      rcases List.mem_cons.1 h with h | h
      · exact .inr (by rw [h]; exact List.mem_cons_self ..)
      · rcases mem_upS h with h | h
        · exact .inl h
        · exact .inr (List.mem_cons_of_mem _ h)
theorem mem_addK {k x : Int} : ∀ {l : List Int}, x ∈ addK k l ↔ x = k ∨ x ∈ l
  | [] => by simp [addK]
  | j :: r => by
    simp only [addK]
    by_cases e : k = j
    · rw [if_pos e, List.mem_cons, e]
      constructor
      · rintro (h | h)
        · exact .inl h
        · exact .inr (.inr h)
      · rintro (h | h | h)
        · exact .inl h
        · exact .inl h
        · exact .inr h
    · rw [if_neg e, List.mem_cons, List.mem_cons, mem_addK (l := r)]
      constructor
      · rintro (h | h | h)
        · exact .inr (.inl h)
        · exact .inl h
        · exact .inr (.inr h)
      · rintro (h | h | h)
        · exact .inr (.inl h)
        · exact .inl h
        · exact .inr (.inr h)
theorem findS_up {k j : Int} {s : List Int} : ∀ {l}, findS j (upS k s l) = if j = k then some s else findS j l
  | [] => by simp [upS, findS]
  | (i, u) :: r => by
    simp only [upS]
    by_cases e : k = i
    · rw [if_pos e]
      subst e
      simp only [findS]
      by_cases h : j = k
      · rw [if_pos h, if_pos h]
      · rw [if_neg h, if_neg h, if_neg h]
    · rw [if_neg e]
      simp only [findS]
      rw [findS_up (l := r)]
      by_cases h : j = i
      · rw [if_pos h, if_pos h, if_neg (by omega)]
      · rw [if_neg h, if_neg h]
/-! ### Write -/
def putD (D : Dk) (at_ : Int) (s : List Int) : Dk := { D with waits := upS at_ s D.waits, seen := addK at_ D.seen }
def writeD (D : Dk) (at_ : Int) (s : List Int) : Dk := opD (putD D at_ s)
theorem putD_fine {D : Dk} {k : Int} {s : List Int} (h : D.Fine) (h0 : 0 ≤ k) (h1 : k < D.sectors) (hs : IsSec s) : (putD D k s).Fine :=
  ⟨h.s0, h.s1, h.m0, h.m1, h.a0, h.a1, h.la, fun p hp => by
    rcases mem_upS hp with rfl | hp
    · exact ⟨h0, h1, hs⟩
    · exact h.wa p hp, fun x hx => by
    rcases mem_addK.1 hx with rfl | hx
    · exact ⟨h0, h1⟩
    · exact h.se x hx⟩
theorem DkAt.nw {w : World} {p bl bw bn : Nat} {D : Dk} (h : DkAt w p bl bw bn D) : ¬ p = bw := by
  have := h.nd; simp at this; omega
theorem DkAt.nwn {w : World} {p bl bw bn : Nat} {D : Dk} (h : DkAt w p bl bw bn D) : ¬ bw = bn := by
  have := h.nd; simp at this; omega
theorem DkAt.put {w w1 w2 : World} {p bl bw bn : Nat} {D : Dk} {k : Int} {s : List Int} (h : DkAt w p bl bw bn D) (k1 : Only [bw] w w1) (m1 : MapAt w1 bw .i64 (up k (secV s) (waL D.waits))) (k2 : Only [bn] w1 w2) (m2 : MapAt w2 bn .i64 (up k (.bool true) (seL D.seen)))
    (hf : (putD D k s).Fine) : DkAt w2 p bl bw bn (putD D k s) := by
  have hnd := h.nd
  simp only [List.nodup_cons, List.mem_cons, not_or, List.not_mem_nil, not_false_eq_true] at hnd
  obtain ⟨⟨n1, n2, n3, _⟩, ⟨n4, n5, _⟩, ⟨n6, _⟩, _⟩ := hnd
  obtain ⟨L, hL, hR⟩ := h.lm
  refine ⟨(h.row.only k1 (by simp; exact n2)).only k2 (by simp; exact n3), ⟨L, (hL.only k1 (by simp; exact n4)).only k2 (by simp; exact n5), hR⟩, ?_, ?_, h.nd, hf⟩
  · have := m1.only k2 (by simp; exact n6)
    rw [up_waL] at this; exact this
  · rw [up_seL] at m2; exact m2
/-- The bytes that a slice holds. -/
def Bytes (w : World) (b off : Nat) (s : List Int) : Prop := Cells w b off (s.map (Value.int .u8))
def WritePost (p bl bw bn : Nat) (D : Dk) (at_ : Int) (s : List Int) (w : World) (e : Ending) (w' : World) : Prop := e = .returned (.int .i64 (errOff (writeD D at_ s).off)) ∧ DkAt w' p bl bw bn (writeD D at_ s) ∧ Only [p, bw, bn] w w'
set_option maxRecDepth 100000 in
set_option maxHeartbeats 4000000 in
theorem write_ok (w : World) (p bl bw bn : Nat) (D : Dk) (at_ : Int) (g off cap : Nat) (s : List Int) (h : DkAt w p bl bw bn D) (ho : D.off = false) (h0 : 0 ≤ at_) (h1 : at_ < D.sectors) (hs : IsSec s) (hg : Bytes w g off s)
    (hc : 128 ≤ cap) (hm : at_ ∈ D.seen ∨ (D.seen.length : Int) < D.most) :
    Calls Try.prog 25 #[.pointer (some ⟨p, 0, none⟩), .int .i64 at_, .slice (some ⟨g, off, none⟩) 128 cap] w (WritePost p bl bw bn D at_ s w) := by
  have T := there_at _ p bl bw bn _ h
  rw [ho] at T
  simp only [errOff] at T
  have T := Lib.hid T
  have c1 := h.c1
  have c2 := h.c2
  have c3 := h.c3
  have c4 := h.c4
  have H := Lib.hid h
  have HS := Lib.hid hs
  have HG := Lib.hid hg
  have HO := Lib.hid ho
  have d1 : decide (at_ < 0) = false := decide_eq_false (by omega)
  have d2 : decide (D.sectors ≤ at_) = false := decide_eq_false (by omega)
  have hlook : ∀ x : World, (MapAt x bn .i64 (seL D.seen)) → (Instr.lookup 58 (.map (some bn)) (.int .i64 at_) false).run Try.prog x = .ok (.bool (decide (at_ ∈ D.seen))) x := fun x hx => by
    have := hx.look (P := Try.prog) Try.underlying58 Try.underlying3 (zeroBool x) at_ false
    rw [this, lk_seL]
    by_cases e : at_ ∈ D.seen
    · simp [e]
    · simp [e]
  have L0 : ∀ n, (Instr.lookup 58 (.map (some bn)) (.int .i64 at_) false).run Try.prog (w.drewN n) = .ok (.bool (decide (at_ ∈ D.seen))) (w.drewN n) := fun n => hlook _ (h.nm.only ((Only.refl [] w).drewN n) (by simp))
  clear hlook
  clear h ho hs hg
  have hin : decide (at_ ∈ D.seen) = true ∨ decide (at_ ∈ D.seen) = false ∧ decide (D.most ≤ (D.seen.length : Int)) = false := by
    by_cases e : at_ ∈ D.seen
    · exact .inl (decide_eq_true e)
    · exact .inr ⟨decide_eq_false e, decide_eq_false (by rcases hm with h | h; exact absurd h e; omega)⟩
  clear hm
  rcases hin with hin | ⟨hin, hin2⟩
  · rw [hin] at L0
    go_enter Try.func25, Try.ntmps25
    go_wp2_with fail
    refine T.out.mono ?_
    rintro _ w' ⟨rfl, hw'⟩
    subst hw'
    go_wp2_with fail
    go_quiet (fail)
    go_wp2_with fail
    have C2 : Hid (Only [] w' (w'.drewN nq)) := Lib.hid ((Only.refl [] w').drewN nq)
    have H2 : Hid (DkAt (w'.drewN nq) p bl bw bn D) := Lib.hid (H.out.only C2.out (by simp) (by simp) (by simp) (by simp))
    have HG2 : Hid (Bytes (w'.drewN nq) g off s) := Lib.hid (HG.out.only C2.out (by simp))
    generalize w'.drewN nq = w2 at *
    clear L0 T
    have O3 : Hid (Only [] w2 w2.drew) := Lib.hid (Only.refl [] w2).drew
    have H3 : Hid (DkAt w2.drew p bl bw bn D) := Lib.hid (H2.out.only O3.out (by simp) (by simp) (by simp) (by simp))
    have e1 := H3.out.c1
    clear c1 c2 c3 c4
    have AT := run_arrayAt (P := Try.prog) Try.underlying84 (some ⟨g, off, none⟩) 128 cap (Nat.le_refl _)
    refine wp_region_still_tail 8 (by kernel_rfl) (by kernel_rfl) ?_
    simp only [List.take_succ_cons, List.take_zero, List.drop_succ_cons, List.drop_zero]
    iterate 7 still_step
    refine wpStill_load_cells rfl 84 (.tmp 55) rfl g off rfl (s.map (Value.int .u8)) (HG2.out.only O3.out (by simp)) _ Try.underlying84 rfl (by rw [List.length_map, HS.out.1]; exact sizeSec) ?_
    simp only [Act.put, List.setIfInBounds_toArray, List.set_cons_succ, List.set_cons_zero]
    refine wpStill_nil ?_
    change wpList _ _ _ _ _ w2.drew
    clear AT e1
    go_wp2_with (first
      | (at_mapUpdate; refine wpList_update_at _ rfl (.tmp 52) (.tmp 53) (.tmp 56) 57 rfl 3 84 .i64 Try.underlying57 Try.underlying3 bw _ rfl H3.out.wm at_ (secV s) rfl rfl ?_; intro w4 hm4 ho4 hs4; have e2 := (ho4.cell H3.out.row.lt (by simp; exact H3.out.nw)).trans H3.out.c2)
      | (at_mapUpdate; refine wpList_update_at _ rfl (.tmp 60) (.tmp 61) (.const (.bool true)) 58 rfl 3 4 .i64 Try.underlying58 Try.underlying3 bn _ rfl (H3.out.nm.only ho4 (by simp; exact fun e => H3.out.nwn e.symm)) at_ (.bool true) rfl rfl ?_; intro w5 hm5 ho5 hs5)
      | (go_at_call 43; refine (operate_at w5 p bl bw bn _ (H3.out.put ho4 hm4 ho5 hm5 (putD_fine H3.out.fine h0 h1 HS.out))).mono ?_; rintro _ w6 ⟨rfl, hd6, ho6, hs6⟩))
    go_ret
    exact ⟨rfl, hd6, ((((C2.out.sub (by simp)).and (O3.out.sub (by simp))).and (ho4.sub (by simp))).and (ho5.sub (by simp))).and (ho6.sub (by simp))⟩
  · rw [hin] at L0
    go_enter Try.func25, Try.ntmps25
    go_wp2_with fail
    refine T.out.mono ?_
    rintro _ w' ⟨rfl, hw'⟩
    subst hw'
    go_wp2_with fail
    refine wp_region_quiet_lit (by kernel_rfl) (by kernel_rfl) ?_
    repeat (go_big_quiet_step (fail))
    refine wpQuiet_len_at rfl (.tmp 41) 58 rfl 3 4 .i64 Try.underlying58 bn (seL D.seen) rfl (by rintro _ ⟨n, rfl⟩; exact H.out.nm.only ((Only.refl [] _).drewN n) (by simp)) ?_
    rw [show (seL D.seen).length = D.seen.length by simp [seL]]
    simp only [Act.put, List.setIfInBounds_toArray, List.set_cons_succ, List.set_cons_zero]
    repeat (go_big_quiet_step (fail))
    refine wpQuiet_nil ?_
    intro _ hw2
    obtain ⟨nq, rfl⟩ := hw2
    go_wp2_with fail
    have C2 : Hid (Only [] w' (w'.drewN nq)) := Lib.hid ((Only.refl [] w').drewN nq)
    have H2 : Hid (DkAt (w'.drewN nq) p bl bw bn D) := Lib.hid (H.out.only C2.out (by simp) (by simp) (by simp) (by simp))
    have HG2 : Hid (Bytes (w'.drewN nq) g off s) := Lib.hid (HG.out.only C2.out (by simp))
    generalize w'.drewN nq = w2 at *
    clear L0 T
    have O3 : Hid (Only [] w2 w2.drew) := Lib.hid (Only.refl [] w2).drew
    have H3 : Hid (DkAt w2.drew p bl bw bn D) := Lib.hid (H2.out.only O3.out (by simp) (by simp) (by simp) (by simp))
    have e1 := H3.out.c1
    clear c1 c2 c3 c4
    have AT := run_arrayAt (P := Try.prog) Try.underlying84 (some ⟨g, off, none⟩) 128 cap (Nat.le_refl _)
    refine wp_region_still_tail 8 (by kernel_rfl) (by kernel_rfl) ?_
    simp only [List.take_succ_cons, List.take_zero, List.drop_succ_cons, List.drop_zero]
    iterate 7 still_step
    refine wpStill_load_cells rfl 84 (.tmp 55) rfl g off rfl (s.map (Value.int .u8)) (HG2.out.only O3.out (by simp)) _ Try.underlying84 rfl (by rw [List.length_map, HS.out.1]; exact sizeSec) ?_
    simp only [Act.put, List.setIfInBounds_toArray, List.set_cons_succ, List.set_cons_zero]
    refine wpStill_nil ?_
    change wpList _ _ _ _ _ w2.drew
    clear AT e1
    go_wp2_with (first
      | (at_mapUpdate; refine wpList_update_at _ rfl (.tmp 52) (.tmp 53) (.tmp 56) 57 rfl 3 84 .i64 Try.underlying57 Try.underlying3 bw _ rfl H3.out.wm at_ (secV s) rfl rfl ?_; intro w4 hm4 ho4 hs4; have e2 := (ho4.cell H3.out.row.lt (by simp; exact H3.out.nw)).trans H3.out.c2)
      | (at_mapUpdate; refine wpList_update_at _ rfl (.tmp 60) (.tmp 61) (.const (.bool true)) 58 rfl 3 4 .i64 Try.underlying58 Try.underlying3 bn _ rfl (H3.out.nm.only ho4 (by simp; exact fun e => H3.out.nwn e.symm)) at_ (.bool true) rfl rfl ?_; intro w5 hm5 ho5 hs5)
      | (go_at_call 43; refine (operate_at w5 p bl bw bn _ (H3.out.put ho4 hm4 ho5 hm5 (putD_fine H3.out.fine h0 h1 HS.out))).mono ?_; rintro _ w6 ⟨rfl, hd6, ho6, hs6⟩))
    go_ret
    exact ⟨rfl, hd6, ((((C2.out.sub (by simp)).and (O3.out.sub (by simp))).and (ho4.sub (by simp))).and (ho5.sub (by simp))).and (ho6.sub (by simp))⟩
/-! ### Read -/
def sectorD (D : Dk) (k : Int) : List Int := (findS k D.waits).getD (D.last k)
theorem sectorD_is {D : Dk} (h : D.Fine) (k : Int) : IsSec (sectorD D k) := by
  unfold sectorD
  cases e : findS k D.waits with
  | none => exact h.la k
  | some s =>
    have : ∀ l, findS k l = some s → (k, s) ∈ l := by
      intro l
      induction l with
      | nil => intro h; simp [findS] at h
      | cons x r ih =>
        obtain ⟨j, u⟩ := x
        intro h
        simp only [findS] at h
        by_cases e : k = j
        · rw [if_pos e] at h; cases h; rw [e]; exact List.mem_cons_self ..
        · rw [if_neg e] at h; exact List.mem_cons_of_mem _ (ih h)
    exact (h.wa _ (this _ e)).2.2
def ReadPost (D : Dk) (k : Int) (w : World) (e : Ending) (w' : World) : Prop := e = .returned (.tuple #[.slice (some ⟨w.heap.size, 0, none⟩) 128 128, .int .i64 0]) ∧ Row w' w.heap.size (bytesV (sectorD D k)) tSec ∧ Only [] w w' ∧ w'.heap.size = w.heap.size + 1
set_option maxRecDepth 100000 in
set_option maxHeartbeats 4000000 in
theorem read_ok (w : World) (p bl bw bn : Nat) (D : Dk) (at_ : Int) (h : DkAt w p bl bw bn D) (ho : D.off = false) (h0 : 0 ≤ at_) (h1 : at_ < D.sectors) :
    Calls Try.prog 30 #[.pointer (some ⟨p, 0, none⟩), .int .i64 at_] w (ReadPost D at_ w) := by
  have T := there_at _ p bl bw bn _ h
  rw [ho] at T
  simp only [errOff] at T
  have T := Lib.hid T
  have c1 := h.c1
  have c0 := h.c0
  have c3 := h.c3
  have plt := h.row.lt
  have H := Lib.hid h
  have HO := Lib.hid ho
  have d1 : decide (at_ < 0) = false := decide_eq_false (by omega)
  have d2 : decide (D.sectors ≤ at_) = false := decide_eq_false (by omega)
  clear h ho
  have HZ := Lib.hid zeroSec'
  go_enter Try.func30, Try.ntmps30
  go_wp2_with fail
  refine T.out.mono ?_
  rintro _ w' ⟨rfl, hw'⟩
  subst hw'
  cases hf : findS at_ D.waits with
  | none =>
    have hs : sectorD D at_ = D.last at_ := by unfold sectorD; rw [hf]; rfl
    have hl : lk at_ (waL D.waits) = none := by rw [lk_waL, hf]; rfl
    have HL := Lib.hid hl
    obtain ⟨L, hL, hR⟩ := H.out.lm
    have h128 := (H.out.fine.la at_).1
    have HM := Lib.hid hL
    have HR := Lib.hid hR.1
    have HF := Lib.hid hs
    have blt := hL.lt
    clear hl hL hR hs hf
    go_wp2_with (first
      | (at_lookup; refine wpList_look_at _ rfl (.tmp 28) (.tmp 29) 57 true rfl 3 84 .i64 Try.underlying57 Try.underlying3 _ HZ.out bw _ rfl H.out.wm at_ rfl ?_; rw [HL.out])
      | (refine wpList_alloc_at rfl 84 rfl _ zeroSec ?_; intro w1 hr1 ho1 hs1; have k1 := (ho1.cell plt (by simp)).trans c0)
      | (refine wpList_store_at rfl 84 (.tmp 7) (.tmp 31) rfl w'.heap.size rfl (bytesV blank) rfl _ _ hr1 (by rw [bytesV_size]; exact sizeSec) (by rw [bytesV_size, Array.size_replicate]; rfl) (bytesV_one _) ?_; intro w2 hr2 ho2 hs2; have k2 := (ho2.cell (by omega) (by simp; omega)).trans k1)
      | (at_lookup; refine wpList_look_at _ rfl (.tmp 38) (.tmp 39) 57 false rfl 3 84 .i64 Try.underlying57 Try.underlying3 _ HZ.out bl _ rfl ((HM.out.only ho1 (by simp)).only ho2 (by simp; omega)) at_ rfl ?_; rw [if_neg (by simp), HR.out at_])
      | (refine wpList_store_at rfl 84 (.tmp 7) (.tmp 40) rfl w'.heap.size rfl (bytesV (D.last at_)) rfl _ _ hr2 (by rw [bytesV_size, h128]; exact sizeSec) (by rw [bytesV_size, bytesV_size, h128]; simp [blank]) (bytesV_one _) ?_; intro w3 hr3 ho3 hs3))
    go_ret2
    rw [← HF.out] at hr3
    exact ⟨rfl, hr3, (ho1.trans ho2 (by simp)).trans ho3 (by simp), by omega⟩
  | some s =>
    have hs : sectorD D at_ = s := by unfold sectorD; rw [hf]; rfl
    have hl : lk at_ (waL D.waits) = some (secV s) := by rw [lk_waL, hf]; rfl
    have HL := Lib.hid hl
    have h128 : s.length = 128 := hs ▸ (sectorD_is H.out.fine at_).1
    have HF := Lib.hid hs
    clear hl hs hf
    go_wp2_with (first
      | (at_lookup; refine wpList_look_at _ rfl (.tmp 28) (.tmp 29) 57 true rfl 3 84 .i64 Try.underlying57 Try.underlying3 _ HZ.out bw _ rfl H.out.wm at_ rfl ?_; rw [HL.out])
      | (refine wpList_alloc_at rfl 84 rfl _ zeroSec ?_; intro w1 hr1 ho1 hs1; have k1 := (ho1.cell plt (by simp)).trans c0)
      | (refine wpList_store_at rfl 84 (.tmp 7) (.tmp 31) rfl w'.heap.size rfl (bytesV s) rfl _ _ hr1 (by rw [bytesV_size, h128]; exact sizeSec) (by rw [bytesV_size, Array.size_replicate, h128]) (bytesV_one _) ?_; intro w2 hr2 ho2 hs2; have k2 := (ho2.cell (by omega) (by simp; omega)).trans k1))
    go_ret2
    rw [← HF.out] at hr2
    exact ⟨rfl, hr2, ho1.trans ho2 (by simp), by omega⟩
end Go.Proofs.Ytjhomphbfkbaoaa.dk
