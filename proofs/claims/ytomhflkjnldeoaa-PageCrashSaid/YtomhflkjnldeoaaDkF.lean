/- Crash. -/
import Derived.Test.YtomhflkjnldeoaaDkE
import Derived.Laws.BitsAllLaws
import Derived.Deep.Cut
import Derived.Deep.CutRange
namespace Go.Proofs.Ytomhflkjnldeoaa.dk
open Go.RowKit Go.ChangeShapes Go.WideShapes Go.ChangeAt
set_option linter.unusedVariables false

def pickAt (pk : List Int) (i : Nat) : Int := if i < pk.length then (pk[i]?.getD 0) % 4 else 0
def mixA (c : Int) (s old : List Int) : List Int := if c % 2 = 0 then s.take 64 ++ old.drop 64 else s
def mixS (c : Int) (s old : List Int) : List Int := if c = 0 ∨ c = 3 then old.take 64 ++ (mixA c s old).drop 64 else mixA c s old
def lastC (D : Dk) (pk : List Int) : Nat → Int → List Int
  | 0 => D.last
  | i + 1 => fun k => if k = (keysD D)[i]?.getD 0 then mixS (pickAt pk i) ((findS k D.waits).getD blank) (lastC D pk i k) else lastC D pk i k
def midD (D : Dk) (pk : List Int) (i : Nat) : Dk := { D with last := lastC D pk i }
def crashD (D : Dk) (pk : List Int) : Dk := { D with last := lastC D pk D.waits.length, waits := [], armed := 0, off := false }
def CrashInv (p bl bw bn : Nat) (D : Dk) (pk : List Int) (kv : Value) (i : Nat) (w wr : World) : Prop := DkAt wr p bl bw bn (midD D pk i) ∧ Only [bl] w wr ∧ wr.ownsRow w.heap.size 3 1 kv D.waits.length ((keysD D).map (Value.int .i64))
def CrashPost (p bl bw bn : Nat) (D : Dk) (pk : List Int) (w : World) (e : Ending) (w' : World) : Prop := e = .returned (.int .i64 0) ∧ DkAt w' p bl bw bn (crashD D pk) ∧ Only [p, bl, bw] w w'
theorem findS_ne {q : Int × List Int} : ∀ {l : List (Int × List Int)}, q ∈ l → findS q.1 l ≠ none
  | [], h => by simp at h
  | (j, u) :: r, h => by
    simp only [findS]
    by_cases e : q.1 = j
    · rw [if_pos e]; simp
    · rw [if_neg e]
      rcases List.mem_cons.1 h with h | h
      · exact absurd (by rw [h]) e
      · exact findS_ne h
theorem mixA_len {c : Int} {s old : List Int} (h1 : s.length = 128) (h2 : old.length = 128) : (mixA c s old).length = 128 := by
  unfold mixA; split
  · simp; omega
  · exact h1
theorem mixS_len {c : Int} {s old : List Int} (h1 : s.length = 128) (h2 : old.length = 128) : (mixS c s old).length = 128 := by
  have := mixA_len (c := c) h1 h2
  unfold mixS; split
  · simp; omega
  · exact this
theorem mixS_is {c : Int} {s old : List Int} (h1 : IsSec s) (h2 : IsSec old) : IsSec (mixS c s old) := by
  refine ⟨mixS_len h1.1 h2.1, fun x hx => ?_⟩
  have hA : ∀ x ∈ mixA c s old, 0 ≤ x ∧ x < 256 := by
    intro x hx
    unfold mixA at hx
    split at hx
    · rcases List.mem_append.1 hx with h | h
      · exact h1.2 x (List.mem_of_mem_take h)
      · exact h2.2 x (List.mem_of_mem_drop h)
    · exact h1.2 x hx
  unfold mixS at hx
  split at hx
  · rcases List.mem_append.1 hx with h | h
    · exact h2.2 x (List.mem_of_mem_take h)
    · exact hA x (List.mem_of_mem_drop h)
  · exact hA x hx
theorem row_hi {w : World} {b : Nat} {T : TypeId} {t : List Int} (h : Row w b (bytesV t) T) : Cells w b 64 ((t.drop 64).map (Value.int .u8)) := fun j v hj => by
  rw [h.cell, bytesV]
  rw [List.getElem?_map, List.getElem?_drop] at hj
  simpa using hj
theorem row_lo {w : World} {b : Nat} {T : TypeId} {t : List Int} (h : Row w b (bytesV t) T) : Cells w b 0 ((t.take 64).map (Value.int .u8)) := fun j v hj => by
  rw [h.cell, bytesV, Nat.zero_add]
  rw [List.getElem?_map, List.getElem?_take] at hj
  split at hj
  · simpa using hj
  · simp at hj
theorem splice_hi {s t : List Int} (h1 : s.length = 128) (h2 : t.length = 128) : (splice (bytesV s).toList 64 ((t.drop 64).map (Value.int .u8))).toArray = bytesV (s.take 64 ++ t.drop 64) := by
  simp [splice, bytesV, h1, h2]
theorem splice_lo {s t : List Int} (h1 : s.length = 128) (h2 : t.length = 128) : (splice (bytesV s).toList 0 ((t.take 64).map (Value.int .u8))).toArray = bytesV (t.take 64 ++ s.drop 64) := by
  simp [splice, bytesV, h2]
theorem and3 (x : Int) (h0 : 0 ≤ x) (h1 : x < 256) : bits .and .u8 x 3 = x % 4 := by
  rw [u8_and x 3 h0 h1 (by omega) (by omega)]
  have : x.toNat &&& (3 : Int).toNat = x.toNat % 4 := Nat.and_two_pow_sub_one_eq_mod x.toNat 2
  rw [this]; omega
theorem byteSize : (Try.prog.info? 5).map (·.size) = some 1 := by kernel_rfl
theorem crash_step {w wr w9 w10 : World} {p bl bw bn : Nat} {D : Dk} {pk : List Int} {kv : Value} {i : Nat} {kk : Int} {s old mx : List Int} {L : List (Int × Value)} (hbl : bl < w.heap.size) (hd : DkAt wr p bl bw bn (midD D pk i)) (ho : Only [bl] w wr)
    (hv : wr.ownsRow w.heap.size 3 1 kv D.waits.length ((keysD D).map (Value.int .i64))) (hk : kk = (keysD D)[i]?.getD 0) (hs : findS kk D.waits = some s) (hold : old = lastC D pk i kk) (hmx : mx = mixS (pickAt pk i) s old)
    (hR : Reads (midD D pk i).last (midD D pk i).sectors L) (o9 : Only [] wr w9) (m9 : MapAt w10 bl .i64 (up kk (secV mx) L)) (o10 : Only [bl] w9 w10) : CrashInv p bl bw bn D pk kv (i + 1) w w10 := by
  have hnd := hd.nd
  simp only [List.nodup_cons, List.mem_cons, not_or, List.not_mem_nil, not_false_eq_true] at hnd
  obtain ⟨⟨n1, n2, n3, _⟩, ⟨n4, n5, _⟩, ⟨n6, _⟩, _⟩ := hnd
  have hw := hd.fine.wa _ (findS_mem hs)
  have ho1 : Only [bl] wr w10 := (o9.sub (by simp)).and o10
  have e : ∀ k, lastC D pk (i + 1) k = if k = kk then mx else lastC D pk i k := fun k => by
    simp only [lastC, ← hk]
    by_cases h : k = kk
    · rw [if_pos h, if_pos h, hmx, hold, h, hs]; rfl
    · rw [if_neg h, if_neg h]
  refine ⟨⟨?_, ⟨_, m9, fun k => ?_, fun q hq => ?_⟩, hd.wm.only ho1 (by simp; exact fun e => n4 e.symm), hd.nm.only ho1 (by simp; exact fun e => n5 e.symm), hd.nd, ?_⟩, ho.and ho1, ?_⟩
  · exact hd.row.only ho1 (by simp; exact n1)
  · rw [lk_up]
    show _ = secV (lastC D pk (i + 1) k)
    rw [e k]
    by_cases h : k = kk
    · rw [if_pos h, if_pos h]; rfl
    · rw [if_neg h, if_neg h]; exact hR.1 k
  · rcases mem_up hq with rfl | hq
    · exact ⟨hw.1, hw.2.1⟩
    · exact hR.2 q hq
  · have hf := hd.fine
    refine ⟨hf.s0, hf.s1, hf.m0, hf.m1, hf.a0, hf.a1, fun k => ?_, hf.wa, hf.se⟩
    show IsSec (lastC D pk (i + 1) k)
    rw [e k]
    by_cases h : k = kk
    · rw [if_pos h, hmx, hold]
      exact mixS_is hw.2.2 (hf.la kk)
    · rw [if_neg h]; exact hf.la k
  · exact own_keep hv fun g hg => by
      have := hv.lt g hg
      exact ho1.block g this.2 (by simp; omega)
theorem crash_end {wr w3 : World} {p bl bw bn n : Nat} {D : Dk} {pk : List Int} (hd : DkAt wr p bl bw bn (midD D pk n)) (hn : n = D.waits.length) (o3 : Only [bw] wr w3) (m3 : MapAt w3 bw .i64 []) :
    DkAt ((w3.setCell ⟨p, 6, none⟩ (.bool false)).setCell ⟨p, 5, none⟩ (.int .i64 0)) p bl bw bn (crashD D pk) := by
  have hnd := hd.nd
  simp only [List.nodup_cons, List.mem_cons, not_or, List.not_mem_nil, not_false_eq_true] at hnd
  obtain ⟨⟨n1, n2, n3, _⟩, ⟨n4, n5, _⟩, ⟨n6, _⟩, _⟩ := hnd
  have ho : Only [p] w3 ((w3.setCell ⟨p, 6, none⟩ (.bool false)).setCell ⟨p, 5, none⟩ (.int .i64 0)) := ((Only.refl [p] _).setCell (by simp) _).setCell (by simp) _
  obtain ⟨L, hL, hR⟩ := hd.lm
  have hf := hd.fine
  refine ⟨?_, ⟨L, (hL.only o3 (by simp; exact n4)).only ho (by simp; exact fun e => n1 e.symm), ?_⟩, m3.only ho (by simp; exact fun e => n2 e.symm), (hd.nm.only o3 (by simp; exact fun e => n6 e.symm)).only ho (by simp; exact fun e => n3 e.symm), hd.nd, ?_⟩
  · have := ((hd.row.only o3 (by simp; exact n2)).set 6 (.bool false)).set 5 (.int .i64 0)
    simpa [Dk.cells, crashD, midD] using this
  · rw [hn] at hR; exact hR
  · refine ⟨hf.s0, hf.s1, hf.m0, hf.m1, by simp [crashD], by simp [crashD], ?_, by simp [crashD], hf.se⟩
    rw [hn] at hf; exact hf.la
theorem errOff_ne1 (b : Bool) : (errOff b == 1) = false := by cases b <;> rfl
set_option maxRecDepth 100000 in
set_option maxHeartbeats 8000000 in
theorem crash_at (w : World) (p bl bw bn : Nat) (D : Dk) (ap : Option Addr) (m cp : Nat) (pk : List Int) (h : DkAt w p bl bw bn D) (hm : pk.length = m) (hpk : Ints .u8 w (.slice ap m cp) pk) (hb : ∀ x ∈ pk, 0 ≤ x ∧ x < 256) (hap : 0 < m → ∀ a, ap = some a → a.block ≠ bl) :
    Calls Try.prog 23 #[.pointer (some ⟨p, 0, none⟩), .slice ap m cp] w (CrashPost p bl bw bn D pk w) := by
  have T := Lib.hid (there_at _ p bl bw bn _ h)
  have K := Lib.hid (waits_at _ p bl bw bn _ h)
  have H := Lib.hid h
  have HM := Lib.hid hm
  have HPK := Lib.hid hpk
  have HB := Lib.hid hb
  have E1 := errOff_ne1 D.off
  have few := h.fine.few h.keysNodup
  have hbl : bl < w.heap.size := h.lt bl (by simp)
  obtain ⟨n, hn⟩ : ∃ n, n = D.waits.length := ⟨_, rfl⟩
  rw [← hn] at few
  have HN := Lib.hid hn
  clear h hm hpk hb hn
  go_enter Try.func23, Try.ntmps23
  go_wp2_with fail
  refine T.out.mono ?_
  rintro _ w' ⟨rfl, hw'⟩
  subst hw'
  go_wp2_with fail
  refine K.out.mono ?_
  rintro _ w2 ⟨v, rfl, hv, hb2⟩
  rw [← HN.out] at hv
  obtain ⟨ad, cv, rfl, hc1, hc2⟩ := own_shape hv
  have I0 : Hid (CrashInv p bl bw bn D pk (.slice ad n cv) 0 w' w2) := Lib.hid ⟨H.out.only ((Only.refl [] w').below hb2) (by simp) (by simp) (by simp) (by simp), (Only.refl [bl] w').below hb2, HN.out ▸ hv⟩
  clear hv hb2 T K
  go_wp2_with fail
  go_loopw [5, 6, 7, 8, 9, 16] (fun _ _ _ _ _ u wr => ∃ i : Nat, i ≤ n ∧ u = .int .i64 i ∧ Hid (CrashInv p bl bw bn D pk (.slice ad n cv) i w' wr)) (fun _ _ _ _ _ u _ => n - (intOf u).toNat)
  case atStart => exact ⟨0, by omega, rfl, I0⟩
  case round =>
    obtain ⟨i, hi, rfl, HI⟩ := hrel
    have hi0 : (0 : Int) ≤ (i : Int) := Int.natCast_nonneg _
    by_cases hlt : i < n
    · have d1 : decide ((i : Int) < (n : Int)) = true := decide_eq_true (by omega)
      have hiln : (i : Int) < (n : Int) := by omega
      obtain ⟨hd, ho, hv⟩ := HI.out
      have hkl := keysD_len D
      rw [← HN.out] at hkl
      obtain ⟨b1, o1, c1, hv1, hcell⟩ := (ints_own hv).shape (by omega)
      rw [hkl] at hv1
      simp only [Value.slice.injEq] at hv1
      obtain ⟨rfl, _, rfl⟩ := hv1
      have C1 := hcell i (by omega)
      have e0 := hd.c0
      have e1 := hd.c1
      obtain ⟨kk, hkk⟩ : ∃ kk, kk = (keysD D)[i]?.getD 0 := ⟨_, rfl⟩
      rw [← hkk] at C1
      have HKK := Lib.hid hkk
      have HD := Lib.hid hd
      have HO := Lib.hid ho
      have HV := Lib.hid hv
      have hin : ∃ s, findS kk D.waits = some s := by
        have h1 : kk ∈ keysD D := by
          rw [hkk, List.getElem?_eq_getElem (by omega)]
          exact List.getElem_mem _
        have h2 := (sortI_perm _).mem_iff.1 h1
        obtain ⟨q, hq, e⟩ := List.mem_map.1 h2
        cases hf : findS kk D.waits with
        | some s => exact ⟨s, rfl⟩
        | none => exact absurd hf (by rw [← e]; exact findS_ne hq)
      obtain ⟨s, hs⟩ := hin
      have hs128 := (H.out.fine.wa _ (findS_mem hs)).2.2.1
      obtain ⟨old, hold⟩ : ∃ old, old = lastC D pk i kk := ⟨_, rfl⟩
      have ho128 : old.length = 128 := by rw [hold]; exact (hd.fine.la kk).1
      have look1 : ∀ x, MapAt x bw .i64 (waL D.waits) → (Instr.lookup 68 (.map (some bw)) (.int .i64 kk) false).run Try.prog x = .ok (.agg (bytesV s)) x := fun x hx => by
        rw [hx.look (P := Try.prog) Try.underlying68 Try.underlying3 (zeroSec' x) kk false, lk_waL, hs]; rfl
      obtain ⟨L, hL, hR⟩ := hd.lm
      have look2 : ∀ x, MapAt x bl .i64 L → (Instr.lookup 68 (.map (some bl)) (.int .i64 kk) false).run Try.prog x = .ok (.agg (bytesV old)) x := fun x hx => by
        rw [hx.look (P := Try.prog) Try.underlying68 Try.underlying3 (zeroSec' x) kk false, if_neg (by simp), hR.1 kk, hold]; rfl
      have M1 : Hid (∀ F x, Only F wr x → bw ∉ F → MapAt x bw .i64 (waL D.waits)) := Lib.hid fun F x hx hn => hd.wm.only hx hn
      have M2 : Hid (∀ F x, Only F wr x → bl ∉ F → MapAt x bl .i64 L) := Lib.hid fun F x hx hn => hL.only hx hn
      have HS := Lib.hid hs
      have HLL := Lib.hid hR
      have HOLD := Lib.hid hold
      have LK1 := Lib.hid look1
      have LK2 := Lib.hid look2
      have plt := hd.row.lt
      clear look1 look2 hL hR hd ho hv hcell hs hold hkk HI I0
      go_upto_region 6 with fail
      go_cut [7, 8, 16] from 16 to 63 (fun s7 s8 s16 wc => ∃ b7 b8 : Nat, s7 = .pointer (some ⟨b7, 0, none⟩) ∧ s8 = .pointer (some ⟨b8, 0, none⟩) ∧ s16 = .int .i64 i ∧ Hid (Row wc b7 (bytesV s) tSec) ∧ Hid (Row wc b8 (bytesV old) tSec) ∧ Hid (Only [] wr wc) ∧ wr.heap.size ≤ b7 ∧ b7 ≠ b8)
      case first =>
        have SO : Hid (∀ x, Only [] wr x → x.cell? ⟨p, 0, none⟩ = some (.map (some bl)) ∧ x.cell? ⟨p, 1, none⟩ = some (.map (some bw)) ∧ (Instr.lookup 68 (.map (some bw)) (.int .i64 kk) false).run Try.prog x = .ok (.agg (bytesV s)) x ∧ (Instr.lookup 68 (.map (some bl)) (.int .i64 kk) false).run Try.prog x = .ok (.agg (bytesV old)) x) := Lib.hid fun x hx => ⟨(hx.cell plt (by simp)).trans e0, (hx.cell plt (by simp)).trans e1, LK1.out _ (M1.out [] _ hx (by simp)), LK2.out _ (M2.out [] _ hx (by simp))⟩
        have z1 : (bytesV s).size = 128 := by rw [bytesV_size, hs128]
        have z2 : (bytesV old).size = 128 := by rw [bytesV_size, ho128]
        have q1 : ∀ v ∈ s.map (Value.int .u8), v.oneCell' = true := fun v hv => by obtain ⟨x, _, rfl⟩ := List.mem_map.1 hv; rfl
        have q2 : ∀ v ∈ old.map (Value.int .u8), v.oneCell' = true := fun v hv => by obtain ⟨x, _, rfl⟩ := List.mem_map.1 hv; rfl
        have hZ : (Try.zeroCells80).size = 128 := by kernel_rfl
        have r1 : Row (((wr.alloc (.cells Try.zeroCells80 80)).alloc (.cells Try.zeroCells80 80)).drew) wr.heap.size Try.zeroCells80 80 :=
          (Row.made wr _ _).only (((Only.refl [] _).alloc _).drew) (by simp)
        have r2 : Row (((wr.alloc (.cells Try.zeroCells80 80)).alloc (.cells Try.zeroCells80 80)).drew) (wr.heap.size + 1) Try.zeroCells80 80 := by
          have := (Row.made (wr.alloc (.cells Try.zeroCells80 80)) Try.zeroCells80 80).only ((Only.refl [] _).drew) (by simp)
          rw [show (wr.alloc (.cells Try.zeroCells80 80)).heap.size = wr.heap.size + 1 by simp] at this
          exact this
        have R1 := Lib.hid r1
        have R2 := Lib.hid r2
        have th1 : (((wr.alloc (.cells Try.zeroCells80 80)).alloc (.cells Try.zeroCells80 80)).drew).there wr.heap.size 0 (s.map (Value.int .u8)).length := by
          have := r1.there
          rw [hZ] at this
          rw [List.length_map, hs128]; exact this
        have th2 : (((wr.alloc (.cells Try.zeroCells80 80)).alloc (.cells Try.zeroCells80 80)).drew).there (wr.heap.size + 1) 0 (old.map (Value.int .u8)).length := by
          have := r2.there
          rw [hZ] at this
          rw [List.length_map, ho128]; exact this
        clear r1 r2
        have i1 : Option.map (fun x => x.size) (Try.prog.info? 80) = some (s.map (Value.int .u8)).length := by rw [List.length_map, hs128]; exact sizeSec
        have i2 : Option.map (fun x => x.size) (Try.prog.info? 80) = some (old.map (Value.int .u8)).length := by rw [List.length_map, ho128]; exact sizeSec
        have th3 := World.there_setCells th2 wr.heap.size 0 (s.map (Value.int .u8))
        have th4 := th2
        rw [show (old.map (Value.int .u8)).length = (s.map (Value.int .u8)).length by rw [List.length_map, List.length_map, hs128, ho128]] at th4
        have th5 := th1
        rw [show (s.map (Value.int .u8)).length = (old.map (Value.int .u8)).length by rw [List.length_map, List.length_map, hs128, ho128]] at th5
        have th6 := World.there_setCells th5 (wr.heap.size + 1) 0 (s.map (Value.int .u8))
        have two := two_rows wr Try.zeroCells80 80 (s.map (Value.int .u8)) (old.map (Value.int .u8)) (by rw [List.length_map, hs128, hZ]) (by rw [List.length_map, ho128, hZ])
        have two' := two_rows' wr Try.zeroCells80 80 (s.map (Value.int .u8)) (old.map (Value.int .u8)) (by rw [List.length_map, hs128, hZ]) (by rw [List.length_map, ho128, hZ])
        obtain ⟨WA, hWA⟩ : ∃ W, W = ((((wr.alloc (.cells Try.zeroCells80 80)).alloc (.cells Try.zeroCells80 80)).drew.setCells wr.heap.size 0 (s.map (Value.int .u8))).setCells (wr.heap.size + 1) 0 (old.map (Value.int .u8))) := ⟨_, rfl⟩
        obtain ⟨WB, hWB⟩ : ∃ W, W = ((((wr.alloc (.cells Try.zeroCells80 80)).alloc (.cells Try.zeroCells80 80)).drew.setCells (wr.heap.size + 1) 0 (s.map (Value.int .u8))).setCells wr.heap.size 0 (old.map (Value.int .u8))) := ⟨_, rfl⟩
        rw [← hWA] at two
        rw [← hWB] at two'
        have FA := Lib.hid two
        have FB := Lib.hid two'
        have HWA := Lib.hid hWA
        have HWB := Lib.hid hWB
        clear two two' hWA hWB
        go_region_held3 (fun x => x.cell? ⟨p, 0, none⟩ = some (.map (some bl)) ∧ x.cell? ⟨p, 1, none⟩ = some (.map (some bw)) ∧ (Instr.lookup 68 (.map (some bw)) (.int .i64 kk) false).run Try.prog x = .ok (.agg (bytesV s)) x ∧ (Instr.lookup 68 (.map (some bl)) (.int .i64 kk) false).run Try.prog x = .ok (.agg (bytesV old)) x)
          (first
            | exact SO.out _ (Only.refl [] _).drew
            | exact SO.out _ ((Only.refl [] _).drew.alloc _)
            | exact SO.out _ (((Only.refl [] _).drew.alloc _).alloc _)
            | exact SO.out _ (((Only.refl [] _).alloc _).alloc _).drew
            | exact SO.out _ (Only.setCells (.inr (Nat.le_succ _)) _ _ (((Only.refl [] _).alloc _).alloc _).drew)
            | exact SO.out _ (Only.setCells (.inr (Nat.le_refl _)) _ _ (Only.setCells (.inr (Nat.le_succ _)) _ _ (((Only.refl [] _).alloc _).alloc _).drew))
            | exact SO.out _ (Only.setCells (.inr (Nat.le_refl _)) _ _ (((Only.refl [] _).alloc _).alloc _).drew)
            | exact SO.out _ (Only.setCells (.inr (Nat.le_succ _)) _ _ (Only.setCells (.inr (Nat.le_refl _)) _ _ (((Only.refl [] _).alloc _).alloc _).drew)))
          (first | fail)
        all_goals (try go_wp2_with fail)
        all_goals go_meet
        all_goals (
          first
            | (rw [← HWA.out]
               exact ⟨_, _, rfl, rfl, rfl, Lib.hid FA.out.1, Lib.hid FA.out.2.1, Lib.hid FA.out.2.2, Nat.le_refl _, by omega⟩)
            | (rw [← HWB.out]
               exact ⟨_, _, rfl, rfl, rfl, Lib.hid FB.out.1, Lib.hid FB.out.2.1, Lib.hid FB.out.2.2, Nat.le_succ _, by omega⟩))
      case rest =>
        obtain ⟨b7, b8, rfl, rfl, rfl, F1, F2, F3, q7, q78⟩ := hcut
      -- BEGIN ROUND
        by_cases him : i < m
        · have d2 : decide ((i : Int) < (m : Int)) = true := decide_eq_true (by omega)
          have him2 : (i : Int) < (m : Int) := by omega
          obtain ⟨pb, po, pcap, hpv, hpc⟩ := HPK.out.shape (by rw [HM.out]; omega)
          rw [HM.out] at hpv
          simp only [Value.slice.injEq] at hpv
          obtain ⟨rfl, _, rfl⟩ := hpv
          have CP := hpc i (by rw [HM.out]; omega)
          have CP6 := (F3.out.cell (Nat.lt_of_lt_of_le (World.block_lt_of_cell? _ _ CP) HO.out.size) (by simp)).trans ((HO.out.cell (World.block_lt_of_cell? _ _ CP) (by simp; exact hap (by omega) _ rfl)).trans CP)
          have hxm : pk[i]?.getD 0 ∈ pk := by rw [List.getElem?_eq_getElem (by rw [HM.out]; omega)]; exact List.getElem_mem _
          have hxr := HB.out _ hxm
          have HC0 : pickAt pk i = pk[i]?.getD 0 % 4 := by unfold pickAt; rw [if_pos (by rw [HM.out]; exact him)]
          generalize pk[i]?.getD 0 = x at CP6 hxr HC0
          have A3 := and3 x hxr.1 hxr.2
          have hx4 : x % 4 = 0 ∨ x % 4 = 1 ∨ x % 4 = 2 ∨ x % 4 = 3 := by omega
          clear CP hpc hxm hxr
          rcases hx4 with hx | hx | hx | hx
          · rw [hx] at A3 HC0
            have HC := Lib.hid HC0
            clear HC0 hx
            have a1 : bits .and .u8 0 1 = 0 := by decide
            go_wp2_with fail
            have O7 : Hid (Only [] wr wc.drew) := Lib.hid F3.out.drew
            have G1 : Hid (Row wc.drew b7 (bytesV s) tSec) := F1
            have G2 : Hid (Row wc.drew b8 (bytesV old) tSec) := F2
            clear F1 F2 F3
            refine wp_region_still_tail 2 (by kernel_rfl) (by kernel_rfl) ?_
            simp only [List.take_succ_cons, List.take_zero, List.drop_succ_cons, List.drop_zero]
            iterate 2 still_step
            refine wpStill_nil ?_
            change wpList _ _ _ _ _ wc.drew
            go_wp2_with (refine wpList_copy_at rfl (.tmp 45) (.tmp 46) 23 23 rfl 5 Try.underlying23 byteSize b7 64 64 64 b8 64 64 64 rfl rfl (bytesV s) tSec G1.out ((old.drop 64).map (Value.int .u8)) (by simp [ho128]) (row_hi G2.out) (by rw [bytesV_size, hs128, List.length_map, List.length_drop, ho128]; decide) (fun v hv => by obtain ⟨x, _, rfl⟩ := List.mem_map.1 hv; rfl) ?_; intro w7 hr7 ho7 hs7; rw [splice_hi hs128 ho128] at hr7)
            have F1 : Hid (Row w7 b7 (bytesV (s.take 64 ++ old.drop 64)) tSec) := Lib.hid hr7
            have F2 : Hid (Row w7 b8 (bytesV old) tSec) := Lib.hid (G2.out.only ho7 (by simp; omega))
            have F3 : Hid (Only [] wr w7) := Lib.hid (O7.out.trans ho7 (by simp; omega))
            have hs128' : (s.take 64 ++ old.drop 64).length = 128 := by simp; omega
            have HA : Hid (mixA 0 s old = s.take 64 ++ old.drop 64) := Lib.hid (by unfold mixA; rw [if_pos (by decide)])
            obtain ⟨s1, hs1⟩ : ∃ s1, s1 = s.take 64 ++ old.drop 64 := ⟨_, rfl⟩
            rw [← hs1] at F1 HA hs128'
            clear hr7 ho7 hs7 G1 G2 O7 hs1
            have O8 : Hid (Only [] wr w7.drew) := Lib.hid F3.out.drew
            have G1 : Hid (Row w7.drew b7 (bytesV s1) tSec) := F1
            have G2 : Hid (Row w7.drew b8 (bytesV old) tSec) := F2
            clear F1 F2 F3
            refine wp_region_still_tail 2 (by kernel_rfl) (by kernel_rfl) ?_
            simp only [List.take_succ_cons, List.take_zero, List.drop_succ_cons, List.drop_zero]
            iterate 2 still_step
            refine wpStill_nil ?_
            change wpList _ _ _ _ _ w7.drew
            go_wp2_with (refine wpList_copy_at rfl (.tmp 54) (.tmp 55) 23 23 rfl 5 Try.underlying23 byteSize b7 0 64 128 b8 0 64 128 rfl rfl (bytesV s1) tSec G1.out ((old.take 64).map (Value.int .u8)) (by simp [ho128]) (row_lo G2.out) (by rw [bytesV_size, hs128', List.length_map, List.length_take, ho128]; decide) (fun v hv => by obtain ⟨x, _, rfl⟩ := List.mem_map.1 hv; rfl) ?_; intro w8 hr8 ho8 hs8; rw [splice_lo hs128' ho128] at hr8)
            have F1 : Hid (Row w8 b7 (bytesV (mixS 0 s old)) tSec) := Lib.hid (by unfold mixS; rw [if_pos (by decide), HA.out]; exact hr8)
            have F3 : Hid (Only [] wr w8) := Lib.hid (O8.out.trans ho8 (by simp; omega))
            clear hr8 ho8 hs8 G1 G2 O8
            have hmx : (mixS 0 s old).length = 128 := mixS_len hs128 ho128
            rw [show mixS 0 s old = mixS (pickAt pk i) s old by rw [HC.out]] at F1 hmx
            have O9 : Hid (Only [] wr w8.drew) := Lib.hid F3.out.drew
            have G1 : Hid (Row w8.drew b7 (bytesV (mixS (pickAt pk i) s old)) tSec) := F1
            clear F1 F3 HA
            obtain ⟨mx, hmxe⟩ : ∃ mx, mx = mixS (pickAt pk i) s old := ⟨_, rfl⟩
            rw [← hmxe] at G1 hmx
            have HMX := Lib.hid hmxe
            have e0' := (O9.out.cell plt (by simp)).trans e0
            have M3 := Lib.hid (M2.out [] _ O9.out (by simp))
            clear hmxe
            refine wp_region_still_tail 6 (by kernel_rfl) (by kernel_rfl) ?_
            simp only [List.take_succ_cons, List.take_zero, List.drop_succ_cons, List.drop_zero]
            iterate 5 still_step
            refine wpStill_load_cells rfl 80 (.tmp 7) rfl b7 0 rfl (bytesV mx).toList G1.out.cells _ Try.underlying80 rfl (by rw [Array.length_toList, bytesV_size, hmx]; exact sizeSec) ?_
            simp only [Act.put, List.setIfInBounds_toArray, List.set_cons_succ, List.set_cons_zero]
            refine wpStill_nil ?_
            change wpList _ _ _ _ _ w8.drew
            clear e0'
            go_wp2_with (at_mapUpdate; refine wpList_update_at _ rfl (.tmp 60) (.tmp 61) (.tmp 62) 68 rfl 3 80 .i64 Try.underlying68 Try.underlying3 bl L rfl M3.out kk (secV mx) rfl (by simp [Act.eval, secV]) ?_; intro w9 hm9 ho9 hs9)
            go_roundw
            case rel => exact ⟨i + 1, by omega, by go_num, Lib.hid (crash_step hbl HD.out HO.out HV.out HKK.out HS.out HOLD.out HMX.out HLL.out O9.out hm9 ho9)⟩
            case measure => simp [intOf]; omega
          · rw [hx] at A3 HC0
            have HC := Lib.hid HC0
            clear HC0 hx
            have a1 : bits .and .u8 1 1 = 1 := by decide
            go_wp2_with fail
            have hs128' := hs128
            have HA : Hid (mixA 1 s old = s) := Lib.hid (by unfold mixA; rw [if_neg (by decide)])
            have F4 : Hid (Row wc b7 (bytesV (mixS 1 s old)) tSec) := Lib.hid (by unfold mixS; rw [if_neg (by decide), HA.out]; exact F1.out)
            clear F1 F2
            have F1 := F4
            clear F4
            have hmx : (mixS 1 s old).length = 128 := mixS_len hs128 ho128
            rw [show mixS 1 s old = mixS (pickAt pk i) s old by rw [HC.out]] at F1 hmx
            have O9 : Hid (Only [] wr wc.drew) := Lib.hid F3.out.drew
            have G1 : Hid (Row wc.drew b7 (bytesV (mixS (pickAt pk i) s old)) tSec) := F1
            clear F1 F3 HA
            obtain ⟨mx, hmxe⟩ : ∃ mx, mx = mixS (pickAt pk i) s old := ⟨_, rfl⟩
            rw [← hmxe] at G1 hmx
            have HMX := Lib.hid hmxe
            have e0' := (O9.out.cell plt (by simp)).trans e0
            have M3 := Lib.hid (M2.out [] _ O9.out (by simp))
            clear hmxe
            refine wp_region_still_tail 6 (by kernel_rfl) (by kernel_rfl) ?_
            simp only [List.take_succ_cons, List.take_zero, List.drop_succ_cons, List.drop_zero]
            iterate 5 still_step
            refine wpStill_load_cells rfl 80 (.tmp 7) rfl b7 0 rfl (bytesV mx).toList G1.out.cells _ Try.underlying80 rfl (by rw [Array.length_toList, bytesV_size, hmx]; exact sizeSec) ?_
            simp only [Act.put, List.setIfInBounds_toArray, List.set_cons_succ, List.set_cons_zero]
            refine wpStill_nil ?_
            change wpList _ _ _ _ _ wc.drew
            clear e0'
            go_wp2_with (at_mapUpdate; refine wpList_update_at _ rfl (.tmp 60) (.tmp 61) (.tmp 62) 68 rfl 3 80 .i64 Try.underlying68 Try.underlying3 bl L rfl M3.out kk (secV mx) rfl (by simp [Act.eval, secV]) ?_; intro w9 hm9 ho9 hs9)
            go_roundw
            case rel => exact ⟨i + 1, by omega, by go_num, Lib.hid (crash_step hbl HD.out HO.out HV.out HKK.out HS.out HOLD.out HMX.out HLL.out O9.out hm9 ho9)⟩
            case measure => simp [intOf]; omega
          · rw [hx] at A3 HC0
            have HC := Lib.hid HC0
            clear HC0 hx
            have a1 : bits .and .u8 2 1 = 0 := by decide
            go_wp2_with fail
            have O7 : Hid (Only [] wr wc.drew) := Lib.hid F3.out.drew
            have G1 : Hid (Row wc.drew b7 (bytesV s) tSec) := F1
            have G2 : Hid (Row wc.drew b8 (bytesV old) tSec) := F2
            clear F1 F2 F3
            refine wp_region_still_tail 2 (by kernel_rfl) (by kernel_rfl) ?_
            simp only [List.take_succ_cons, List.take_zero, List.drop_succ_cons, List.drop_zero]
            iterate 2 still_step
            refine wpStill_nil ?_
            change wpList _ _ _ _ _ wc.drew
            go_wp2_with (refine wpList_copy_at rfl (.tmp 45) (.tmp 46) 23 23 rfl 5 Try.underlying23 byteSize b7 64 64 64 b8 64 64 64 rfl rfl (bytesV s) tSec G1.out ((old.drop 64).map (Value.int .u8)) (by simp [ho128]) (row_hi G2.out) (by rw [bytesV_size, hs128, List.length_map, List.length_drop, ho128]; decide) (fun v hv => by obtain ⟨x, _, rfl⟩ := List.mem_map.1 hv; rfl) ?_; intro w7 hr7 ho7 hs7; rw [splice_hi hs128 ho128] at hr7)
            have F1 : Hid (Row w7 b7 (bytesV (s.take 64 ++ old.drop 64)) tSec) := Lib.hid hr7
            have F2 : Hid (Row w7 b8 (bytesV old) tSec) := Lib.hid (G2.out.only ho7 (by simp; omega))
            have F3 : Hid (Only [] wr w7) := Lib.hid (O7.out.trans ho7 (by simp; omega))
            have hs128' : (s.take 64 ++ old.drop 64).length = 128 := by simp; omega
            have HA : Hid (mixA 2 s old = s.take 64 ++ old.drop 64) := Lib.hid (by unfold mixA; rw [if_pos (by decide)])
            obtain ⟨s1, hs1⟩ : ∃ s1, s1 = s.take 64 ++ old.drop 64 := ⟨_, rfl⟩
            rw [← hs1] at F1 HA hs128'
            clear hr7 ho7 hs7 G1 G2 O7 hs1
            have F4 : Hid (Row w7 b7 (bytesV (mixS 2 s old)) tSec) := Lib.hid (by unfold mixS; rw [if_neg (by decide), HA.out]; exact F1.out)
            clear F1 F2
            have F1 := F4
            clear F4
            have hmx : (mixS 2 s old).length = 128 := mixS_len hs128 ho128
            rw [show mixS 2 s old = mixS (pickAt pk i) s old by rw [HC.out]] at F1 hmx
            have O9 : Hid (Only [] wr w7.drew) := Lib.hid F3.out.drew
            have G1 : Hid (Row w7.drew b7 (bytesV (mixS (pickAt pk i) s old)) tSec) := F1
            clear F1 F3 HA
            obtain ⟨mx, hmxe⟩ : ∃ mx, mx = mixS (pickAt pk i) s old := ⟨_, rfl⟩
            rw [← hmxe] at G1 hmx
            have HMX := Lib.hid hmxe
            have e0' := (O9.out.cell plt (by simp)).trans e0
            have M3 := Lib.hid (M2.out [] _ O9.out (by simp))
            clear hmxe
            refine wp_region_still_tail 6 (by kernel_rfl) (by kernel_rfl) ?_
            simp only [List.take_succ_cons, List.take_zero, List.drop_succ_cons, List.drop_zero]
            iterate 5 still_step
            refine wpStill_load_cells rfl 80 (.tmp 7) rfl b7 0 rfl (bytesV mx).toList G1.out.cells _ Try.underlying80 rfl (by rw [Array.length_toList, bytesV_size, hmx]; exact sizeSec) ?_
            simp only [Act.put, List.setIfInBounds_toArray, List.set_cons_succ, List.set_cons_zero]
            refine wpStill_nil ?_
            change wpList _ _ _ _ _ w7.drew
            clear e0'
            go_wp2_with (at_mapUpdate; refine wpList_update_at _ rfl (.tmp 60) (.tmp 61) (.tmp 62) 68 rfl 3 80 .i64 Try.underlying68 Try.underlying3 bl L rfl M3.out kk (secV mx) rfl (by simp [Act.eval, secV]) ?_; intro w9 hm9 ho9 hs9)
            go_roundw
            case rel => exact ⟨i + 1, by omega, by go_num, Lib.hid (crash_step hbl HD.out HO.out HV.out HKK.out HS.out HOLD.out HMX.out HLL.out O9.out hm9 ho9)⟩
            case measure => simp [intOf]; omega
          · rw [hx] at A3 HC0
            have HC := Lib.hid HC0
            clear HC0 hx
            have a1 : bits .and .u8 3 1 = 1 := by decide
            go_wp2_with fail
            have hs128' := hs128
            have HA : Hid (mixA 3 s old = s) := Lib.hid (by unfold mixA; rw [if_neg (by decide)])
            have O8 : Hid (Only [] wr wc.drew) := Lib.hid F3.out.drew
            have G1 : Hid (Row wc.drew b7 (bytesV s) tSec) := F1
            have G2 : Hid (Row wc.drew b8 (bytesV old) tSec) := F2
            clear F1 F2 F3
            refine wp_region_still_tail 2 (by kernel_rfl) (by kernel_rfl) ?_
            simp only [List.take_succ_cons, List.take_zero, List.drop_succ_cons, List.drop_zero]
            iterate 2 still_step
            refine wpStill_nil ?_
            change wpList _ _ _ _ _ wc.drew
            go_wp2_with (refine wpList_copy_at rfl (.tmp 54) (.tmp 55) 23 23 rfl 5 Try.underlying23 byteSize b7 0 64 128 b8 0 64 128 rfl rfl (bytesV s) tSec G1.out ((old.take 64).map (Value.int .u8)) (by simp [ho128]) (row_lo G2.out) (by rw [bytesV_size, hs128', List.length_map, List.length_take, ho128]; decide) (fun v hv => by obtain ⟨x, _, rfl⟩ := List.mem_map.1 hv; rfl) ?_; intro w8 hr8 ho8 hs8; rw [splice_lo hs128' ho128] at hr8)
            have F1 : Hid (Row w8 b7 (bytesV (mixS 3 s old)) tSec) := Lib.hid (by unfold mixS; rw [if_pos (by decide), HA.out]; exact hr8)
            have F3 : Hid (Only [] wr w8) := Lib.hid (O8.out.trans ho8 (by simp; omega))
            clear hr8 ho8 hs8 G1 G2 O8
            have hmx : (mixS 3 s old).length = 128 := mixS_len hs128 ho128
            rw [show mixS 3 s old = mixS (pickAt pk i) s old by rw [HC.out]] at F1 hmx
            have O9 : Hid (Only [] wr w8.drew) := Lib.hid F3.out.drew
            have G1 : Hid (Row w8.drew b7 (bytesV (mixS (pickAt pk i) s old)) tSec) := F1
            clear F1 F3 HA
            obtain ⟨mx, hmxe⟩ : ∃ mx, mx = mixS (pickAt pk i) s old := ⟨_, rfl⟩
            rw [← hmxe] at G1 hmx
            have HMX := Lib.hid hmxe
            have e0' := (O9.out.cell plt (by simp)).trans e0
            have M3 := Lib.hid (M2.out [] _ O9.out (by simp))
            clear hmxe
            refine wp_region_still_tail 6 (by kernel_rfl) (by kernel_rfl) ?_
            simp only [List.take_succ_cons, List.take_zero, List.drop_succ_cons, List.drop_zero]
            iterate 5 still_step
            refine wpStill_load_cells rfl 80 (.tmp 7) rfl b7 0 rfl (bytesV mx).toList G1.out.cells _ Try.underlying80 rfl (by rw [Array.length_toList, bytesV_size, hmx]; exact sizeSec) ?_
            simp only [Act.put, List.setIfInBounds_toArray, List.set_cons_succ, List.set_cons_zero]
            refine wpStill_nil ?_
            change wpList _ _ _ _ _ w8.drew
            clear e0'
            go_wp2_with (at_mapUpdate; refine wpList_update_at _ rfl (.tmp 60) (.tmp 61) (.tmp 62) 68 rfl 3 80 .i64 Try.underlying68 Try.underlying3 bl L rfl M3.out kk (secV mx) rfl (by simp [Act.eval, secV]) ?_; intro w9 hm9 ho9 hs9)
            go_roundw
            case rel => exact ⟨i + 1, by omega, by go_num, Lib.hid (crash_step hbl HD.out HO.out HV.out HKK.out HS.out HOLD.out HMX.out HLL.out O9.out hm9 ho9)⟩
            case measure => simp [intOf]; omega
        · have d2 : decide ((i : Int) < (m : Int)) = false := decide_eq_false (by omega)
          have HC : Hid (pickAt pk i = 0) := Lib.hid (by unfold pickAt; rw [if_neg (by rw [HM.out]; exact him)])
          have a1 : bits .and .u8 0 1 = 0 := by decide
          go_wp2_with fail
          have O7 : Hid (Only [] wr wc.drew) := Lib.hid F3.out.drew
          have G1 : Hid (Row wc.drew b7 (bytesV s) tSec) := F1
          have G2 : Hid (Row wc.drew b8 (bytesV old) tSec) := F2
          clear F1 F2 F3
          refine wp_region_still_tail 2 (by kernel_rfl) (by kernel_rfl) ?_
          simp only [List.take_succ_cons, List.take_zero, List.drop_succ_cons, List.drop_zero]
          iterate 2 still_step
          refine wpStill_nil ?_
          change wpList _ _ _ _ _ wc.drew
          go_wp2_with (refine wpList_copy_at rfl (.tmp 45) (.tmp 46) 23 23 rfl 5 Try.underlying23 byteSize b7 64 64 64 b8 64 64 64 rfl rfl (bytesV s) tSec G1.out ((old.drop 64).map (Value.int .u8)) (by simp [ho128]) (row_hi G2.out) (by rw [bytesV_size, hs128, List.length_map, List.length_drop, ho128]; decide) (fun v hv => by obtain ⟨x, _, rfl⟩ := List.mem_map.1 hv; rfl) ?_; intro w7 hr7 ho7 hs7; rw [splice_hi hs128 ho128] at hr7)
          have F1 : Hid (Row w7 b7 (bytesV (s.take 64 ++ old.drop 64)) tSec) := Lib.hid hr7
          have F2 : Hid (Row w7 b8 (bytesV old) tSec) := Lib.hid (G2.out.only ho7 (by simp; omega))
          have F3 : Hid (Only [] wr w7) := Lib.hid (O7.out.trans ho7 (by simp; omega))
          have hs128' : (s.take 64 ++ old.drop 64).length = 128 := by simp; omega
          have HA : Hid (mixA 0 s old = s.take 64 ++ old.drop 64) := Lib.hid (by unfold mixA; rw [if_pos (by decide)])
          obtain ⟨s1, hs1⟩ : ∃ s1, s1 = s.take 64 ++ old.drop 64 := ⟨_, rfl⟩
          rw [← hs1] at F1 HA hs128'
          clear hr7 ho7 hs7 G1 G2 O7 hs1
          have O8 : Hid (Only [] wr w7.drew) := Lib.hid F3.out.drew
          have G1 : Hid (Row w7.drew b7 (bytesV s1) tSec) := F1
          have G2 : Hid (Row w7.drew b8 (bytesV old) tSec) := F2
          clear F1 F2 F3
          refine wp_region_still_tail 2 (by kernel_rfl) (by kernel_rfl) ?_
          simp only [List.take_succ_cons, List.take_zero, List.drop_succ_cons, List.drop_zero]
          iterate 2 still_step
          refine wpStill_nil ?_
          change wpList _ _ _ _ _ w7.drew
          go_wp2_with (refine wpList_copy_at rfl (.tmp 54) (.tmp 55) 23 23 rfl 5 Try.underlying23 byteSize b7 0 64 128 b8 0 64 128 rfl rfl (bytesV s1) tSec G1.out ((old.take 64).map (Value.int .u8)) (by simp [ho128]) (row_lo G2.out) (by rw [bytesV_size, hs128', List.length_map, List.length_take, ho128]; decide) (fun v hv => by obtain ⟨x, _, rfl⟩ := List.mem_map.1 hv; rfl) ?_; intro w8 hr8 ho8 hs8; rw [splice_lo hs128' ho128] at hr8)
          have F1 : Hid (Row w8 b7 (bytesV (mixS 0 s old)) tSec) := Lib.hid (by unfold mixS; rw [if_pos (by decide), HA.out]; exact hr8)
          have F3 : Hid (Only [] wr w8) := Lib.hid (O8.out.trans ho8 (by simp; omega))
          clear hr8 ho8 hs8 G1 G2 O8
          have hmx : (mixS 0 s old).length = 128 := mixS_len hs128 ho128
          rw [show mixS 0 s old = mixS (pickAt pk i) s old by rw [HC.out]] at F1 hmx
          have O9 : Hid (Only [] wr w8.drew) := Lib.hid F3.out.drew
          have G1 : Hid (Row w8.drew b7 (bytesV (mixS (pickAt pk i) s old)) tSec) := F1
          clear F1 F3 HA
          obtain ⟨mx, hmxe⟩ : ∃ mx, mx = mixS (pickAt pk i) s old := ⟨_, rfl⟩
          rw [← hmxe] at G1 hmx
          have HMX := Lib.hid hmxe
          have e0' := (O9.out.cell plt (by simp)).trans e0
          have M3 := Lib.hid (M2.out [] _ O9.out (by simp))
          clear hmxe
          refine wp_region_still_tail 6 (by kernel_rfl) (by kernel_rfl) ?_
          simp only [List.take_succ_cons, List.take_zero, List.drop_succ_cons, List.drop_zero]
          iterate 5 still_step
          refine wpStill_load_cells rfl 80 (.tmp 7) rfl b7 0 rfl (bytesV mx).toList G1.out.cells _ Try.underlying80 rfl (by rw [Array.length_toList, bytesV_size, hmx]; exact sizeSec) ?_
          simp only [Act.put, List.setIfInBounds_toArray, List.set_cons_succ, List.set_cons_zero]
          refine wpStill_nil ?_
          change wpList _ _ _ _ _ w8.drew
          clear e0'
          go_wp2_with (at_mapUpdate; refine wpList_update_at _ rfl (.tmp 60) (.tmp 61) (.tmp 62) 68 rfl 3 80 .i64 Try.underlying68 Try.underlying3 bl L rfl M3.out kk (secV mx) rfl (by simp [Act.eval, secV]) ?_; intro w9 hm9 ho9 hs9)
          go_roundw
          case rel => exact ⟨i + 1, by omega, by go_num, Lib.hid (crash_step hbl HD.out HO.out HV.out HKK.out HS.out HOLD.out HMX.out HLL.out O9.out hm9 ho9)⟩
          case measure => simp [intOf]; omega
      -- END ROUND
    · have d1 : decide ((i : Int) < (n : Int)) = false := decide_eq_false (by omega)
      obtain rfl : i = n := by omega
      obtain ⟨hd, ho, _⟩ := HI.out
      have HD := Lib.hid hd
      have HO := Lib.hid ho
      have e1 := hd.c1
      clear hd ho HI
      go_wp2_with (first
        | (refine wpList_clear_at rfl (.tmp 67) 68 rfl 3 80 .i64 Try.underlying68 bw (waL D.waits) rfl HD.out.wm ?_; intro w3 hm3 ho3 hs3
           have g5 := (ho3.cell HD.out.row.lt (by simp; exact HD.out.nw)).trans HD.out.c5; have g6 := (ho3.cell HD.out.row.lt (by simp; exact HD.out.nw)).trans HD.out.c6
           have q := HD.out.row.only ho3 (by simp; exact HD.out.nw); have f5 := q.free 5; have f6 := q.free 6))
      go_ret
      exact ⟨rfl, crash_end HD.out HN.out ho3 hm3, (((HO.out.sub (by simp)).and (ho3.sub (by simp))).and (((Only.refl [p, bl, bw] _).setCell (by simp) _).setCell (by simp) _))⟩
end Go.Proofs.Ytomhflkjnldeoaa.dk
