/- DiskKeeps: behind any crash each sector that did not wait is as it was, and of each that waited every half is the old one or the new one: for every input. -/
import Derived.Test.YtiheobbollpaaaaDkM
import Derived.OpenShut
import Derived.OwnWalk
namespace Go.Proofs.Ytiheobbollpaaaa.diskKeeps
open Go.ChangeShapes Go.WideShapes Go.ChangeAt Go.RowKit Go.Joins
set_option linter.unusedVariables false

abbrev tStrs : TypeId := 28
def strs (f : Int → List Int) : Array Value := ((List.range 16).map fun (k : Nat) => strV (f (k : Int))).toArray
theorem strs_size (f : Int → List Int) : (strs f).size = 16 := by simp [strs]
theorem strs_get (f : Int → List Int) (k : Nat) (hk : k < 16) : (strs f)[k]? = some (strV (f k)) := by simp [strs, hk]
theorem strs_set (f g : Int → List Int) (k : Nat) (s : List Int) (h : ∀ j : Int, g j = if j = (k : Int) then s else f j) : (strs f).setIfInBounds k (strV s) = strs g := by
  refine Array.ext_getElem? fun i => ?_
  rw [Array.getElem?_setIfInBounds]
  by_cases e : k = i
  · subst e
    rw [if_pos rfl, strs_size]
    by_cases hk : k < 16
    · rw [if_pos hk, strs_get _ _ hk, h, if_pos rfl]
    · rw [if_neg hk, Array.getElem?_eq_none (by rw [strs_size]; omega)]
  · rw [if_neg e]
    by_cases hi : i < 16
    · rw [strs_get _ _ hi, strs_get _ _ hi, h, if_neg (by omega)]
    · rw [Array.getElem?_eq_none (by rw [strs_size]; omega), Array.getElem?_eq_none (by rw [strs_size]; omega)]
theorem strs_all (f : Int → List Int) : (strs f).all (·.oneCell') = true := by
  rw [Array.all_eq_true_iff_forall_mem]
  intro v hv
  simp only [strs, List.mem_toArray, List.mem_map] at hv
  obtain ⟨x, _, rfl⟩ := hv
  rfl
def part (i : Nat) : Array Value := ((List.range 16).map fun (k : Nat) => if k < i then strV blank else .string ByteArray.empty).toArray
theorem part_size (i : Nat) : (part i).size = 16 := by simp [part]
theorem part_get (i k : Nat) (hk : k < 16) : (part i)[k]? = some (if k < i then strV blank else .string ByteArray.empty) := by simp [part, hk]
theorem part_next (i : Nat) : (part i).setIfInBounds i (strV blank) = part (i + 1) := by
  refine Array.ext_getElem? fun j => ?_
  rw [Array.getElem?_setIfInBounds, part_size]
  by_cases hj : j < 16
  · rw [part_get _ _ hj, part_get _ _ hj]
    by_cases e : i = j
    · subst e; rw [if_pos rfl, if_pos hj, if_pos (by omega)]
    · rw [if_neg e]
      by_cases h2 : j < i
      · rw [if_pos h2, if_pos (by omega)]
      · rw [if_neg h2, if_neg (by omega)]
  · rw [Array.getElem?_eq_none (by rw [part_size]; omega), Array.getElem?_eq_none (by rw [part_size]; omega)]
    by_cases e : i = j
    · rw [if_pos e, if_neg (by omega)]
    · rw [if_neg e]
theorem part_all : part 16 = strs fun _ => blank := by
  refine Array.ext_getElem? fun j => ?_
  by_cases hj : j < 16
  · rw [part_get _ _ hj, strs_get _ _ hj, if_pos hj]
  · rw [Array.getElem?_eq_none (by rw [part_size]; omega), Array.getElem?_eq_none (by rw [strs_size]; omega)]
theorem zeroStrs : (Try.prog.info? 28).map (fun i => (i.zero, i.size)) = some (some (.agg (part 0)), 16) := by kernel_rfl
/-- The first loop: both arrays are filled. -/
structure P1 (W w : World) (p : Nat) (F : List Nat) (a b i : Nat) : Prop where
  dev : Dev W w p (newD 16 16) F
  ra : Row w a (part i) tStrs
  rb : Row w b (part i) tStrs
  na : a ∉ F
  nb : b ∉ F
  ab : a ≠ b
  wa : W.heap.size ≤ a
  wb : W.heap.size ≤ b
structure KInv (W w : World) (p : Nat) (F : List Nat) (D : Dk) (a b : Nat) : Prop where
  dev : Dev W w p D F
  calm : Calm D
  sec : D.sectors = 16
  most : D.most = 16
  ra : Row w a (strs D.last) tStrs
  rb : Row w b (strs (sectorD D)) tStrs
  na : a ∉ F
  nb : b ∉ F
  ab : a ≠ b
  wa : W.heap.size ≤ a
  wb : W.heap.size ≤ b
theorem P1.start {W w : World} {p a b : Nat} {F : List Nat} (h : P1 W w p F a b 16) : KInv W w p F (newD 16 16) a b :=
  ⟨h.dev, calm_new _ _, rfl, rfl, by have := h.ra; rw [part_all] at this; exact this, by have := h.rb; rw [part_all] at this; exact this, h.na, h.nb, h.ab, h.wa, h.wb⟩
theorem at_bound (x : Int) : ∃ k : Nat, wrap64 ((IntKind.u64.wrap x).tmod 16) = (k : Int) ∧ k < 16 := by
  have e : IntKind.u64.wrap x = x % 18446744073709551616 := rfl
  refine ⟨(wrap64 ((IntKind.u64.wrap x).tmod 16)).toNat, ?_⟩
  rw [Int.tmod_eq_emod_of_nonneg (by omega), e]
  unfold wrap64
  omega
theorem P1.next {W w w2 : World} {p a b i : Nat} {F : List Nat} (h : P1 W w p F a b i) (k : Only [] w w2) : P1 W ((w2.setCell ⟨a, i, none⟩ (strV blank)).setCell ⟨b, i, none⟩ (strV blank)) p F a b (i + 1) := by
  have k2 : Only [a, b] w2 ((w2.setCell ⟨a, i, none⟩ (strV blank)).setCell ⟨b, i, none⟩ (strV blank)) := ((Only.refl _ _).setCell (by simp) _).setCell (by simp) _
  have ra := ((h.ra.only k (by simp)).set i (strV blank)).only ((Only.refl [b] _).setCell (by simp) (p := ⟨b, i, none⟩) (strV blank)) (by simp; exact h.ab)
  have rb := ((h.rb.only k (by simp)).only ((Only.refl [a] _).setCell (by simp) (p := ⟨a, i, none⟩) (strV blank)) (by simp; exact fun e => h.ab e.symm)).set i (strV blank)
  rw [part_next] at ra rb
  exact ⟨(h.dev.none k).only k2 (by simp; exact ⟨h.na, h.nb⟩) (by simp; exact ⟨h.wa, h.wb⟩), ra, rb, h.na, h.nb, h.ab, h.wa, h.wb⟩
theorem KInv.next {W w4 wr : World} {p a b k : Nat} {F : List Nat} {D : Dk} {s : List Int} (h : KInv W wr p F D a b) (hd : Dev W w4 p (putD D (k : Int) s) F) (ra : Row w4 a (strs D.last) tStrs) (rb : Row w4 b (strs (sectorD D)) tStrs) (hk : k < 16) :
    KInv W (w4.setCell ⟨b, k, none⟩ (strV s)) p F (putD D (k : Int) s) a b := by
  have k5 : Only [b] w4 (w4.setCell ⟨b, k, none⟩ (strV s)) := (Only.refl _ _).setCell (by simp) _
  have r := rb.set k (strV s)
  rw [strs_set (sectorD D) (sectorD (putD D (k : Int) s)) k s (fun j => sectorD_putD D k j s)] at r
  exact ⟨hd.only k5 (by simp; exact h.nb) (by simp; exact h.wb), h.calm.putD _ _, h.sec, h.most, ra.only k5 (by simp; exact h.ab), r, h.na, h.nb, h.ab, h.wa, h.wb⟩
theorem KInv.synced {W w5 w6 : World} {p a b : Nat} {F : List Nat} {D : Dk} (h : KInv W w5 p F D a b) (hd : Dev W w6 p (synD D) F) {w7 : World} (ra : Row w7 a (strs (sectorD D)) tStrs) (rb : Row w7 b (strs (sectorD D)) tStrs) (k : Only [a] w6 w7) : KInv W w7 p F (synD D) a b :=
  ⟨hd.only k (by simp; exact h.na) (by simp; exact h.wa), h.calm.synD, h.sec, h.most, ra, rb, h.na, h.nb, h.ab, h.wa, h.wb⟩
theorem halves {A0 A1 A2 : ByteArray} (h : A0 = A1 ∨ A0 = A2) : (A0.toList == A1.toList) = true ∨ (A0.toList == A1.toList) = false ∧ (A0.toList == A2.toList) = true := by
  rcases h with h | h
  · subst h; simp
  · subst h; simp; exact Decidable.em _
/-- Behind the crash. -/
structure CInv (W w : World) (p : Nat) (F : List Nat) (D : Dk) (pk : List Int) (a b : Nat) : Prop where
  dev : Dev W w p (crashD D pk) F
  sec : (crashD D pk).sectors = 16
  fine : D.Fine
  nodup : (D.waits.map (·.1)).Nodup
  ra : Row w a (strs D.last) tStrs
  rb : Row w b (strs (sectorD D)) tStrs
theorem KInv.crashed {W w w2 : World} {p a b : Nat} {F : List Nat} {D : Dk} {pk : List Int} (h : KInv W w p F D a b) (hd : Dev W w2 p (crashD D pk) F) (k : Only F w w2) : CInv W w2 p F D pk a b :=
  ⟨hd, h.sec, h.dev.fine, h.dev.keysNodup, h.ra.only k h.na, h.rb.only k h.nb⟩
theorem CInv.only {W w w2 : World} {p a b : Nat} {F : List Nat} {D : Dk} {pk : List Int} (h : CInv W w p F D pk a b) (hd : Dev W w2 p (crashD D pk) F) (k : Only [] w w2) : CInv W w2 p F D pk a b :=
  ⟨hd, h.sec, h.fine, h.nodup, h.ra.only k (by simp), h.rb.only k (by simp)⟩
theorem CInv.drewN {W w : World} {p a b : Nat} {F : List Nat} {D : Dk} {pk : List Int} (h : CInv W w p F D pk a b) (n : Nat) : CInv W (w.drewN n) p F D pk a b := h.only (h.dev.none ((Only.refl [] w).drewN n)) ((Only.refl [] w).drewN n)
theorem CInv.below {W w w2 : World} {p a b : Nat} {F : List Nat} {D : Dk} {pk : List Int} (h : CInv W w p F D pk a b) (k : Below w.heap.size w w2) : CInv W w2 p F D pk a b :=
  ⟨h.dev.below k, h.sec, h.fine, h.nodup, h.ra.of_block (k.block a h.ra.lt), h.rb.of_block (k.block b h.rb.lt)⟩
set_option maxRecDepth 100000 in
set_option maxHeartbeats 8000000 in
theorem main (n c : Nat) (oa : Option Addr) (os : List OpV) (pa : Option Addr) (m pc : Nat) (pz : List Int) (w : World) (hos : OpsIn w oa n c os) (hp : IsRow .u8 w pa m pc pz) :
    Calls Try.prog 3 #[.slice oa n c, .slice pa m pc] w fun e w' => e = .returned (.bool true) ∧ Below w.heap.size w w' := by
  have N := Lib.hid (new_dev (W := w) (Below.refl _ _) 16 16 (by omega) (by omega) (by omega) (by omega))
  have HOS := Lib.hid hos
  have HPZ := Lib.hid hp
  obtain ⟨i0', hi0, hz0, hz1, hz2⟩ := info_parts infoByte
  clear hos hp
  go_enter Try.func3, Try.ntmps3
  go_wp2_with fail
  refine N.out.mono ?_
  rintro _ w1 ⟨p, F, rfl, hd, k1, hB⟩
  have H1 := Lib.hid hd
  clear hd k1 hB N
  go_wp2_with (first
    | (have hx := hs2; refine wpList_alloc_at rfl 28 rfl _ (zero_of_info zeroStrs).1 ?_; clear hx; intro w3 hr3 ho3 hs3)
    | (refine wpList_alloc_at rfl 28 rfl _ (zero_of_info zeroStrs).1 ?_; intro w2 hr2 ho2 hs2))
  obtain ⟨a, ha⟩ : ∃ a, a = w1.heap.size := ⟨_, rfl⟩
  obtain ⟨b, hb⟩ : ∃ b, b = w2.heap.size := ⟨_, rfl⟩
  have P3 : Hid (P1 w w3 p F a b 0) := by
    have l1 := H1.out.lt
    have s1 := H1.out.bl.size
    rw [← ha] at hr2
    rw [← hb] at hr3
    exact Lib.hid ⟨(H1.out.none ho2).none ho3, hr2.only ho3 (by simp), hr3, fun h => by have := l1 _ h; omega, fun h => by have := l1 _ h; omega, by omega, by omega, by omega⟩
  clear hr2 ho2 hr3 ho3 H1
  rw [← hs2, ← hb, ← ha]
  clear hs2 hs3 ha hb
  go_loopw [9] (fun u wr => ∃ i : Nat, i ≤ 16 ∧ u = .int .i64 i ∧ Hid (P1 w wr p F a b i)) (fun u _ => 16 - (intOf u).toNat)
  case atStart => exact ⟨0, by omega, rfl, P3⟩
  case round =>
    obtain ⟨i, hi, rfl, HP⟩ := hrel
    have i0 : (0 : Int) ≤ (i : Int) := Int.natCast_nonneg _
    clear P3
    by_cases hlt : i < 16
    · have d1 : decide ((i : Int) < 16) = true := decide_eq_true (by omega)
      have i2 : (i : Int) < 16 := by omega
      have hab := HP.out.ab
      have hba : b ≠ a := fun e => hab e.symm
      go_wp2_with (refine wpList_make_at rfl _ _ _ rfl _ i0' _ Try.underlying23 hi0 hz0 hz1 rfl .i64 .i64 128 rfl rfl (by omega) (by omega) ?_; intro w2 hr2 ho2 hs2; have cv := conv_bytes (cap := 128) (b := wr.heap.size) (off := 0) (s := blank) (by have := hr2.cells; unfold Bytes; simpa [blank] using this) blank_is.1; have c1 : w2.cell? ⟨a, i, none⟩ = some _ := ((HP.out.ra.only ho2 (by simp)).cell i).trans (part_get i i hlt); have f1 := (HP.out.ra.only ho2 (by simp)).free i; have c2 : w2.cell? ⟨b, i, none⟩ = some _ := ((HP.out.rb.only ho2 (by simp)).cell i).trans (part_get i i hlt); have f2 := (HP.out.rb.only ho2 (by simp)).free i; have H2 : Hid (P1 w ((w2.setCell ⟨a, i, none⟩ (strV blank)).setCell ⟨b, i, none⟩ (strV blank)) p F a b (i + 1)) := Lib.hid (HP.out.next ho2); clear hr2 ho2 hs2)
      go_roundw
      case rel => exact ⟨i + 1, by omega, by go_num, H2⟩
      case measure => simp [intOf]; omega
    · have d1 : decide ((i : Int) < 16) = false := decide_eq_false (by omega)
      have K3 : Hid (KInv w wr p F (newD 16 16) a b) := Lib.hid (by
        have h16 : i = 16 := by omega
        subst h16
        exact HP.out.start)
      clear HP
      go_wp2_with fail
      go_loopw [10, 11] (fun u _ wr => ∃ i : Nat, i ≤ 200 ∧ u = .int .i64 i ∧ Hid (∃ D, KInv w wr p F D a b)) (fun u _ _ => 200 - (intOf u).toNat)
      case atStart => exact ⟨0, by omega, rfl, Lib.hid ⟨_, K3.out⟩⟩
      case round =>
        clear K3
        obtain ⟨i, hi, rfl, HK⟩ := hrel
        have i0 : (0 : Int) ≤ (i : Int) := Int.natCast_nonneg _
        have n0 : (n : Int) ≤ 9223372036854775807 := by have := HOS.out.2.1; omega
        obtain ⟨D, hK⟩ := HK.out
        have KI := Lib.hid hK
        clear hK HK
        by_cases hlt : i < n
        · have d1 : decide ((i : Int) < (n : Int)) = true := decide_eq_true (by omega)
          have d1' : (i : Int) < (n : Int) := by omega
          by_cases h200 : i < 200
          · have d2 : decide ((i : Int) < 200) = true := decide_eq_true (by omega)
            obtain ⟨hol, _, hor⟩ := HOS.out
            obtain ⟨ob, oo, rfl, hall⟩ := hor.resolve_left (by omega)
            obtain ⟨x, hx⟩ : ∃ x, os[i]? = some x := ⟨_, List.getElem?_eq_getElem (by omega)⟩
            have hoa := hall i x hx
            have HOA := Lib.hid hoa
            have hobw : ob < w.heap.size := World.block_lt_of_cell? w _ hoa.c0
            obtain ⟨q0, q1, q2, q3, q4⟩ := opAt_below hoa KI.out.dev.bl
            obtain ⟨k, hk, hk16⟩ := at_bound x.at_
            have k16 : (k : Int) < 16 := by omega
            have k0 : (0 : Int) ≤ (k : Int) := Int.natCast_nonneg _
            clear hol hor hall hx hoa
            go_wp2_with fail
            refine (sector_to x.fill wr).mono ?_
            rintro _ w2 ⟨rfl, hr2, k2, hs2⟩
            have HD2 := Lib.hid (KI.out.dev.none k2)
            have HB2 := Lib.hid hr2
            have HK2 := Lib.hid k2
            clear hr2 k2 hs2
            go_wp2_with fail
            have hw := write_dev HD2.out k0 (by rw [KI.out.sec]; exact k16) (by rw [KI.out.sec, KI.out.most]) (secOf_is x.fill) HB2.out (cap := 128) (by omega)
            rw [KI.out.calm.write] at hw
            refine hw.mono ?_
            clear hw
            rintro _ w3 ⟨rfl, hd3, k3⟩
            have e0 : errOff (putD D (k : Int) (secOf x.fill)).off = 0 := by show errOff D.off = 0; rw [KI.out.calm.off]; rfl
            have HD3 := Lib.hid hd3
            have HK3 := Lib.hid k3
            obtain ⟨r0, r1, r2, r3, r4⟩ := opAt_below HOA.out HD3.out.bl
            clear hd3 k3 q0 q1 q2 q3 q4
            go_wp2_with fail
            refine (sector_to x.fill w3).mono ?_
            rintro _ w4 ⟨rfl, hr4, k4, hs4⟩
            have cv := conv_bytes (cap := 128) hr4 (secOf_is x.fill).1
            have HD4 := Lib.hid (HD3.out.none k4)
            obtain ⟨q0, q1, q2, q3, q4⟩ := opAt_below HOA.out HD4.out.bl
            have ra4 := ((KI.out.ra.only HK2.out (by simp)).only HK3.out KI.out.na).only k4 (by simp)
            have rb4 := ((KI.out.rb.only HK2.out (by simp)).only HK3.out KI.out.nb).only k4 (by simp)
            have c1 : w4.cell? ⟨b, k, none⟩ = some _ := (rb4.cell k).trans (strs_get _ k hk16)
            have f1 := rb4.free k
            have hne : ob ≠ b := by have := KI.out.wb; omega
            have hne2 : b ≠ ob := fun e => hne e.symm
            have K5 : Hid (KInv w (w4.setCell ⟨b, k, none⟩ (strV (secOf x.fill))) p F (putD D (k : Int) (secOf x.fill)) a b) := Lib.hid (KI.out.next HD4.out ra4 rb4 hk16)
            clear r0 r1 r2 r3 r4 hr4 k4 hs4 ra4 rb4 HD2 HB2 HK2 HD3 HK3 HD4 KI
            by_cases h7 : (x.fill).tmod 7 = 0
            · have d7 : decide ((x.fill).tmod 7 = 0) = true := decide_eq_true h7
              go_wp2_with fail
              have hw := sync_dev K5.out.dev
              rw [K5.out.calm.sync] at hw
              refine hw.mono ?_
              clear hw
              rintro _ w6 ⟨rfl, hd6, k6⟩
              have e1 : errOff (synD (putD D (k : Int) (secOf x.fill))).off = 0 := by show errOff (putD D (k : Int) (secOf x.fill)).off = 0; exact e0
              have ra6 := Lib.hid (K5.out.ra.only k6 K5.out.na)
              have rb6 := Lib.hid (K5.out.rb.only k6 K5.out.nb)
              have KN := Lib.hid (fun w7 => K5.out.synced hd6 (w7 := w7))
              clear hd6 k6 q0 q1 q2 q3 q4 c1 f1 cv
              go_wp2_with (first
                | (refine wpList_load_cells rfl 28 (.tmp 8) rfl b 0 rfl (strs (sectorD (putD D (k : Int) (secOf x.fill)))).toList rb6.out.cells _ Try.underlying28 rfl (by rw [Array.length_toList, strs_size]; exact (zero_of_info zeroStrs).2) ?_)
                | (refine wpList_store_at rfl 28 (.tmp 7) (.tmp 82) rfl a rfl (strs (sectorD (putD D (k : Int) (secOf x.fill)))) (by simp [Act.eval, Act.put]) _ _ ra6.out (by rw [strs_size]; exact (zero_of_info zeroStrs).2) (by rw [strs_size, strs_size]) (strs_all _) ?_; intro w7 hr7 ho7 hs7; have K7 := Lib.hid (KN.out _ hr7 (rb6.out.only ho7 (by simp; exact fun e => K5.out.ab e.symm)) ho7); clear hr7 ho7 hs7))
              go_roundw
              case rel => exact ⟨i + 1, by omega, by go_num, Lib.hid ⟨_, K7.out⟩⟩
              case measure => simp [intOf]; omega
              
            · have d7 : decide ((x.fill).tmod 7 = 0) = false := decide_eq_false h7
              go_wp2_with fail
              go_roundw
              case rel => exact ⟨i + 1, by omega, by go_num, Lib.hid ⟨_, K5.out⟩⟩
              case measure => simp [intOf]; omega
              
          · have d2 : decide ((i : Int) < 200) = false := decide_eq_false (by omega)
            go_wp2_with fail
            refine (crash_picks KI.out.dev HPZ.out).mono ?_
            rintro _ w2 ⟨rfl, hd2, k2⟩
            have hfew : (crashD D (pz.take m)).waits.length = 0 := rfl
            have HC2 := Lib.hid (KI.out.crashed hd2 k2)
            clear hd2 k2
            go_wp2_with fail
            refine (waits_dev HC2.out.dev).mono ?_
            rintro _ w3 ⟨v, rfl, hv, hb3⟩
            rw [hfew] at hv
            obtain ⟨q, cv, rfl, _, _⟩ := own_shape hv
            have HC3 := Lib.hid (HC2.out.below hb3)
            clear hv hb3 HC2 KI hfew
            go_wp2_with fail
            go_loopw [12, 13, 14, 15] (fun u _ _ _ wr => ∃ i : Nat, i ≤ 16 ∧ u = .int .i64 i ∧ Hid (CInv w wr p F D (pz.take m) a b)) (fun u _ _ _ _ => 16 - (intOf u).toNat)
            case atStart => exact ⟨0, by omega, rfl, HC3⟩
            case round =>
              clear HC3
              obtain ⟨i, hi, rfl, HC⟩ := hrel
              have i0 : (0 : Int) ≤ (i : Int) := Int.natCast_nonneg _
              by_cases hlt : i < 16
              · have d1 : decide ((i : Int) < 16) = true := decide_eq_true (by omega)
                have i2 : (i : Int) < 16 := by omega
                go_wp2_with fail
                refine (read_dev HC.out.dev rfl i0 (by rw [HC.out.sec]; exact i2)).mono ?_
                rintro _ w5 ⟨rfl, hr5, hd5, k5, hs5⟩
                have h128 := (sectorD_is HC.out.dev.fine (i : Int)).1
                have cv := conv_bytes (cap := 128) hr5 h128
                obtain ⟨hA, hB⟩ := crash_half (pk := pz.take m) HC.out.fine HC.out.nodup (i : Int)
                have C2 := Lib.hid (HC.out.only hd5 k5)
                have c1 : w5.cell? ⟨a, i, none⟩ = some _ := (C2.out.ra.cell i).trans (strs_get _ i hlt)
                have c2 : w5.cell? ⟨b, i, none⟩ = some _ := (C2.out.rb.cell i).trans (strs_get _ i hlt)
                have l1 := (C2.out.fine.la (i : Int)).1
                have l2 := (sectorD_is C2.out.fine (i : Int)).1
                generalize sectorD (crashD D (pz.take m)) (i : Int) = s0 at *
                generalize sectorD D (i : Int) = s2 at *
                generalize D.last (i : Int) = s1 at *
                have z0 := str_size h128
                have z1 := str_size l1
                have z2 := str_size l2
                have lo0 := str_lo s0
                have lo1 := str_lo s1
                have lo2 := str_lo s2
                have hi0 := str_hi h128
                have hi1 := str_hi l1
                have hi2 := str_hi l2
                simp only [strV] at c1 c2
                generalize strOfNums s0 = S0 at *
                generalize strOfNums s1 = S1 at *
                generalize strOfNums s2 = S2 at *
                have hA' : S0.extract 0 64 = S1.extract 0 64 ∨ S0.extract 0 64 = S2.extract 0 64 := by rw [lo0, lo1, lo2]; rcases hA with h | h <;> rw [h] <;> simp
                have hB' : S0.extract 64 128 = S1.extract 64 128 ∨ S0.extract 64 128 = S2.extract 64 128 := by rw [hi0, hi1, hi2]; rcases hB with h | h <;> rw [h] <;> simp
                clear hA hB lo0 lo1 lo2 hi0 hi1 hi2 hr5 hd5 k5 hs5 h128 l1 l2 HC
                obtain ⟨A0, x0⟩ : ∃ A, S0.extract 0 64 = A := ⟨_, rfl⟩
                obtain ⟨A1, x1⟩ : ∃ A, S1.extract 0 64 = A := ⟨_, rfl⟩
                obtain ⟨A2, x2⟩ : ∃ A, S2.extract 0 64 = A := ⟨_, rfl⟩
                obtain ⟨B0, y0⟩ : ∃ A, S0.extract 64 128 = A := ⟨_, rfl⟩
                obtain ⟨B1, y1⟩ : ∃ A, S1.extract 64 128 = A := ⟨_, rfl⟩
                obtain ⟨B2, y2⟩ : ∃ A, S2.extract 64 128 = A := ⟨_, rfl⟩
                rw [x0, x1, x2] at hA'
                rw [y0, y1, y2] at hB'
                have HA : Hid ((A0.toList == A1.toList) = true ∨ (A0.toList == A1.toList) = false ∧ (A0.toList == A2.toList) = true) := Lib.hid (halves hA')
                have HB : Hid ((B0.toList == B1.toList) = true ∨ (B0.toList == B1.toList) = false ∧ (B0.toList == B2.toList) = true) := Lib.hid (halves hB')
                clear hA' hB'
                rcases HA.out with g1 | ⟨g1, g2⟩
                · rcases HB.out with g3 | ⟨g3, g4⟩
                  · go_wp2_with fail
                    go_quiet (fail)
                    go_wp2_with fail
                    go_roundw
                    case rel => exact ⟨i + 1, by omega, by go_num, Lib.hid (C2.out.drewN nq)⟩
                    case measure => simp [intOf]; omega
                    
                  · go_wp2_with fail
                    go_quiet (fail)
                    go_wp2_with fail
                    go_roundw
                    case rel => exact ⟨i + 1, by omega, by go_num, Lib.hid (C2.out.drewN nq)⟩
                    case measure => simp [intOf]; omega
                    
                · rcases HB.out with g3 | ⟨g3, g4⟩
                  · go_wp2_with fail
                    go_quiet (fail)
                    go_wp2_with fail
                    go_roundw
                    case rel => exact ⟨i + 1, by omega, by go_num, Lib.hid (C2.out.drewN nq)⟩
                    case measure => simp [intOf]; omega
                    
                  · go_wp2_with fail
                    go_quiet (fail)
                    go_wp2_with fail
                    go_roundw
                    case rel => exact ⟨i + 1, by omega, by go_num, Lib.hid (C2.out.drewN nq)⟩
                    case measure => simp [intOf]; omega
                    
              · have d1 : decide ((i : Int) < 16) = false := decide_eq_false (by omega)
                go_wp2_with fail
                refine (known_any wr).mono ?_
                rintro _ w6 ⟨rfl, hb6⟩
                have H6 := Lib.hid (HC.out.dev.bl.trans (hb6.mono HC.out.dev.bl.size))
                clear hb6
                go_wp2_with fail
                go_ret
                exact ⟨rfl, H6.out⟩
            
        · have d1 : decide ((i : Int) < (n : Int)) = false := decide_eq_false (by omega)
          go_wp2_with fail
          refine (crash_picks KI.out.dev HPZ.out).mono ?_
          rintro _ w2 ⟨rfl, hd2, k2⟩
          have hfew : (crashD D (pz.take m)).waits.length = 0 := rfl
          have HC2 := Lib.hid (KI.out.crashed hd2 k2)
          clear hd2 k2
          go_wp2_with fail
          refine (waits_dev HC2.out.dev).mono ?_
          rintro _ w3 ⟨v, rfl, hv, hb3⟩
          rw [hfew] at hv
          obtain ⟨q, cv, rfl, _, _⟩ := own_shape hv
          have HC3 := Lib.hid (HC2.out.below hb3)
          clear hv hb3 HC2 KI hfew
          go_wp2_with fail
          go_loopw [12, 13, 14, 15] (fun u _ _ _ wr => ∃ i : Nat, i ≤ 16 ∧ u = .int .i64 i ∧ Hid (CInv w wr p F D (pz.take m) a b)) (fun u _ _ _ _ => 16 - (intOf u).toNat)
          case atStart => exact ⟨0, by omega, rfl, HC3⟩
          case round =>
            clear HC3
            obtain ⟨i, hi, rfl, HC⟩ := hrel
            have i0 : (0 : Int) ≤ (i : Int) := Int.natCast_nonneg _
            by_cases hlt : i < 16
            · have d1 : decide ((i : Int) < 16) = true := decide_eq_true (by omega)
              have i2 : (i : Int) < 16 := by omega
              go_wp2_with fail
              refine (read_dev HC.out.dev rfl i0 (by rw [HC.out.sec]; exact i2)).mono ?_
              rintro _ w5 ⟨rfl, hr5, hd5, k5, hs5⟩
              have h128 := (sectorD_is HC.out.dev.fine (i : Int)).1
              have cv := conv_bytes (cap := 128) hr5 h128
              obtain ⟨hA, hB⟩ := crash_half (pk := pz.take m) HC.out.fine HC.out.nodup (i : Int)
              have C2 := Lib.hid (HC.out.only hd5 k5)
              have c1 : w5.cell? ⟨a, i, none⟩ = some _ := (C2.out.ra.cell i).trans (strs_get _ i hlt)
              have c2 : w5.cell? ⟨b, i, none⟩ = some _ := (C2.out.rb.cell i).trans (strs_get _ i hlt)
              have l1 := (C2.out.fine.la (i : Int)).1
              have l2 := (sectorD_is C2.out.fine (i : Int)).1
              generalize sectorD (crashD D (pz.take m)) (i : Int) = s0 at *
              generalize sectorD D (i : Int) = s2 at *
              generalize D.last (i : Int) = s1 at *
              have z0 := str_size h128
              have z1 := str_size l1
              have z2 := str_size l2
              have lo0 := str_lo s0
              have lo1 := str_lo s1
              have lo2 := str_lo s2
              have hi0 := str_hi h128
              have hi1 := str_hi l1
              have hi2 := str_hi l2
              simp only [strV] at c1 c2
              generalize strOfNums s0 = S0 at *
              generalize strOfNums s1 = S1 at *
              generalize strOfNums s2 = S2 at *
              have hA' : S0.extract 0 64 = S1.extract 0 64 ∨ S0.extract 0 64 = S2.extract 0 64 := by rw [lo0, lo1, lo2]; rcases hA with h | h <;> rw [h] <;> simp
              have hB' : S0.extract 64 128 = S1.extract 64 128 ∨ S0.extract 64 128 = S2.extract 64 128 := by rw [hi0, hi1, hi2]; rcases hB with h | h <;> rw [h] <;> simp
              clear hA hB lo0 lo1 lo2 hi0 hi1 hi2 hr5 hd5 k5 hs5 h128 l1 l2 HC
              obtain ⟨A0, x0⟩ : ∃ A, S0.extract 0 64 = A := ⟨_, rfl⟩
              obtain ⟨A1, x1⟩ : ∃ A, S1.extract 0 64 = A := ⟨_, rfl⟩
              obtain ⟨A2, x2⟩ : ∃ A, S2.extract 0 64 = A := ⟨_, rfl⟩
              obtain ⟨B0, y0⟩ : ∃ A, S0.extract 64 128 = A := ⟨_, rfl⟩
              obtain ⟨B1, y1⟩ : ∃ A, S1.extract 64 128 = A := ⟨_, rfl⟩
              obtain ⟨B2, y2⟩ : ∃ A, S2.extract 64 128 = A := ⟨_, rfl⟩
              rw [x0, x1, x2] at hA'
              rw [y0, y1, y2] at hB'
              have HA : Hid ((A0.toList == A1.toList) = true ∨ (A0.toList == A1.toList) = false ∧ (A0.toList == A2.toList) = true) := Lib.hid (halves hA')
              have HB : Hid ((B0.toList == B1.toList) = true ∨ (B0.toList == B1.toList) = false ∧ (B0.toList == B2.toList) = true) := Lib.hid (halves hB')
              clear hA' hB'
              rcases HA.out with g1 | ⟨g1, g2⟩
              · rcases HB.out with g3 | ⟨g3, g4⟩
                · go_wp2_with fail
                  go_quiet (fail)
                  go_wp2_with fail
                  go_roundw
                  case rel => exact ⟨i + 1, by omega, by go_num, Lib.hid (C2.out.drewN nq)⟩
                  case measure => simp [intOf]; omega
                  
                · go_wp2_with fail
                  go_quiet (fail)
                  go_wp2_with fail
                  go_roundw
                  case rel => exact ⟨i + 1, by omega, by go_num, Lib.hid (C2.out.drewN nq)⟩
                  case measure => simp [intOf]; omega
                  
              · rcases HB.out with g3 | ⟨g3, g4⟩
                · go_wp2_with fail
                  go_quiet (fail)
                  go_wp2_with fail
                  go_roundw
                  case rel => exact ⟨i + 1, by omega, by go_num, Lib.hid (C2.out.drewN nq)⟩
                  case measure => simp [intOf]; omega
                  
                · go_wp2_with fail
                  go_quiet (fail)
                  go_wp2_with fail
                  go_roundw
                  case rel => exact ⟨i + 1, by omega, by go_num, Lib.hid (C2.out.drewN nq)⟩
                  case measure => simp [intOf]; omega
                  
            · have d1 : decide ((i : Int) < 16) = false := decide_eq_false (by omega)
              go_wp2_with fail
              refine (known_any wr).mono ?_
              rintro _ w6 ⟨rfl, hb6⟩
              have H6 := Lib.hid (HC.out.dev.bl.trans (hb6.mono HC.out.dev.bl.size))
              clear hb6
              go_wp2_with fail
              go_ret
              exact ⟨rfl, H6.out⟩
          

theorem walk (a : Option Addr) (n c : Nat) (os : List OpV) (pa : Option Addr) (m pc : Nat) (pz : List Int) (W : World) (hos : OpsIn W a n c os) (hp : IsRow .u8 W pa m pc pz) (_ : pc * 1 ≤ 140737488351232) :
    Calls Try.prog 3 #[.slice a n c, .slice pa m pc] W fun e w' => e = .returned (.bool true) ∧ Below W.heap.size W w' := main n c a os pa m pc pz W hos hp

theorem own : ownKnob Try.prog.godebug = none := by kernel_rfl
theorem laidOut : laidOutB Try.prog = true := by kernel_rfl

set_option maxRecDepth 100000 in
theorem contract (H : Type) (enc : TypeId × Value → H) (W : World) (base : Nat) (args : Array Value) (ds gs : List (DataW H)) (before : List MemPlace)
    (hval0 : ∀ (j : Nat) t v, Try.f3.params[j]? = some t → args[j]? = some v → Value.okWide Try.prog W .any base t v)
    (hW : DataW.Whole enc Try.prog Try.f3.params.toList Rows.diskKeepsSpec.vars false W args.toList ds gs before)
    (hsz0 : (DataW.weightsEach Try.prog (Try.f3.params.toList ++ Rows.diskKeepsSpec.plain.varTypes Try.prog) (ds ++ gs)).all (· ≤ reachBytes) = true) :
    Calls Try.prog 3 args W fun e W' => ∃ v, e = .returned v ∧ Rows.diskKeepsSpec.post enc Try.prog Try.f3 false true false false W args v W' := by
  have hval : ∀ (j : Nat) t v, Try.f3.params[j]? = some t → args[j]? = some v → Value.okWide Try.prog W .any base t v := hval0
  have hW' := hW
  obtain ⟨p, q, hA0, hV, rfl, hfz, hnd⟩ := hW
  have hA : DataW.TrodAll enc Try.prog W 0 (fun _ => true) true Try.f3.params.toList args.toList ds p := hA0
  have hsz : (DataW.weightsEach Try.prog (Try.f3.params.toList ++ Rows.diskKeepsSpec.plain.varTypes Try.prog) (ds ++ gs)).all (· ≤ reachBytes) = true := hsz0
  rw [Try.params3] at hA hval hsz
  obtain ⟨v0, vs0, d0, ds0, p0, q0, hargs, rfl, rfl, h0, r0'⟩ := trodAll_cons hA
  obtain ⟨v1, vs1, d1, ds1, p1, q1, rfl, rfl, rfl, h1, r1'⟩ := trodAll_cons r0'
  obtain ⟨rfl, rfl, rfl⟩ := trodAll_nil r1'
  obtain rfl : args = #[v0, v1] := by cases args; simp_all
  obtain ⟨rfl, rfl⟩ := trodVars_none hV
  have k0 := h0
  have lt0 : ∀ x ∈ p0, x.block < W.heap.size := by obtain ⟨m, hm⟩ := k0; exact DataW.trod_lt m _ _ _ hm
  have k1 := h1
  have lt1 : ∀ x ∈ p1, x.block < W.heap.size := by obtain ⟨m, hm⟩ := k1; exact DataW.trod_lt m _ _ _ hm
  obtain ⟨a0, n0, c0, rfl⟩ := okWide_slice Try.underlying22 (hval 0 22 v0 rfl rfl)
  obtain ⟨z0, w0⟩ : ∃ os, OpsIn W a0 n0 c0 os := by
    obtain ⟨fuel, hf⟩ := h0
    simp [Value.cells] at hf
    exact ops_in hf
  obtain ⟨a1, n1, c1, rfl⟩ := okWide_slice Try.underlying23 (hval 1 23 v1 rfl rfl)
  obtain ⟨z1, w1, r1⟩ : ∃ zs, IsRow .u8 W a1 n1 c1 zs ∧ c1 * 1 ≤ 140737488351232 := by
    obtain ⟨fuel, hf⟩ := h1
    rcases open_ints Try.underlying23 Try.underlying5 (by kernel_rfl) hf with ⟨hcs, _⟩ | ⟨x, l, c, zs, hcs, _, hl, hm, hz, hx, hcell, hwz⟩
    · simp [Value.cells] at hcs
      obtain ⟨rfl, rfl, rfl⟩ := hcs
      exact ⟨[], .inl ⟨rfl, rfl, rfl, rfl⟩, by omega⟩
    · simp [Value.cells] at hcs
      obtain ⟨rfl, rfl, rfl⟩ := hcs
      simp only [Prod.mk.injEq] at hx
      have hz' : zs.length = c1 := by simpa using hz
      have hs := sized_slice hsz (j := 1) (t := 23) rfl (congrArg some hx.1) Try.underlying23
      rw [show Try.prog.bytesOf 5 = 1 from by kernel_rfl] at hs
      simp only [lits, List.length_map, List.length_take, List.length_drop, reachBytes] at hs
      exact ⟨zs, .inr ⟨_, rfl, hl, hm, hz', hcell, hwz⟩, by omega⟩
  clear hA0 hval0 hsz0
  refine (walk a0 n0 c0 z0 a1 n1 c1 z1 W w0 w1 r1).mono fun e W' ⟨he, bel⟩ => ?_
  subst he
  exact ⟨_, rfl, _, _, _, [], _, [], hW', trodAll_mk1 (shut_bool Try.underlying4 _), (trodAll_cons_mk (Below.trod laidOut (by kernel_rfl) (of_decide_eq_true (by kernel_rfl)) k0 bel lt0) (trodAll_cons_mk (Below.trod laidOut (by kernel_rfl) (of_decide_eq_true (by kernel_rfl)) k1 bel lt1) trodAll_mk0)), rfl, bel.frame _, fun h => by cases h⟩

set_option maxRecDepth 100000 in
theorem lifted (os : Os) (started : os.Started) (H : Type) (enc : TypeId × Value → H) :
    ReturnsInHanded {} Try.checked os 3 .any (Rows.diskKeepsSpec.pre6 enc Try.prog Try.f3 Rows.diskKeepsRow.domain false) (Rows.diskKeepsSpec.post enc Try.prog Try.f3 false true false false) := by
  refine returnsInHanded_of_change_sized (C := Try.checked) own started (by kernel_rfl) Try.func3
    (ChangeSpec.witness6 (enc := enc) (C := Try.checked) false ⟨#[], #[.slice none 0 0, .slice none 0 0], []⟩ 8 (by kernel_rfl) (by kernel_rfl) (by kernel_rfl) (by kernel_rfl)) ?_
  intro W base args ds gs before hval hW _ hsz _
  exact contract H enc W base args ds gs before hval hW hsz

theorem over : Rows.diskKeepsRow.holds Try.pinned (OpenSpec.ofChange Rows.diskKeepsSpec) :=
  OpenClaim.holds_of_wide 3 Try.f3 rfl rfl rfl rfl rfl rfl rfl ⟨rfl, rfl, rfl, rfl, rfl⟩ rfl rfl rfl rfl rfl (by kernel_rfl) Try.func3 (by kernel_rfl)
    (of_decide_eq_true (by kernel_rfl)) (by unfold Func.isWrapper; first | (rw [if_pos (by decide +kernel)]; kernel_rfl) | (rw [if_neg (by decide +kernel)]; exact ⟨rfl, rfl⟩))
    (fun os started H enc _ => lifted os started H enc)

theorem proved : Rows.DiskKeepsSaid := over
#print axioms proved
end Go.Proofs.Ytiheobbollpaaaa.diskKeeps
