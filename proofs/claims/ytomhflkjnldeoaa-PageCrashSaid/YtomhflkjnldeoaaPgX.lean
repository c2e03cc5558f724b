/- PageCrash: mixed. -/
import Derived.Test.YtomhflkjnldeoaaPgW
import Derived.Test.YtomhflkjnldeoaaPgT
namespace Go.Proofs.Ytomhflkjnldeoaa
open Go.RowKit Go.ChangeShapes Go.WideShapes Go.ChangeAt
open Go.Proofs.Ytomhflkjnldeoaa.dk (Bytes)
set_option linter.unusedVariables false

def zs64 : Array Value := Array.replicate 64 (.int .u8 0)
def z64 : List Int := List.replicate 64 0
theorem make_64 : ∀ x : World, (Instr.makeSlice 23 (.int .i64 64) (.int .i64 64)).run Try.prog x = .ok (.slice (some ⟨x.heap.size, 0, none⟩) 64 64) (x.alloc (.cells zs64 5)) := fun x => by
  obtain ⟨i0, hi0, hz0, hz1, hz2⟩ := info_parts infoBy
  have hr := run_make (P := Try.prog) x 23 5 i0 (.int .u8 0) Try.underlying23 hi0 hz0 .i64 .i64 ((64 : Nat) : Int) ((64 : Nat) : Int) (by omega) (Int.le_refl _) (by rw [hz2]; omega) (by omega)
  simp only [Int.toNat_natCast, hz1, Nat.mul_one, Value.cells, madeCells_one] at hr
  exact hr
theorem z64_by : IsBy z64 := fun x hx => by unfold z64 at hx; have := (List.mem_replicate.1 hx).2; omega
theorem conv_64 (x : World) : (convert 23 9 (.slice (some ⟨x.heap.size, 0, none⟩) 64 64)).run Try.prog (x.alloc (.cells zs64 5)) = .ok (.string (strOfNums z64)) (x.alloc (.cells zs64 5)) := by
  have hr := Row.made x zs64 5
  have hl : z64.length = 64 := List.length_replicate
  refine conv_ints (xs := z64) (.inr ⟨x.heap.size, 0, 64, by rw [hl], fun i hi => ?_⟩)
  rw [hl] at hi
  rw [Nat.zero_add, hr.cell]
  unfold zs64 z64
  rw [Array.getElem?_replicate, if_pos hi, List.getElem?_replicate, if_pos hi]
  rfl
/-- Half h of bytes that lie in a row, as a string. -/
theorem conv_half {w : World} {g cap : Nat} {B : List Int} (hB : Bytes w g 0 B) (hl : B.length = 512) {h : Nat} (hh : h < 8) (c : Nat) : (convert 23 9 (.slice (some ⟨g, 64 * h, none⟩) 64 c)).run Try.prog w = .ok (.string (strOfNums (halfAt B h))) w := by
  refine conv_ints (.inr ⟨g, 64 * h, c, by rw [halfAt_len hl hh], fun i hi => ?_⟩)
  rw [halfAt_len hl hh] at hi
  have := hB (64 * h + i) (.int .u8 (B[64 * h + i]?.getD 0)) (by rw [List.getElem?_map, List.getElem?_eq_getElem (by omega)]; rfl)
  rw [Nat.zero_add] at this
  rw [this]
  unfold halfAt
  rw [List.getElem?_take, if_pos hi, List.getElem?_drop]
/-- The numbers of a slice of Puts. -/
def NsAt (w : World) (a : Option Addr) (n : Nat) (f : Nat → Int) : Prop := n = 0 ∨ ∃ bb off, a = some ⟨bb, off, none⟩ ∧ ∀ i, i < n → w.cell? ⟨bb, off + i * 4, none⟩ = some (.int .i64 (f i))
theorem NsAt.below {w w' : World} {a : Option Addr} {n : Nat} {f : Nat → Int} (h : NsAt w a n f) (k : Below w.heap.size w w') : NsAt w' a n f :=
  h.elim .inl fun ⟨bb, off, e, hc⟩ => .inr ⟨bb, off, e, fun i hi => (k.cell (p := ⟨bb, _, none⟩) (World.block_lt_of_cell? w _ (hc i hi))).trans (hc i hi)⟩
def place8 (x : Int) : Nat := (x % 8).toNat
theorem place8_eq (y : Int) : wrap64 ((IntKind.u64.wrap y).tmod 8) = (place8 y : Int) := by
  have e : IntKind.u64.wrap y = y % 18446744073709551616 := rfl
  rw [e, Int.tmod_eq_emod_of_nonneg (by omega)]
  unfold place8 wrap64
  omega
structure MixInv (w wr : World) (g : Nat) (B : List Int) : Prop where
  cells : Bytes wr g 0 B
  ge : w.heap.size ≤ g
  bl : Below w.heap.size w wr
  len : B.length = 512
theorem MixInv.on {w wr w' : World} {g : Nat} {B : List Int} (h : MixInv w wr g B) (k : Below wr.heap.size wr w') : MixInv w w' g B :=
  ⟨fun j v hj => (k.cell (p := ⟨g, _, none⟩) (Bytes_lt h.len h.cells)).trans (h.cells j v hj), h.ge, h.bl.trans (k.mono h.bl.size), h.len⟩
set_option maxRecDepth 100000 in
set_option maxHeartbeats 8000000 in
theorem mixed_any (w : World) (N : Int) (v : Value) (xs : List Int) (j : Nat) (a : Option Addr) (n c : Nat) (f : Nat → Int) (h0 : 0 ≤ N) (h1 : N < 18446744073709551616) (hx : xs.length = 500) (hi : Ints .u8 w v xs) (hb : IsBy xs) (hj : j < 8) (ha : NsAt w a n f) (hn : n ≤ 9223372036854775807)
    (hM : ∀ h, h < 8 → halfAt (pageB N xs) h = z64 ∨ ∃ k, k < n ∧ k < 40 ∧ place8 (f k) = j ∧ halfAt (pageB N xs) h = halfAt (roundB k) h) :
    Calls Try.prog 24 #[.agg #[.int .u64 N, v], .int .i64 j, .slice a n c] w fun e w' => e = .returned (.bool true) ∧ Below w.heap.size w w' := by
  obtain ⟨av, cv, rfl⟩ := hi.len
  rw [hx] at hi
  rw [hx]
  have mk := make_64
  have RB := Lib.hid fun y (hy : Ints .u8 y (.slice av 500 cv) xs) => rbytes_ok N h0 h1 av cv xs y hx hy hb
  have HI := Lib.hid hi
  have PL : Hid ((pageB N xs).length = 512) := Lib.hid (by rw [pageB_len, hx])
  have PB : Hid (IsBy (pageB N xs)) := Lib.hid (pageB_by hb)
  have HM := Lib.hid hM
  have HA := Lib.hid ha
  have HN := Lib.hid hn
  have HJ := Lib.hid hj
  clear h0 h1 hi hb hj ha hM hx hn
  go_enter Try.func24, Try.ntmps24
  go_wp2_with fail
  have B1 : Hid (Below w.heap.size w (w.alloc (.cells #[.int .u64 N, .slice av 500 cv] 25))) := Lib.hid ((Below.refl _ _).alloc (Nat.le_refl _) _)
  refine (RB.out _ (HI.out.below' B1.out)).mono ?_
  rintro _ w2 ⟨g, cap, rfl, ho2, hb2, hg2⟩
  obtain ⟨B, hB⟩ : ∃ B, pageB N xs = B := ⟨_, rfl⟩
  rw [hB] at HM PL PB ho2
  have CP : Hid (512 ≤ cap ∧ cap ≤ 9223372036854775807) := Lib.hid (by
    obtain ⟨p', c', hv, h1, h2⟩ := own_shape ho2
    simp only [Value.slice.injEq] at hv
    obtain ⟨_, _, rfl⟩ := hv
    exact ⟨h1, h2⟩)
  have F0 : Hid (MixInv w w2 g B) := Lib.hid ⟨Bytes_of_own PL.out ho2, Nat.le_trans (by simp) hg2, B1.out.trans (hb2.mono B1.out.size), PL.out⟩
  clear ho2 hb2 hg2 B1 RB HI hB
  go_wp2_with fail
  go_loopw [9] (fun u wr => ∃ h : Nat, h ≤ 8 ∧ u = .int .i64 h ∧ Hid (MixInv w wr g B)) (fun u _ => 8 - (intOf u).toNat)
  case atStart => exact ⟨0, by omega, rfl, F0⟩
  case round =>
    clear F0
    obtain ⟨h, hh, rfl, HF⟩ := hrel
    by_cases hlt : h < 8
    · have d1 : decide ((h : Int) < 8) = true := decide_eq_true (by omega)
      have d2 : (h : Int) < 8 := by omega
      have HH := Lib.hid hlt
      have e1 : IntKind.i64.wrap (64 * (h : Int)) = 64 * (h : Int) := IntWalk.i64_in _ (by omega)
      have e2 : IntKind.i64.wrap (64 * (h : Int) + 64) = 64 * (h : Int) + 64 := IntWalk.i64_in _ (by omega)
      have e3 : IntKind.i64.wrap ((h : Int) + 1) = (h : Int) + 1 := IntWalk.i64_in _ (by omega)
      have g1 : (0 : Int) ≤ 64 * (h : Int) := by omega
      have g2 : 64 * (h : Int) ≤ 64 * (h : Int) + 64 := by omega
      have g3 : 64 * (h : Int) + 64 ≤ (cap : Int) := by have := CP.out; omega
      have g4 : (64 * (h : Int)).toNat = 64 * h := by omega
      have g5 : (64 * (h : Int) + 64).toNat = 64 * h + 64 := by omega
      have g6 : cap ≠ 64 * h := by have := CP.out; omega
      have Q1 := conv_half HF.out.cells PL.out hlt (cap - 64 * h) (cap := cap)
      obtain ⟨S, hS⟩ : ∃ S, strOfNums (halfAt B h) = S := ⟨_, rfl⟩
      obtain ⟨Z, hZ⟩ : ∃ Z, strOfNums z64 = Z := ⟨_, rfl⟩
      have Q2 := conv_64 wr
      rw [hS] at Q1
      rw [hZ] at Q2
      have HS := Lib.hid hS
      have HZ := Lib.hid hZ
      clear hS hZ hlt hh
      go_wp2_with fail
      have HF4 : Hid (MixInv w (wr.alloc (.cells zs64 5)) g B) := Lib.hid (HF.out.on ((Below.refl _ _).alloc (Nat.le_refl _) _))
      generalize wr.alloc (.cells zs64 5) = w4 at *
      have O0 : Hid ((S.toList == Z.toList) = false → halfAt B h ≠ z64) := Lib.hid fun e e2 => by
        rw [← HS.out, ← HZ.out, e2, str_eq] at e
        cases e
      generalize (S.toList == Z.toList) = o0 at *
      clear Q1 Q2 HF HZ
      rename World => w4
      go_loopw [11, 12] (fun u v wr => ∃ (o : Bool) (i : Nat), v = .int .i64 i ∧ u = .bool o ∧ Hid (i ≤ n ∧ i ≤ 40) ∧ Hid (o = false → halfAt B h ≠ z64 ∧ ∀ k, k < i → place8 (f k) = j → halfAt B h ≠ halfAt (roundB k) h) ∧ Hid (MixInv w wr g B)) (fun _ v _ => 40 - (intOf v).toNat)
      case atStart => exact ⟨o0, 0, rfl, rfl, Lib.hid (by omega), Lib.hid fun e => ⟨O0.out e, fun k hk => by omega⟩, HF4⟩
      case round =>
        clear HF4 O0
        obtain ⟨o, i, rfl, rfl, HI, HO, HF⟩ := hrel
        have i0 : (0 : Int) ≤ (i : Int) := Int.natCast_nonneg _
        have ei : IntKind.i64.wrap ((i : Int) + 1) = (i : Int) + 1 := IntWalk.i64_in _ (by have := HI.out; omega)
        have eu : IntKind.u64.wrap ((i : Int) + 1) = (i : Int) + 1 := by rw [show IntKind.u64.wrap ((i : Int) + 1) = ((i : Int) + 1) % 18446744073709551616 from rfl]; have := HI.out; omega
        by_cases hin : i < n ∧ i < 40
        · obtain ⟨q1, q2⟩ := hin
          have d3 : decide ((i : Int) < (n : Int)) = true := decide_eq_true (by omega)
          have d4 : decide ((i : Int) < 40) = true := decide_eq_true (by omega)
          have d5 : (i : Int) < (n : Int) := by omega
          have HQ : Hid (i < n ∧ i < 40) := Lib.hid ⟨q1, q2⟩
          rcases (HA.out.below HF.out.bl) with hn0 | ⟨bb, off, rfl, hc⟩
          · omega
          have c0 := hc i q1
          clear hc q1 q2
          obtain ⟨y, hy⟩ : ∃ y, f i = y := ⟨_, rfl⟩
          rw [hy] at c0
          have HY := Lib.hid hy
          clear hy
          have ep := place8_eq y
          obtain ⟨m, hm⟩ : ∃ m, place8 y = m := ⟨_, rfl⟩
          rw [hm] at ep
          have HMM := Lib.hid hm
          clear hm
          by_cases hmj : m = j
          · subst hmj
            have em : ((m : Int) == (m : Int)) = true := by simp
            have NEXT : Hid (∀ (o' : Bool) (wz : World), Below wr.heap.size wr wz → (o' = false → o = false ∧ halfAt B h ≠ halfAt (roundB i) h) → ((∃ o_1 i_1, Value.int IntKind.i64 ((i : Int) + 1) = Value.int IntKind.i64 (i_1 : Nat) ∧ Value.bool o' = Value.bool o_1 ∧ Hid (i_1 ≤ n ∧ i_1 ≤ 40) ∧ Hid (o_1 = false → halfAt B h ≠ z64 ∧ ∀ (k : Nat), k < i_1 → place8 (f k) = m → halfAt B h ≠ halfAt (roundB k) h) ∧ Hid (MixInv w wz g B)) ∧ 40 - (intOf (Value.int IntKind.i64 ((i : Int) + 1))).toNat < 40 - (intOf (Value.int IntKind.i64 (i : Int))).toNat)) := Lib.hid fun o' wz hb ho => ⟨⟨o', i + 1, rfl, rfl, Lib.hid (by have := HQ.out; omega), Lib.hid fun e => by
              obtain ⟨h1, h2⟩ := ho e
              obtain ⟨h3, h4⟩ := HO.out h1
              refine ⟨h3, fun k hk => ?_⟩
              by_cases e : k = i
              · subst e; exact fun _ => h2
              · exact h4 k (by omega), Lib.hid (HF.out.on hb)⟩, by have := HQ.out; simp [intOf]; omega⟩
            have BD := Lib.hid (body_any ((i : Int) + 1) wr)
            have RD := Lib.hid fun y (hy : Ints .u8 y (.slice (some ⟨wr.heap.size, 0, none⟩) 500 500) (bodyL ((i : Int) + 1))) => rbytes_ok ((i : Int) + 1) (by omega) (by have := HQ.out; omega) (some ⟨wr.heap.size, 0, none⟩) 500 (bodyL ((i : Int) + 1)) y (bodyL_len _) hy (bodyL_by _)
            cases o
            · go_wp2_with fail
              refine BD.out.mono ?_
              rintro _ w6 ⟨rfl, ho6, k6, hs6⟩
              have I6 := Lib.hid (ints_own ho6)
              have B6 : Hid (Below wr.heap.size wr w6) := Lib.hid ((Only.refl [] wr).and k6 |>.toBelow (Nat.le_refl _) (by simp))
              clear ho6 k6 hs6 BD
              go_wp2_with fail
              refine (RD.out w6 I6.out).mono ?_
              rintro _ w7 ⟨gc, capc, rfl, ho7, hb7, hg7⟩
              have C7 : Hid (Bytes w7 gc 0 (roundB i)) := Lib.hid (Bytes_of_own (roundB_len i) ho7)
              have CC : Hid (512 ≤ capc) := Lib.hid (by
                obtain ⟨p', c', hv, h1, h2⟩ := own_shape ho7
                simp only [Value.slice.injEq] at hv
                obtain ⟨_, _, rfl⟩ := hv
                exact h1)
              have B7 := Lib.hid (B6.out.trans (hb7.mono B6.out.size))
              have k3 : 64 * (h : Int) + 64 ≤ (capc : Int) := by have := CC.out; have := HH.out; omega
              have k6 : capc ≠ 64 * h := by have := CC.out; have := HH.out; omega
              have Q3 := conv_half C7.out (roundB_len i) HH.out (capc - 64 * h) (cap := capc)
              obtain ⟨T, hT⟩ : ∃ T, strOfNums (halfAt (roundB i) h) = T := ⟨_, rfl⟩
              rw [hT] at Q3
              have HT := Lib.hid hT
              clear hT ho7 hb7 hg7 I6 B6 RD
              go_wp2_with fail
              have OE : Hid ((S.toList == T.toList) = false → halfAt B h ≠ halfAt (roundB i) h) := Lib.hid fun e e2 => by
                rw [← HS.out, ← HT.out, e2, str_eq] at e
                cases e
              exact NEXT.out _ _ B7.out (fun e => ⟨trivial, OE.out e⟩)
            · go_wp2_with fail
              refine BD.out.mono ?_
              rintro _ w6 ⟨rfl, ho6, k6, hs6⟩
              have I6 := Lib.hid (ints_own ho6)
              have B6 : Hid (Below wr.heap.size wr w6) := Lib.hid ((Only.refl [] wr).and k6 |>.toBelow (Nat.le_refl _) (by simp))
              clear ho6 k6 hs6 BD
              go_wp2_with fail
              refine (RD.out w6 I6.out).mono ?_
              rintro _ w7 ⟨gc, capc, rfl, ho7, hb7, hg7⟩
              have B7 := Lib.hid (B6.out.trans (hb7.mono B6.out.size))
              clear ho7 hb7 hg7 I6 B6 RD
              go_wp2_with fail
              exact NEXT.out _ _ B7.out (fun e => by cases e)
          · have em : ((m : Int) == (j : Int)) = false := by simp; omega
            have NEXT : Hid ((∃ o_1 i_1, Value.int IntKind.i64 ((i : Int) + 1) = Value.int IntKind.i64 (i_1 : Nat) ∧ Value.bool o = Value.bool o_1 ∧ Hid (i_1 ≤ n ∧ i_1 ≤ 40) ∧ Hid (o_1 = false → halfAt B h ≠ z64 ∧ ∀ (k : Nat), k < i_1 → place8 (f k) = j → halfAt B h ≠ halfAt (roundB k) h) ∧ Hid (MixInv w wr g B)) ∧ 40 - (intOf (Value.int IntKind.i64 ((i : Int) + 1))).toNat < 40 - (intOf (Value.int IntKind.i64 (i : Int))).toNat) := Lib.hid ⟨⟨o, i + 1, rfl, rfl, Lib.hid (by have := HQ.out; omega), Lib.hid fun e => by
              obtain ⟨h3, h4⟩ := HO.out e
              refine ⟨h3, fun k hk hp => ?_⟩
              by_cases e : k = i
              · subst e; rw [HY.out, HMM.out] at hp; exact absurd hp hmj
              · exact h4 k (by omega) hp, HF⟩, by have := HQ.out; simp [intOf]; omega⟩
            go_wp2_with fail
            exact NEXT.out
        · have OT : Hid (o = true) := Lib.hid (by
            cases o
            · exfalso
              obtain ⟨h3, h4⟩ := HO.out rfl
              rcases HM.out h HH.out with e | ⟨k, k1, k2, k3, e⟩
              · exact h3 e
              · exact h4 k (by have := HI.out; omega) k3 e
            · rfl)
          obtain rfl := OT.out
          have HFz := Lib.hid HF.out
          have goOn : Hid ((∃ h_1, h_1 ≤ 8 ∧ Value.int IntKind.i64 ((h : Int) + 1) = Value.int IntKind.i64 (h_1 : Nat) ∧ Hid (MixInv w wr g B)) ∧ 8 - (intOf (Value.int IntKind.i64 ((h : Int) + 1))).toNat < 8 - (intOf (Value.int IntKind.i64 (h : Int))).toNat) := Lib.hid ⟨⟨h + 1, by have := HH.out; omega, rfl, HF⟩, by have := HH.out; simp [intOf]; omega⟩
          by_cases q1 : i < n
          · have d3 : decide ((i : Int) < (n : Int)) = true := decide_eq_true (by omega)
            have d5 : (i : Int) < (n : Int) := by omega
            have d4 : decide ((i : Int) < 40) = false := decide_eq_false (by omega)
            clear hin
            go_wp2_with fail
            exact goOn.out
          · have d3 : decide ((i : Int) < (n : Int)) = false := decide_eq_false (by omega)
            have d5 : ¬ (i : Int) < (n : Int) := by omega
            clear hin
            go_wp2_with fail
            exact goOn.out
    · have d1 : decide ((h : Int) < 8) = false := decide_eq_false (by omega)
      have B9 := Lib.hid HF.out.bl
      clear HF
      go_wp2_with fail
      go_ret
      exact ⟨rfl, B9.out⟩
end Go.Proofs.Ytomhflkjnldeoaa
