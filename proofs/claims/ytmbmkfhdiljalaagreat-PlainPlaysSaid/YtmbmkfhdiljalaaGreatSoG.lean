/- slices.Sort at uint64: partition, partitionEqual (printed by gen_part.py). -/
import Derived.Test.YtmbmkfhdiljalaaGreatSoF
namespace Go.Proofs.YtmbmkfhdiljalaaGreat
open Go.RowKit Go.ChangeShapes Go.WideShapes Go.ChangeAt
open Go.Sort (swp ltInt)
set_option linter.unusedVariables false
set_option linter.unusedSimpArgs false

theorem scanUp_stop {p : Int → Bool} {d : Array Int} {j i : Nat} (h : ¬ i ≤ j ∨ p d[i]! = false) : Sort.scanUp p d j i = i := by
  rw [Sort.scanUp, if_neg]
  rcases h with h | h
  · simp; intro h2; omega
  · simp [h]
theorem scanUp_go {p : Int → Bool} {d : Array Int} {j i : Nat} (h : i ≤ j) (hp : p d[i]! = true) : Sort.scanUp p d j i = Sort.scanUp p d j (i + 1) := by
  rw [Sort.scanUp, if_pos (by simp [h, hp])]
theorem scanDown_stop {p : Int → Bool} {d : Array Int} {j i : Nat} (h : ¬ i ≤ j ∨ p d[j]! = false) : Sort.scanDown p d i j = j := by
  cases j with
  | zero => rfl
  | succ j =>
    rw [Sort.scanDown, if_neg]
    rcases h with h | h
    · simp; intro h2; omega
    · simp [h]
theorem scans_apart {p q : Int → Bool} (hq : ∀ x, q x = !p x) {d : Array Int} {i j i2 j2 : Nat} (h1 : Sort.scanUp p d j i = i2) (h2 : Sort.scanDown q d i2 j = j2) (h : ¬ j2 < i2) (h0 : 0 < i) : i2 < j2 := by
  obtain ⟨u1, u2, u3, u4⟩ := Sort.scanUp_spec p d j _ i rfl
  obtain ⟨v1, v2, v3, v4⟩ := Sort.scanDown_spec q d i2 j
  rw [h1] at u1 u2 u3 u4
  rw [h2] at v1 v2 v3 v4
  rcases Nat.lt_or_ge i2 j2 with h3 | h3
  · exact h3
  · have e : i2 = j2 := by omega
    subst e
    have a1 := u4 (by omega)
    have a2 := v4 (by omega) (by omega)
    rw [hq, a1] at a2
    cases a2
theorem scanDown_go {p : Int → Bool} {d : Array Int} {j i : Nat} (h : i ≤ j) (hp : p d[j]! = true) (h0 : 0 < j) : Sort.scanDown p d i j = Sort.scanDown p d i (j - 1) := by
  cases j with
  | zero => omega
  | succ j => rw [Sort.scanDown, if_pos (by simp [h, hp])]; rfl

def PqTo (w : World) (B g cap n : Nat) (r : Nat × Array Int) (e : Ending) (w' : World) : Prop := e = .returned (.int .i64 (r.1 : Int)) ∧ UT w w' B g cap n r.2
set_option maxRecDepth 100000 in
set_option maxHeartbeats 8000000 in
theorem partEq_on {B g cap n : Nat} {d : Array Int} {w : World} (h : UA w B g cap n d) (hn : n ≤ 1000000) (a b pivot : Nat) (hp1 : a ≤ pivot) (hp2 : pivot < b) (hb : b ≤ n) :
    Calls Tryz.prog 101 #[.slice (some ⟨g, 0, none⟩) n cap, .int .i64 (a : Int), .int .i64 (b : Int), .int .i64 (pivot : Int)] w (PqTo w B g cap n (Sort.partitionEqual ltInt d a b pivot)) := by
  have HU := Lib.hid (UT.refl h)
  have HF : Hid (a ≤ pivot ∧ pivot < b ∧ b ≤ n ∧ n ≤ 1000000) := Lib.hid ⟨hp1, hp2, hb, hn⟩
  have an : a < n := by omega
  have pivotn : pivot < n := by omega
  clear h hp1 hp2 hb hn
  go_enter Tryz.func101, Tryz.ntmps101
  go_upto_region 1 with fail
  go_cut [8] from 11 (fun s8 wc => s8 = .int .i64 0 ∧ Hid (UT w wc B g cap n (swp d a pivot)))
  case first =>
    have c1 := HU.out.row.cell a an
    have c2 := HU.out.row.cell pivot pivotn
    have q1 := HU.out.row.free a
    have q2 := HU.out.row.free pivot
    generalize hx : (d)[a]! = x9 at c1
    generalize hy : (d)[pivot]! = y9 at c2
    have HS := Lib.hid (HU.out.swap a pivot hx hy).drew
    by_cases hij : a = pivot
    · have hxy : y9 = x9 := by rw [← hx, ← hy, hij]
      subst hxy
      clear hx hy
      subst hij
      go_region
      go_wp2_with fail
      go_meet
      exact ⟨rfl, HS⟩
    · have ne1 : ¬ a = pivot := hij
      have ne2 : ¬ pivot = a := fun e => hij e.symm
      clear hij hx hy
      go_region
      go_wp2_with fail
      go_meet
      exact ⟨rfl, HS⟩
  case rest =>
    obtain ⟨rfl, HU⟩ := hcut
    clear an pivotn
    generalize hD : swp d a pivot = D at HU
    have HD := Lib.hid hD
    clear hD
    obtain ⟨i0, hi0⟩ : ∃ i0, a + 1 = i0 := ⟨_, rfl⟩
    obtain ⟨j0, hj0⟩ : ∃ j0, b - 1 = j0 := ⟨_, rfl⟩
    have e1 : IntKind.i64.wrap ((a : Int) + 1) = (i0 : Int) := by rw [w_inc _ (by have := HF.out; omega), hi0]
    have e2 : IntKind.i64.wrap ((b : Int) - 1) = (j0 : Int) := by rw [w_dec _ (by have := HF.out; omega) (by have := HF.out; omega), hj0]
    have HR0 : Hid (a < i0 ∧ i0 ≤ j0 + 1 ∧ j0 < b ∧ a ≤ j0) := Lib.hid (by have := HF.out; omega)
    have HE0 : Hid (Sort.partitionEqual ltInt d a b pivot = Sort.partEqLoop ltInt a i0 j0 D) := Lib.hid (by unfold Sort.partitionEqual; rw [HD.out, hi0, hj0])
    clear hi0 hj0
    go_upto_block 0 with fail
    go_cut [9] from 29 (fun s wc => ∃ k : Nat, s = .int .i64 (k : Int) ∧ Hid (k = (Sort.partitionEqual ltInt d a b pivot).1 ∧ UT w wc B g cap n (Sort.partitionEqual ltInt d a b pivot).2))
    case first =>
      go_wp2_with fail
      go_loopw [9, 10] (fun u v wr => ∃ i j : Nat, (u = .int .i64 (i : Int) ∧ v = .int .i64 (j : Int)) ∧ Hid (a < i ∧ i ≤ j + 1 ∧ j < b ∧ a ≤ j) ∧ Hid (∃ D, UT w wr B g cap n D ∧ Sort.partitionEqual ltInt d a b pivot = Sort.partEqLoop ltInt a i j D)) (fun u v _ => (intOf v + 1 - intOf u).toNat)
      case atStart => exact ⟨i0, j0, ⟨rfl, rfl⟩, HR0, Lib.hid ⟨D, HU.out, HE0.out⟩⟩
      case round =>
        obtain ⟨i, j, ⟨rfl, rfl⟩, HR1, hR⟩ := hrel
        clear HU HD HE0
        obtain ⟨D, hu, hd⟩ := hR.out
        have HU := Lib.hid hu
        have HE1 := Lib.hid hd
        clear hu hd hR
        obtain ⟨P1, hP1⟩ : ∃ P : Int → Bool, (fun x => !ltInt D[a]! x) = P := ⟨_, rfl⟩
        obtain ⟨P2, hP2⟩ : ∃ P : Int → Bool, (fun x => ltInt D[a]! x) = P := ⟨_, rfl⟩
        have HP1 : Hid (∀ x, P1 x = !ltInt D[a]! x) := Lib.hid (fun x => by rw [← hP1])
        have HP2 : Hid (∀ x, P2 x = ltInt D[a]! x) := Lib.hid (fun x => by rw [← hP2])
        have HEQ : Hid (Sort.partEqLoop ltInt a i j D = if Sort.scanUp P1 D j i > Sort.scanDown P2 D (Sort.scanUp P1 D j i) j then (Sort.scanUp P1 D j i, D) else Sort.partEqLoop ltInt a (Sort.scanUp P1 D j i + 1) (Sort.scanDown P2 D (Sort.scanUp P1 D j i) j - 1) (swp D (Sort.scanUp P1 D j i) (Sort.scanDown P2 D (Sort.scanUp P1 D j i) j))) := Lib.hid (by subst hP1; subst hP2; rw [Sort.partEqLoop_eq])
        clear hP1 hP2
        have HF1 := HF
        have HF : Hid ((a < i ∧ i ≤ j + 1 ∧ j < b ∧ a ≤ j) ∧ a ≤ pivot ∧ pivot < b ∧ b ≤ n ∧ n ≤ 1000000) := Lib.hid ⟨HR1.out, HF1.out⟩
        go_upto_block 2 with fail
        go_cut [9] from 29 to 45 (fun s wc => ∃ k : Nat, s = .int .i64 (k : Int) ∧ Hid (a < k ∧ k ≤ j + 1 ∧ j < b) ∧ Hid (Sort.scanUp P1 D j i = k) ∧ Hid (UT w wc B g cap n D))
        case first =>
          go_wp2_with fail
          go_loopw [9] (fun u wr => ∃ k : Nat, u = .int .i64 (k : Int) ∧ Hid (a < k ∧ k ≤ j + 1 ∧ j < b) ∧ Hid (UT w wr B g cap n D) ∧ Hid (Sort.scanUp P1 D j i = Sort.scanUp P1 D j k)) (fun u _ => (j + 1) - (intOf u).toNat)
          case atStart => exact ⟨i, rfl, Lib.hid (by have := HF.out; omega), HU, Lib.hid rfl⟩
          case round =>
            obtain ⟨k, rfl, HR, HU, HE⟩ := hrel
            by_cases hk : k ≤ j
            · have d1 : decide ((k : Int) ≤ (j : Int)) = true := decide_eq_true (by omega)
              have d1' : decide (k ≤ j) = true := decide_eq_true hk
              have HK := Lib.hid hk
              clear hk
              have kn : k < n := by have := HR.out; have := HF.out; have := HK.out; omega
              have an : a < n := by have := HR.out; have := HF.out; omega
              have e1 : IntKind.i64.wrap ((k : Int) + 1) = ((k + 1 : Nat) : Int) := w_inc _ (by have := HF.out; omega)
              have c1 := HU.out.row.cell k kn
              have c2 := HU.out.row.cell a an
              generalize hx : (D)[k]! = x at c1
              generalize hy : (D)[a]! = y at c2
              have HX := Lib.hid hx
              have HY := Lib.hid hy
              clear hx hy
              cases hl : ltInt y x
              · have HL := Lib.hid hl
                clear hl
                go_upto_region 3 with fail
                go_quiet ((go_at_call 100; exact Calls.quiet_of_same (less_is _ _ _ HL.out _)))
                have HU := Lib.hid (HU.out.drewN nq)
                go_wp2_with fail
                go_roundw
                case rel => exact ⟨k + 1, by go_num, Lib.hid (by have := HR.out; have := HK.out; omega), HU, Lib.hid (by rw [HE.out, scanUp_go HK.out (by rw [HP1.out, HX.out, HY.out, HL.out]; first | done | rfl)])⟩
                case measure => simp [intOf]; have := HK.out; have := HR.out; omega
              · have HL := Lib.hid hl
                clear hl
                go_upto_region 3 with fail
                go_quiet ((go_at_call 100; exact Calls.quiet_of_same (less_is _ _ _ HL.out _)))
                have HU := Lib.hid (HU.out.drewN nq)
                go_wp2_with fail
                go_meet
                exact ⟨k, rfl, Lib.hid (by have := HR.out; omega), Lib.hid (by rw [HE.out, scanUp_stop (.inr (by rw [HP1.out, HX.out, HY.out, HL.out]; first | done | rfl))]), HU⟩
            · have d1 : decide ((k : Int) ≤ (j : Int)) = false := decide_eq_false (by omega)
              have d1' : decide (k ≤ j) = false := decide_eq_false hk
              have HK := Lib.hid hk
              clear hk
              go_upto_region 3 with fail
              go_quiet (fail)
              have HU := Lib.hid (HU.out.drewN nq)
              go_wp2_with fail
              go_meet
              exact ⟨k, rfl, Lib.hid (by have := HR.out; omega), Lib.hid (by rw [HE.out, scanUp_stop (.inl HK.out)]), HU⟩
        case rest =>
          obtain ⟨i2, rfl, HR2, HI2, HU⟩ := hcut
          have HF2 := HF
          have HF : Hid ((a < i ∧ i ≤ j + 1 ∧ j < b ∧ a ≤ j) ∧ (a < i2 ∧ i2 ≤ j + 1) ∧ i ≤ i2 ∧ b ≤ n ∧ n ≤ 1000000) := Lib.hid (by have := HF2.out; have := HR2.out; have h3 := Sort.scanUp_ge P1 D j i; rw [HI2.out] at h3; omega)
          go_upto_block 4 with fail
          go_cut [10] from 46 to 61 (fun s wc => ∃ k : Nat, s = .int .i64 (k : Int) ∧ Hid (a ≤ k ∧ i2 ≤ k + 1 ∧ k < b ∧ a < i2) ∧ Hid (Sort.scanDown P2 D i2 j = k) ∧ Hid (UT w wc B g cap n D))
          case first =>
            go_wp2_with fail
            go_loopw [10] (fun u wr => ∃ k : Nat, u = .int .i64 (k : Int) ∧ Hid (a ≤ k ∧ i2 ≤ k + 1 ∧ k < b ∧ a < i2) ∧ Hid (UT w wr B g cap n D) ∧ Hid (Sort.scanDown P2 D i2 j = Sort.scanDown P2 D i2 k)) (fun u _ => (intOf u).toNat)
            case atStart => exact ⟨j, rfl, Lib.hid (by have := HF.out; omega), HU, Lib.hid rfl⟩
            case round =>
              obtain ⟨k, rfl, HR, HU, HE⟩ := hrel
              by_cases hk : i2 ≤ k
              · have d1 : decide ((i2 : Int) ≤ (k : Int)) = true := decide_eq_true (by omega)
                have d1' : decide (i2 ≤ k) = true := decide_eq_true hk
                have HK := Lib.hid hk
                clear hk
                have kn : k < n := by have := HR.out; have := HF.out; have := HK.out; omega
                have an : a < n := by have := HR.out; have := HF.out; omega
                have e1 : IntKind.i64.wrap ((k : Int) - 1) = ((k - 1 : Nat) : Int) := w_dec _ (by have := HF.out; omega) (by have := HR.out; have := HK.out; omega)
                have c1 := HU.out.row.cell k kn
                have c2 := HU.out.row.cell a an
                generalize hx : (D)[k]! = x at c1
                generalize hy : (D)[a]! = y at c2
                have HX := Lib.hid hx
                have HY := Lib.hid hy
                clear hx hy
                cases hl : ltInt y x
                · have HL := Lib.hid hl
                  clear hl
                  go_upto_region 5 with fail
                  go_quiet ((go_at_call 100; exact Calls.quiet_of_same (less_is _ _ _ HL.out _)))
                  have HU := Lib.hid (HU.out.drewN nq)
                  go_wp2_with fail
                  go_meet
                  exact ⟨k, rfl, Lib.hid (by have := HR.out; omega), Lib.hid (by rw [HE.out, scanDown_stop (.inr (by rw [HP2.out, HX.out, HY.out, HL.out]; first | done | rfl))]), HU⟩
                · have HL := Lib.hid hl
                  clear hl
                  go_upto_region 5 with fail
                  go_quiet ((go_at_call 100; exact Calls.quiet_of_same (less_is _ _ _ HL.out _)))
                  have HU := Lib.hid (HU.out.drewN nq)
                  go_wp2_with fail
                  go_roundw
                  case rel => exact ⟨k - 1, by go_num, Lib.hid (by have := HR.out; have := HK.out; omega), HU, Lib.hid (by rw [HE.out, scanDown_go HK.out (by rw [HP2.out, HX.out, HY.out, HL.out]; first | done | rfl) (by have := HR.out; have := HK.out; omega)])⟩
                  case measure => simp [intOf]; have := HK.out; have := HR.out; omega
              · have d1 : decide ((i2 : Int) ≤ (k : Int)) = false := decide_eq_false (by omega)
                have d1' : decide (i2 ≤ k) = false := decide_eq_false hk
                have HK := Lib.hid hk
                clear hk
                go_upto_region 5 with fail
                go_quiet (fail)
                have HU := Lib.hid (HU.out.drewN nq)
                go_wp2_with fail
                go_meet
                exact ⟨k, rfl, Lib.hid (by have := HR.out; omega), Lib.hid (by rw [HE.out, scanDown_stop (.inl HK.out)]), HU⟩
          case rest =>
            obtain ⟨j2, rfl, HR3, HJ2, HU⟩ := hcut
            have HG : Hid (¬ i2 > j2 → Sort.partEqLoop ltInt a i j D = Sort.partEqLoop ltInt a (i2 + 1) (j2 - 1) (swp D i2 j2)) := Lib.hid (fun h => by rw [HEQ.out, HI2.out, HJ2.out, if_neg h])
            have HGs : Hid (i2 > j2 → Sort.partEqLoop ltInt a i j D = (i2, D)) := Lib.hid (fun h => by rw [HEQ.out, HI2.out, HJ2.out, if_pos h])
            have HJL : Hid (j2 ≤ j) := Lib.hid (by have h3 := Sort.scanDown_le P2 D i2 j; rw [HJ2.out] at h3; exact h3)
            by_cases hgt : j2 < i2
            · have d1 : decide ((j2 : Int) < (i2 : Int)) = true := decide_eq_true (by omega)
              have d1' : decide (j2 < i2) = true := decide_eq_true hgt
              have HGT := Lib.hid hgt
              clear hgt
              go_wp2_with fail
              go_meet
              exact ⟨i2, rfl, Lib.hid (by rw [HE1.out, HGs.out HGT.out]; exact ⟨rfl, HU.out⟩)⟩
            · have d1 : decide ((j2 : Int) < (i2 : Int)) = false := decide_eq_false (by omega)
              have d1' : decide (j2 < i2) = false := decide_eq_false hgt
              have HGT := Lib.hid hgt
              have HAP : Hid (i2 < j2) := Lib.hid (scans_apart (fun x => by rw [HP2.out, HP1.out, Bool.not_not]) HI2.out HJ2.out HGT.out (by have := HF2.out; omega))
              have i2n : i2 < n := by have := HF.out; have := HR3.out; omega
              have j2n : j2 < n := by have := HF.out; have := HR3.out; omega
              clear hgt
              go_upto_region 8 with fail
              go_cut [8] from 65 to 78 (fun s8 wc => s8 = .int .i64 0 ∧ Hid (UT w wc B g cap n (swp D i2 j2)))
              case first =>
                have c1 := HU.out.row.cell i2 i2n
                have c2 := HU.out.row.cell j2 j2n
                have q1 := HU.out.row.free i2
                have q2 := HU.out.row.free j2
                generalize hx : (D)[i2]! = x9 at c1
                generalize hy : (D)[j2]! = y9 at c2
                have HS := Lib.hid (HU.out.swap i2 j2 hx hy).drew
                by_cases hij : i2 = j2
                · have hxy : y9 = x9 := by rw [← hx, ← hy, hij]
                  subst hxy
                  clear hx hy
                  subst hij
                  go_region
                  go_wp2_with fail
                  go_meet
                  exact ⟨rfl, HS⟩
                · have ne1 : ¬ i2 = j2 := hij
                  have ne2 : ¬ j2 = i2 := fun e => hij e.symm
                  clear hij hx hy
                  go_region
                  go_wp2_with fail
                  go_meet
                  exact ⟨rfl, HS⟩
              case rest =>
                obtain ⟨rfl, HU⟩ := hcut
                have e1 : IntKind.i64.wrap ((i2 : Int) + 1) = ((i2 + 1 : Nat) : Int) := w_inc _ (by have := HF.out; omega)
                have e2 : IntKind.i64.wrap ((j2 : Int) - 1) = ((j2 - 1 : Nat) : Int) := w_dec _ (by have := HF.out; omega) (by have := HGT.out; have := HR3.out; omega)
                go_wp2_with fail
                go_roundw
                case rel => exact ⟨i2 + 1, j2 - 1, ⟨by go_num, rfl⟩, Lib.hid (by have := HF.out; have := HR3.out; have := HAP.out; have := HJL.out; omega), Lib.hid ⟨_, HU.out, by rw [HE1.out, HG.out HGT.out]⟩⟩
                case measure => simp [intOf]; have := HF.out; have := HR3.out; have := HGT.out; have := HJL.out; omega
    case rest =>
      obtain ⟨k, rfl, hk⟩ := hcut
      have HK := Lib.hid hk.out
      clear hk
      go_wp2_with fail
      go_ret
      exact ⟨by rw [← HK.out.1]; rfl, HK.out.2⟩
def PnTo (w : World) (B g cap n : Nat) (r : Nat × Bool × Array Int) (e : Ending) (w' : World) : Prop := e = .returned (.tuple #[.int .i64 (r.1 : Int), .bool r.2.1]) ∧ UT w w' B g cap n r.2.2
set_option maxRecDepth 100000 in
set_option maxHeartbeats 8000000 in
theorem part_on {B g cap n : Nat} {d : Array Int} {w : World} (h : UA w B g cap n d) (hn : n ≤ 1000000) (a b pivot : Nat) (hp1 : a ≤ pivot) (hp2 : pivot < b) (hb : b ≤ n) :
    Calls Tryz.prog 102 #[.slice (some ⟨g, 0, none⟩) n cap, .int .i64 (a : Int), .int .i64 (b : Int), .int .i64 (pivot : Int)] w (PnTo w B g cap n (Sort.partition ltInt d a b pivot)) := by
  have HU := Lib.hid (UT.refl h)
  have HF : Hid (a ≤ pivot ∧ pivot < b ∧ b ≤ n ∧ n ≤ 1000000) := Lib.hid ⟨hp1, hp2, hb, hn⟩
  have an : a < n := by omega
  have pivotn : pivot < n := by omega
  clear h hp1 hp2 hb hn
  go_enter Tryz.func102, Tryz.ntmps102
  go_upto_region 1 with fail
  go_cut [8] from 12 (fun s8 wc => s8 = .int .i64 0 ∧ Hid (UT w wc B g cap n (swp d a pivot)))
  case first =>
    have c1 := HU.out.row.cell a an
    have c2 := HU.out.row.cell pivot pivotn
    have q1 := HU.out.row.free a
    have q2 := HU.out.row.free pivot
    generalize hx : (d)[a]! = x9 at c1
    generalize hy : (d)[pivot]! = y9 at c2
    have HS := Lib.hid (HU.out.swap a pivot hx hy).drew
    by_cases hij : a = pivot
    · have hxy : y9 = x9 := by rw [← hx, ← hy, hij]
      subst hxy
      clear hx hy
      subst hij
      go_region
      go_wp2_with fail
      go_meet
      exact ⟨rfl, HS⟩
    · have ne1 : ¬ a = pivot := hij
      have ne2 : ¬ pivot = a := fun e => hij e.symm
      clear hij hx hy
      go_region
      go_wp2_with fail
      go_meet
      exact ⟨rfl, HS⟩
  case rest =>
    obtain ⟨rfl, HU⟩ := hcut
    clear pivotn
    generalize hD : swp d a pivot = D at HU
    have HD := Lib.hid hD
    clear hD
    obtain ⟨i0, hi0⟩ : ∃ i0, a + 1 = i0 := ⟨_, rfl⟩
    obtain ⟨j0, hj0⟩ : ∃ j0, b - 1 = j0 := ⟨_, rfl⟩
    have e1 : IntKind.i64.wrap ((a : Int) + 1) = (i0 : Int) := by rw [w_inc _ (by have := HF.out; omega), hi0]
    have e2 : IntKind.i64.wrap ((b : Int) - 1) = (j0 : Int) := by rw [w_dec _ (by have := HF.out; omega) (by have := HF.out; omega), hj0]
    have HR0 : Hid (a < i0 ∧ i0 ≤ j0 + 1 ∧ j0 < b ∧ a ≤ j0) := Lib.hid (by have := HF.out; omega)
    obtain ⟨P1, hP1⟩ : ∃ P : Int → Bool, (fun x => ltInt x D[a]!) = P := ⟨_, rfl⟩
    obtain ⟨P2, hP2⟩ : ∃ P : Int → Bool, (fun x => !ltInt x D[a]!) = P := ⟨_, rfl⟩
    have HP1 : Hid (∀ x, P1 x = ltInt x D[a]!) := Lib.hid (fun x => by rw [← hP1])
    have HP2 : Hid (∀ x, P2 x = !ltInt x D[a]!) := Lib.hid (fun x => by rw [← hP2])
    have HA0 : Hid (Sort.partition ltInt d a b pivot = if Sort.scanUp P1 D j0 i0 > Sort.scanDown P2 D (Sort.scanUp P1 D j0 i0) j0 then (Sort.scanDown P2 D (Sort.scanUp P1 D j0 i0) j0, true, swp D (Sort.scanDown P2 D (Sort.scanUp P1 D j0 i0) j0) a) else
      let r := Sort.partLoop ltInt a (Sort.scanUp P1 D j0 i0 + 1) (Sort.scanDown P2 D (Sort.scanUp P1 D j0 i0) j0 - 1) (swp D (Sort.scanUp P1 D j0 i0) (Sort.scanDown P2 D (Sort.scanUp P1 D j0 i0) j0)); (r.1, false, swp r.2 r.1 a)) := Lib.hid (by subst hP1; subst hP2; unfold Sort.partition; rw [HD.out, hi0, hj0])
    clear hi0 hj0 hP1 hP2
    generalize hR : Sort.partition ltInt d a b pivot = R at *
    clear hR
    have HF1 := HF
    have HF : Hid ((a < i0 ∧ i0 ≤ j0 + 1 ∧ j0 < b ∧ a ≤ j0) ∧ a ≤ pivot ∧ pivot < b ∧ b ≤ n ∧ n ≤ 1000000) := Lib.hid ⟨HR0.out, HF1.out⟩
    go_upto_block 0 with fail
    go_cut [10] from 30 (fun s wc => ∃ k : Nat, s = .int .i64 (k : Int) ∧ Hid (a < k ∧ k ≤ j0 + 1 ∧ j0 < b) ∧ Hid (Sort.scanUp P1 D j0 i0 = k) ∧ Hid (UT w wc B g cap n D))
    case first =>
      go_wp2_with fail
      go_loopw [10] (fun u wr => ∃ k : Nat, u = .int .i64 (k : Int) ∧ Hid (a < k ∧ k ≤ j0 + 1 ∧ j0 < b) ∧ Hid (UT w wr B g cap n D) ∧ Hid (Sort.scanUp P1 D j0 i0 = Sort.scanUp P1 D j0 k)) (fun u _ => (j0 + 1) - (intOf u).toNat)
      case atStart => exact ⟨i0, rfl, Lib.hid (by have := HF.out; omega), HU, Lib.hid rfl⟩
      case round =>
        obtain ⟨k, rfl, HR, HU, HE⟩ := hrel
        by_cases hk : k ≤ j0
        · have d1 : decide ((k : Int) ≤ (j0 : Int)) = true := decide_eq_true (by omega)
          have d1' : decide (k ≤ j0) = true := decide_eq_true hk
          have HK := Lib.hid hk
          clear hk
          have kn : k < n := by have := HR.out; have := HF.out; have := HK.out; omega
          have an : a < n := by have := HR.out; have := HF.out; omega
          have e1 : IntKind.i64.wrap ((k : Int) + 1) = ((k + 1 : Nat) : Int) := w_inc _ (by have := HF.out; omega)
          have c1 := HU.out.row.cell k kn
          have c2 := HU.out.row.cell a an
          generalize hx : (D)[k]! = x at c1
          generalize hy : (D)[a]! = y at c2
          have HX := Lib.hid hx
          have HY := Lib.hid hy
          clear hx hy
          cases hl : ltInt x y
          · have HL := Lib.hid hl
            clear hl
            go_upto_region 3 with fail
            go_quiet ((go_at_call 100; exact Calls.quiet_of_same (less_is _ _ _ HL.out _)))
            have HU := Lib.hid (HU.out.drewN nq)
            go_wp2_with fail
            go_meet
            exact ⟨k, rfl, Lib.hid (by have := HR.out; omega), Lib.hid (by rw [HE.out, scanUp_stop (.inr (by rw [HP1.out, HX.out, HY.out, HL.out]; first | done | rfl))]), HU⟩
          · have HL := Lib.hid hl
            clear hl
            go_upto_region 3 with fail
            go_quiet ((go_at_call 100; exact Calls.quiet_of_same (less_is _ _ _ HL.out _)))
            have HU := Lib.hid (HU.out.drewN nq)
            go_wp2_with fail
            go_roundw
            case rel => exact ⟨k + 1, by go_num, Lib.hid (by have := HR.out; have := HK.out; omega), HU, Lib.hid (by rw [HE.out, scanUp_go HK.out (by rw [HP1.out, HX.out, HY.out, HL.out]; first | done | rfl)])⟩
            case measure => simp [intOf]; have := HK.out; have := HR.out; omega
        · have d1 : decide ((k : Int) ≤ (j0 : Int)) = false := decide_eq_false (by omega)
          have d1' : decide (k ≤ j0) = false := decide_eq_false hk
          have HK := Lib.hid hk
          clear hk
          go_upto_region 3 with fail
          go_quiet (fail)
          have HU := Lib.hid (HU.out.drewN nq)
          go_wp2_with fail
          go_meet
          exact ⟨k, rfl, Lib.hid (by have := HR.out; omega), Lib.hid (by rw [HE.out, scanUp_stop (.inl HK.out)]), HU⟩
    case rest =>
      obtain ⟨i2, rfl, HR2, HI2, HU⟩ := hcut
      have HF2 := HF
      have HF : Hid ((a < i0 ∧ i0 ≤ j0 + 1 ∧ j0 < b ∧ a ≤ j0) ∧ (a < i2 ∧ i2 ≤ j0 + 1) ∧ i0 ≤ i2 ∧ b ≤ n ∧ n ≤ 1000000) := Lib.hid (by have := HF2.out; have := HR2.out; have h3 := Sort.scanUp_ge P1 D j0 i0; rw [HI2.out] at h3; omega)
      go_upto_block 2 with fail
      go_cut [11] from 46 (fun s wc => ∃ k : Nat, s = .int .i64 (k : Int) ∧ Hid (a ≤ k ∧ i2 ≤ k + 1 ∧ k < b ∧ a < i2) ∧ Hid (Sort.scanDown P2 D i2 j0 = k) ∧ Hid (UT w wc B g cap n D))
      case first =>
        go_wp2_with fail
        go_loopw [11] (fun u wr => ∃ k : Nat, u = .int .i64 (k : Int) ∧ Hid (a ≤ k ∧ i2 ≤ k + 1 ∧ k < b ∧ a < i2) ∧ Hid (UT w wr B g cap n D) ∧ Hid (Sort.scanDown P2 D i2 j0 = Sort.scanDown P2 D i2 k)) (fun u _ => (intOf u).toNat)
        case atStart => exact ⟨j0, rfl, Lib.hid (by have := HF.out; omega), HU, Lib.hid rfl⟩
        case round =>
          obtain ⟨k, rfl, HR, HU, HE⟩ := hrel
          by_cases hk : i2 ≤ k
          · have d1 : decide ((i2 : Int) ≤ (k : Int)) = true := decide_eq_true (by omega)
            have d1' : decide (i2 ≤ k) = true := decide_eq_true hk
            have HK := Lib.hid hk
            clear hk
            have kn : k < n := by have := HR.out; have := HF.out; have := HK.out; omega
            have an : a < n := by have := HR.out; have := HF.out; omega
            have e1 : IntKind.i64.wrap ((k : Int) - 1) = ((k - 1 : Nat) : Int) := w_dec _ (by have := HF.out; omega) (by have := HR.out; have := HK.out; omega)
            have c1 := HU.out.row.cell k kn
            have c2 := HU.out.row.cell a an
            generalize hx : (D)[k]! = x at c1
            generalize hy : (D)[a]! = y at c2
            have HX := Lib.hid hx
            have HY := Lib.hid hy
            clear hx hy
            cases hl : ltInt x y
            · have HL := Lib.hid hl
              clear hl
              go_upto_region 5 with fail
              go_quiet ((go_at_call 100; exact Calls.quiet_of_same (less_is _ _ _ HL.out _)))
              have HU := Lib.hid (HU.out.drewN nq)
              go_wp2_with fail
              go_roundw
              case rel => exact ⟨k - 1, by go_num, Lib.hid (by have := HR.out; have := HK.out; omega), HU, Lib.hid (by rw [HE.out, scanDown_go HK.out (by rw [HP2.out, HX.out, HY.out, HL.out]; first | done | rfl) (by have := HR.out; have := HK.out; omega)])⟩
              case measure => simp [intOf]; have := HK.out; have := HR.out; omega
            · have HL := Lib.hid hl
              clear hl
              go_upto_region 5 with fail
              go_quiet ((go_at_call 100; exact Calls.quiet_of_same (less_is _ _ _ HL.out _)))
              have HU := Lib.hid (HU.out.drewN nq)
              go_wp2_with fail
              go_meet
              exact ⟨k, rfl, Lib.hid (by have := HR.out; omega), Lib.hid (by rw [HE.out, scanDown_stop (.inr (by rw [HP2.out, HX.out, HY.out, HL.out]; first | done | rfl))]), HU⟩
          · have d1 : decide ((i2 : Int) ≤ (k : Int)) = false := decide_eq_false (by omega)
            have d1' : decide (i2 ≤ k) = false := decide_eq_false hk
            have HK := Lib.hid hk
            clear hk
            go_upto_region 5 with fail
            go_quiet (fail)
            have HU := Lib.hid (HU.out.drewN nq)
            go_wp2_with fail
            go_meet
            exact ⟨k, rfl, Lib.hid (by have := HR.out; omega), Lib.hid (by rw [HE.out, scanDown_stop (.inl HK.out)]), HU⟩
      case rest =>
        obtain ⟨j2, rfl, HR3, HJ2, HU⟩ := hcut
        have HJL : Hid (j2 ≤ j0) := Lib.hid (by have h3 := Sort.scanDown_le P2 D i2 j0; rw [HJ2.out] at h3; exact h3)
        have HA1 : Hid (R = if i2 > j2 then (j2, true, swp D j2 a) else let r := Sort.partLoop ltInt a (i2 + 1) (j2 - 1) (swp D i2 j2); (r.1, false, swp r.2 r.1 a)) := Lib.hid (by rw [HA0.out, HI2.out, HJ2.out])
        have j2n : j2 < n := by have := HF.out; have := HR3.out; omega
        by_cases hgt : j2 < i2
        · have d1 : decide ((j2 : Int) < (i2 : Int)) = true := decide_eq_true (by omega)
          have d1' : decide (j2 < i2) = true := decide_eq_true hgt
          have HGT := Lib.hid hgt
          clear hgt
          go_upto_region 8 with fail
          go_cut [8] from 66 (fun s8 wc => s8 = .int .i64 0 ∧ Hid (UT w wc B g cap n (swp D j2 a)))
          case first =>
            have c1 := HU.out.row.cell j2 j2n
            have c2 := HU.out.row.cell a an
            have q1 := HU.out.row.free j2
            have q2 := HU.out.row.free a
            generalize hx : (D)[j2]! = x9 at c1
            generalize hy : (D)[a]! = y9 at c2
            have HS := Lib.hid (HU.out.swap j2 a hx hy).drew
            by_cases hij : j2 = a
            · have hxy : y9 = x9 := by rw [← hx, ← hy, hij]
              subst hxy
              clear hx hy
              subst hij
              go_region
              go_wp2_with fail
              go_meet
              exact ⟨rfl, HS⟩
            · have ne1 : ¬ j2 = a := hij
              have ne2 : ¬ a = j2 := fun e => hij e.symm
              clear hij hx hy
              go_region
              go_wp2_with fail
              go_meet
              exact ⟨rfl, HS⟩
          case rest =>
            obtain ⟨rfl, HU⟩ := hcut
            go_wp2_with fail
            go_ret2
            refine ⟨?_, ?_⟩
            · rw [HA1.out, if_pos HGT.out]; rfl
            · rw [HA1.out, if_pos HGT.out]; exact HU.out
        · have d1 : decide ((j2 : Int) < (i2 : Int)) = false := decide_eq_false (by omega)
          have d1' : decide (j2 < i2) = false := decide_eq_false hgt
          have HGT := Lib.hid hgt
          have HAP : Hid (i2 < j2) := Lib.hid (scans_apart (fun x => by rw [HP2.out, HP1.out]) HI2.out HJ2.out HGT.out (by have := HF2.out; omega))
          have i2n : i2 < n := by have := HF.out; have := HR3.out; omega
          clear hgt
          go_upto_region 10 with fail
          go_cut [8] from 81 (fun s8 wc => s8 = .int .i64 0 ∧ Hid (UT w wc B g cap n (swp D i2 j2)))
          case first =>
            have c1 := HU.out.row.cell i2 i2n
            have c2 := HU.out.row.cell j2 j2n
            have q1 := HU.out.row.free i2
            have q2 := HU.out.row.free j2
            generalize hx : (D)[i2]! = x9 at c1
            generalize hy : (D)[j2]! = y9 at c2
            have HS := Lib.hid (HU.out.swap i2 j2 hx hy).drew
            by_cases hij : i2 = j2
            · have hxy : y9 = x9 := by rw [← hx, ← hy, hij]
              subst hxy
              clear hx hy
              subst hij
              go_region
              go_wp2_with fail
              go_meet
              exact ⟨rfl, HS⟩
            · have ne1 : ¬ i2 = j2 := hij
              have ne2 : ¬ j2 = i2 := fun e => hij e.symm
              clear hij hx hy
              go_region
              go_wp2_with fail
              go_meet
              exact ⟨rfl, HS⟩
          case rest =>
            obtain ⟨rfl, HU⟩ := hcut
            have HA2 : Hid (R = ((Sort.partLoop ltInt a (i2 + 1) (j2 - 1) (swp D i2 j2)).1, false, swp (Sort.partLoop ltInt a (i2 + 1) (j2 - 1) (swp D i2 j2)).2 (Sort.partLoop ltInt a (i2 + 1) (j2 - 1) (swp D i2 j2)).1 a)) := Lib.hid (by rw [HA1.out, if_neg HGT.out])
            clear HA1 HA0
            generalize hD2 : swp D i2 j2 = D2 at *
            clear hD2
            have e1 : IntKind.i64.wrap ((i2 : Int) + 1) = ((i2 + 1 : Nat) : Int) := w_inc _ (by have := HF.out; omega)
            have e2 : IntKind.i64.wrap ((j2 : Int) - 1) = ((j2 - 1 : Nat) : Int) := w_dec _ (by have := HF.out; omega) (by have := HAP.out; omega)
            obtain ⟨i5, hi5⟩ : ∃ x, i2 + 1 = x := ⟨_, rfl⟩
            obtain ⟨j5, hj5⟩ : ∃ x, j2 - 1 = x := ⟨_, rfl⟩
            rw [hi5] at e1 HA2
            rw [hj5] at e2 HA2
            have HR0 : Hid (a < i5 ∧ i5 ≤ j5 + 1 ∧ j5 < b ∧ a ≤ j5) := Lib.hid (by have := HF.out; have := HAP.out; have := HR3.out; have := HJL.out; omega)
            clear hi5 hj5 HR3 HR2 HJL HGT HAP HI2 HJ2 HF2 HP1 HP2 HD j2n i2n d1 d1'
            clear HF
            have HF := HF1
            go_upto_block 4 with fail
            go_cut [11] from 99 (fun s wc => ∃ k : Nat, s = .int .i64 (k : Int) ∧ Hid (k = (Sort.partLoop ltInt a i5 j5 D2).1 ∧ k < b ∧ UT w wc B g cap n (Sort.partLoop ltInt a i5 j5 D2).2))
            case first =>
              go_wp2_with fail
              go_loopw [10, 11] (fun u v wr => ∃ i j : Nat, (u = .int .i64 (i : Int) ∧ v = .int .i64 (j : Int)) ∧ Hid (a < i ∧ i ≤ j + 1 ∧ j < b ∧ a ≤ j) ∧ Hid (∃ D, UT w wr B g cap n D ∧ Sort.partLoop ltInt a i5 j5 D2 = Sort.partLoop ltInt a i j D)) (fun u v _ => (intOf v + 1 - intOf u).toNat)
              case atStart => exact ⟨i5, j5, ⟨rfl, rfl⟩, HR0, Lib.hid ⟨D2, HU.out, rfl⟩⟩
              case round =>
                obtain ⟨i, j, ⟨rfl, rfl⟩, HR1, hR⟩ := hrel
                clear HU
                obtain ⟨D3, hu, hd⟩ := hR.out
                have HU := Lib.hid hu
                have HE1 := Lib.hid hd
                clear hu hd hR
                obtain ⟨P1, hP1⟩ : ∃ P : Int → Bool, (fun x => ltInt x D3[a]!) = P := ⟨_, rfl⟩
                obtain ⟨P2, hP2⟩ : ∃ P : Int → Bool, (fun x => !ltInt x D3[a]!) = P := ⟨_, rfl⟩
                have HP1 : Hid (∀ x, P1 x = ltInt x D3[a]!) := Lib.hid (fun x => by rw [← hP1])
                have HP2 : Hid (∀ x, P2 x = !ltInt x D3[a]!) := Lib.hid (fun x => by rw [← hP2])
                have HEQ : Hid (Sort.partLoop ltInt a i j D3 = if Sort.scanUp P1 D3 j i > Sort.scanDown P2 D3 (Sort.scanUp P1 D3 j i) j then (Sort.scanDown P2 D3 (Sort.scanUp P1 D3 j i) j, D3) else Sort.partLoop ltInt a (Sort.scanUp P1 D3 j i + 1) (Sort.scanDown P2 D3 (Sort.scanUp P1 D3 j i) j - 1) (swp D3 (Sort.scanUp P1 D3 j i) (Sort.scanDown P2 D3 (Sort.scanUp P1 D3 j i) j))) := Lib.hid (by subst hP1; subst hP2; rw [Sort.partLoop_eq])
                clear hP1 hP2
                have HF1 := HF
                have HF : Hid ((a < i ∧ i ≤ j + 1 ∧ j < b ∧ a ≤ j) ∧ a ≤ pivot ∧ pivot < b ∧ b ≤ n ∧ n ≤ 1000000) := Lib.hid ⟨HR1.out, HF1.out⟩
                go_upto_block 6 with fail
                go_cut [10] from 99 to 114 (fun s wc => ∃ k : Nat, s = .int .i64 (k : Int) ∧ Hid (a < k ∧ k ≤ j + 1 ∧ j < b) ∧ Hid (Sort.scanUp P1 D3 j i = k) ∧ Hid (UT w wc B g cap n D3))
                case first =>
                  go_wp2_with fail
                  go_loopw [10] (fun u wr => ∃ k : Nat, u = .int .i64 (k : Int) ∧ Hid (a < k ∧ k ≤ j + 1 ∧ j < b) ∧ Hid (UT w wr B g cap n D3) ∧ Hid (Sort.scanUp P1 D3 j i = Sort.scanUp P1 D3 j k)) (fun u _ => (j + 1) - (intOf u).toNat)
                  case atStart => exact ⟨i, rfl, Lib.hid (by have := HF.out; omega), HU, Lib.hid rfl⟩
                  case round =>
                    obtain ⟨k, rfl, HR, HU, HE⟩ := hrel
                    by_cases hk : k ≤ j
                    · have d1 : decide ((k : Int) ≤ (j : Int)) = true := decide_eq_true (by omega)
                      have d1' : decide (k ≤ j) = true := decide_eq_true hk
                      have HK := Lib.hid hk
                      clear hk
                      have kn : k < n := by have := HR.out; have := HF.out; have := HK.out; omega
                      have an : a < n := by have := HR.out; have := HF.out; omega
                      have e1 : IntKind.i64.wrap ((k : Int) + 1) = ((k + 1 : Nat) : Int) := w_inc _ (by have := HF.out; omega)
                      have c1 := HU.out.row.cell k kn
                      have c2 := HU.out.row.cell a an
                      generalize hx : (D3)[k]! = x at c1
                      generalize hy : (D3)[a]! = y at c2
                      have HX := Lib.hid hx
                      have HY := Lib.hid hy
                      clear hx hy
                      cases hl : ltInt x y
                      · have HL := Lib.hid hl
                        clear hl
                        go_upto_region 13 with fail
                        go_quiet ((go_at_call 100; exact Calls.quiet_of_same (less_is _ _ _ HL.out _)))
                        have HU := Lib.hid (HU.out.drewN nq)
                        go_wp2_with fail
                        go_meet
                        exact ⟨k, rfl, Lib.hid (by have := HR.out; omega), Lib.hid (by rw [HE.out, scanUp_stop (.inr (by rw [HP1.out, HX.out, HY.out, HL.out]; first | done | rfl))]), HU⟩
                      · have HL := Lib.hid hl
                        clear hl
                        go_upto_region 13 with fail
                        go_quiet ((go_at_call 100; exact Calls.quiet_of_same (less_is _ _ _ HL.out _)))
                        have HU := Lib.hid (HU.out.drewN nq)
                        go_wp2_with fail
                        go_roundw
                        case rel => exact ⟨k + 1, by go_num, Lib.hid (by have := HR.out; have := HK.out; omega), HU, Lib.hid (by rw [HE.out, scanUp_go HK.out (by rw [HP1.out, HX.out, HY.out, HL.out]; first | done | rfl)])⟩
                        case measure => simp [intOf]; have := HK.out; have := HR.out; omega
                    · have d1 : decide ((k : Int) ≤ (j : Int)) = false := decide_eq_false (by omega)
                      have d1' : decide (k ≤ j) = false := decide_eq_false hk
                      have HK := Lib.hid hk
                      clear hk
                      go_upto_region 13 with fail
                      go_quiet (fail)
                      have HU := Lib.hid (HU.out.drewN nq)
                      go_wp2_with fail
                      go_meet
                      exact ⟨k, rfl, Lib.hid (by have := HR.out; omega), Lib.hid (by rw [HE.out, scanUp_stop (.inl HK.out)]), HU⟩
                case rest =>
                  obtain ⟨i2, rfl, HR2, HI2, HU⟩ := hcut
                  have HF2 := HF
                  have HF : Hid ((a < i ∧ i ≤ j + 1 ∧ j < b ∧ a ≤ j) ∧ (a < i2 ∧ i2 ≤ j + 1) ∧ i ≤ i2 ∧ b ≤ n ∧ n ≤ 1000000) := Lib.hid (by have := HF2.out; have := HR2.out; have h3 := Sort.scanUp_ge P1 D3 j i; rw [HI2.out] at h3; omega)
                  go_upto_block 8 with fail
                  go_cut [11] from 115 to 131 (fun s wc => ∃ k : Nat, s = .int .i64 (k : Int) ∧ Hid (a ≤ k ∧ i2 ≤ k + 1 ∧ k < b ∧ a < i2) ∧ Hid (Sort.scanDown P2 D3 i2 j = k) ∧ Hid (UT w wc B g cap n D3))
                  case first =>
                    go_wp2_with fail
                    go_loopw [11] (fun u wr => ∃ k : Nat, u = .int .i64 (k : Int) ∧ Hid (a ≤ k ∧ i2 ≤ k + 1 ∧ k < b ∧ a < i2) ∧ Hid (UT w wr B g cap n D3) ∧ Hid (Sort.scanDown P2 D3 i2 j = Sort.scanDown P2 D3 i2 k)) (fun u _ => (intOf u).toNat)
                    case atStart => exact ⟨j, rfl, Lib.hid (by have := HF.out; omega), HU, Lib.hid rfl⟩
                    case round =>
                      obtain ⟨k, rfl, HR, HU, HE⟩ := hrel
                      by_cases hk : i2 ≤ k
                      · have d1 : decide ((i2 : Int) ≤ (k : Int)) = true := decide_eq_true (by omega)
                        have d1' : decide (i2 ≤ k) = true := decide_eq_true hk
                        have HK := Lib.hid hk
                        clear hk
                        have kn : k < n := by have := HR.out; have := HF.out; have := HK.out; omega
                        have an : a < n := by have := HR.out; have := HF.out; omega
                        have e1 : IntKind.i64.wrap ((k : Int) - 1) = ((k - 1 : Nat) : Int) := w_dec _ (by have := HF.out; omega) (by have := HR.out; have := HK.out; omega)
                        have c1 := HU.out.row.cell k kn
                        have c2 := HU.out.row.cell a an
                        generalize hx : (D3)[k]! = x at c1
                        generalize hy : (D3)[a]! = y at c2
                        have HX := Lib.hid hx
                        have HY := Lib.hid hy
                        clear hx hy
                        cases hl : ltInt x y
                        · have HL := Lib.hid hl
                          clear hl
                          go_upto_region 15 with fail
                          go_quiet ((go_at_call 100; exact Calls.quiet_of_same (less_is _ _ _ HL.out _)))
                          have HU := Lib.hid (HU.out.drewN nq)
                          go_wp2_with fail
                          go_roundw
                          case rel => exact ⟨k - 1, by go_num, Lib.hid (by have := HR.out; have := HK.out; omega), HU, Lib.hid (by rw [HE.out, scanDown_go HK.out (by rw [HP2.out, HX.out, HY.out, HL.out]; first | done | rfl) (by have := HR.out; have := HK.out; omega)])⟩
                          case measure => simp [intOf]; have := HK.out; have := HR.out; omega
                        · have HL := Lib.hid hl
                          clear hl
                          go_upto_region 15 with fail
                          go_quiet ((go_at_call 100; exact Calls.quiet_of_same (less_is _ _ _ HL.out _)))
                          have HU := Lib.hid (HU.out.drewN nq)
                          go_wp2_with fail
                          go_meet
                          exact ⟨k, rfl, Lib.hid (by have := HR.out; omega), Lib.hid (by rw [HE.out, scanDown_stop (.inr (by rw [HP2.out, HX.out, HY.out, HL.out]; first | done | rfl))]), HU⟩
                      · have d1 : decide ((i2 : Int) ≤ (k : Int)) = false := decide_eq_false (by omega)
                        have d1' : decide (i2 ≤ k) = false := decide_eq_false hk
                        have HK := Lib.hid hk
                        clear hk
                        go_upto_region 15 with fail
                        go_quiet (fail)
                        have HU := Lib.hid (HU.out.drewN nq)
                        go_wp2_with fail
                        go_meet
                        exact ⟨k, rfl, Lib.hid (by have := HR.out; omega), Lib.hid (by rw [HE.out, scanDown_stop (.inl HK.out)]), HU⟩
                  case rest =>
                    obtain ⟨j2, rfl, HR3, HJ2, HU⟩ := hcut
                    have HG : Hid (¬ i2 > j2 → Sort.partLoop ltInt a i j D3 = Sort.partLoop ltInt a (i2 + 1) (j2 - 1) (swp D3 i2 j2)) := Lib.hid (fun h => by rw [HEQ.out, HI2.out, HJ2.out, if_neg h])
                    have HGs : Hid (i2 > j2 → Sort.partLoop ltInt a i j D3 = (j2, D3)) := Lib.hid (fun h => by rw [HEQ.out, HI2.out, HJ2.out, if_pos h])
                    have HJL : Hid (j2 ≤ j) := Lib.hid (by have h3 := Sort.scanDown_le P2 D3 i2 j; rw [HJ2.out] at h3; exact h3)
                    by_cases hgt : j2 < i2
                    · have d1 : decide ((j2 : Int) < (i2 : Int)) = true := decide_eq_true (by omega)
                      have d1' : decide (j2 < i2) = true := decide_eq_true hgt
                      have HGT := Lib.hid hgt
                      clear hgt
                      go_wp2_with fail
                      go_meet
                      exact ⟨j2, rfl, Lib.hid (by rw [HE1.out, HGs.out HGT.out]; exact ⟨rfl, by have := HF.out; have := HJL.out; omega, HU.out⟩)⟩
                    · have d1 : decide ((j2 : Int) < (i2 : Int)) = false := decide_eq_false (by omega)
                      have d1' : decide (j2 < i2) = false := decide_eq_false hgt
                      have HGT := Lib.hid hgt
                      have HAP : Hid (i2 < j2) := Lib.hid (scans_apart (fun x => by rw [HP2.out, HP1.out]) HI2.out HJ2.out HGT.out (by have := HF2.out; omega))
                      have i2n : i2 < n := by have := HF.out; have := HR3.out; omega
                      have j2n : j2 < n := by have := HF.out; have := HR3.out; omega
                      clear hgt
                      go_upto_region 18 with fail
                      go_cut [8] from 135 to 148 (fun s8 wc => s8 = .int .i64 0 ∧ Hid (UT w wc B g cap n (swp D3 i2 j2)))
                      case first =>
                        have c1 := HU.out.row.cell i2 i2n
                        have c2 := HU.out.row.cell j2 j2n
                        have q1 := HU.out.row.free i2
                        have q2 := HU.out.row.free j2
                        generalize hx : (D3)[i2]! = x9 at c1
                        generalize hy : (D3)[j2]! = y9 at c2
                        have HS := Lib.hid (HU.out.swap i2 j2 hx hy).drew
                        by_cases hij : i2 = j2
                        · have hxy : y9 = x9 := by rw [← hx, ← hy, hij]
                          subst hxy
                          clear hx hy
                          subst hij
                          go_region
                          go_wp2_with fail
                          go_meet
                          exact ⟨rfl, HS⟩
                        · have ne1 : ¬ i2 = j2 := hij
                          have ne2 : ¬ j2 = i2 := fun e => hij e.symm
                          clear hij hx hy
                          go_region
                          go_wp2_with fail
                          go_meet
                          exact ⟨rfl, HS⟩
                      case rest =>
                        obtain ⟨rfl, HU⟩ := hcut
                        have e1 : IntKind.i64.wrap ((i2 : Int) + 1) = ((i2 + 1 : Nat) : Int) := w_inc _ (by have := HF.out; omega)
                        have e2 : IntKind.i64.wrap ((j2 : Int) - 1) = ((j2 - 1 : Nat) : Int) := w_dec _ (by have := HF.out; omega) (by have := HAP.out; omega)
                        go_wp2_with fail
                        go_roundw
                        case rel => exact ⟨i2 + 1, j2 - 1, ⟨by go_num, rfl⟩, Lib.hid (by have := HF.out; have := HR3.out; have := HAP.out; have := HJL.out; omega), Lib.hid ⟨_, HU.out, by rw [HE1.out, HG.out HGT.out]⟩⟩
                        case measure => simp [intOf]; have := HF.out; have := HR3.out; have := HGT.out; have := HJL.out; omega
            case rest =>
              obtain ⟨k, rfl, hk⟩ := hcut
              have HU := Lib.hid hk.out.2.2
              have HK := Lib.hid hk.out.1
              have kn : k < n := by have := hk.out.2.1; have := HF.out; omega
              clear hk
              rw [← HK.out] at HA2
              generalize (Sort.partLoop ltInt a i5 j5 D2).2 = D3 at *
              go_upto_region 21 with fail
              go_cut [8] from 153 (fun s8 wc => s8 = .int .i64 0 ∧ Hid (UT w wc B g cap n (swp D3 k a)))
              case first =>
                have c1 := HU.out.row.cell k kn
                have c2 := HU.out.row.cell a an
                have q1 := HU.out.row.free k
                have q2 := HU.out.row.free a
                generalize hx : (D3)[k]! = x9 at c1
                generalize hy : (D3)[a]! = y9 at c2
                have HS := Lib.hid (HU.out.swap k a hx hy).drew
                by_cases hij : k = a
                · have hxy : y9 = x9 := by rw [← hx, ← hy, hij]
                  subst hxy
                  clear hx hy
                  subst hij
                  go_region
                  go_wp2_with fail
                  go_meet
                  exact ⟨rfl, HS⟩
                · have ne1 : ¬ k = a := hij
                  have ne2 : ¬ a = k := fun e => hij e.symm
                  clear hij hx hy
                  go_region
                  go_wp2_with fail
                  go_meet
                  exact ⟨rfl, HS⟩
              case rest =>
                obtain ⟨rfl, HU⟩ := hcut
                go_wp2_with fail
                go_ret2
                refine ⟨?_, ?_⟩
                · rw [HA2.out]; rfl
                · rw [HA2.out]; exact HU.out
end Go.Proofs.YtmbmkfhdiljalaaGreat
