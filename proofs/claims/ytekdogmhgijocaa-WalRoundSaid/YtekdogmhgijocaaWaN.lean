/- code's readers: what is left is taken whole; U16, U8; bytes.Equal. -/
import Derived.Test.YtekdogmhgijocaaPgF
import Derived.Shelf.Bytes.SlEqualAll
set_option linter.unusedSimpArgs false
namespace Go.Proofs.Ytekdogmhgijocaa
open Go.RowKit Go.ChangeShapes Go.WideShapes Go.ChangeAt
set_option linter.unusedVariables false

/-- A reader at its end. -/
def RdEnd (w : World) (r : Nat) : Prop := ∃ v, Row w r #[v, .int .i64 0] tRd
def EndPost (r : Nat) (xs : List Int) (w : World) (e : Ending) (w' : World) : Prop := e = .returned (.int .u64 (leN xs)) ∧ RdEnd w' r ∧ Only [r] w w'
set_option maxRecDepth 100000 in
set_option maxHeartbeats 4000000 in
theorem fixed_end (r : Nat) (xs : List Int) (k : Nat) (w : World) (h : RdAt tRd w r xs) (hb : IsBy xs) (h8 : k ≤ 8) (hp : 0 < k) (hk : k = xs.length) :
    Calls Try.prog 68 #[.pointer (some ⟨r, 0, none⟩), .int .i64 k] w (EndPost r xs w) := by
  obtain ⟨g, o, c, hrow, hcell, hne, hc1, hc2⟩ := h.at_
  have HN := Lib.hid hk
  have HC := Lib.hid hcell
  have HB := Lib.hid hb
  have HR := Lib.hid hrow
  rw [← hk] at hrow hc1
  have c0 : w.cell? ⟨r, 0, none⟩ = some (.slice (some ⟨g, o, none⟩) k c) := hrow.cell 0
  have f0 := hrow.free 0
  have ER := Lib.hid (err_any r _ w hrow)
  have kk : (k : Int) ≤ 8 := by omega
  have kc : (k : Int) ≤ (c : Int) := by omega
  have k0 : (0 : Int) ≤ (k : Int) := Int.natCast_nonneg _
  have dk : decide ((k : Int) < (k : Int)) = false := decide_eq_false (by omega)
  clear h hcell hk hb hrow
  go_enter Try.func68, Try.ntmps68
  go_wp2_with fail
  refine ER.out.mono ?_
  rintro _ w' ⟨rfl, hw'⟩
  subst w'
  go_wp2_with fail
  go_loopw [5, 6, 7, 28] (fun x _ _ u wr => ∃ i : Nat, i ≤ k ∧ u = .int .i64 i ∧ x = .int .u64 (leN (xs.take i)) ∧ Hid (wr = w)) (fun _ _ _ u _ => k - (intOf u).toNat)
  case atStart => exact ⟨0, by omega, rfl, rfl, Lib.hid rfl⟩
  case round =>
    obtain ⟨i, hi, rfl, rfl, HW⟩ := hrel
    obtain rfl := HW.out
    have i0 : (0 : Int) ≤ (i : Int) := Int.natCast_nonneg _
    by_cases hlt : i < k
    · have e1 : decide ((i : Int) < (k : Int)) = true := decide_eq_true (by omega)
      have e1' : (i : Int) < (k : Int) := by omega
      obtain ⟨cv, hv1, hv2⟩ := byteAt HB.out (show i < xs.length by rw [← HN.out]; omega)
      have l1 : wr.cell? ⟨g, o + i, none⟩ = some (.int .u8 (cv : Int)) := by
        have := HC.out i (by rw [← HN.out]; omega)
        rw [hv1] at this; exact this
      have hs : bits .or .u64 (leN (xs.take i)) (IntKind.u64.wrap ((cv : Int) * 2 ^ (8 * i))) = leN (xs.take (i + 1)) := or_step HB.out (show i < 8 by omega) hv1
      have wv : IntKind.u64.wrap (cv : Int) = (cv : Int) := by rw [show IntKind.u64.wrap (cv : Int) = (cv : Int) % 18446744073709551616 from rfl]; omega
      generalize hz : leN (xs.take (i + 1)) = z at hs
      have HZ := Lib.hid hz
      generalize leN (xs.take i) = y at *
      clear hv1 hz
      go_wp2_with fail
      go_roundw
      case rel => exact ⟨i + 1, by omega, by go_num, by rw [HZ.out], by first | exact Lib.hid trivial | exact Lib.hid rfl⟩
      case measure => simp [intOf]; omega
    · have e1 : decide ((i : Int) < (k : Int)) = false := decide_eq_false (by omega)
      have E : Hid (i = k) := Lib.hid (by omega)
      by_cases hck : c = k
      · have t1 : (c - k : Nat) = 0 := by omega
        go_wp2_with fail
        go_ret
        exact ⟨by rw [E.out, HN.out, List.take_length]; rfl, ⟨_, HR.out.set 0 _⟩, (Only.refl [r] wr).setCell (.inl (by simp)) _⟩
      · have t1 : (c - k : Nat) ≠ 0 := by omega
        go_wp2_with fail
        go_ret
        exact ⟨by rw [E.out, HN.out, List.take_length]; rfl, ⟨_, HR.out.set 0 _⟩, (Only.refl [r] wr).setCell (.inl (by simp)) _⟩
theorem u64r_end (r : Nat) (xs : List Int) (w : World) (h : RdAt tRd w r xs) (hb : IsBy xs) (hk : xs.length = 8) :
    Calls Try.prog 49 #[.pointer (some ⟨r, 0, none⟩)] w (EndPost r xs w) := by
  have K := Lib.hid (fixed_end r xs 8 w h hb (by omega) (by omega) hk.symm)
  unfold EndPost at *
  generalize leN xs = z at *
  clear h hb hk
  go_enter Try.func49, Try.ntmps49
  go_wp2_with fail
  refine K.out.mono ?_
  rintro _ w2 ⟨rfl, hr2, k2⟩
  have R2 := Lib.hid hr2
  have K2 := Lib.hid k2
  clear hr2 k2
  go_wp2_with fail
  go_ret
  exact ⟨rfl, R2.out, K2.out⟩
theorem u16r_any (r : Nat) (xs : List Int) (w : World) (h : RdAt tRd w r xs) (hb : IsBy xs) (hk : 2 < xs.length) :
    Calls Try.prog 50 #[.pointer (some ⟨r, 0, none⟩)] w fun e w' => e = .returned (.int .u16 (leN (xs.take 2))) ∧ RdAt tRd w' r (xs.drop 2) ∧ Only [r] w w' := by
  have K := Lib.hid (fixed_any r xs 2 w h hb (by omega) hk)
  unfold FixedPost at K
  have wr : IntKind.u16.wrap (leN (xs.take 2)) = leN (xs.take 2) := by
    have h1 := leN_range (xs.take 2) fun x hx => hb x (List.mem_of_mem_take hx)
    rw [show (xs.take 2).length = 2 by simp; omega] at h1
    rw [show IntKind.u16.wrap (leN (xs.take 2)) = leN (xs.take 2) % 65536 from rfl]
    omega
  generalize leN (xs.take 2) = z at *
  clear h hb
  go_enter Try.func50, Try.ntmps50
  go_wp2_with fail
  refine K.out.mono ?_
  rintro _ w2 ⟨rfl, hr2, k2⟩
  have R2 := Lib.hid hr2
  have K2 := Lib.hid k2
  clear hr2 k2
  go_wp2_with fail
  go_ret
  exact ⟨rfl, R2.out, K2.out⟩
theorem u8r_any (r : Nat) (xs : List Int) (w : World) (h : RdAt tRd w r xs) (hb : IsBy xs) (hk : 1 < xs.length) :
    Calls Try.prog 52 #[.pointer (some ⟨r, 0, none⟩)] w fun e w' => e = .returned (.int .u8 (leN (xs.take 1))) ∧ RdAt tRd w' r (xs.drop 1) ∧ Only [r] w w' := by
  have K := Lib.hid (fixed_any r xs 1 w h hb (by omega) hk)
  unfold FixedPost at K
  have wr : IntKind.u8.wrap (leN (xs.take 1)) = leN (xs.take 1) := by
    have h1 := leN_range (xs.take 1) fun x hx => hb x (List.mem_of_mem_take hx)
    rw [show (xs.take 1).length = 1 by simp; omega] at h1
    rw [show IntKind.u8.wrap (leN (xs.take 1)) = leN (xs.take 1) % 256 from rfl]
    omega
  generalize leN (xs.take 1) = z at *
  clear h hb
  go_enter Try.func52, Try.ntmps52
  go_wp2_with fail
  refine K.out.mono ?_
  rintro _ w2 ⟨rfl, hr2, k2⟩
  have R2 := Lib.hid hr2
  have K2 := Lib.hid k2
  clear hr2 k2
  go_wp2_with fail
  go_ret
  exact ⟨rfl, R2.out, K2.out⟩
/-- bytes.Equal of alike bytes. -/
theorem bytesIn_ints {w : World} {a : Option Addr} {n c : Nat} {xs : List Int} (h : Ints .u8 w (.slice a n c) xs) (hx : xs.length = n) (hp : 0 < n) : Lib.BytesIn w a n xs := by
  obtain ⟨b', off', cap', hv, hc⟩ := h.shape (by omega)
  simp only [Value.slice.injEq] at hv
  obtain ⟨rfl, _, rfl⟩ := hv
  refine Lib.BytesIn.of_cells fun i hi => ?_
  rw [add_plain, hc i (by omega), List.getElem?_eq_getElem (by omega)]
  simp [List.getD, List.getElem?_eq_getElem (show i < xs.length by omega)]
theorem equal_same (a1 a2 : Option Addr) (n c1 c2 : Nat) (xs : List Int) (w : World) (hx : xs.length = n) (hp : 0 < n) (h1 : Ints .u8 w (.slice a1 n c1) xs) (h2 : Ints .u8 w (.slice a2 n c2) xs) : Calls Try.prog 56 #[.slice a1 n c1, .slice a2 n c2] w fun e w' => e = .returned (.bool true) ∧ w' = w := by
  have g1 := (bytesIn_ints h1 hx hp).convert hx c1 32 5 9 Try.underlying32 Try.underlying5 Try.underlying9
  have g2 := (bytesIn_ints h2 hx hp).convert hx c2 32 5 9 Try.underlying32 Try.underlying5 Try.underlying9
  clear h1 h2
  go_enter Try.func56, Try.ntmps56
  go_wp2
  go_ret
  exact ⟨rfl, rfl⟩
end Go.Proofs.Ytekdogmhgijocaa
