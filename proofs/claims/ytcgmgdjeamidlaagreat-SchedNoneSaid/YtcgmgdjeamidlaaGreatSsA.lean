/- Bytes as numbers; the length of the next frame. -/
import Derived.Test.YtcgmgdjeamidlaaGreatPlD
import Derived.BigQuiet
import Derived.Laws.BitsAllLaws
namespace Go.Proofs.YtcgmgdjeamidlaaGreat
open Go.RowKit Go.ChangeShapes Go.WideShapes Go.ChangeAt
set_option linter.unusedVariables false
set_option linter.unusedSimpArgs false

def IsBy (xs : List Int) : Prop := ∀ x ∈ xs, 0 ≤ x ∧ x < 256
theorem IsBy.at_ {xs : List Int} (h : IsBy xs) {i : Nat} (hi : i < xs.length) : ∃ c : Nat, xs[i]? = some (c : Int) ∧ c < 256 := by
  have h1 := h _ (List.getElem_mem hi)
  exact ⟨(xs[i]).toNat, by rw [List.getElem?_eq_getElem hi]; congr 1; omega, by omega⟩
/-- Four bytes as a number, the lowest first. -/
def le4 (xs : List Int) : Int := (xs[0]?.getD 0) + 256 * (xs[1]?.getD 0) + 65536 * (xs[2]?.getD 0) + 16777216 * (xs[3]?.getD 0)
def sizeF (xs : List Int) : Int × Int := if xs.length < 4 then (0, 7) else if 20000 < le4 xs then (0, 3) else if (xs.length : Int) - 4 < le4 xs then (0, 7) else (le4 xs, 0)
theorem i64_or_nat (a b : Nat) (ha : a < 4294967296) (hb : b < 4294967296) : bits .or .i64 (a : Int) (b : Int) = ((a ||| b : Nat) : Int) := by
  have hx : a ||| b < 2 ^ 32 := Nat.or_lt_two_pow (by omega) (by omega)
  show IntKind.i64.wrap ((BitVec.ofInt 64 (a : Int) ||| BitVec.ofInt 64 (b : Int)).toNat : Int) = _
  rw [BitVec.toNat_or, ofInt_u64 a (by omega), ofInt_u64 b (by omega)]
  exact IntWalk.i64_in _ (by omega)
theorem or_nat (k a c : Nat) (P : Nat) (hP : P = 2 ^ k) (ha : a < P) (hc : c * P < 4294967296) (ha2 : a < 4294967296) : bits .or .i64 (a : Int) ((c : Int) * (P : Int)) = ((a + c * P : Nat) : Int) := by
  rw [show (c : Int) * (P : Int) = ((c * P : Nat) : Int) from (Int.natCast_mul c P).symm, i64_or_nat a (c * P) ha2 hc]
  congr 1
  subst hP
  rw [Nat.or_comm, Nat.mul_comm c, ← Nat.two_pow_add_eq_or_of_lt ha]
  omega
theorem le4_or (a b c d : Nat) (ha : a < 256) (hb : b < 256) (hc : c < 256) (hd : d < 256) :
    bits .or .i64 (bits .or .i64 (bits .or .i64 (a : Int) ((b : Int) * 256)) ((c : Int) * 65536)) ((d : Int) * 16777216) = ((a + b * 256 + c * 65536 + d * 16777216 : Nat) : Int) := by
  have h1 := or_nat 8 a b 256 rfl ha (by omega) (by omega)
  have h2 := or_nat 16 (a + b * 256) c 65536 rfl (by omega) (by omega) (by omega)
  have h3 := or_nat 24 (a + b * 256 + c * 65536) d 16777216 rfl (by omega) (by omega) (by omega)
  rw [show ((256 : Nat) : Int) = 256 from rfl] at h1
  rw [show ((65536 : Nat) : Int) = 65536 from rfl] at h2
  rw [show ((16777216 : Nat) : Int) = 16777216 from rfl] at h3
  rw [h1, h2, h3]
/-- An element of a slice that is only read. -/
theorem SlRd.at_ {q : IntKind} {w : World} {s : Sl} (h : SlRd q w s) {j : Nat} {z : Int} (hz : s.xs[j]? = some z) : ∃ b o, s.a = some ⟨b, o, none⟩ ∧ ∀ i z, s.xs[i]? = some z → w.cell? ⟨b, o + i, none⟩ = some (.int q z) := by
  have hj := (List.getElem?_eq_some_iff.1 hz).1
  rcases h.ints with ⟨h1, _⟩ | ⟨b, off, cap, e, hc⟩
  · rw [h1] at hj; simp at hj
  · unfold Sl.v at e
    simp only [Value.slice.injEq] at e
    exact ⟨b, off, e.1, fun i z hz => by rw [hc i (List.getElem?_eq_some_iff.1 hz).1, hz]; rfl⟩
set_option maxHeartbeats 4000000 in
theorem size_on {s : Sl} {w : World} (h : SlRd .u8 w s) (hb : IsBy s.xs) : Calls Tryz.prog 167 #[s.v] w fun e w' => e = .returned (.tuple #[.int .i64 (sizeF s.xs).1, .int .i64 (sizeF s.xs).2]) ∧ Below w.heap.size w w' := by
  obtain ⟨n, hn⟩ : ∃ n, s.xs.length = n := ⟨_, rfl⟩
  have HL : Hid (n ≤ 1000000) := Lib.hid (by rw [← hn]; exact h.le)
  by_cases h4 : n < 4
  · have hz : sizeF s.xs = (0, 7) := by unfold sizeF; rw [if_pos (by omega)]
    have d1 : decide ((n : Int) < 4) = true := decide_eq_true (by omega)
    have d1' : decide (n < 4) = true := decide_eq_true h4
    unfold Sl.v
    rw [hz, hn]
    clear h hb hz hn h4
    go_enter Tryz.func167, Tryz.ntmps167
    go_wp2_with fail
    go_ret2
    exact ⟨rfl, Below.refl _ _⟩
  · obtain ⟨x0, e0, l0⟩ := hb.at_ (i := 0) (by omega)
    obtain ⟨x1, e1, l1⟩ := hb.at_ (i := 1) (by omega)
    obtain ⟨x2, e2, l2⟩ := hb.at_ (i := 2) (by omega)
    obtain ⟨x3, e3, l3⟩ := hb.at_ (i := 3) (by omega)
    obtain ⟨b, o, ha, hc⟩ := h.at_ e0
    have c0 := hc 0 _ e0
    have c1 := hc 1 _ e1
    have c2 := hc 2 _ e2
    have c3 := hc 3 _ e3
    simp only [Nat.add_zero] at c0
    have N4 : Hid (4 ≤ n) := Lib.hid (by omega)
    have i0 : (0 : Int) < (n : Int) := by omega
    have i1 : (1 : Int) < (n : Int) := by omega
    have i2 : (2 : Int) < (n : Int) := by omega
    have i3 : (3 : Int) < (n : Int) := by omega
    have d1 : decide ((n : Int) < 4) = false := decide_eq_false (by omega)
    have d1' : decide (n < 4) = false := decide_eq_false h4
    have eb := le4_or x0 x1 x2 x3 l0 l1 l2 l3
    have el : le4 s.xs = ((x0 + x1 * 256 + x2 * 65536 + x3 * 16777216 : Nat) : Int) := by
      unfold le4
      rw [e0, e1, e2, e3]
      simp only [Option.getD_some]
      omega
    have ez : sizeF s.xs = if 20000 < le4 s.xs then (0, 3) else if (n : Int) - 4 < le4 s.xs then (0, 7) else (le4 s.xs, 0) := by
      unfold sizeF
      rw [if_neg (by omega), hn]
    rw [el] at ez
    generalize x0 + x1 * 256 + x2 * 65536 + x3 * 16777216 = m at *
    obtain ⟨k, hk⟩ : ∃ k, n - 4 = k := ⟨_, rfl⟩
    have e4 : wrap64 ((n : Int) - 4) = (k : Int) := by rw [show (n : Int) - 4 = (k : Int) by omega]; unfold wrap64; have := HL.out; omega
    have e4' : IntKind.i64.wrap ((n : Int) - 4) = (k : Int) := by rw [show (n : Int) - 4 = (k : Int) by omega]; exact IntWalk.i64_in _ (by have := HL.out; omega)
    rw [show (n : Int) - 4 = (k : Int) by omega] at ez
    unfold Sl.v
    rw [hn, ha]
    have EZ := Lib.hid ez
    by_cases hbig : 20000 < m
    · have b1 : (20000 : Int) < (m : Int) := by omega
      have t1 : Hid (sizeF s.xs = (0, 3)) := Lib.hid (by rw [EZ.out, if_pos b1])
      rw [t1.out]
      clear h4 hc h e0 e1 e2 e3 el ez hk hn ha
      go_enter Tryz.func167, Tryz.ntmps167
      go_wp2_with fail
      go_region
      go_wp2_with fail
      go_ret2
      exact ⟨rfl, (Below.refl _ _).drew⟩
    · have b1 : ¬ (20000 : Int) < (m : Int) := by omega
      by_cases hlong : k < m
      · have b2 : (k : Int) < (m : Int) := by omega
        have t1 : Hid (sizeF s.xs = (0, 7)) := Lib.hid (by rw [EZ.out, if_neg b1, if_pos b2])
        rw [t1.out]
        clear h4 hc h e0 e1 e2 e3 el ez hk hn ha hbig
        go_enter Tryz.func167, Tryz.ntmps167
        go_wp2_with fail
        go_region
        go_wp2_with fail
        go_ret2
        exact ⟨rfl, (Below.refl _ _).drew⟩
      · have b2 : ¬ (k : Int) < (m : Int) := by omega
        have t1 : Hid (sizeF s.xs = ((m : Int), 0)) := Lib.hid (by rw [EZ.out, if_neg b1, if_neg b2])
        rw [t1.out]
        clear h4 hc h e0 e1 e2 e3 el ez hk hn ha hbig hlong
        go_enter Tryz.func167, Tryz.ntmps167
        go_wp2_with fail
        go_region
        go_wp2_with fail
        go_ret2
        exact ⟨rfl, (Below.refl _ _).drew⟩
end Go.Proofs.YtcgmgdjeamidlaaGreat
