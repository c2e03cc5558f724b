/- Put16, Put32, Put64, PutUv, PutText behind bytes that are there. -/
import Derived.Test.YtjhomphbfkbaoaaWaA
import Derived.Laws.BitsAllLaws
namespace Go.Proofs.Ytjhomphbfkbaoaa
open Go.RowKit Go.ChangeShapes Go.WideShapes Go.ChangeAt
set_option linter.unusedVariables false

theorem Put64_x (n : Int) (h0 : 0 ≤ n) (h1 : n < 18446744073709551616) (a : Option Addr) (m c : Nat) (xs : List Int) (w : World) (hx : xs.length = m) (hi : Ints .u8 w (.slice a m c) xs) (hm : m ≤ 100000) : Calls Try.prog 48 #[.slice a m c, .int .u64 n] w (GivesX (xs ++ leB n 8) w) := by
  have K := Lib.hid (put64_x n h0 h1 a m c xs w hx hi hm)
  clear h0 h1 hx hi hm
  go_enter Try.func48, Try.ntmps48
  go_wp2_with fail
  refine K.out.mono ?_
  rintro _ w2 ⟨g, rfl, hv, hb⟩
  obtain ⟨L, hL⟩ : ∃ L, (xs ++ leB n 8).length = L := ⟨_, rfl⟩
  rw [hL] at hv
  rw [hL]
  have HL := Lib.hid hL
  have OV := Lib.hid hv
  have B2 := Lib.hid hb
  clear hv hb hL
  go_wp2_with fail
  go_ret
  exact ⟨g, by rw [HL.out]; rfl, by rw [HL.out]; exact OV.out, B2.out⟩
theorem Put64_on (n : Int) (h0 : 0 ≤ n) (h1 : n < 18446744073709551616) (a : Option Addr) (m c : Nat) (xs : List Int) (w : World) (hx : xs.length = m) (hi : Ints .u8 w (.slice a m c) xs) (hm : m ≤ 100000) : Calls Try.prog 48 #[.slice a m c, .int .u64 n] w (Gives (xs ++ leB n 8) w) :=
  (Put64_x n h0 h1 a m c xs w hx hi hm).mono fun _ _ h => h.gives
theorem Put32_x (n : Int) (h0 : 0 ≤ n) (h1 : n < 4294967296) (a : Option Addr) (m c : Nat) (xs : List Int) (w : World) (hx : xs.length = m) (hi : Ints .u8 w (.slice a m c) xs) (hm : m ≤ 100000) : Calls Try.prog 47 #[.slice a m c, .int .u32 n] w (GivesX (xs ++ leB n 4) w) := by
  have K := Lib.hid (put32_x n h0 h1 a m c xs w hx hi hm)
  clear h0 h1 hx hi hm
  go_enter Try.func47, Try.ntmps47
  go_wp2_with fail
  refine K.out.mono ?_
  rintro _ w2 ⟨g, rfl, hv, hb⟩
  obtain ⟨L, hL⟩ : ∃ L, (xs ++ leB n 4).length = L := ⟨_, rfl⟩
  rw [hL] at hv
  rw [hL]
  have HL := Lib.hid hL
  have OV := Lib.hid hv
  have B2 := Lib.hid hb
  clear hv hb hL
  go_wp2_with fail
  go_ret
  exact ⟨g, by rw [HL.out]; rfl, by rw [HL.out]; exact OV.out, B2.out⟩
theorem Put32_on (n : Int) (h0 : 0 ≤ n) (h1 : n < 4294967296) (a : Option Addr) (m c : Nat) (xs : List Int) (w : World) (hx : xs.length = m) (hi : Ints .u8 w (.slice a m c) xs) (hm : m ≤ 100000) : Calls Try.prog 47 #[.slice a m c, .int .u32 n] w (Gives (xs ++ leB n 4) w) :=
  (Put32_x n h0 h1 a m c xs w hx hi hm).mono fun _ _ h => h.gives
theorem Put16_x (n : Int) (h0 : 0 ≤ n) (h1 : n < 65536) (a : Option Addr) (m c : Nat) (xs : List Int) (w : World) (hx : xs.length = m) (hi : Ints .u8 w (.slice a m c) xs) (hm : m ≤ 100000) : Calls Try.prog 65 #[.slice a m c, .int .u16 n] w (GivesX (xs ++ leB n 2) w) := by
  have K := Lib.hid (put16_x n h0 h1 a m c xs w hx hi hm)
  clear h0 h1 hx hi hm
  go_enter Try.func65, Try.ntmps65
  go_wp2_with fail
  refine K.out.mono ?_
  rintro _ w2 ⟨g, rfl, hv, hb⟩
  obtain ⟨L, hL⟩ : ∃ L, (xs ++ leB n 2).length = L := ⟨_, rfl⟩
  rw [hL] at hv
  rw [hL]
  have HL := Lib.hid hL
  have OV := Lib.hid hv
  have B2 := Lib.hid hb
  clear hv hb hL
  go_wp2_with fail
  go_ret
  exact ⟨g, by rw [HL.out]; rfl, by rw [HL.out]; exact OV.out, B2.out⟩
theorem Put16_on (n : Int) (h0 : 0 ≤ n) (h1 : n < 65536) (a : Option Addr) (m c : Nat) (xs : List Int) (w : World) (hx : xs.length = m) (hi : Ints .u8 w (.slice a m c) xs) (hm : m ≤ 100000) : Calls Try.prog 65 #[.slice a m c, .int .u16 n] w (Gives (xs ++ leB n 2) w) :=
  (Put16_x n h0 h1 a m c xs w hx hi hm).mono fun _ _ h => h.gives
/-- A count's bytes. -/
def uvF : Nat → Int → List Int
  | 0, n => [n]
  | k + 1, n => if n < 128 then [n] else (n % 128 + 128) :: uvF k (n / 128)
def uvB (n : Int) : List Int := uvF 10 n
theorem uvB_one {n : Int} (h : n < 128) : uvB n = [n] := by unfold uvB; rw [uvF, if_pos h]
theorem uvB_two {n : Int} (h : 128 ≤ n) (h2 : n < 16384) : uvB n = [n % 128 + 128, n / 128] := by
  unfold uvB
  rw [uvF, if_neg (by omega), uvF, if_pos (by omega)]
theorem or128 : ∀ x : Int, 0 ≤ x → x < 256 → bits .or .u8 x 128 = x % 128 + 128 := fun x h0 h1 => by
  have key : ∀ k : Fin 256, bits .or .u8 ((k.val : Nat) : Int) 128 = ((k.val : Nat) : Int) % 128 + 128 := by decide +kernel
  have := key ⟨x.toNat, by omega⟩
  simpa [Int.toNat_of_nonneg h0] using this
end Go.Proofs.Ytjhomphbfkbaoaa
