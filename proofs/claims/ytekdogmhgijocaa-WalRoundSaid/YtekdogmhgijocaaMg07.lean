/- bytes.Clone, the readers. -/
import Derived.Test.YtekdogmhgijocaaMg06
import Derived.Lib.AppendZerosOnto
set_option linter.unusedSimpArgs false
namespace Go.Proofs.Ytekdogmhgijocaa
open Go.RowKit Go.ChangeShapes Go.WideShapes Go.ChangeAt
set_option linter.unusedVariables false

theorem one_u8 (xs : List Int) : ∀ u ∈ xs.map (Value.int .u8), u.oneCell' = true := fun u hu => by
  obtain ⟨x, _, rfl⟩ := List.mem_map.1 hu
  rfl
theorem ints_src {k : IntKind} {w : World} {a : Option Addr} {n c : Nat} {xs : List Int} (h : Ints k w (.slice a n c) xs) (hl : xs.length = n) (hp : 0 < n) : SrcOf w (.slice a n c) n 1 (xs.map (Value.int k)) := by
  obtain ⟨b, off, cap, hv, hc⟩ := h.shape (by omega)
  simp only [Value.slice.injEq] at hv
  obtain ⟨rfl, _, rfl⟩ := hv
  refine .inr ⟨⟨b, off, none⟩, c, rfl, by simp [hl], fun j u hj => ?_⟩
  rw [List.getElem?_map, Option.map_eq_some_iff] at hj
  obtain ⟨z, hz, rfl⟩ := hj
  have hlt := (List.getElem?_eq_some_iff.1 hz).1
  rw [add_plain, hc j hlt, hz]; rfl
def ClonePost (xs : List Int) (w : World) (e : Ending) (w' : World) : Prop := ∃ v, e = .returned v ∧ w'.ownsRow w.heap.size 5 1 v xs.length (xs.map (Value.int .u8)) ∧ Below w.heap.size w w'
set_option maxHeartbeats 2000000 in
theorem clone_any (b off n c : Nat) (xs : List Int) (w : World) (hx : xs.length = n) (hi : Ints .u8 w (.slice (some ⟨b, off, none⟩) n c) xs) (hp : 0 < n) (hn : n ≤ 100000) :
    Calls Try.prog 67 #[.slice (some ⟨b, off, none⟩) n c] w (ClonePost xs w) := by
  obtain ⟨i0', hi0, hz0, hz1, hz2⟩ := info_parts infoBy
  have S := Lib.hid (ints_src hi hx hp)
  have HX := Lib.hid hx
  have q22 : ∀ (w : World) (a : Option Addr) (n c n' c' : Nat), (binOp .eql 32 (.slice a n c) (.slice none n' c')).run Try.prog w = .ok (.bool a.isNone) w := fun w a n c n' c' => Lib.run_eql_slice_nil w _ _ a n c n' c' Try.underlying32
  clear hi hx
  go_enter Try.func67, Try.ntmps67
  go_wp2_with (at_builtin; refine wpList_append_src rfl (.tmp 5) (.tmp 6) 32 rfl w.heap.size 5 i0' (.int .u8 0) 1 1 Try.underlying32 hi0 hz0 hz1 hz2 rfl (by decide) _ 0 [] rfl (World.ownsRow_made w #[] 0 (Nat.le_refl _) (by decide) rfl) _ n (xs.map (Value.int .u8)) rfl ?s1 ?s2 ?s3 ?s4 ?s5 ?s6)
  case s1 => exact S.out.below ((Below.refl _ _).alloc (Nat.le_refl _) _)
  case s2 => exact one_u8 xs
  case s3 => unfold maxLen; omega
  case s4 => omega
  case s5 => simp
  case s6 =>
    intro v1 w1 hown1 hg1
    have b1 : Below w.heap.size w w1 := ((Below.refl _ _).alloc (Nat.le_refl _) _).grown hg1 (by simp) (by simp [Value.ownBlock])
    have O1 : Hid (w1.ownsRow w.heap.size 5 1 v1 n (xs.map (Value.int .u8))) := Lib.hid (by simpa using hown1)
    have B1 := Lib.hid b1
    clear hown1 hg1 b1
    go_wp2_with fail
    go_ret
    exact ⟨v1, rfl, by rw [HX.out]; exact O1.out, B1.out⟩
/-! ### readers -/
abbrev tRd : TypeId := 113
/-- The number that bytes are, the lowest first. -/
def leN : List Int → Int
  | [] => 0
  | c :: r => c + 256 * leN r
theorem leN_range : ∀ (xs : List Int), IsBy xs → 0 ≤ leN xs ∧ leN xs < 256 ^ xs.length
  | [], _ => by simp [leN]
  | c :: r, h => by
    have h1 := leN_range r fun x hx => h x (List.mem_cons_of_mem _ hx)
    have h2 := h c (List.mem_cons_self ..)
    simp only [leN, List.length_cons, Int.pow_succ]
    omega
theorem leN_append (a b : List Int) : leN (a ++ b) = leN a + 256 ^ a.length * leN b := by
  induction a with
  | nil => simp [leN]
  | cons c r ih =>
    simp only [List.cons_append, leN, ih, List.length_cons, Int.pow_succ]
    rw [Int.mul_add, ← Int.mul_assoc, Int.mul_comm 256 (256 ^ r.length)]
    omega
end Go.Proofs.Ytekdogmhgijocaa

/- The readers' walks. -/
namespace Go.Proofs.Ytekdogmhgijocaa
open Go.RowKit Go.ChangeShapes Go.WideShapes Go.ChangeAt
set_option linter.unusedVariables false

/-- Block r is a reader that has xs left, in memory that is not its own. -/
structure RdAt (T : TypeId) (w : World) (r : Nat) (xs : List Int) : Prop where
  at_ : ∃ g o c, Row w r #[.slice (some ⟨g, o, none⟩) xs.length c, .int .i64 0] T ∧ (∀ i, i < xs.length → w.cell? ⟨g, o + i, none⟩ = some (.int .u8 (xs[i]?.getD 0))) ∧ r ≠ g ∧ xs.length ≤ c ∧ c ≤ 9223372036854775807
theorem err_any (r : Nat) (v : Value) (w : World) (h : Row w r #[v, .int .i64 0] tRd) : Calls Try.prog 55 #[.pointer (some ⟨r, 0, none⟩)] w fun e w' => e = .returned (.int .i64 0) ∧ w' = w := by
  have c1 : w.cell? ⟨r, 1, none⟩ = some (.int .i64 0) := h.cell 1
  clear h
  go_enter Try.func55, Try.ntmps55
  go_wp2_with fail
  go_ret
  exact ⟨rfl, rfl⟩
theorem or_step {xs : List Int} (hb : IsBy xs) {i : Nat} (h8 : i < 8) {cv : Nat} (hc : xs[i]? = some (cv : Int)) : bits .or .u64 (leN (xs.take i)) ((cv : Int) * 2 ^ (8 * i) % 18446744073709551616) = leN (xs.take (i + 1)) := by
  obtain ⟨hi, hx⟩ := List.getElem?_eq_some_iff.1 hc
  have hcv : cv < 256 := by have := hb _ (List.getElem_mem hi); rw [hx] at this; omega
  have hl : (xs.take i).length = i := by simp; omega
  obtain ⟨r0, r1⟩ := leN_range (xs.take i) fun x hx => hb x (List.mem_of_mem_take hx)
  rw [hl] at r1
  have e : leN (xs.take (i + 1)) = leN (xs.take i) + 256 ^ i * (cv : Int) := by
    rw [List.take_succ_eq_append_getElem hi, leN_append, hl, hx]
    simp [leN]
  rw [e]
  generalize leN (xs.take i) = z at r0 r1
  obtain ⟨A, rfl⟩ := Int.eq_ofNat_of_zero_le r0
  have hp : (256 : Nat) ^ i = 2 ^ (8 * i) := by rw [show (256 : Nat) = 2 ^ 8 from rfl, ← Nat.pow_mul]
  have hA : A < 2 ^ (8 * i) := by
    have : ((A : Nat) : Int) < ((256 ^ i : Nat) : Int) := by rw [Int.natCast_pow]; exact r1
    rw [← hp]; omega
  have hle : (2 : Nat) ^ (8 * i) ≤ 2 ^ 56 := Nat.pow_le_pow_right (by omega) (by omega)
  have hm : cv * 2 ^ (8 * i) < 18446744073709551616 := by
    have : cv * 2 ^ (8 * i) ≤ 255 * 2 ^ 56 := Nat.mul_le_mul (by omega) hle
    omega
  have e1 : (cv : Int) * 2 ^ (8 * i) % 18446744073709551616 = ((cv * 2 ^ (8 * i) : Nat) : Int) := by
    rw [show (cv : Int) * 2 ^ (8 * i) = ((cv * 2 ^ (8 * i) : Nat) : Int) by rw [Int.natCast_mul, Int.natCast_pow]; rfl]
    omega
  have e2 : (256 : Int) ^ i * (cv : Int) = ((cv * 2 ^ (8 * i) : Nat) : Int) := by
    rw [← hp, Int.natCast_mul, Int.natCast_pow, Int.mul_comm]; rfl
  rw [e1, e2, u64_or_nat A _ (by omega) hm, ← Int.natCast_add]
  congr 1
  rw [Nat.or_comm, Nat.mul_comm cv, ← Nat.two_pow_add_eq_or_of_lt hA]
  omega
def FixedPost (T : TypeId) (r : Nat) (xs : List Int) (k : Nat) (w : World) (e : Ending) (w' : World) : Prop := e = .returned (.int .u64 (leN (xs.take k))) ∧ RdAt T w' r (xs.drop k) ∧ Only [r] w w'
set_option maxRecDepth 100000 in
set_option maxHeartbeats 4000000 in
theorem fixed_any (r : Nat) (xs : List Int) (k : Nat) (w : World) (h : RdAt tRd w r xs) (hb : IsBy xs) (h8 : k ≤ 8) (hk : k < xs.length) :
    Calls Try.prog 68 #[.pointer (some ⟨r, 0, none⟩), .int .i64 k] w (FixedPost tRd r xs k w) := by
  obtain ⟨g, o, c, hrow, hcell, hne, hc1, hc2⟩ := h.at_
  obtain ⟨n, hn⟩ : ∃ n, n = xs.length := ⟨_, rfl⟩
  have HN := Lib.hid hn
  have HC := Lib.hid hcell
  have HB := Lib.hid hb
  have HR := Lib.hid hrow
  rw [← hn] at hrow hc1 hk
  have c0 : w.cell? ⟨r, 0, none⟩ = some (.slice (some ⟨g, o, none⟩) n c) := hrow.cell 0
  have f0 := hrow.free 0
  have ER := Lib.hid (err_any r _ w hrow)
  have kk : (k : Int) ≤ 8 := by omega
  have kc : (k : Int) ≤ (c : Int) := by omega
  have kn : (k : Int) < (n : Int) := by omega
  have k0 : (0 : Int) ≤ (k : Int) := Int.natCast_nonneg _
  have dk : decide ((n : Int) < (k : Int)) = false := decide_eq_false (by omega)
  clear h hcell hn hb hrow
  go_enter Try.func68, Try.ntmps68
  go_wp2_with fail
  refine ER.out.mono ?_
  rintro _ w' ⟨rfl, hw'⟩
  subst w'
  go_wp2_with fail
  go_loopw [5, 6, 7, 28] (fun x _ _ u wr => ∃ i : Nat, i ≤ k ∧ u = .int .i64 i ∧ x = .int .u64 (leN (xs.take i)) ∧ Hid (wr = w)) (fun _ _ _ u _ => k - (intOf u).toNat)
  case atStart => exact ⟨0, by omega, rfl, rfl, Lib.hid rfl⟩
  case round =>
    obtain ⟨i, hi, rfl, rfl, HW⟩ := hrel
    obtain rfl := HW.out
    have i0 : (0 : Int) ≤ (i : Int) := Int.natCast_nonneg _
    by_cases hlt : i < k
    · have e1 : decide ((i : Int) < (k : Int)) = true := decide_eq_true (by omega)
      have e1' : (i : Int) < (k : Int) := by omega
      obtain ⟨cv, hv1, hv2⟩ := byteAt HB.out (show i < xs.length by rw [← HN.out]; omega)
      have l1 : wr.cell? ⟨g, o + i, none⟩ = some (.int .u8 (cv : Int)) := by
        have := HC.out i (by rw [← HN.out]; omega)
        rw [hv1] at this; exact this
      have hs : bits .or .u64 (leN (xs.take i)) (IntKind.u64.wrap ((cv : Int) * 2 ^ (8 * i))) = leN (xs.take (i + 1)) := or_step HB.out (show i < 8 by omega) hv1
      have wv : IntKind.u64.wrap (cv : Int) = (cv : Int) := by rw [show IntKind.u64.wrap (cv : Int) = (cv : Int) % 18446744073709551616 from rfl]; omega
      have HS : Hid (leN (xs.take (i + 1)) = leN (xs.take (i + 1))) := Lib.hid rfl
      generalize hz : leN (xs.take (i + 1)) = z at hs HS
      have HZ := Lib.hid hz
      generalize leN (xs.take i) = y at *
      clear hv1 hz HS
      go_wp2_with fail
      go_roundw
      case rel => exact ⟨i + 1, by omega, by go_num, by rw [HZ.out], by first | exact Lib.hid trivial | exact Lib.hid rfl⟩
      case measure => simp [intOf]; omega
    · have e1 : decide ((i : Int) < (k : Int)) = false := decide_eq_false (by omega)
      have F9 : Hid (RdAt tRd (wr.setCell ⟨r, 0, none⟩ (.slice (some ⟨g, o + k, none⟩) (n - k) (c - k))) r (xs.drop k)) := Lib.hid (by
        have hr := HR.out.set 0 (.slice (some ⟨g, o + k, none⟩) (n - k) (c - k))
        refine ⟨⟨g, o + k, c - k, ?_, fun j hj => ?_, hne, ?_, by omega⟩⟩
        · rw [List.length_drop, ← HN.out]; exact hr
        · rw [List.length_drop, ← HN.out] at hj
          rw [((Only.refl [r] wr).setCell (.inl (by simp)) (p := ⟨r, 0, none⟩) _).cell (World.block_lt_of_cell? wr _ (HC.out 0 (by rw [← HN.out]; omega))) (by simp; exact fun e => hne e.symm), show o + k + j = o + (k + j) by omega, HC.out (k + j) (by rw [← HN.out]; omega), List.getElem?_drop]
        · rw [List.length_drop, ← HN.out]; omega)
      have E : Hid (i = k) := Lib.hid (by omega)
      have t1 : (c - k : Nat) ≠ 0 := by omega
      go_wp2_with fail
      go_ret
      exact ⟨by rw [E.out]; rfl, F9.out, (Only.refl [r] wr).setCell (.inl (by simp)) _⟩
theorem u32r_any (r : Nat) (xs : List Int) (w : World) (h : RdAt tRd w r xs) (hb : IsBy xs) (hk : 4 < xs.length) :
    Calls Try.prog 48 #[.pointer (some ⟨r, 0, none⟩)] w fun e w' => e = .returned (.int .u32 (leN (xs.take 4))) ∧ RdAt tRd w' r (xs.drop 4) ∧ Only [r] w w' := by
  have K := Lib.hid (fixed_any r xs 4 w h hb (by omega) hk)
  unfold FixedPost at K
  have wr : IntKind.u32.wrap (leN (xs.take 4)) = leN (xs.take 4) := by
    have h1 := leN_range (xs.take 4) fun x hx => hb x (List.mem_of_mem_take hx)
    rw [show (xs.take 4).length = 4 by simp; omega] at h1
    rw [show IntKind.u32.wrap (leN (xs.take 4)) = leN (xs.take 4) % 4294967296 from rfl]
    omega
  generalize leN (xs.take 4) = z at *
  clear h hb
  go_enter Try.func48, Try.ntmps48
  go_wp2_with fail
  refine K.out.mono ?_
  rintro _ w2 ⟨rfl, hr2, k2⟩
  have R2 := Lib.hid hr2
  have K2 := Lib.hid k2
  clear hr2 k2
  go_wp2_with fail
  go_ret
  exact ⟨rfl, R2.out, K2.out⟩
theorem u64r_any (r : Nat) (xs : List Int) (w : World) (h : RdAt tRd w r xs) (hb : IsBy xs) (hk : 8 < xs.length) :
    Calls Try.prog 49 #[.pointer (some ⟨r, 0, none⟩)] w fun e w' => e = .returned (.int .u64 (leN (xs.take 8))) ∧ RdAt tRd w' r (xs.drop 8) ∧ Only [r] w w' := by
  have K := Lib.hid (fixed_any r xs 8 w h hb (by omega) hk)
  unfold FixedPost at K
  generalize leN (xs.take 8) = z at *
  clear h hb
  go_enter Try.func49, Try.ntmps49
  go_wp2_with fail
  refine K.out.mono ?_
  rintro _ w2 ⟨rfl, hr2, k2⟩
  have R2 := Lib.hid hr2
  have K2 := Lib.hid k2
  clear hr2 k2
  go_wp2_with fail
  go_ret
  exact ⟨rfl, R2.out, K2.out⟩
/-! ### the document's reader -/
theorem drop_cons {xs : List Int} {k j : Nat} (hj : j < k) (hk : k ≤ xs.length) : (xs.take k).drop j = (xs[j]?.getD 0) :: (xs.take k).drop (j + 1) := by
  have h1 : j < (xs.take k).length := by simp; omega
  rw [List.drop_eq_getElem_cons h1, List.getElem_take]
  congr 1
  rw [List.getElem?_eq_getElem (by omega)]; rfl
theorem own_parts {w : World} {base : Nat} {e : TypeId} {k : IntKind} {v : Value} {xs : List Int} (h : w.ownsRow base e 1 v xs.length (xs.map (Value.int k))) (hp : 0 < xs.length) :
    ∃ g c, v = .slice (some ⟨g, 0, none⟩) xs.length c ∧ base ≤ g ∧ g < w.heap.size ∧ xs.length ≤ c ∧ c ≤ 9223372036854775807 ∧ ∀ i, i < xs.length → w.cell? ⟨g, i, none⟩ = some (.int k (xs[i]?.getD 0)) := by
  rcases h.2 with ⟨_, h0⟩ | ⟨g, cap, cur, rfl, hb, hg, hc, hm, _⟩
  · omega
  · refine ⟨g, cap, rfl, hb, (Array.getElem?_eq_some_iff.1 hg).1, hc, by unfold maxLen at hm; omega, fun i hi => ?_⟩
    rw [h.cellAt i (by omega)]
    simp [hi]
/-- NewReader. -/
def NewRdPost (T : TypeId) (xs : List Int) (w : World) (e : Ending) (w' : World) : Prop := ∃ r, e = .returned (.pointer (some ⟨r, 0, none⟩)) ∧ RdAt T w' r xs ∧ Below w.heap.size w w' ∧ w.heap.size ≤ r
set_option maxHeartbeats 2000000 in
theorem newrd_any (b off n c : Nat) (xs : List Int) (w : World) (hx : xs.length = n) (hi : Ints .u8 w (.slice (some ⟨b, off, none⟩) n c) xs) (hp : 0 < n) (hn : n ≤ 100000) :
    Calls Try.prog 47 #[.slice (some ⟨b, off, none⟩) n c] w (NewRdPost tRd xs w) := by
  have K := Lib.hid (clone_any b off n c xs w hx hi hp hn)
  obtain rfl := hx
  have HP := Lib.hid hp
  clear hi hp
  go_enter Try.func47, Try.ntmps47
  go_wp2_with fail
  refine K.out.mono ?_
  rintro _ w2 ⟨v, rfl, hv, hb⟩
  obtain ⟨g, cc, rfl, hg1, hg2, hc1, hc2, hcell⟩ := own_parts hv HP.out
  have B2 := Lib.hid hb
  have HG1 := Lib.hid hg1
  have HG2 := Lib.hid hg2
  have HC1 := Lib.hid hc1
  have HC2 := Lib.hid hc2
  have HC := Lib.hid hcell
  clear hv hb hg1 hg2 hc1 hc2 hcell
  go_wp2_with fail
  go_ret
  refine ⟨w2.heap.size, rfl, ⟨⟨g, 0, cc, Row.made _ _ _, fun i hi => ?_, Nat.ne_of_gt HG2.out, HC1.out, HC2.out⟩⟩, B2.out.alloc B2.out.size _, B2.out.size⟩
  rw [Nat.zero_add, World.cell?_alloc_past _ _ _ HG2.out, HC.out i hi]
end Go.Proofs.Ytekdogmhgijocaa
