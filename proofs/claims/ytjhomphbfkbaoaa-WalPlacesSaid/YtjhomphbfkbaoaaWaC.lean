/- PutUv, PutText behind bytes that are there (counts below 16384). -/
import Derived.Test.YtjhomphbfkbaoaaWaB
import Derived.Test.YtjhomphbfkbaoaaPgF
namespace Go.Proofs.Ytjhomphbfkbaoaa
open Go.RowKit Go.ChangeShapes Go.WideShapes Go.ChangeAt
set_option linter.unusedVariables false

structure UvInv (n : Int) (xs : List Int) (w wr : World) (v : Value) (k : Int) (pre : List Int) : Prop where
  own : wr.ownsRow w.heap.size 5 1 v (xs.length + pre.length) ((xs ++ pre).map (Value.int .u8))
  bl : Below w.heap.size w wr
  k0 : 0 ≤ k
  k1 : k < 16384
  len : pre.length ≤ 10
  eq : pre ++ uvB k = uvB n
theorem UvInv.push {n : Int} {xs : List Int} {w wr w5 : World} {v v5 : Value} {k : Int} {pre : List Int} (h : UvInv n xs w wr v k pre) (hk : 128 ≤ k) (hp : pre.length ≤ 9) (ho : w5.ownsRow w.heap.size 5 1 v5 (xs.length + pre.length + 1) ((xs ++ pre).map (Value.int .u8) ++ [.int .u8 (k % 128 + 128)])) (kk : Only v.ownBlock.toList wr w5) : UvInv n xs w w5 v5 (k / 128) (pre ++ [k % 128 + 128]) :=
  ⟨by rw [List.length_append, List.length_singleton, ← Nat.add_assoc, ← List.append_assoc, List.map_append]; exact ho, h.bl.trans (kk.toBelow h.bl.size fun b hb => (h.own.lt b (by simpa using hb)).1), by have := h.k0; omega, by have := h.k1; omega, by rw [List.length_append]; simp; omega, by
    have h1 := h.k1
    rw [← h.eq, uvB_two hk h1, List.append_assoc, uvB_one (by omega)]
    rfl⟩
set_option maxRecDepth 100000 in
set_option maxHeartbeats 4000000 in
theorem PutUv_on (n : Int) (h0 : 0 ≤ n) (h1 : n < 16384) (b off m c : Nat) (xs : List Int) (w : World) (hx : xs.length = m) (hi : Ints .u8 w (.slice (some ⟨b, off, none⟩) m c) xs) (hp : 0 < m) (hm : m ≤ 10000) : Calls Try.prog 66 #[.slice (some ⟨b, off, none⟩) m c, .int .u64 n] w (Gives (xs ++ uvB n) w) := by
  obtain ⟨i0', hi0, hz0, hz1, hz2⟩ := info_parts infoBy
  have K := Lib.hid (clone_any b off m c xs w hx hi hp (by omega))
  have HN := Lib.hid (show 0 ≤ n ∧ n < 16384 from ⟨h0, h1⟩)
  have HX := Lib.hid (show xs.length ≤ 10000 by omega)
  clear h0 h1 hi hx hp hm
  go_enter Try.func66, Try.ntmps66
  go_wp2_with fail
  refine K.out.mono ?_
  rintro _ w2 ⟨v, rfl, hv, hb⟩
  have I0 : Hid (UvInv n xs w w2 v n []) := Lib.hid ⟨by simpa using hv, hb, HN.out.1, HN.out.2, by simp, rfl⟩
  clear hv hb K
  go_wp2_with fail
  go_loopw [5, 1] (fun v u wr => ∃ (k : Int) (pre : List Int), u = .int .u64 k ∧ Hid (UvInv n xs w wr v k pre) ∧ Hid (pre.length ≤ 9)) (fun _ u _ => (intOf u).toNat)
  case atStart => exact ⟨n, [], rfl, I0, Lib.hid (by simp)⟩
  case round =>
    clear I0
    obtain ⟨k, pre, rfl, HI, HP⟩ := hrel
    have k0 : 0 ≤ k := HI.out.k0
    have k1 : k < 16384 := HI.out.k1
    have k2 : k / 128 < 128 := by omega
    by_cases hlt : 128 ≤ k
    · have d1 : decide (128 ≤ k) = true := decide_eq_true hlt
      have eu : IntKind.u8.wrap k = k % 256 := rfl
      have eo : bits .or .u8 (k % 256) 128 = k % 128 + 128 := by rw [or128 _ (by omega) (by omega)]; omega
      have es : k / 2 ^ 7 = k / 128 := rfl
      have PZ : Hid (pre = []) := Lib.hid (by
        have h := HI.out.eq
        rw [uvB_two hlt k1] at h
        have hl := congrArg List.length h
        have hn := HN.out
        rcases pre with _ | ⟨p, r⟩
        · rfl
        · exfalso
          by_cases hs : n < 128
          · rw [uvB_one hs] at hl; simp at hl <;> omega
          · rw [uvB_two (by omega) hn.2] at hl; simp at hl <;> omega)
      go_wp2_with (at_builtin; refine wpList_append_at rfl (.tmp 12) (.tmp 16) 32 rfl w.heap.size 5 i0' (.int .u8 0) 1 1 Try.underlying32 hi0 hz0 hz1 hz2 rfl (by decide) u5 (xs.length + pre.length) _ rfl (HI.out.own.alloc _) ⟨wr.heap.size, 0, none⟩ 1 1 [.int .u8 (k % 128 + 128)] rfl rfl (fun q u hq => by rcases q with _ | q <;> simp at hq <;> subst hq <;> simp [go_sem]) (by simp [Value.oneCell']) (by unfold maxLen; have := HX.out; have := HP.out; omega) (by have := HX.out; have := HP.out; omega) (by have := HI.out.bl.size; simp; omega) ?_)
      intro v5 w5 hown5 hg5 hf5
      have F2 : Hid (UvInv n xs w w5 v5 (k / 128) (pre ++ [k % 128 + 128])) := Lib.hid (HI.out.push hlt HP.out (by first | exact hown5 | (rw [List.map_append, List.append_assoc]; exact hown5) | (simpa using hown5)) (((Only.refl _ wr).alloc _).grown hg5 (fun k hk => .inl (by simp [hk]))))
      clear hown5 hg5 hf5
      go_wp2_with fail
      go_roundw
      case rel => exact ⟨k / 128, pre ++ [k % 128 + 128], by first | rfl | go_num, F2, Lib.hid (by rw [PZ.out]; simp)⟩
      case measure => simp [intOf]; omega
    · have d1 : decide (128 ≤ k) = false := decide_eq_false hlt
      have eu : IntKind.u8.wrap k = k := by rw [show IntKind.u8.wrap k = k % 256 from rfl]; omega
      have HK : Hid (pre ++ [k] = uvB n) := Lib.hid (by rw [← HI.out.eq, uvB_one (by omega)])
      go_wp2_with (at_builtin; refine wpList_append_at rfl (.tmp 18) (.tmp 21) 32 rfl w.heap.size 5 i0' (.int .u8 0) 1 1 Try.underlying32 hi0 hz0 hz1 hz2 rfl (by decide) u5 (xs.length + pre.length) _ rfl (HI.out.own.alloc _) ⟨wr.heap.size, 0, none⟩ 1 1 [.int .u8 k] rfl rfl (fun q u hq => by rcases q with _ | q <;> simp at hq <;> subst hq <;> simp [go_sem]) (by simp [Value.oneCell']) (by unfold maxLen; have := HX.out; have := HP.out; omega) (by have := HX.out; have := HP.out; omega) (by have := HI.out.bl.size; simp; omega) ?_)
      intro v5 w5 hown5 hg5 hf5
      have B5 : Hid (Below w.heap.size w w5) := Lib.hid (HI.out.bl.trans ((((Only.refl _ wr).alloc _).grown hg5 (fun k hk => .inl (by simp [hk] : k ∈ u5.ownBlock.toList))).toBelow HI.out.bl.size fun b hb => (HI.out.own.lt b (by simpa using hb)).1))
      have O5 := Lib.hid hown5
      clear hown5 hg5 hf5
      go_wp2_with fail
      go_ret
      refine ⟨v5, rfl, ?_, B5.out⟩
      have h := O5.out
      rw [← HK.out, List.length_append, List.length_append, List.length_singleton, ← Nat.add_assoc]
      simpa using h
set_option maxHeartbeats 4000000 in
theorem PutText_on (b off m c : Nat) (xs : List Int) (a2 : Option Addr) (m2 c2 : Nat) (ys : List Int) (w : World) (hx : xs.length = m) (hi : Ints .u8 w (.slice (some ⟨b, off, none⟩) m c) xs) (hp : 0 < m) (hm : m ≤ 10000) (hy : ys.length = m2) (hj : Ints .u8 w (.slice a2 m2 c2) ys) (hp2 : 0 < m2) (hm2 : m2 ≤ 10000) : Calls Try.prog 64 #[.slice (some ⟨b, off, none⟩) m c, .slice a2 m2 c2] w (Gives (xs ++ uvB m2 ++ ys) w) := by
  have K := Lib.hid (PutUv_on (m2 : Int) (by omega) (by omega) b off m c xs w hx hi hp hm)
  have HJ := Lib.hid hj
  have HY := Lib.hid hy
  have HP := Lib.hid (show 0 < m2 ∧ m2 ≤ 10000 ∧ xs.length ≤ 10000 by omega)
  have eu : IntKind.u64.wrap (m2 : Int) = (m2 : Int) := by rw [show IntKind.u64.wrap (m2 : Int) = (m2 : Int) % 18446744073709551616 from rfl]; omega
  have UL : Hid ((uvB m2).length ≤ 2) := Lib.hid (by
    by_cases h : (m2 : Int) < 128
    · rw [uvB_one h]; simp
    · rw [uvB_two (by omega) (by omega)]; simp)
  clear hx hi hp hm hy hj hp2 hm2
  go_enter Try.func64, Try.ntmps64
  go_wp2_with fail
  refine K.out.mono ?_
  rintro _ w2 ⟨v, rfl, hv, hb⟩
  obtain ⟨v', w', r1, r2, r3, r4, r5⟩ := append_ints hv a2 m2 c2 ys (HJ.out.below' hb) HY.out HP.out.1 (by rw [List.length_append]; have := UL.out; have := HP.out; omega) hb.size
  have B2 := Lib.hid (hb.trans r3)
  have O2 := Lib.hid r2
  have R1 := Lib.hid r1
  clear hv hb r1 r2 r3 r4 r5 K
  go_wp2_with (at_builtin; refine wpList_append_eq rfl (.tmp 9) (.tmp 10) 32 rfl v (.slice a2 m2 c2) v' w' rfl rfl R1.out ?_)
  go_ret
  refine ⟨v', rfl, ?_, B2.out⟩
  have h := O2.out
  rw [show (xs ++ uvB m2 ++ ys).length = (xs ++ uvB m2).length + m2 by rw [List.length_append, HY.out]]
  exact h
end Go.Proofs.Ytjhomphbfkbaoaa
