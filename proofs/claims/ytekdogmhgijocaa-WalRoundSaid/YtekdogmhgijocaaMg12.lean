/- PutUv, PutText behind bytes that are there (counts below 16384). -/
import Derived.Test.YtekdogmhgijocaaMg11
import Derived.Test.YtekdogmhgijocaaPgF
set_option linter.unusedSimpArgs false
namespace Go.Proofs.Ytekdogmhgijocaa
open Go.RowKit Go.ChangeShapes Go.WideShapes Go.ChangeAt
set_option linter.unusedVariables false

structure UvInv (n : Int) (xs : List Int) (w wr : World) (v : Value) (k : Int) (pre : List Int) : Prop where
  own : wr.ownsRow w.heap.size 5 1 v (xs.length + pre.length) ((xs ++ pre).map (Value.int .u8))
  bl : Below w.heap.size w wr
  k0 : 0 ≤ k
  k1 : k < 16384
  len : pre.length ≤ 10
  eq : pre ++ uvB k = uvB n
theorem UvInv.push {n : Int} {xs : List Int} {w wr w5 : World} {v v5 : Value} {k : Int} {pre : List Int} (h : UvInv n xs w wr v k pre) (hk : 128 ≤ k) (hp : pre.length ≤ 9) (ho : w5.ownsRow w.heap.size 5 1 v5 (xs.length + pre.length + 1) ((xs ++ pre).map (Value.int .u8) ++ [.int .u8 (k % 128 + 128)])) (kk : Only v.ownBlock.toList wr w5) : UvInv n xs w w5 v5 (k / 128) (pre ++ [k % 128 + 128]) :=
  ⟨by rw [List.length_append, List.length_singleton, ← Nat.add_assoc, ← List.append_assoc, List.map_append]; exact ho, h.bl.trans (kk.toBelow h.bl.size fun b hb => (h.own.lt b (by simpa using hb)).1), by have := h.k0; omega, by have := h.k1; omega, by rw [List.length_append]; simp; omega, by
    have h1 := h.k1
    rw [← h.eq, uvB_two hk h1, List.append_assoc, uvB_one (by omega)]
    rfl⟩
set_option maxRecDepth 100000 in
set_option maxHeartbeats 4000000 in
theorem PutUv_on (n : Int) (h0 : 0 ≤ n) (h1 : n < 16384) (b off m c : Nat) (xs : List Int) (w : World) (hx : xs.length = m) (hi : Ints .u8 w (.slice (some ⟨b, off, none⟩) m c) xs) (hp : 0 < m) (hm : m ≤ 10000) : Calls Try.prog 66 #[.slice (some ⟨b, off, none⟩) m c, .int .u64 n] w (Gives (xs ++ uvB n) w) := by
  obtain ⟨i0', hi0, hz0, hz1, hz2⟩ := info_parts infoBy
  have K := Lib.hid (clone_any b off m c xs w hx hi hp (by omega))
  have HN := Lib.hid (show 0 ≤ n ∧ n < 16384 from ⟨h0, h1⟩)
  have HX := Lib.hid (show xs.length ≤ 10000 by omega)
  clear h0 h1 hi hx hp hm
  go_enter Try.func66, Try.ntmps66
  go_wp2_with fail
  refine K.out.mono ?_
  rintro _ w2 ⟨v, rfl, hv, hb⟩
  have I0 : Hid (UvInv n xs w w2 v n []) := Lib.hid ⟨by simpa using hv, hb, HN.out.1, HN.out.2, by simp, rfl⟩
  clear hv hb K
  go_wp2_with fail
  go_loopw [5, 1] (fun v u wr => ∃ (k : Int) (pre : List Int), u = .int .u64 k ∧ Hid (UvInv n xs w wr v k pre) ∧ Hid (pre.length ≤ 9)) (fun _ u _ => (intOf u).toNat)
  case atStart => exact ⟨n, [], rfl, I0, Lib.hid (by simp)⟩
  case round =>
    clear I0
    obtain ⟨k, pre, rfl, HI, HP⟩ := hrel
    have k0 : 0 ≤ k := HI.out.k0
    have k1 : k < 16384 := HI.out.k1
    have k2 : k / 128 < 128 := by omega
    by_cases hlt : 128 ≤ k
    · have d1 : decide (128 ≤ k) = true := decide_eq_true hlt
      have eu : IntKind.u8.wrap k = k % 256 := rfl
      have eo : bits .or .u8 (k % 256) 128 = k % 128 + 128 := by rw [or128 _ (by omega) (by omega)]; omega
      have es : k / 2 ^ 7 = k / 128 := rfl
      have PZ : Hid (pre = []) := Lib.hid (by
        have h := HI.out.eq
        rw [uvB_two hlt k1] at h
        have hl := congrArg List.length h
        have hn := HN.out
        rcases pre with _ | ⟨p, r⟩
        · rfl
        · exfalso
          by_cases hs : n < 128
          · rw [uvB_one hs] at hl; simp at hl <;> omega
          · rw [uvB_two (by omega) hn.2] at hl; simp at hl <;> omega)
      go_wp2_with (at_builtin; refine wpList_append_at rfl (.tmp 12) (.tmp 16) 32 rfl w.heap.size 5 i0' (.int .u8 0) 1 1 Try.underlying32 hi0 hz0 hz1 hz2 rfl (by decide) u5 (xs.length + pre.length) _ rfl (HI.out.own.alloc _) ⟨wr.heap.size, 0, none⟩ 1 1 [.int .u8 (k % 128 + 128)] rfl rfl (fun q u hq => by rcases q with _ | q <;> simp at hq <;> subst hq <;> simp [go_sem]) (by simp [Value.oneCell']) (by unfold maxLen; have := HX.out; have := HP.out; omega) (by have := HX.out; have := HP.out; omega) (by have := HI.out.bl.size; simp; omega) ?_)
      intro v5 w5 hown5 hg5 hf5
      have F2 : Hid (UvInv n xs w w5 v5 (k / 128) (pre ++ [k % 128 + 128])) := Lib.hid (HI.out.push hlt HP.out (by first | exact hown5 | (rw [List.map_append, List.append_assoc]; exact hown5) | (simpa using hown5)) (((Only.refl _ wr).alloc _).grown hg5 (fun k hk => .inl (by simp [hk]))))
      clear hown5 hg5 hf5
      go_wp2_with fail
      go_roundw
      case rel => exact ⟨k / 128, pre ++ [k % 128 + 128], by first | rfl | go_num, F2, Lib.hid (by rw [PZ.out]; simp)⟩
      case measure => simp [intOf]; omega
    · have d1 : decide (128 ≤ k) = false := decide_eq_false hlt
      have eu : IntKind.u8.wrap k = k := by rw [show IntKind.u8.wrap k = k % 256 from rfl]; omega
      have HK : Hid (pre ++ [k] = uvB n) := Lib.hid (by rw [← HI.out.eq, uvB_one (by omega)])
      go_wp2_with (at_builtin; refine wpList_append_at rfl (.tmp 18) (.tmp 21) 32 rfl w.heap.size 5 i0' (.int .u8 0) 1 1 Try.underlying32 hi0 hz0 hz1 hz2 rfl (by decide) u5 (xs.length + pre.length) _ rfl (HI.out.own.alloc _) ⟨wr.heap.size, 0, none⟩ 1 1 [.int .u8 k] rfl rfl (fun q u hq => by rcases q with _ | q <;> simp at hq <;> subst hq <;> simp [go_sem]) (by simp [Value.oneCell']) (by unfold maxLen; have := HX.out; have := HP.out; omega) (by have := HX.out; have := HP.out; omega) (by have := HI.out.bl.size; simp; omega) ?_)
      intro v5 w5 hown5 hg5 hf5
      have B5 : Hid (Below w.heap.size w w5) := Lib.hid (HI.out.bl.trans ((((Only.refl _ wr).alloc _).grown hg5 (fun k hk => .inl (by simp [hk] : k ∈ u5.ownBlock.toList))).toBelow HI.out.bl.size fun b hb => (HI.out.own.lt b (by simpa using hb)).1))
      have O5 := Lib.hid hown5
      clear hown5 hg5 hf5
      go_wp2_with fail
      go_ret
      refine ⟨v5, rfl, ?_, B5.out⟩
      have h := O5.out
      rw [← HK.out, List.length_append, List.length_append, List.length_singleton, ← Nat.add_assoc]
      simpa using h
set_option maxHeartbeats 4000000 in
theorem PutText_on (b off m c : Nat) (xs : List Int) (a2 : Option Addr) (m2 c2 : Nat) (ys : List Int) (w : World) (hx : xs.length = m) (hi : Ints .u8 w (.slice (some ⟨b, off, none⟩) m c) xs) (hp : 0 < m) (hm : m ≤ 10000) (hy : ys.length = m2) (hj : Ints .u8 w (.slice a2 m2 c2) ys) (hp2 : 0 < m2) (hm2 : m2 ≤ 10000) : Calls Try.prog 64 #[.slice (some ⟨b, off, none⟩) m c, .slice a2 m2 c2] w (Gives (xs ++ uvB m2 ++ ys) w) := by
  have K := Lib.hid (PutUv_on (m2 : Int) (by omega) (by omega) b off m c xs w hx hi hp hm)
  have HJ := Lib.hid hj
  have HY := Lib.hid hy
  have HP := Lib.hid (show 0 < m2 ∧ m2 ≤ 10000 ∧ xs.length ≤ 10000 by omega)
  have eu : IntKind.u64.wrap (m2 : Int) = (m2 : Int) := by rw [show IntKind.u64.wrap (m2 : Int) = (m2 : Int) % 18446744073709551616 from rfl]; omega
  have UL : Hid ((uvB m2).length ≤ 2) := Lib.hid (by
    by_cases h : (m2 : Int) < 128
    · rw [uvB_one h]; simp
    · rw [uvB_two (by omega) (by omega)]; simp)
  clear hx hi hp hm hy hj hp2 hm2
  go_enter Try.func64, Try.ntmps64
  go_wp2_with fail
  refine K.out.mono ?_
  rintro _ w2 ⟨v, rfl, hv, hb⟩
  obtain ⟨v', w', r1, r2, r3, r4, r5⟩ := append_ints hv a2 m2 c2 ys (HJ.out.below' hb) HY.out HP.out.1 (by rw [List.length_append]; have := UL.out; have := HP.out; omega) hb.size
  have B2 := Lib.hid (hb.trans r3)
  have O2 := Lib.hid r2
  have R1 := Lib.hid r1
  clear hv hb r1 r2 r3 r4 r5 K
  go_wp2_with (at_builtin; refine wpList_append_eq rfl (.tmp 9) (.tmp 10) 32 rfl v (.slice a2 m2 c2) v' w' rfl rfl R1.out ?_)
  go_ret
  refine ⟨v', rfl, ?_, B2.out⟩
  have h := O2.out
  rw [show (xs ++ uvB m2 ++ ys).length = (xs ++ uvB m2).length + m2 by rw [List.length_append, HY.out]]
  exact h
end Go.Proofs.Ytekdogmhgijocaa

/- slices.Contains at kinds of records; none, May. -/
namespace Go.Proofs.Ytekdogmhgijocaa
open Go.RowKit Go.ChangeShapes Go.WideShapes Go.ChangeAt
set_option linter.unusedVariables false

def IndexPost (k : Int) (ks : List Int) (w : World) (e : Ending) (w' : World) : Prop := ∃ r : Int, e = .returned (.int .i64 r) ∧ (0 ≤ r ↔ k ∈ ks) ∧ w' = w
set_option maxHeartbeats 4000000 in
theorem index_any (k : Int) (ks : List Int) (b n c : Nat) (w : World) (hk : ks.length = n) (hc : ∀ i, i < n → w.cell? ⟨b, i, none⟩ = some (.int .i64 (ks[i]?.getD 0))) (hn : n ≤ 100) : Calls Try.prog 83 #[.slice (some ⟨b, 0, none⟩) n c, .int .i64 k] w (IndexPost k ks w) := by
  have HC := Lib.hid hc
  have HK := Lib.hid hk
  have HN := Lib.hid hn
  clear hc hk hn
  go_enter Try.func83, Try.ntmps83
  go_wp2_with fail
  go_loopw [8] (fun u wr => ∃ i : Nat, i ≤ n ∧ u = .int .i64 i ∧ wr = w ∧ Hid (∀ j, j < i → ks[j]? ≠ some k)) (fun u _ => n - (intOf u).toNat)
  case atStart => exact ⟨0, by omega, rfl, rfl, Lib.hid fun j hj => by omega⟩
  case round =>
    obtain ⟨i, hi, rfl, rfl, HJ⟩ := hrel
    have i0 : (0 : Int) ≤ (i : Int) := Int.natCast_nonneg _
    have ei : IntKind.i64.wrap ((i : Int) + 1) = (i : Int) + 1 := IntWalk.i64_in _ (by have := HN.out; omega)
    by_cases hlt : i < n
    · have d1 : decide ((i : Int) < (n : Int)) = true := decide_eq_true (by omega)
      have d2 : (i : Int) < (n : Int) := by omega
      have c0 := HC.out i hlt
      have e0 : ks[i]? = some (ks[i]?.getD 0) := by rw [List.getElem?_eq_getElem (by have := HK.out; omega)]; rfl
      obtain ⟨z, hz⟩ : ∃ z, ks[i]?.getD 0 = z := ⟨_, rfl⟩
      rw [hz] at c0 e0
      have E0 := Lib.hid e0
      have HLT := Lib.hid hlt
      clear e0 hz
      by_cases hkz : k = z
      · subst hkz
        have em : (k == k) = true := by simp
        have MEM : Hid (k ∈ ks) := Lib.hid (List.mem_of_getElem? E0.out)
        go_wp2_with fail
        go_ret
        first | exact ⟨(i : Int), rfl, ⟨fun _ => MEM.out, fun _ => Int.natCast_nonneg _⟩, rfl⟩ | exact ⟨(i : Int), rfl, ⟨fun _ => MEM.out, fun _ => Int.natCast_nonneg _⟩, trivial⟩
      · have em : (k == z) = false := by simpa using hkz
        have HJ' : Hid (∀ j, j < i + 1 → ks[j]? ≠ some k) := Lib.hid fun j hj e => by
          by_cases ej : j = i
          · subst ej
            rw [E0.out] at e
            simp at e
            exact hkz e.symm
          · exact HJ.out j (by omega) e
        clear hkz
        go_wp2_with fail
        go_roundw
        case rel => first | exact ⟨i + 1, HLT.out, by first | rfl | go_num, trivial, HJ'⟩ | exact ⟨i + 1, HLT.out, by first | rfl | go_num, rfl, HJ'⟩
        case measure =>
          have := HLT.out
          simp [intOf]
          omega
    · have d1 : decide ((i : Int) < (n : Int)) = false := decide_eq_false (by omega)
      have d2 : ¬ (i : Int) < (n : Int) := by omega
      have NOT : Hid (k ∉ ks) := Lib.hid fun hm => by
        obtain ⟨j, hj1, hj2⟩ := List.getElem_of_mem hm
        exact HJ.out j (by have := HK.out; omega) (by rw [List.getElem?_eq_getElem hj1, hj2])
      go_wp2_with fail
      go_ret
      exact ⟨-1, rfl, ⟨fun h => by omega, fun h => absurd h NOT.out⟩, rfl⟩
theorem contains_any (k : Int) (ks : List Int) (b n c : Nat) (o : Bool) (w : World) (hk : ks.length = n) (hc : ∀ i, i < n → w.cell? ⟨b, i, none⟩ = some (.int .i64 (ks[i]?.getD 0))) (hn : n ≤ 100) (ho : o = decide (k ∈ ks)) : Calls Try.prog 76 #[.slice (some ⟨b, 0, none⟩) n c, .int .i64 k] w fun e w' => e = .returned (.bool o) ∧ w' = w := by
  have K := Lib.hid (index_any k ks b n c w hk hc hn)
  have HO := Lib.hid ho
  clear hk hc hn ho
  go_enter Try.func76, Try.ntmps76
  go_wp2_with fail
  refine K.out.mono ?_
  rintro _ w2 ⟨r, rfl, hr, hw⟩
  subst hw
  have E : Hid (decide (0 ≤ r) = o) := Lib.hid (by rw [HO.out]; exact decide_eq_decide.2 hr)
  clear hr
  go_wp2_with fail
  go_ret
  exact ⟨by rw [← E.out]; rfl, rfl⟩
/-- A record's cells: its kind, its place, its epoch, whose it is; page, offset, what was there, what is there now. -/
def recR (kind lsn ep txn pg off : Int) (v1 v2 : Value) : Array Value := #[.int .i64 kind, .int .u64 lsn, .int .u32 ep, .int .u64 txn, .int .u32 pg, .int .u16 off, v1, v2, .slice none 0 0, .int .u64 0, .int .u64 0, .bool false, .int .u64 0, .slice none 0 0, .slice none 0 0]
set_option maxHeartbeats 4000000 in
theorem none_ww (lsn ep pg off : Int) (a1 a2 : Option Addr) (n1 c1 n2 c2 : Nat) (b : Nat) (w : World) (hc : w.cell? ⟨b, 0, none⟩ = some (.int .i64 1)) (hb : b < w.heap.size) : Calls Try.prog 63 #[.agg (recR 1 lsn ep 0 pg off (.slice a1 n1 c1) (.slice a2 n2 c2)), .slice (some ⟨b, 0, none⟩) 1 1] w fun e w' => e = .returned (.bool true) ∧ Below w.heap.size w w' := by
  have CK := Lib.hid fun (y : World) (k : Below w.heap.size w y) => contains_any 1 [1] b 1 1 true y rfl (fun i hi => by
    have e : y.cell? ⟨b, i, none⟩ = w.cell? ⟨b, i, none⟩ := k.cell (p := ⟨b, i, none⟩) hb
    rw [e]
    rcases (by omega : i = 0) with rfl
    · exact hc
    ) (by omega) (by decide)
  have c0 : w.cell? ⟨b, 0, none⟩ = some (.int .i64 1) := hc
  clear hc
  unfold recR
  go_enter Try.func63, Try.ntmps63
  go_wp2_with fail
  refine (CK.out _ ((Below.refl _ _).alloc (Nat.le_refl _) _)).mono ?_
  rintro _ w2 ⟨rfl, hw⟩
  subst hw
  go_wp2_with fail
  go_ret
  exact ⟨rfl, (Below.refl _ _).alloc (Nat.le_refl _) _⟩
set_option maxHeartbeats 4000000 in
theorem none_we (lsn ep pg off : Int) (a1 a2 : Option Addr) (n1 c1 n2 c2 : Nat) (b : Nat) (w : World) (hc : w.cell? ⟨b, 0, none⟩ = some (.int .i64 2)) (hb : b < w.heap.size) : Calls Try.prog 63 #[.agg (recR 1 lsn ep 0 pg off (.slice a1 n1 c1) (.slice a2 n2 c2)), .slice (some ⟨b, 0, none⟩) 1 1] w fun e w' => e = .returned (.bool true) ∧ Below w.heap.size w w' := by
  have CK := Lib.hid fun (y : World) (k : Below w.heap.size w y) => contains_any 1 [2] b 1 1 false y rfl (fun i hi => by
    have e : y.cell? ⟨b, i, none⟩ = w.cell? ⟨b, i, none⟩ := k.cell (p := ⟨b, i, none⟩) hb
    rw [e]
    rcases (by omega : i = 0) with rfl
    · exact hc
    ) (by omega) (by decide)
  have c0 : w.cell? ⟨b, 0, none⟩ = some (.int .i64 2) := hc
  clear hc
  unfold recR
  go_enter Try.func63, Try.ntmps63
  go_wp2_with fail
  refine (CK.out _ ((Below.refl _ _).alloc (Nat.le_refl _) _)).mono ?_
  rintro _ w2 ⟨rfl, hw⟩
  subst hw
  go_wp2_with fail
  go_ret
  exact ⟨rfl, (Below.refl _ _).alloc (Nat.le_refl _) _⟩
set_option maxHeartbeats 4000000 in
theorem none_wx (lsn ep pg off : Int) (a1 a2 : Option Addr) (n1 c1 n2 c2 : Nat) (b : Nat) (w : World) (hc : w.cell? ⟨b, 0, none⟩ = some (.int .i64 2) ∧ w.cell? ⟨b, 1, none⟩ = some (.int .i64 3) ∧ w.cell? ⟨b, 2, none⟩ = some (.int .i64 4)) (hb : b < w.heap.size) : Calls Try.prog 63 #[.agg (recR 1 lsn ep 0 pg off (.slice a1 n1 c1) (.slice a2 n2 c2)), .slice (some ⟨b, 0, none⟩) 3 3] w fun e w' => e = .returned (.bool true) ∧ Below w.heap.size w w' := by
  have CK := Lib.hid fun (y : World) (k : Below w.heap.size w y) => contains_any 1 [2, 3, 4] b 3 3 false y rfl (fun i hi => by
    have e : y.cell? ⟨b, i, none⟩ = w.cell? ⟨b, i, none⟩ := k.cell (p := ⟨b, i, none⟩) hb
    rw [e]
    rcases (by omega : i = 0 ∨ i = 1 ∨ i = 2) with rfl | rfl | rfl
    · exact hc.1
    · exact hc.2.1
    · exact hc.2.2
    ) (by omega) (by decide)
  have c0 : w.cell? ⟨b, 0, none⟩ = some (.int .i64 2) := hc.1
  clear hc
  unfold recR
  go_enter Try.func63, Try.ntmps63
  go_wp2_with fail
  refine (CK.out _ ((Below.refl _ _).alloc (Nat.le_refl _) _)).mono ?_
  rintro _ w2 ⟨rfl, hw⟩
  subst hw
  go_wp2_with fail
  go_ret
  exact ⟨rfl, (Below.refl _ _).alloc (Nat.le_refl _) _⟩
set_option maxHeartbeats 4000000 in
theorem none_wc (lsn ep pg off : Int) (a1 a2 : Option Addr) (n1 c1 n2 c2 : Nat) (b : Nat) (w : World) (hc : w.cell? ⟨b, 0, none⟩ = some (.int .i64 3)) (hb : b < w.heap.size) : Calls Try.prog 63 #[.agg (recR 1 lsn ep 0 pg off (.slice a1 n1 c1) (.slice a2 n2 c2)), .slice (some ⟨b, 0, none⟩) 1 1] w fun e w' => e = .returned (.bool true) ∧ Below w.heap.size w w' := by
  have CK := Lib.hid fun (y : World) (k : Below w.heap.size w y) => contains_any 1 [3] b 1 1 false y rfl (fun i hi => by
    have e : y.cell? ⟨b, i, none⟩ = w.cell? ⟨b, i, none⟩ := k.cell (p := ⟨b, i, none⟩) hb
    rw [e]
    rcases (by omega : i = 0) with rfl
    · exact hc
    ) (by omega) (by decide)
  have c0 : w.cell? ⟨b, 0, none⟩ = some (.int .i64 3) := hc
  clear hc
  unfold recR
  go_enter Try.func63, Try.ntmps63
  go_wp2_with fail
  refine (CK.out _ ((Below.refl _ _).alloc (Nat.le_refl _) _)).mono ?_
  rintro _ w2 ⟨rfl, hw⟩
  subst hw
  go_wp2_with fail
  go_ret
  exact ⟨rfl, (Below.refl _ _).alloc (Nat.le_refl _) _⟩
set_option maxHeartbeats 4000000 in
theorem none_wp (lsn ep pg off : Int) (a1 a2 : Option Addr) (n1 c1 n2 c2 : Nat) (b : Nat) (w : World) (hc : w.cell? ⟨b, 0, none⟩ = some (.int .i64 5)) (hb : b < w.heap.size) : Calls Try.prog 63 #[.agg (recR 1 lsn ep 0 pg off (.slice a1 n1 c1) (.slice a2 n2 c2)), .slice (some ⟨b, 0, none⟩) 1 1] w fun e w' => e = .returned (.bool true) ∧ Below w.heap.size w w' := by
  have CK := Lib.hid fun (y : World) (k : Below w.heap.size w y) => contains_any 1 [5] b 1 1 false y rfl (fun i hi => by
    have e : y.cell? ⟨b, i, none⟩ = w.cell? ⟨b, i, none⟩ := k.cell (p := ⟨b, i, none⟩) hb
    rw [e]
    rcases (by omega : i = 0) with rfl
    · exact hc
    ) (by omega) (by decide)
  have c0 : w.cell? ⟨b, 0, none⟩ = some (.int .i64 5) := hc
  clear hc
  unfold recR
  go_enter Try.func63, Try.ntmps63
  go_wp2_with fail
  refine (CK.out _ ((Below.refl _ _).alloc (Nat.le_refl _) _)).mono ?_
  rintro _ w2 ⟨rfl, hw⟩
  subst hw
  go_wp2_with fail
  go_ret
  exact ⟨rfl, (Below.refl _ _).alloc (Nat.le_refl _) _⟩
set_option maxHeartbeats 4000000 in
theorem none_dw (lsn ep txn : Int) (b : Nat) (w : World) (hc : w.cell? ⟨b, 0, none⟩ = some (.int .i64 1)) (hb : b < w.heap.size) : Calls Try.prog 63 #[.agg (recR 4 lsn ep txn 0 0 (.slice none 0 0) (.slice none 0 0)), .slice (some ⟨b, 0, none⟩) 1 1] w fun e w' => e = .returned (.bool true) ∧ Below w.heap.size w w' := by
  have CK := Lib.hid fun (y : World) (k : Below w.heap.size w y) => contains_any 4 [1] b 1 1 false y rfl (fun i hi => by
    have e : y.cell? ⟨b, i, none⟩ = w.cell? ⟨b, i, none⟩ := k.cell (p := ⟨b, i, none⟩) hb
    rw [e]
    rcases (by omega : i = 0) with rfl
    · exact hc
    ) (by omega) (by decide)
  have c0 : w.cell? ⟨b, 0, none⟩ = some (.int .i64 1) := hc
  clear hc
  unfold recR
  go_enter Try.func63, Try.ntmps63
  go_wp2_with fail
  refine (CK.out _ ((Below.refl _ _).alloc (Nat.le_refl _) _)).mono ?_
  rintro _ w2 ⟨rfl, hw⟩
  subst hw
  go_wp2_with fail
  go_ret
  exact ⟨rfl, (Below.refl _ _).alloc (Nat.le_refl _) _⟩
set_option maxHeartbeats 4000000 in
theorem none_de (lsn ep txn : Int) (b : Nat) (w : World) (hc : w.cell? ⟨b, 0, none⟩ = some (.int .i64 2)) (hb : b < w.heap.size) : Calls Try.prog 63 #[.agg (recR 4 lsn ep txn 0 0 (.slice none 0 0) (.slice none 0 0)), .slice (some ⟨b, 0, none⟩) 1 1] w fun e w' => e = .returned (.bool true) ∧ Below w.heap.size w w' := by
  have CK := Lib.hid fun (y : World) (k : Below w.heap.size w y) => contains_any 4 [2] b 1 1 false y rfl (fun i hi => by
    have e : y.cell? ⟨b, i, none⟩ = w.cell? ⟨b, i, none⟩ := k.cell (p := ⟨b, i, none⟩) hb
    rw [e]
    rcases (by omega : i = 0) with rfl
    · exact hc
    ) (by omega) (by decide)
  have c0 : w.cell? ⟨b, 0, none⟩ = some (.int .i64 2) := hc
  clear hc
  unfold recR
  go_enter Try.func63, Try.ntmps63
  go_wp2_with fail
  refine (CK.out _ ((Below.refl _ _).alloc (Nat.le_refl _) _)).mono ?_
  rintro _ w2 ⟨rfl, hw⟩
  subst hw
  go_wp2_with fail
  go_ret
  exact ⟨rfl, (Below.refl _ _).alloc (Nat.le_refl _) _⟩
set_option maxHeartbeats 4000000 in
theorem none_dx (lsn ep txn : Int) (b : Nat) (w : World) (hc : w.cell? ⟨b, 0, none⟩ = some (.int .i64 2) ∧ w.cell? ⟨b, 1, none⟩ = some (.int .i64 3) ∧ w.cell? ⟨b, 2, none⟩ = some (.int .i64 4)) (hb : b < w.heap.size) : Calls Try.prog 63 #[.agg (recR 4 lsn ep txn 0 0 (.slice none 0 0) (.slice none 0 0)), .slice (some ⟨b, 0, none⟩) 3 3] w fun e w' => e = .returned (.bool true) ∧ Below w.heap.size w w' := by
  have CK := Lib.hid fun (y : World) (k : Below w.heap.size w y) => contains_any 4 [2, 3, 4] b 3 3 true y rfl (fun i hi => by
    have e : y.cell? ⟨b, i, none⟩ = w.cell? ⟨b, i, none⟩ := k.cell (p := ⟨b, i, none⟩) hb
    rw [e]
    rcases (by omega : i = 0 ∨ i = 1 ∨ i = 2) with rfl | rfl | rfl
    · exact hc.1
    · exact hc.2.1
    · exact hc.2.2
    ) (by omega) (by decide)
  have c0 : w.cell? ⟨b, 0, none⟩ = some (.int .i64 2) := hc.1
  clear hc
  unfold recR
  go_enter Try.func63, Try.ntmps63
  go_wp2_with fail
  refine (CK.out _ ((Below.refl _ _).alloc (Nat.le_refl _) _)).mono ?_
  rintro _ w2 ⟨rfl, hw⟩
  subst hw
  go_wp2_with fail
  go_ret
  exact ⟨rfl, (Below.refl _ _).alloc (Nat.le_refl _) _⟩
set_option maxHeartbeats 4000000 in
theorem none_dc (lsn ep txn : Int) (b : Nat) (w : World) (hc : w.cell? ⟨b, 0, none⟩ = some (.int .i64 3)) (hb : b < w.heap.size) : Calls Try.prog 63 #[.agg (recR 4 lsn ep txn 0 0 (.slice none 0 0) (.slice none 0 0)), .slice (some ⟨b, 0, none⟩) 1 1] w fun e w' => e = .returned (.bool true) ∧ Below w.heap.size w w' := by
  have CK := Lib.hid fun (y : World) (k : Below w.heap.size w y) => contains_any 4 [3] b 1 1 false y rfl (fun i hi => by
    have e : y.cell? ⟨b, i, none⟩ = w.cell? ⟨b, i, none⟩ := k.cell (p := ⟨b, i, none⟩) hb
    rw [e]
    rcases (by omega : i = 0) with rfl
    · exact hc
    ) (by omega) (by decide)
  have c0 : w.cell? ⟨b, 0, none⟩ = some (.int .i64 3) := hc
  clear hc
  unfold recR
  go_enter Try.func63, Try.ntmps63
  go_wp2_with fail
  refine (CK.out _ ((Below.refl _ _).alloc (Nat.le_refl _) _)).mono ?_
  rintro _ w2 ⟨rfl, hw⟩
  subst hw
  go_wp2_with fail
  go_ret
  exact ⟨rfl, (Below.refl _ _).alloc (Nat.le_refl _) _⟩
set_option maxHeartbeats 4000000 in
theorem none_dp (lsn ep txn : Int) (b : Nat) (w : World) (hc : w.cell? ⟨b, 0, none⟩ = some (.int .i64 5)) (hb : b < w.heap.size) : Calls Try.prog 63 #[.agg (recR 4 lsn ep txn 0 0 (.slice none 0 0) (.slice none 0 0)), .slice (some ⟨b, 0, none⟩) 1 1] w fun e w' => e = .returned (.bool true) ∧ Below w.heap.size w w' := by
  have CK := Lib.hid fun (y : World) (k : Below w.heap.size w y) => contains_any 4 [5] b 1 1 false y rfl (fun i hi => by
    have e : y.cell? ⟨b, i, none⟩ = w.cell? ⟨b, i, none⟩ := k.cell (p := ⟨b, i, none⟩) hb
    rw [e]
    rcases (by omega : i = 0) with rfl
    · exact hc
    ) (by omega) (by decide)
  have c0 : w.cell? ⟨b, 0, none⟩ = some (.int .i64 5) := hc
  clear hc
  unfold recR
  go_enter Try.func63, Try.ntmps63
  go_wp2_with fail
  refine (CK.out _ ((Below.refl _ _).alloc (Nat.le_refl _) _)).mono ?_
  rintro _ w2 ⟨rfl, hw⟩
  subst hw
  go_wp2_with fail
  go_ret
  exact ⟨rfl, (Below.refl _ _).alloc (Nat.le_refl _) _⟩
end Go.Proofs.Ytekdogmhgijocaa
