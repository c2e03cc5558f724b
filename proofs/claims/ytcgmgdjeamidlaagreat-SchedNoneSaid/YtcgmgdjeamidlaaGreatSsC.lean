/- Equality of slices, of records, of requests (printed by gen_ssc.py). -/
import Derived.Test.YtcgmgdjeamidlaaGreatSsB
import Derived.Shelf.Bytes.SlSmallAll
namespace Go.Proofs.YtcgmgdjeamidlaaGreat
open Go.RowKit Go.ChangeShapes Go.WideShapes Go.ChangeAt
set_option linter.unusedVariables false
set_option linter.unusedSimpArgs false

set_option maxRecDepth 100000 in
set_option maxHeartbeats 4000000 in
theorem sleq32 {s t : Sl} {w : World} (hs : SlRd .i32 w s) (ht : SlRd .i32 w t) : Calls Tryz.prog 191 #[s.v, t.v] w fun e w' => e = .returned (.bool (decide (s.xs = t.xs))) ∧ Below w.heap.size w w' := by
  obtain ⟨n, hn⟩ : ∃ n, s.xs.length = n := ⟨_, rfl⟩
  obtain ⟨m, hm⟩ : ∃ m, t.xs.length = m := ⟨_, rfl⟩
  have HN := Lib.hid (And.intro hn hm)
  have HL : Hid (n ≤ 1000000) := Lib.hid (by rw [← hn]; exact hs.le)
  by_cases hnm : n = m
  · subst hnm
    have HS := Lib.hid (And.intro hs ht)
    obtain ⟨a1, e1⟩ : ∃ a, s.a = a := ⟨_, rfl⟩
    obtain ⟨a2, e2⟩ : ∃ a, t.a = a := ⟨_, rfl⟩
    have HA := Lib.hid (And.intro e1 e2)
    have nn : ((n : Int) != (n : Int)) = false := by simp
    have nn' : (n != n) = false := by simp
    unfold Sl.v
    rw [hn, hm, e1, e2]
    generalize s.c = c1
    generalize t.c = c2
    clear hs ht hn hm e1 e2
    go_enter Tryz.func191, Tryz.ntmps191
    go_wp2_with fail
    go_loopw [13] (fun u wr => ∃ j : Nat, u = .int .i64 (j : Int) ∧ Hid (j ≤ n) ∧ Hid (s.xs.take j = t.xs.take j) ∧ Hid (Below w.heap.size w wr)) (fun u _ => n - (intOf u).toNat)
    case atStart => exact ⟨0, rfl, Lib.hid (Nat.zero_le _), Lib.hid rfl, Lib.hid (Below.refl _ _)⟩
    case round =>
      obtain ⟨j, rfl, HJ, HT, HB⟩ := hrel
      rename World => w3
      have ej : IntKind.i64.wrap ((j : Int) + 1) = ((j + 1 : Nat) : Int) := IntWalk.i64_in _ (by have := HJ.out; have := HL.out; omega)
      by_cases hlt : j < n
      · have d1 : decide ((j : Int) < (n : Int)) = true := decide_eq_true (by omega)
        have d1' : decide (j < n) = true := decide_eq_true hlt
        have j3 : (j : Int) < (n : Int) := by omega
        have JL := Lib.hid hlt
        obtain ⟨x, hx⟩ : ∃ x, s.xs[j]? = some x := ⟨_, List.getElem?_eq_getElem (by have := HN.out.1; omega)⟩
        obtain ⟨y, hy⟩ : ∃ y, t.xs[j]? = some y := ⟨_, List.getElem?_eq_getElem (by have := HN.out.2; omega)⟩
        obtain ⟨b1, o1, ea1, hc1⟩ := ((HS.out.1).only ((Only.refl [] w).below HB.out) (by simp)).at_ hx
        obtain ⟨b2, o2, ea2, hc2⟩ := ((HS.out.2).only ((Only.refl [] w).below HB.out) (by simp)).at_ hy
        have c1' := hc1 j x hx
        have c2' := hc2 j y hy
        have EA : Hid (a1 = some ⟨b1, o1, none⟩ ∧ a2 = some ⟨b2, o2, none⟩) := Lib.hid ⟨by rw [← HA.out.1, ea1], by rw [← HA.out.2, ea2]⟩
        rw [EA.out.1, EA.out.2]
        have TS : Hid (s.xs.take (j + 1) = s.xs.take j ++ [x] ∧ t.xs.take (j + 1) = t.xs.take j ++ [y]) := Lib.hid (by
          have l1 : j < s.xs.length := by have := HN.out.1; omega
          have l2 : j < t.xs.length := by have := HN.out.2; omega
          rw [List.getElem?_eq_getElem l1, Option.some.injEq] at hx
          rw [List.getElem?_eq_getElem l2, Option.some.injEq] at hy
          exact ⟨by rw [List.take_succ_eq_append_getElem l1, hx], by rw [List.take_succ_eq_append_getElem l2, hy]⟩)
        have XY : Hid (s.xs[j]? = some x ∧ t.xs[j]? = some y) := Lib.hid ⟨hx, hy⟩
        clear hx hy hc1 hc2 ea1 ea2 hlt
        by_cases hxy : x = y
        · have nx : (x != y) = false := by simp [hxy]
          have E : Hid (s.xs.take (j + 1) = t.xs.take (j + 1)) := Lib.hid (by rw [TS.out.1, TS.out.2, HT.out, hxy])
          clear hxy
          go_wp2_with fail
          go_region
          go_wp2_with fail
          go_roundw
          case rel => exact ⟨j + 1, by go_num, Lib.hid (by have := JL.out; omega), E, Lib.hid (by first | exact HB.out.drew | exact HB.out)⟩
          case measure => have := JL.out; simp [intOf]; omega
        · have nx : (x != y) = true := by simp [hxy]
          have E : Hid (decide (s.xs = t.xs) = false) := Lib.hid (by
            refine decide_eq_false fun e => hxy ?_
            have h := XY.out
            rw [e, h.2] at h
            exact (Option.some.inj h.1).symm)
          clear hxy
          go_wp2_with fail
          go_region
          go_wp2_with fail
          go_ret
          exact ⟨by rw [E.out]; rfl, by first | exact HB.out.drew | exact HB.out⟩
      · have d1 : decide ((j : Int) < (n : Int)) = false := decide_eq_false (by omega)
        have d1' : decide (j < n) = false := decide_eq_false hlt
        have E : Hid (decide (s.xs = t.xs) = true) := Lib.hid (by
          have h := HT.out
          have hj : j = n := by have := HJ.out; omega
          rw [List.take_of_length_le (by have := HN.out.1; omega), List.take_of_length_le (by have := HN.out.2; omega)] at h
          exact decide_eq_true h)
        clear hlt
        go_wp2_with fail
        go_ret
        exact ⟨by rw [E.out]; rfl, HB.out⟩
  · have nn : ((n : Int) != (m : Int)) = true := by simp; omega
    have nn' : (n != m) = true := by simp [hnm]
    have E : Hid (decide (s.xs = t.xs) = false) := Lib.hid (decide_eq_false fun e => hnm (by rw [← hn, ← hm, e]))
    unfold Sl.v
    rw [hn, hm]
    clear hs ht hn hm hnm
    go_enter Tryz.func191, Tryz.ntmps191
    go_wp2_with fail
    go_ret
    exact ⟨by rw [E.out]; rfl, Below.refl _ _⟩

set_option maxRecDepth 100000 in
set_option maxHeartbeats 4000000 in
theorem sleq64 {s t : Sl} {w : World} (hs : SlRd .u64 w s) (ht : SlRd .u64 w t) : Calls Tryz.prog 198 #[s.v, t.v] w fun e w' => e = .returned (.bool (decide (s.xs = t.xs))) ∧ Below w.heap.size w w' := by
  obtain ⟨n, hn⟩ : ∃ n, s.xs.length = n := ⟨_, rfl⟩
  obtain ⟨m, hm⟩ : ∃ m, t.xs.length = m := ⟨_, rfl⟩
  have HN := Lib.hid (And.intro hn hm)
  have HL : Hid (n ≤ 1000000) := Lib.hid (by rw [← hn]; exact hs.le)
  by_cases hnm : n = m
  · subst hnm
    have HS := Lib.hid (And.intro hs ht)
    obtain ⟨a1, e1⟩ : ∃ a, s.a = a := ⟨_, rfl⟩
    obtain ⟨a2, e2⟩ : ∃ a, t.a = a := ⟨_, rfl⟩
    have HA := Lib.hid (And.intro e1 e2)
    have nn : ((n : Int) != (n : Int)) = false := by simp
    have nn' : (n != n) = false := by simp
    unfold Sl.v
    rw [hn, hm, e1, e2]
    generalize s.c = c1
    generalize t.c = c2
    clear hs ht hn hm e1 e2
    go_enter Tryz.func198, Tryz.ntmps198
    go_wp2_with fail
    go_loopw [13] (fun u wr => ∃ j : Nat, u = .int .i64 (j : Int) ∧ Hid (j ≤ n) ∧ Hid (s.xs.take j = t.xs.take j) ∧ Hid (Below w.heap.size w wr)) (fun u _ => n - (intOf u).toNat)
    case atStart => exact ⟨0, rfl, Lib.hid (Nat.zero_le _), Lib.hid rfl, Lib.hid (Below.refl _ _)⟩
    case round =>
      obtain ⟨j, rfl, HJ, HT, HB⟩ := hrel
      rename World => w3
      have ej : IntKind.i64.wrap ((j : Int) + 1) = ((j + 1 : Nat) : Int) := IntWalk.i64_in _ (by have := HJ.out; have := HL.out; omega)
      by_cases hlt : j < n
      · have d1 : decide ((j : Int) < (n : Int)) = true := decide_eq_true (by omega)
        have d1' : decide (j < n) = true := decide_eq_true hlt
        have j3 : (j : Int) < (n : Int) := by omega
        have JL := Lib.hid hlt
        obtain ⟨x, hx⟩ : ∃ x, s.xs[j]? = some x := ⟨_, List.getElem?_eq_getElem (by have := HN.out.1; omega)⟩
        obtain ⟨y, hy⟩ : ∃ y, t.xs[j]? = some y := ⟨_, List.getElem?_eq_getElem (by have := HN.out.2; omega)⟩
        obtain ⟨b1, o1, ea1, hc1⟩ := ((HS.out.1).only ((Only.refl [] w).below HB.out) (by simp)).at_ hx
        obtain ⟨b2, o2, ea2, hc2⟩ := ((HS.out.2).only ((Only.refl [] w).below HB.out) (by simp)).at_ hy
        have c1' := hc1 j x hx
        have c2' := hc2 j y hy
        have EA : Hid (a1 = some ⟨b1, o1, none⟩ ∧ a2 = some ⟨b2, o2, none⟩) := Lib.hid ⟨by rw [← HA.out.1, ea1], by rw [← HA.out.2, ea2]⟩
        rw [EA.out.1, EA.out.2]
        have TS : Hid (s.xs.take (j + 1) = s.xs.take j ++ [x] ∧ t.xs.take (j + 1) = t.xs.take j ++ [y]) := Lib.hid (by
          have l1 : j < s.xs.length := by have := HN.out.1; omega
          have l2 : j < t.xs.length := by have := HN.out.2; omega
          rw [List.getElem?_eq_getElem l1, Option.some.injEq] at hx
          rw [List.getElem?_eq_getElem l2, Option.some.injEq] at hy
          exact ⟨by rw [List.take_succ_eq_append_getElem l1, hx], by rw [List.take_succ_eq_append_getElem l2, hy]⟩)
        have XY : Hid (s.xs[j]? = some x ∧ t.xs[j]? = some y) := Lib.hid ⟨hx, hy⟩
        clear hx hy hc1 hc2 ea1 ea2 hlt
        by_cases hxy : x = y
        · have nx : (x != y) = false := by simp [hxy]
          have E : Hid (s.xs.take (j + 1) = t.xs.take (j + 1)) := Lib.hid (by rw [TS.out.1, TS.out.2, HT.out, hxy])
          clear hxy
          go_wp2_with fail
          go_region
          go_wp2_with fail
          go_roundw
          case rel => exact ⟨j + 1, by go_num, Lib.hid (by have := JL.out; omega), E, Lib.hid (by first | exact HB.out.drew | exact HB.out)⟩
          case measure => have := JL.out; simp [intOf]; omega
        · have nx : (x != y) = true := by simp [hxy]
          have E : Hid (decide (s.xs = t.xs) = false) := Lib.hid (by
            refine decide_eq_false fun e => hxy ?_
            have h := XY.out
            rw [e, h.2] at h
            exact (Option.some.inj h.1).symm)
          clear hxy
          go_wp2_with fail
          go_region
          go_wp2_with fail
          go_ret
          exact ⟨by rw [E.out]; rfl, by first | exact HB.out.drew | exact HB.out⟩
      · have d1 : decide ((j : Int) < (n : Int)) = false := decide_eq_false (by omega)
        have d1' : decide (j < n) = false := decide_eq_false hlt
        have E : Hid (decide (s.xs = t.xs) = true) := Lib.hid (by
          have h := HT.out
          have hj : j = n := by have := HJ.out; omega
          rw [List.take_of_length_le (by have := HN.out.1; omega), List.take_of_length_le (by have := HN.out.2; omega)] at h
          exact decide_eq_true h)
        clear hlt
        go_wp2_with fail
        go_ret
        exact ⟨by rw [E.out]; rfl, HB.out⟩
  · have nn : ((n : Int) != (m : Int)) = true := by simp; omega
    have nn' : (n != m) = true := by simp [hnm]
    have E : Hid (decide (s.xs = t.xs) = false) := Lib.hid (decide_eq_false fun e => hnm (by rw [← hn, ← hm, e]))
    unfold Sl.v
    rw [hn, hm]
    clear hs ht hn hm hnm
    go_enter Tryz.func198, Tryz.ntmps198
    go_wp2_with fail
    go_ret
    exact ⟨by rw [E.out]; rfl, Below.refl _ _⟩

theorem conv_ints {w : World} {v : Value} {xs : List Int} (h : Ints .u8 w v xs) : (convert 30 9 v).run Tryz.prog w = .ok (.string (strOfNums xs)) w := by
  rcases h with ⟨rfl, a, c, rfl⟩ | ⟨b, off, cap, rfl, hc⟩
  · exact run_convert_bytes_zero w 30 5 Tryz.underlying30 Tryz.underlying5 a c 9 Tryz.underlying9
  · exact run_convert_bytes_arg w 30 5 Tryz.underlying30 Tryz.underlying5 b off xs.length cap xs rfl (fun i hi => by rw [hc i hi, List.getD_eq_getElem?_getD]) 9 Tryz.underlying9
theorem strOf_inj {xs ys : List Int} (hx : IsBy xs) (hy : IsBy ys) (h : strOfNums xs = strOfNums ys) : xs = ys := by
  have h1 := congrArg (fun b => b.data.toList) h
  simp only [strOfNums_data] at h1
  have key : ∀ (l : List Int), IsBy l → (l.map fun n => UInt8.ofNat n.toNat).map (fun u => (u.toNat : Int)) = l := fun l hl => by
    rw [List.map_map]
    conv => rhs; rw [← List.map_id l]
    refine List.map_congr_left fun z hz => ?_
    have := hl z hz
    simp [UInt8.toNat_ofNat']
    omega
  rw [← key xs hx, ← key ys hy, h1]
set_option maxRecDepth 100000 in
theorem byeq {s t : Sl} {w : World} (hs : SlRd .u8 w s) (ht : SlRd .u8 w t) (h1 : IsBy s.xs) (h2 : IsBy t.xs) : Calls Tryz.prog 109 #[s.v, t.v] w fun e w' => e = .returned (.bool (decide (s.xs = t.xs))) ∧ Below w.heap.size w w' := by
  have g1 : ∀ y : World, Below w.heap.size w y → (convert 30 9 s.v).run Tryz.prog y = .ok (.string (strOfNums s.xs)) y := fun y hy => conv_ints (hs.only ((Only.refl [] w).below hy) (by simp)).ints
  have g2 : ∀ y : World, Below w.heap.size w y → (convert 30 9 t.v).run Tryz.prog y = .ok (.string (strOfNums t.xs)) y := fun y hy => conv_ints (ht.only ((Only.refl [] w).below hy) (by simp)).ints
  have g3 := g1 w (Below.refl _ _)
  have g4 := g2 w (Below.refl _ _)
  unfold Sl.v at g3 g4 ⊢
  by_cases he : s.xs = t.xs
  · have E : Hid (decide (s.xs = t.xs) = true) := Lib.hid (decide_eq_true he)
    rw [he] at g3
    rw [E.out]
    clear g1 g2 hs ht h1 h2
    rw [he]
    clear he
    generalize strOfNums t.xs = z at *
    generalize t.xs.length = n at *
    go_enter Tryz.func109, Tryz.ntmps109
    go_wp2_with fail
    go_ret
    exact ⟨rfl, Below.refl _ _⟩
  · have E : Hid (decide (s.xs = t.xs) = false) := Lib.hid (decide_eq_false he)
    have hne : strOfNums s.xs ≠ strOfNums t.xs := fun h => he (strOf_inj h1 h2 h)
    have z2 : ((strOfNums s.xs).toList == (strOfNums t.xs).toList) = false := by
      rw [ByteArray.toList_eq, ByteArray.toList_eq]
      refine beq_eq_false_iff_ne.2 fun h => hne ?_
      exact congrArg (fun l => ByteArray.mk (List.toArray l)) h
    rw [E.out]
    clear g1 g2 hs ht h1 h2 he E
    generalize strOfNums s.xs = a at *
    generalize strOfNums t.xs = b at *
    go_enter Tryz.func109, Tryz.ntmps109
    go_wp2_with fail
    go_ret
    exact ⟨rfl, Below.refl _ _⟩
/-- A record, by what it says. -/
structure Rc3 where
  key : Int
  vec : Sl
  tag : Sl
def Rc3.v (x : Rc3) : Value := .agg #[.int .u64 x.key, x.vec.v, x.tag.v]
def Rc3.c (x : Rc3) : Int × List Int × List Int := (x.key, x.vec.xs, x.tag.xs)
structure Rc3.At (w : World) (x : Rc3) : Prop where
  vec : SlRd .i32 w x.vec
  tag : SlRd .u8 w x.tag
  by_ : IsBy x.tag.xs
theorem Rc3.At.below {w w' : World} {x : Rc3} (h : x.At w) (k : Below w.heap.size w w') : x.At w' := ⟨h.vec.only ((Only.refl [] w).below k) (by simp), h.tag.only ((Only.refl [] w).below k) (by simp), h.by_⟩
set_option maxRecDepth 100000 in
set_option maxHeartbeats 4000000 in
theorem itsame {x y : Rc3} {w : World} (hx : x.At w) (hy : y.At w) : Calls Tryz.prog 177 #[x.v, y.v] w fun e w' => e = .returned (.bool (decide (x.c = y.c))) ∧ Below w.heap.size w w' := by
  have SV := Lib.hid fun (z : World) (hz : Below w.heap.size w z) => sleq32 (hx.below hz).vec (hy.below hz).vec
  have SB := Lib.hid fun (z : World) (hz : Below w.heap.size w z) => byeq (hx.below hz).tag (hy.below hz).tag hx.by_ hy.by_
  have EC : Hid (decide (x.c = y.c) = (decide (x.key = y.key) && (decide (x.vec.xs = y.vec.xs) && decide (x.tag.xs = y.tag.xs)))) := Lib.hid (by
    unfold Rc3.c
    by_cases h1 : x.key = y.key <;> by_cases h2 : x.vec.xs = y.vec.xs <;> by_cases h3 : x.tag.xs = y.tag.xs <;> simp [h1, h2, h3])
  have B0 : ∀ a b, Below w.heap.size w ((w.alloc a).alloc b) := fun a b => ((Below.refl _ w).alloc (Nat.le_refl _) _).alloc (by simp) _
  have BB := Lib.hid B0
  clear hx hy B0
  rw [EC.out]
  by_cases h1 : x.key = y.key
  · have k1 : (x.key == y.key) = true := by simp [h1]
    have k2 : Hid (decide (x.key = y.key) = true) := Lib.hid (decide_eq_true h1)
    rw [k2.out]
    clear h1 EC
    generalize decide (x.vec.xs = y.vec.xs) = b1 at *
    generalize decide (x.tag.xs = y.tag.xs) = b2 at *
    unfold Rc3.v Sl.v
    unfold Sl.v at SV SB
    go_enter Tryz.func177, Tryz.ntmps177
    go_wp2_with fail
    have RA : Hid (Row ((w.alloc (.cells #[.int .u64 x.key, .slice x.vec.a x.vec.xs.length x.vec.c, .slice x.tag.a x.tag.xs.length x.tag.c] tIt)).alloc (.cells #[.int .u64 y.key, .slice y.vec.a y.vec.xs.length y.vec.c, .slice y.tag.a y.tag.xs.length y.tag.c] tIt)) w.heap.size #[.int .u64 x.key, .slice x.vec.a x.vec.xs.length x.vec.c, .slice x.tag.a x.tag.xs.length x.tag.c] tIt) := Lib.hid ((Row.made w _ _).only ((Only.refl [] _).alloc _) (by simp))
    have RB : Hid (Row ((w.alloc (.cells #[.int .u64 x.key, .slice x.vec.a x.vec.xs.length x.vec.c, .slice x.tag.a x.tag.xs.length x.tag.c] tIt)).alloc (.cells #[.int .u64 y.key, .slice y.vec.a y.vec.xs.length y.vec.c, .slice y.tag.a y.tag.xs.length y.tag.c] tIt)) (w.heap.size + 1) #[.int .u64 y.key, .slice y.vec.a y.vec.xs.length y.vec.c, .slice y.tag.a y.tag.xs.length y.tag.c] tIt) := Lib.hid (by
      have h := Row.made (w.alloc (.cells #[.int .u64 x.key, .slice x.vec.a x.vec.xs.length x.vec.c, .slice x.tag.a x.tag.xs.length x.tag.c] tIt)) #[.int .u64 y.key, .slice y.vec.a y.vec.xs.length y.vec.c, .slice y.tag.a y.tag.xs.length y.tag.c] tIt
      rwa [World.size_alloc] at h)
    have BW := Lib.hid (BB.out (.cells #[.int .u64 x.key, .slice x.vec.a x.vec.xs.length x.vec.c, .slice x.tag.a x.tag.xs.length x.tag.c] tIt) (.cells #[.int .u64 y.key, .slice y.vec.a y.vec.xs.length y.vec.c, .slice y.tag.a y.tag.xs.length y.tag.c] tIt))
    refine (SV.out _ BW.out).mono ?_
    generalize (w.alloc (.cells #[.int .u64 x.key, .slice x.vec.a x.vec.xs.length x.vec.c, .slice x.tag.a x.tag.xs.length x.tag.c] tIt)).alloc (.cells #[.int .u64 y.key, .slice y.vec.a y.vec.xs.length y.vec.c, .slice y.tag.a y.tag.xs.length y.tag.c] tIt) = w1 at *
    rintro _ w2 ⟨rfl, hb2⟩
    have B2 : Hid (Below w.heap.size w w2) := Lib.hid (BW.out.trans (hb2.mono BW.out.size))
    have l2 : w2.cell? ⟨w.heap.size, 2, none⟩ = some (.slice x.tag.a x.tag.xs.length x.tag.c) := (RA.out.only ((Only.refl [] w1).below hb2) (by simp)).cell 2
    have r2 : w2.cell? ⟨w.heap.size + 1, 2, none⟩ = some (.slice y.tag.a y.tag.xs.length y.tag.c) := (RB.out.only ((Only.refl [] w1).below hb2) (by simp)).cell 2
    clear hb2 SV BB RA RB BW
    cases b1 with
    | false =>
      clear SB
      go_wp2_with fail
      go_ret
      exact ⟨rfl, B2.out⟩
    | true =>
      go_wp2_with fail
      refine (SB.out w2 B2.out).mono ?_
      rintro _ w3 ⟨rfl, hb3⟩
      have B3 : Hid (Below w.heap.size w w3) := Lib.hid (B2.out.trans (hb3.mono B2.out.size))
      clear hb3 SB
      cases b2 <;> (go_wp2_with fail; go_ret; exact ⟨rfl, B3.out⟩)
  · have k1 : (x.key == y.key) = false := by simp [h1]
    have k2 : Hid (decide (x.key = y.key) = false) := Lib.hid (decide_eq_false h1)
    rw [k2.out]
    clear h1 EC SV SB
    unfold Rc3.v Sl.v
    go_enter Tryz.func177, Tryz.ntmps177
    go_wp2_with fail
    go_ret
    exact ⟨rfl, BB.out _ _⟩
end Go.Proofs.YtcgmgdjeamidlaaGreat
