/- Plain, the document's side: item.Same and Same of equal contents. -/
import Derived.Test.YtmbmkfhdiljalaaGreatMg32
import Derived.Shelf.Bytes.SlSmallAll
import Derived.Deep.RegionHeld3
namespace Go.Proofs.YtmbmkfhdiljalaaGreat
open Go.RowKit Go.ChangeShapes Go.WideShapes Go.ChangeAt
set_option linter.unusedVariables false
set_option linter.unusedSimpArgs false

theorem conv_ints {w : World} {v : Value} {xs : List Int} (h : Ints .u8 w v xs) : (convert 32 9 v).run Tryz.prog w = .ok (.string (strOfNums xs)) w := by
  rcases h with ⟨rfl, a, c, rfl⟩ | ⟨b, off, cap, rfl, hc⟩
  · exact run_convert_bytes_zero w 32 5 Tryz.underlying32 Tryz.underlying5 a c 9 Tryz.underlying9
  · exact run_convert_bytes_arg w 32 5 Tryz.underlying32 Tryz.underlying5 b off xs.length cap xs rfl (fun i hi => by rw [hc i hi, List.getD_eq_getElem?_getD]) 9 Tryz.underlying9
/-- An element of a slice. -/
theorem SlAt.at_ {q : IntKind} {w : World} {s : Sl} (h : SlAt q w s) {j : Nat} {z : Int} (hz : s.xs[j]? = some z) : ∃ b o, s.a = some ⟨b, o, none⟩ ∧ w.cell? ⟨b, o + j, none⟩ = some (.int q z) := by
  have hj := (List.getElem?_eq_some_iff.1 hz).1
  rcases h.ints with ⟨h1, _⟩ | ⟨b, off, cap, e, hc⟩
  · rw [h1] at hj; simp at hj
  · unfold Sl.v at e
    simp only [Value.slice.injEq] at e
    exact ⟨b, off, e.1, by rw [hc j hj, hz]; rfl⟩
set_option maxRecDepth 100000 in
set_option maxHeartbeats 4000000 in
theorem isame_on {w : World} {x y : It} (hx : SlAt .i32 w x.vec ∧ SlAt .u8 w x.tag) (hy : SlAt .i32 w y.vec ∧ SlAt .u8 w y.tag) (hc : x.c = y.c) :
    Calls Tryz.prog 30 #[.agg #[.int .u64 x.key, x.vec.v, x.tag.v], .agg #[.int .u64 y.key, y.vec.v, y.tag.v]] w fun e w' => e = .returned (.bool true) ∧ Below w.heap.size w w' := by
  have e1 : y.key = x.key := by have := congrArg Prod.fst hc; exact this.symm
  have e2 : y.vec.xs = x.vec.xs := by have := congrArg (fun z => z.2.1) hc; exact this.symm
  have e3 : y.tag.xs = x.tag.xs := by have := congrArg (fun z => z.2.2) hc; exact this.symm
  rw [e1]
  have LE : Hid (x.vec.xs.length ≤ 1000000) := Lib.hid hx.1.le
  have O : ∀ a b, Only [] w ((w.alloc a).alloc b) := fun a b => ((Only.refl [] w).alloc a).alloc b
  have CX : Hid (∀ y', Below w.heap.size w y' → (convert 32 9 x.tag.v).run Tryz.prog y' = .ok (.string (strOfNums x.tag.xs)) y') := Lib.hid fun y' hb => conv_ints (hx.2.only ((Only.refl [] w).below hb) (by simp)).ints
  have CY : Hid (∀ y', Below w.heap.size w y' → (convert 32 9 y.tag.v).run Tryz.prog y' = .ok (.string (strOfNums x.tag.xs)) y') := Lib.hid fun y' hb => by
    have := conv_ints (hy.2.only ((Only.refl [] w).below hb) (by simp)).ints
    rw [e3] at this
    exact this
  have VX : Hid (∀ y', Below w.heap.size w y' → SlAt .i32 y' x.vec) := Lib.hid fun y' hb => hx.1.only ((Only.refl [] w).below hb) (by simp)
  have VY : Hid (∀ y', Below w.heap.size w y' → ∀ (j : Nat) (z : Int), x.vec.xs[j]? = some z → ∃ b o, y.vec.a = some ⟨b, o, none⟩ ∧ y'.cell? ⟨b, o + j, none⟩ = some (.int .i32 z)) := Lib.hid fun y' hb j z hz => (hy.1.only ((Only.refl [] w).below hb) (by simp)).at_ (by rw [e2]; exact hz)
  unfold Sl.v at CX CY ⊢
  rw [e2, e3] at *
  obtain ⟨n, hn⟩ : ∃ n, x.vec.xs.length = n := ⟨_, rfl⟩
  have HN := Lib.hid hn
  rw [hn] at LE ⊢
  obtain ⟨a1, ha1⟩ : ∃ a, x.vec.a = a := ⟨_, rfl⟩
  obtain ⟨a2, ha2⟩ : ∃ a, y.vec.a = a := ⟨_, rfl⟩
  have HA1 := Lib.hid ha1
  have HA2 := Lib.hid ha2
  rw [ha1, ha2]
  generalize x.vec.c = c1
  generalize y.vec.c = c2
  generalize x.key = key
  generalize x.tag.a = a3 at *
  generalize y.tag.a = a4 at *
  generalize x.tag.c = c3 at *
  generalize y.tag.c = c4 at *
  generalize x.tag.xs = ts at *
  clear hx hy hc e1 e2 e3 O hn ha1 ha2
  obtain ⟨k, hk⟩ : ∃ k, ts.length = k := ⟨_, rfl⟩
  rw [hk] at CX CY ⊢
  clear hk
  generalize strOfNums ts = S at *
  go_enter Tryz.func30, Tryz.ntmps30
  go_upto_region 1 with fail
  have B2 : Hid (Below w.heap.size w ((w.alloc (.cells #[.int .u64 key, .slice a1 n c1, .slice a3 k c3] tIt)).alloc (.cells #[.int .u64 key, .slice a2 n c2, .slice a4 k c4] tIt))) := Lib.hid (((Below.refl _ _).alloc (Nat.le_refl _) _).alloc (by simp) _)
  have R1 : Hid (Row ((w.alloc (.cells #[.int .u64 key, .slice a1 n c1, .slice a3 k c3] tIt)).alloc (.cells #[.int .u64 key, .slice a2 n c2, .slice a4 k c4] tIt)) w.heap.size #[.int .u64 key, .slice a1 n c1, .slice a3 k c3] tIt) := Lib.hid ((Row.made w _ _).only ((Only.refl [] _).alloc _) (by simp))
  have R2 : Hid (Row ((w.alloc (.cells #[.int .u64 key, .slice a1 n c1, .slice a3 k c3] tIt)).alloc (.cells #[.int .u64 key, .slice a2 n c2, .slice a4 k c4] tIt)) (w.heap.size + 1) #[.int .u64 key, .slice a2 n c2, .slice a4 k c4] tIt) := Lib.hid (by
    have h := Row.made (w.alloc (.cells #[.int .u64 key, .slice a1 n c1, .slice a3 k c3] tIt)) #[.int .u64 key, .slice a2 n c2, .slice a4 k c4] tIt
    rw [World.size_alloc] at h
    exact h)
  generalize (w.alloc (.cells #[.int .u64 key, .slice a1 n c1, .slice a3 k c3] tIt)).alloc (.cells #[.int .u64 key, .slice a2 n c2, .slice a4 k c4] tIt) = w1 at *
  have r0 : w1.cell? ⟨w.heap.size, 0, none⟩ = some (.int .u64 key) := R1.out.cell 0
  have r1 : w1.cell? ⟨w.heap.size, 1, none⟩ = some (.slice a1 n c1) := R1.out.cell 1
  have r2 : w1.cell? ⟨w.heap.size, 2, none⟩ = some (.slice a3 k c3) := R1.out.cell 2
  have t0 : w1.cell? ⟨w.heap.size + 1, 0, none⟩ = some (.int .u64 key) := R2.out.cell 0
  have t1 : w1.cell? ⟨w.heap.size + 1, 1, none⟩ = some (.slice a2 n c2) := R2.out.cell 1
  have t2 : w1.cell? ⟨w.heap.size + 1, 2, none⟩ = some (.slice a4 k c4) := R2.out.cell 2
  have k1 := CX.out w1 B2.out
  have k2 := CY.out w1 B2.out
  go_wp2_with fail
  clear k1 k2 r0 r2 t0 t2
  go_loopw [5] (fun u wr => ∃ j : Nat, u = .int .i64 (j : Int) ∧ Hid (j ≤ n) ∧ Hid (Only [] w1 wr)) (fun u _ => n - (intOf u).toNat)
  case atStart => exact ⟨0, rfl, Lib.hid (Nat.zero_le _), Lib.hid (Only.refl _ _)⟩
  case round =>
    obtain ⟨j, rfl, HK, HO⟩ := hrel
    rename World => w3
    have B3 : Hid (Below w.heap.size w w3) := Lib.hid (B2.out.trans (HO.out.toBelow B2.out.size (by simp)))
    have r1 : w3.cell? ⟨w.heap.size, 1, none⟩ = some (.slice a1 n c1) := (R1.out.only HO.out (by simp)).cell 1
    have t1 : w3.cell? ⟨w.heap.size + 1, 1, none⟩ = some (.slice a2 n c2) := (R2.out.only HO.out (by simp)).cell 1
    by_cases hlt : j < n
    · have d1 : decide ((j : Int) < (n : Int)) = true := decide_eq_true (by omega)
      have d1' : decide (j < n) = true := decide_eq_true hlt
      have e1 : IntKind.i64.wrap ((j : Int) + 1) = ((j + 1 : Nat) : Int) := w_inc _ (by have := LE.out; omega)
      obtain ⟨z, hz⟩ : ∃ z, x.vec.xs[j]? = some z := ⟨_, List.getElem?_eq_getElem (by rw [HN.out]; exact hlt)⟩
      obtain ⟨b, o, ea, hc⟩ := (VX.out w3 B3.out).at_ hz
      obtain ⟨b', o', ea', hc'⟩ := VY.out w3 B3.out j z hz
      rw [HA1.out] at ea
      rw [HA2.out] at ea'
      subst ea ea'
      have JM := Lib.hid hlt
      clear hz
      go_upto_region 4 with fail
      go_wp2_with fail
      go_upto_region 6 with fail
      go_quiet (fail)
      go_wp2_with fail
      go_roundw
      case rel => exact ⟨j + 1, by go_num, Lib.hid (by have := JM.out; omega), Lib.hid (HO.out.drewN _)⟩
      case measure => have := JM.out; simp [intOf]; omega
    · have d1 : decide ((j : Int) < (n : Int)) = false := decide_eq_false (by omega)
      have d1' : decide (j < n) = false := decide_eq_false hlt
      clear hlt
      go_wp2_with fail
      go_ret
      exact ⟨rfl, B3.out⟩
end Go.Proofs.YtmbmkfhdiljalaaGreat

/- Plain, the document's side: Same of two lists of equal contents. -/
namespace Go.Proofs.YtmbmkfhdiljalaaGreat
open Go.RowKit Go.ChangeShapes Go.WideShapes Go.ChangeAt
set_option linter.unusedVariables false
set_option linter.unusedSimpArgs false

theorem RdAt.below {w w' : World} {B : Nat} {a : Option Addr} {its : List It} (h : RdAt w B a its) (k : Below w.heap.size w w') : RdAt w' B a its := by
  refine ⟨?_, fun x hx => ⟨(h.each x hx).1.only ((Only.refl [] w).below k) (by simp), (h.each x hx).2.only ((Only.refl [] w).below k) (by simp)⟩, h.ge⟩
  rcases h.row with h1 | ⟨g, h1, h2, h3, h4, h5⟩
  · exact .inl h1
  · exact .inr ⟨g, h1, Nat.lt_of_lt_of_le h2 k.size, h3, fun j x hx i hi => by rw [k.cell (p := ⟨g, j * 3 + i, none⟩) h2]; exact h4 j x hx i hi, h5⟩
set_option maxRecDepth 100000 in
set_option maxHeartbeats 4000000 in
theorem lsame_on {w : World} {B n c : Nat} {a : Option Addr} {its : List It} {I : Its} (h : RdAt w B a its) (hn : its.length = n) (hI : RsAt w I) (hc : its.map It.c = I.cs) (hl : n ≤ 1000000) :
    Calls Tryz.prog 18 #[.slice a n c, I.v] w fun e w' => e = .returned (.bool true) ∧ Below w.heap.size w w' := by
  have hm : I.l.length = n := by
    have := congrArg List.length hc
    simp [Its.cs] at this
    omega
  have HD := Lib.hid h
  have HI := Lib.hid hI
  have HC := Lib.hid hc
  have HN := Lib.hid hn
  have HM := Lib.hid hm
  have HL := Lib.hid hl
  obtain ⟨a2, ha⟩ : ∃ a2, I.a = a2 := ⟨_, rfl⟩
  have HA := Lib.hid ha
  unfold Its.v
  rw [hm, ha]
  generalize I.c = c2
  clear h hn hI hc hm hl ha
  go_enter Tryz.func18, Tryz.ntmps18
  go_wp2_with fail
  go_loopw [5] (fun u wr => ∃ j : Nat, u = .int .i64 (j : Int) ∧ Hid (j ≤ n) ∧ Hid (Below w.heap.size w wr)) (fun u _ => n - (intOf u).toNat)
  case atStart => exact ⟨0, rfl, Lib.hid (Nat.zero_le _), Lib.hid (Below.refl _ _)⟩
  case round =>
    obtain ⟨j, rfl, HK, HB⟩ := hrel
    rename World => w3
    by_cases hlt : j < n
    · have d1 : decide ((j : Int) < (n : Int)) = true := decide_eq_true (by omega)
      have d1' : decide (j < n) = true := decide_eq_true hlt
      have e1 : IntKind.i64.wrap ((j : Int) + 1) = ((j + 1 : Nat) : Int) := w_inc _ (by have := HL.out; omega)
      obtain ⟨x, hx⟩ : ∃ x, its[j]? = some x := ⟨_, List.getElem?_eq_getElem (by rw [HN.out]; exact hlt)⟩
      obtain ⟨y, hy⟩ : ∃ y, I.l[j]? = some y := ⟨_, List.getElem?_eq_getElem (by rw [HM.out]; exact hlt)⟩
      have hxy : x.c = y.c := by
        have h1 : (its.map It.c)[j]? = some x.c := by simp [hx]
        rw [HC.out, cs_get hy] at h1
        exact (Option.some.inj h1).symm
      have HD3 := HD.out.below HB.out
      have HI3 := HI.out.below HB.out
      obtain ⟨g1, eg1, _, _, hc1, _⟩ := HD3.row.resolve_left (fun e => by rw [e] at hx; simp at hx)
      obtain ⟨g2, eg2, hc2⟩ := HI3.cell hy
      rw [HA.out] at eg2
      subst eg1 eg2
      have SM : Hid (∀ y', Below w3.heap.size w3 y' → Calls Tryz.prog 30 #[.agg #[.int .u64 x.key, x.vec.v, x.tag.v], .agg #[.int .u64 y.key, y.vec.v, y.tag.v]] y' fun e w' => e = .returned (.bool true) ∧ Below y'.heap.size y' w') := Lib.hid fun y' hb =>
        isame_on (by have := (HD3.below hb).each x (List.mem_of_getElem? hx); exact this) (by have := (HI3.below hb).each y (List.mem_of_getElem? hy); exact this) hxy
      have SO : Hid (∀ y', Below w3.heap.size w3 y' → (y'.cell? ⟨g1, j * 3, none⟩ = some (.int .u64 x.key) ∧ y'.cell? ⟨g1, j * 3 + 1, none⟩ = some x.vec.v ∧ y'.cell? ⟨g1, j * 3 + 2, none⟩ = some x.tag.v) ∧ (y'.cell? ⟨g2, j * 3, none⟩ = some (.int .u64 y.key) ∧ y'.cell? ⟨g2, j * 3 + 1, none⟩ = some y.vec.v ∧ y'.cell? ⟨g2, j * 3 + 2, none⟩ = some y.tag.v)) := Lib.hid fun y' hb => by
        have HDb := HD3.below hb
        have HIb := HI3.below hb
        obtain ⟨q1, eq1, _, _, hq1, _⟩ := HDb.row.resolve_left (fun e => by rw [e] at hx; simp at hx)
        obtain ⟨q2, eq2, hq2⟩ := HIb.cell hy
        rw [HA.out] at eq2
        cases eq1
        cases eq2
        exact ⟨⟨hq1 j x hx 0 (by omega), hq1 j x hx 1 (by omega), hq1 j x hx 2 (by omega)⟩, ⟨hq2 0 (by omega), hq2 1 (by omega), hq2 2 (by omega)⟩⟩
      have JM := Lib.hid hlt
      clear hx hy hxy hc1 hc2 HD3 HI3
      unfold Sl.v at SM SO
      generalize x.key = kx at *
      generalize y.key = ky at *
      generalize x.vec.a = xa1 at *
      generalize x.vec.xs.length = xn1 at *
      generalize x.vec.c = xc1 at *
      generalize x.tag.a = xa2 at *
      generalize x.tag.xs.length = xn2 at *
      generalize x.tag.c = xc2 at *
      generalize y.vec.a = ya1 at *
      generalize y.vec.xs.length = yn1 at *
      generalize y.vec.c = yc1 at *
      generalize y.tag.a = ya2 at *
      generalize y.tag.xs.length = yn2 at *
      generalize y.tag.c = yc2 at *
      go_upto_region 4 with fail
      go_wp2_with fail
      go_upto_region 6 with fail
      have B0 : Below w3.heap.size w3 w3.drew := ((Only.refl [] w3).drew.toBelow (Nat.le_refl _) (by simp))
      go_region_held3 (fun y' => y'.cell? ⟨g1, j * 3, none⟩ = some (.int .u64 kx) ∧ y'.cell? ⟨g1, j * 3 + 1, none⟩ = some (.slice xa1 xn1 xc1) ∧ y'.cell? ⟨g1, j * 3 + 2, none⟩ = some (.slice xa2 xn2 xc2) ∧ y'.cell? ⟨g2, j * 3, none⟩ = some (.int .u64 ky) ∧ y'.cell? ⟨g2, j * 3 + 1, none⟩ = some (.slice ya1 yn1 yc1) ∧ y'.cell? ⟨g2, j * 3 + 2, none⟩ = some (.slice ya2 yn2 yc2))
        (first
          | exact ⟨(SO.out _ X9.out).1.1, (SO.out _ X9.out).1.2.1, (SO.out _ X9.out).1.2.2, (SO.out _ X9.out).2.1, (SO.out _ X9.out).2.2.1, (SO.out _ X9.out).2.2.2⟩
          | exact ⟨(SO.out _ B0).1.1, (SO.out _ B0).1.2.1, (SO.out _ B0).1.2.2, (SO.out _ B0).2.1, (SO.out _ B0).2.2.1, (SO.out _ B0).2.2.2⟩)
        (first | ((with_reducible refine (SM.out w3.drew B0).mono ?_); rintro _ w9 ⟨rfl, hb⟩; have X9 : Hid (Below w3.heap.size w3 w9) := Lib.hid (B0.trans (hb.mono (by simp))); clear hb))
      all_goals
        go_wp2_with fail
        go_roundw
        case rel => exact ⟨j + 1, by go_num, Lib.hid (by have := JM.out; omega), Lib.hid (HB.out.trans (X9.out.mono HB.out.size))⟩
        case measure => have := JM.out; simp [intOf]; omega
    · have d1 : decide ((j : Int) < (n : Int)) = false := decide_eq_false (by omega)
      have d1' : decide (j < n) = false := decide_eq_false hlt
      clear hlt
      go_wp2_with fail
      go_ret
      exact ⟨rfl, HB.out⟩
end Go.Proofs.YtmbmkfhdiljalaaGreat

/- Plain, the document's side: has, MayCommit, New. -/
namespace Go.Proofs.YtmbmkfhdiljalaaGreat
open Go.RowKit Go.ChangeShapes Go.WideShapes Go.ChangeAt
set_option linter.unusedVariables false
set_option linter.unusedSimpArgs false

set_option maxHeartbeats 2000000 in
theorem has_on {w : World} {s : Sl} {k : Int} (h : SlAt .u64 w s) : Calls Tryz.prog 80 #[s.v, .int .u64 k] w fun e w' => e = .returned (.bool (decide (k ∈ s.xs))) ∧ w' = w := by
  have H := Lib.hid h
  obtain ⟨n, hn⟩ : ∃ n, s.xs.length = n := ⟨_, rfl⟩
  have HN := Lib.hid hn
  have LE : Hid (n ≤ 1000000) := Lib.hid (by have := h.le; omega)
  obtain ⟨a, ha⟩ : ∃ a, s.a = a := ⟨_, rfl⟩
  have HA := Lib.hid ha
  unfold Sl.v
  rw [hn, ha]
  generalize s.c = c
  clear h hn ha
  go_enter Tryz.func80, Tryz.ntmps80
  go_wp2_with fail
  go_loopw [5] (fun u wr => ∃ j : Nat, u = .int .i64 (j : Int) ∧ Hid (j ≤ n) ∧ Hid (wr = w) ∧ Hid (∀ (i : Nat) (z : Int), i < j → s.xs[i]? = some z → z ≠ k)) (fun u _ => n - (intOf u).toNat)
  case atStart => exact ⟨0, rfl, Lib.hid (Nat.zero_le _), Lib.hid rfl, Lib.hid (fun i x hi => by omega)⟩
  case round =>
    obtain ⟨j, rfl, HK, hw, HF⟩ := hrel
    have hw2 := hw.out
    clear hw
    rename World => w3
    subst w3
    by_cases hlt : j < n
    · have d1 : decide ((j : Int) < (n : Int)) = true := decide_eq_true (by omega)
      have d1' : decide (j < n) = true := decide_eq_true hlt
      have e1 : IntKind.i64.wrap ((j : Int) + 1) = ((j + 1 : Nat) : Int) := w_inc _ (by have := LE.out; omega)
      obtain ⟨z, hz⟩ : ∃ z, s.xs[j]? = some z := ⟨_, List.getElem?_eq_getElem (by rw [HN.out]; exact hlt)⟩
      obtain ⟨b, o, ea, hc⟩ := H.out.at_ hz
      rw [HA.out] at ea
      subst ea
      have HZ := Lib.hid hz
      have JM := Lib.hid hlt
      clear hz
      by_cases hk : z = k
      · have HE : Hid (decide (k ∈ s.xs) = true) := Lib.hid (decide_eq_true (by rw [← hk]; exact List.mem_of_getElem? HZ.out))
        subst hk
        go_wp2_with fail
        go_ret
        exact ⟨by rw [HE.out]; rfl, rfl⟩
      · have f1 : (z == k) = false := by simpa using hk
        have f2 : decide (z = k) = false := decide_eq_false hk
        have NE := Lib.hid hk
        clear hk
        go_wp2_with fail
        go_roundw
        case rel => exact ⟨j + 1, by go_num, Lib.hid (by have := JM.out; omega), Lib.hid (by first | rfl | trivial), Lib.hid (fun i y hi hy => by
          by_cases e : i < j
          · exact HF.out i y e hy
          · obtain rfl : i = j := by omega
            rw [HZ.out] at hy
            cases hy
            exact NE.out)⟩
        case measure => have := JM.out; simp [intOf]; omega
    · have d1 : decide ((j : Int) < (n : Int)) = false := decide_eq_false (by omega)
      have d1' : decide (j < n) = false := decide_eq_false hlt
      have HE : Hid (decide (k ∈ s.xs) = false) := Lib.hid (decide_eq_false fun hm => by
        obtain ⟨i, hi⟩ := List.mem_iff_getElem?.1 hm
        exact HF.out i k (by have := (List.getElem?_eq_some_iff.1 hi).1; rw [HN.out] at this; omega) hi rfl)
      clear hlt
      go_wp2_with fail
      go_ret
      exact ⟨by rw [HE.out]; rfl, rfl⟩
/-- An empty one. -/
def newR (dim : Int) : RDB := ⟨dim, 0, Its.no, none, 0, []⟩
def NewRTo (dim : Int) (w : World) (e : Ending) (w' : World) : Prop := ∃ p s, e = .returned (.pointer (some ⟨p, 0, none⟩)) ∧ RdbAt w' w.heap.size p s (newR dim) ∧ Below w.heap.size w w'
theorem new_ref {dim : Int} (h1 : 1 ≤ dim) (h2 : dim ≤ 4096) (w : World) : Calls Tryz.prog 6 #[.int .i64 dim] w (NewRTo dim w) := by
  have D := Lib.hid (And.intro h1 h2)
  clear h1 h2
  go_enter Tryz.func6, Tryz.ntmps6
  go_wp2_with fail
  go_ret
  refine ⟨w.heap.size + 1, w.heap.size, rfl, ⟨?_, ?_, World.ownsRow_nil _ _ _ _, by simp [newR], RsAt.no _, by simp [newR], by simp [newR], by simp [newR, RDB.own, RDB.ov, Value.ownBlock, wrB2], by simp [newR, RDB.own, RDB.ov, Value.ownBlock, wrB2], by simp [newR, RDB.reads, Its.no, Its.bs, opR], by simp [newR, RDB.reads, Its.no, Its.bs, opR], ⟨D.out, by simp [newR], by simp [newR], by simp [newR, Its.no], by simp [newR]⟩⟩, ((Below.refl _ _).alloc (Nat.le_refl _) _).alloc (by simp) _⟩
  · have h := Row.made (w.alloc (.cells #[.int .i64 dim, .slice none 0 0, .slice none 0 0] tSd)) #[.pointer (some ⟨w.heap.size, 0, none⟩), .int .u64 0] tRd
    rw [World.size_alloc] at h
    exact h
  · exact (Row.made w _ _).only ((Only.refl [] _).alloc _) (by simp)
end Go.Proofs.YtmbmkfhdiljalaaGreat

/- Plain, the document's side: Begin's region (printed by gen_rbegin.py). -/
namespace Go.Proofs.YtmbmkfhdiljalaaGreat
open Go.RowKit Go.ChangeShapes Go.WideShapes Go.ChangeAt
set_option linter.unusedVariables false
set_option linter.unusedSimpArgs false

theorem EmpAt.own3 {T : TypeId} {B q : Nat} {v : Value} {w : World} (h : EmpAt T B v w) : w.ownsRow B T q v 0 [] := by
  obtain ⟨g, rfl, hr, hg⟩ := h
  exact ⟨by simp, .inr ⟨g, 0, #[], rfl, hg, hr, by simp, by unfold maxLen; omega, by simp, by simp⟩⟩
theorem Turn.ownq {K : Nat → Prop} {w w' : World} {T : TypeId} {B q n : Nat} {v : Value} {xs : List Value} (k : Turn K w w') (h : w.ownsRow B T q v n xs) (hb : ∀ g, v.ownBlock = some g → ¬ K g) : w'.ownsRow B T q v n xs :=
  own_keep h fun g hg => k.block g (h.lt g hg).2 (hb g hg)
def TxRow (n : Int) (v : Value) : List Value := [.int .u64 n, v, .slice none 0 0, .slice none 0 0]
/-- The new row of open ones, and what its last one sees. -/
def NewOp (w0 : World) (B : Nat) (D : RDB) (n : Int) (v : Value) (w : World) : Prop := ∃ u, w.ownsRow B tRt 4 v (D.op.length + 1) (txL D.op ++ TxRow n u) ∧ w.ownsRow w0.heap.size tIt 3 u D.done.l.length (itL D.done.l) ∧ (v.ownBlock = D.ov.ownBlock ∨ ∀ g, v.ownBlock = some g → w0.heap.size ≤ g ∧ u.ownBlock ≠ some g)
def RBg (w0 : World) (B s : Nat) (D : RDB) (n : Int) : Nat → Value → World → Prop
  | 0, v, _ => v = .pointer (some ⟨s, 0, none⟩)
  | 1, v, _ => v = .pointer (some ⟨s, 0, none⟩)
  | 2, v, _ => v = .pointer (some ⟨s, 0, none⟩)
  | 3, v, _ => v = .pointer (some ⟨s, 2, none⟩)
  | 4, v, _ => v = D.ov
  | 5, v, _ => v = .int .u64 n
  | 6, v, w => EmpAt tIt w0.heap.size v w
  | 7, v, _ => v = .pointer (some ⟨s, 0, none⟩)
  | 8, v, _ => v = .pointer (some ⟨s, 0, none⟩)
  | 9, v, _ => v = .pointer (some ⟨s, 1, none⟩)
  | 10, v, _ => v = D.done.v
  | 11, v, w => w.ownsRow w0.heap.size tIt 3 v D.done.l.length (itL D.done.l)
  | 12, v, w => ∃ u, v = .agg #[.int .u64 n, u, .slice none 0 0, .slice none 0 0] ∧ w.ownsRow w0.heap.size tIt 3 u D.done.l.length (itL D.done.l)
  | 13, v, w => ∃ g u, v = .slice (some ⟨g, 0, none⟩) 1 1 ∧ Row w g #[.int .u64 n, u, .slice none 0 0, .slice none 0 0] tRt ∧ w0.heap.size ≤ g ∧ w.ownsRow w0.heap.size tIt 3 u D.done.l.length (itL D.done.l)
  | 14, v, w => NewOp w0 B D n v w
  | 15, v, _ => v = .pointer (some ⟨s, 0, none⟩)
  | 16, v, _ => v = .pointer (some ⟨s, 2, none⟩)
  | 17, _, w => ∃ v, NewOp w0 B D n v w ∧ Row w s #[.int .i64 D.dim, D.done.v, v] tSd
  | _, _, _ => True
def KBg (w0 : World) (s : Nat) (D : RDB) : Nat → World → Nat → Prop
  | 11, w, b => Row w b #[] tIt ∧ w0.heap.size ≤ b
  | 14, _, b => D.ov.ownBlock = some b
  | 17, _, b => b = s
  | _, _, _ => False
theorem KBg_cases {w0 : World} {s i : Nat} {D : RDB} {w : World} {b : Nat} (h : KBg w0 s D i w b) : (i = 11 ∧ Row w b #[] tIt ∧ w0.heap.size ≤ b) ∨ (i = 14 ∧ D.ov.ownBlock = some b) ∨ (i = 17 ∧ b = s) := by
  unfold KBg at h
  split at h
  · exact .inl ⟨rfl, h⟩
  · exact .inr (.inl ⟨rfl, h⟩)
  · exact .inr (.inr ⟨rfl, h⟩)
  · cases h
theorem own_ge {T : TypeId} {B q n : Nat} {v : Value} {w : World} {xs : List Value} (h : w.ownsRow B T q v n xs) {g : Nat} (hg : v.ownBlock = some g) : B ≤ g := (h.lt g hg).1
set_option maxHeartbeats 1000000 in
theorem RBg_keep {w0 : World} {B p s : Nat} {D : RDB} {n : Int} (h0 : RdbAt w0 B p s D) (bh : Nat → Nat → Bool) (hbh : ([(11, 11), (12, 11), (13, 11), (14, 11), (17, 11), (14, 13), (17, 14)] : List (Nat × Nat)).all (fun p => p.1 == p.2 || bh p.1 p.2) = true)
    (i j : Nat) (v : Value) (w w' : World) (hk : (i, j) ∉ [(11, 6)]) (hne : j ≠ i) (hb : bh j i = false) (k : Turn (KBg w0 s D i w) w w') (h : RBg w0 B s D n j v w) : RBg w0 B s D n j v w' := by
  have hbb := fun p hp => List.all_eq_true.1 hbh p hp
  have hs : s < w0.heap.size := h0.srow.lt
  have hov : ∀ b, D.ov.ownBlock = some b → b < w0.heap.size := fun b hb => (h0.oown.lt b hb).2
  have hovs : D.ov.ownBlock ≠ some s := fun e => by
    have := h0.nd
    simp [RDB.own, e] at this
  have own : ∀ u, i ≠ 11 → w.ownsRow w0.heap.size tIt 3 u D.done.l.length (itL D.done.l) → w'.ownsRow w0.heap.size tIt 3 u D.done.l.length (itL D.done.l) := fun u hi hu => k.ownq hu fun g hg hK => by
    have := own_ge hu hg
    rcases KBg_cases hK with ⟨rfl, _⟩ | ⟨rfl, h1⟩ | ⟨rfl, h1⟩
    · exact hi rfl
    · have := hov g h1; omega
    · omega
  have n11 : ∀ j', j = j' → j' ∈ [12, 13, 14, 17] → i ≠ 11 := fun j' e hm hi => by
    subst e hi
    simp at hm
    rcases hm with rfl | rfl | rfl | rfl
    · have := hbb (12, 11) (by simp); simp [hb] at this
    · have := hbb (13, 11) (by simp); simp [hb] at this
    · have := hbb (14, 11) (by simp); simp [hb] at this
    · have := hbb (17, 11) (by simp); simp [hb] at this
  match j, hk, hne, hb, h, n11 with
  | 0, _, _, _, h, _ => exact h
  | 1, _, _, _, h, _ => exact h
  | 2, _, _, _, h, _ => exact h
  | 3, _, _, _, h, _ => exact h
  | 5, _, _, _, h, _ => exact h
  | 7, _, _, _, h, _ => exact h
  | 8, _, _, _, h, _ => exact h
  | 9, _, _, _, h, _ => exact h
  | 10, _, _, _, h, _ => exact h
  | 15, _, _, _, h, _ => exact h
  | 16, _, _, _, h, _ => exact h
  | 4, _, _, _, h, _ => exact h
  | 6, hk, hne, hb, h, _ =>
    refine k.emp h fun g hr hg hK => ?_
    rcases KBg_cases hK with ⟨rfl, h1⟩ | ⟨rfl, h1⟩ | ⟨rfl, h1⟩
    · simp at hk
    · have := hov g h1; omega
    · omega
  | 11, hk, hne, hb, h, _ => exact own _ (fun e => hne e.symm) h
  | 12, hk, hne, hb, h, n11 =>
    obtain ⟨u, e, hu⟩ := h
    exact ⟨u, e, own u (n11 12 rfl (by simp)) hu⟩
  | 13, hk, hne, hb, h, n11 =>
    obtain ⟨g, u, e, hr, hg, hu⟩ := h
    refine ⟨g, u, e, k.row hr fun hK => ?_, hg, own u (n11 13 rfl (by simp)) hu⟩
    rcases KBg_cases hK with ⟨rfl, _⟩ | ⟨rfl, h1⟩ | ⟨rfl, h1⟩
    · exact n11 13 rfl (by simp) rfl
    · have := hov g h1; omega
    · omega
  | 14, hk, hne, hb, h, n11 =>
    obtain ⟨u, ho, hu, hf⟩ := h
    refine ⟨u, k.ownq ho fun g hg hK => ?_, own u (n11 14 rfl (by simp)) hu, hf⟩
    rcases KBg_cases hK with ⟨rfl, _⟩ | ⟨rfl, h1⟩ | ⟨rfl, h1⟩
    · exact n11 14 rfl (by simp) rfl
    · exact hne rfl
    · subst h1
      rcases hf with h2 | h2
      · exact hovs (by rw [← h2, hg])
      · have := (h2 g hg).1; omega
  | 17, hk, hne, hb, h, n11 =>
    have n14 : i ≠ 14 := fun e => by
      subst e
      have := hbb (17, 14) (by simp)
      simp [hb] at this
    have no : ∀ g, ¬ KBg w0 s D i w g := fun g hK => by
      rcases KBg_cases hK with ⟨rfl, _⟩ | ⟨rfl, _⟩ | ⟨rfl, _⟩
      · exact n11 17 rfl (by simp) rfl
      · exact n14 rfl
      · exact hne rfl
    obtain ⟨v2, ⟨u, ho, hu, hf⟩, hr⟩ := h
    exact ⟨v2, ⟨u, k.ownq ho fun g _ => no g, k.ownq hu fun g _ => no g, hf⟩, k.row hr (no _)⟩
  | m + 18, _, _, _, h, _ => exact trivial
end Go.Proofs.YtmbmkfhdiljalaaGreat

/- Plain, the document's side: Begin (printed by gen_rbegin2.py). -/
namespace Go.Proofs.YtmbmkfhdiljalaaGreat
open Go.RowKit Go.ChangeShapes Go.WideShapes Go.ChangeAt
set_option linter.unusedVariables false
set_option linter.unusedSimpArgs false

def frB (x0 x1 x2 x3 : Value) (u : Nat → Value) : Act := ⟨#[x0, x1, x2, x3, u 4, u 5, u 6, u 7, u 8, u 9, u 10, u 11, u 12, u 13, u 14, u 15, u 16, u 17, u 18, u 19, u 20], []⟩
def SBg (w0 : World) (s : Nat) (D : RDB) : Bool → World → Prop
  | false, w => Only [] w0 w
  | true, w => Only (s :: D.ov.ownBlock.toList) w0 w ∧ ∃ z, Row w s #[.int .i64 D.dim, D.done.v, z] tSd
theorem SBg.turn {w0 w w' : World} {B p s i : Nat} {D : RDB} {b : Bool} (h0 : RdbAt w0 B p s D) (h : SBg w0 s D b w) (hb : b = false → i ≠ 14 ∧ i ≠ 17) (h17 : i ≠ 17) (k : Turn (KBg w0 s D i w) w w') : SBg w0 s D b w' := by
  cases b with
  | false =>
    refine Turn.only h k fun c hc => ?_
    rcases KBg_cases hc with ⟨_, _, h1⟩ | ⟨h1, _⟩ | ⟨h1, _⟩
    · exact .inr h1
    · exact absurd h1 (hb rfl).1
    · exact absurd h1 (hb rfl).2
  | true =>
    have hs : s < w0.heap.size := h0.srow.lt
    have hovs : D.ov.ownBlock ≠ some s := fun e => by
      have := h0.nd
      simp [RDB.own, e] at this
    refine ⟨Turn.only h.1 k fun c hc => ?_, ?_⟩
    · rcases KBg_cases hc with ⟨_, _, h1⟩ | ⟨_, h1⟩ | ⟨_, h1⟩
      · exact .inr h1
      · exact .inl (by simp [h1])
      · exact .inl (by simp [h1])
    · obtain ⟨z, hz⟩ := h.2
      refine ⟨z, k.row hz fun hc => ?_⟩
      rcases KBg_cases hc with ⟨_, _, h1⟩ | ⟨_, h1⟩ | ⟨h1, _⟩
      · omega
      · exact hovs h1
      · exact absurd h1 h17
theorem SBg.row {w0 w : World} {B p s : Nat} {D : RDB} {b : Bool} (h0 : RdbAt w0 B p s D) (h : SBg w0 s D b w) : ∃ z, Row w s #[.int .i64 D.dim, D.done.v, z] tSd := by
  cases b with
  | false => exact ⟨_, (h0.only h (by simp)).srow⟩
  | true => exact h.2
theorem SBg.wide {w0 w : World} {s : Nat} {D : RDB} {b : Bool} (h : SBg w0 s D b w) : Only (s :: D.ov.ownBlock.toList) w0 w := by
  cases b with
  | false => exact Only.mono h (by simp)
  | true => exact h.1
theorem RsAt.src_all {w : World} {I : Its} (h : RsAt w I) : SrcOf w I.v I.l.length 3 (itL I.l) := by
  have := h.src (i := 0) (k := I.l.length) (by omega) (a := I.a) (by
    rcases h.row with ⟨h1, _⟩ | ⟨g, h1, _⟩
    · rw [h1]; rfl
    · rw [h1]; simp [add_plain]) (c := I.c) (fun e => by
    rcases h.row with ⟨_, _, h3⟩ | ⟨g, h1, _⟩
    · exact h3
    · rw [h1] at e; cases e)
  simpa [Its.v] using this
theorem infoRt : (Tryz.prog.info? tRt).map (fun i => (i.zero, i.size, i.bytes)) = some (some (.agg #[.int .u64 0, .slice none 0 0, .slice none 0 0, .slice none 0 0]), 4, 80) := by kernel_rfl
/-- What Begin leaves. -/
def BegRTo (B s : Nat) (D : RDB) (n : Int) (w : World) (e : Ending) (w' : World) : Prop := e = .returned (.tuple #[]) ∧ Only (s :: D.ov.ownBlock.toList) w w' ∧ ∃ v, NewOp w B D n v w' ∧ Row w' s #[.int .i64 D.dim, D.done.v, v] tSd
set_option maxRecDepth 100000 in
set_option maxHeartbeats 4000000 in
theorem begin_r19 {w : World} {B p s : Nat} {D : RDB} (h : RdbAt w B p s D) (hB : B ≤ w.heap.size) (n : Int) :
    Calls Tryz.prog 50 #[.pointer (some ⟨s, 0, none⟩), .int .u64 n] w (BegRTo B s D n w) := by
  have H := Lib.hid h
  have HB := Lib.hid hB
  obtain ⟨i0, hi, hz0, hz1, hz2⟩ := info_parts infoIt
  clear h hB
  go_enter Tryz.func50, Tryz.ntmps50
  go_upto_region 0 with fail
  refine region_inv_at (by kernel_rfl) 9 [(11, 6)] (frB _ _ _ _) (SBg w s D) (RBg w B s D n) (fun i w1 w2 => Turn (KBg w s D i w1) w1 w2) (by kernel_rfl) 14 (by decide) ?hfr ?hT (fun _ => undef) rfl ?hS ?hst ?hend
  case hfr =>
    refine fun i o d u v ho => each_op (M := fun _ o => o.dst = some d → (frB _ _ _ _ u).put (some d) v = frB _ _ _ _ (upd u d v)) ?_ i o ho
    refine ⟨?_, ?_, ?_, ?_, ?_, ?_, ?_, ?_, ?_, ?_, ?_, ?_, ?_, ?_, ?_, ?_, ?_, ?_, trivial⟩
    all_goals
      intro h
      first
        | (cases h; done)
        | (cases h; rfl)
  case hT => exact fun i j v w1 w2 hk hne hb k h => RBg_keep H.out _ (by kernel_rfl) i j v w1 w2 hk hne hb k h
  case hS => exact (Only.refl [] w).drew
  case hst =>
    refine each_op ⟨?_, ?_, ?_, ?_, ?_, ?_, ?_, ?_, ?_, ?_, ?_, ?_, ?_, ?_, ?_, ?_, ?_, ?_, trivial⟩
    case refine_1 =>
      intro b u y hbL hbT hs hd
      unfold frB
      clear hd
      go_wp2_with fail
      exact ⟨rfl, _, rfl, by simpa using hs, Turn.rfl_, rfl⟩
    case refine_2 =>
      intro b u y hbL hbT hs hd
      unfold frB
      clear hd
      go_wp2_with fail
      exact ⟨rfl, _, rfl, by simpa using hs, Turn.rfl_, rfl⟩
    case refine_3 =>
      intro b u y hbL hbT hs hd
      have e0 : u 5 = .pointer (some ⟨s, 0, none⟩) := hd 1 (by kernel_rfl)
      unfold frB
      rw [e0]
      clear hd e0
      go_wp2_with fail
      exact ⟨rfl, _, rfl, by simpa using hs, Turn.rfl_, rfl⟩
    case refine_4 =>
      intro b u y hbL hbT hs hd
      have e0 : u 6 = .pointer (some ⟨s, 0, none⟩) := hd 2 (by kernel_rfl)
      unfold frB
      rw [e0]
      clear hd e0
      go_wp2_with fail
      exact ⟨rfl, _, rfl, by simpa using hs, Turn.rfl_, rfl⟩
    case refine_5 =>
      intro b u y hbL hbT hs hd
      have hb0 : b = false := by
        cases b with
        | false => rfl
        | true => exact absurd (hbL rfl).1 (by decide)
      subst hb0
      have e0 : u 7 = .pointer (some ⟨s, 2, none⟩) := hd 3 (by kernel_rfl)
      have c0 : y.cell? ⟨s, 2, none⟩ = some D.ov := (H.out.only hs (by simp)).srow.cell 2
      unfold RDB.ov at c0
      unfold frB
      rw [e0]
      clear hd e0
      go_wp2_with fail
      exact ⟨rfl, _, rfl, hs, Turn.rfl_, rfl⟩
    case refine_6 =>
      intro b u y hbL hbT hs hd
      unfold frB
      clear hd
      go_wp2_with fail
      exact ⟨rfl, _, rfl, by simpa using hs, Turn.rfl_, rfl⟩
    case refine_7 =>
      intro b u y hbL hbT hs hd
      unfold frB
      clear hd
      go_wp2_with fail
      have TT : Turn (KBg w s D 6 y) y (y.alloc (.cells #[] tIt)) := Turn.alloc _
      exact ⟨rfl, _, rfl, by simpa using SBg.turn H.out hs (fun _ => by decide) (by decide) TT, TT, ⟨_, rfl, Row.made _ _ _, hs.wide.size⟩⟩
    case refine_8 =>
      intro b u y hbL hbT hs hd
      unfold frB
      clear hd
      go_wp2_with fail
      exact ⟨rfl, _, rfl, by simpa using hs, Turn.rfl_, rfl⟩
    case refine_9 =>
      intro b u y hbL hbT hs hd
      have e0 : u 11 = .pointer (some ⟨s, 0, none⟩) := hd 7 (by kernel_rfl)
      unfold frB
      rw [e0]
      clear hd e0
      go_wp2_with fail
      exact ⟨rfl, _, rfl, by simpa using hs, Turn.rfl_, rfl⟩
    case refine_10 =>
      intro b u y hbL hbT hs hd
      have e0 : u 12 = .pointer (some ⟨s, 0, none⟩) := hd 8 (by kernel_rfl)
      unfold frB
      rw [e0]
      clear hd e0
      go_wp2_with fail
      exact ⟨rfl, _, rfl, by simpa using hs, Turn.rfl_, rfl⟩
    case refine_11 =>
      intro b u y hbL hbT hs hd
      have hb0 : b = false := by
        cases b with
        | false => rfl
        | true => exact absurd (hbL rfl).1 (by decide)
      subst hb0
      have e0 : u 13 = .pointer (some ⟨s, 1, none⟩) := hd 9 (by kernel_rfl)
      have c0 : y.cell? ⟨s, 1, none⟩ = some D.done.v := (H.out.only hs (by simp)).srow.cell 1
      unfold Its.v at c0
      unfold frB
      rw [e0]
      clear hd e0
      go_wp2_with fail
      exact ⟨rfl, _, rfl, hs, Turn.rfl_, rfl⟩
    case refine_12 =>
      intro b u y hbL hbT hs hd
      have hb0 : b = false := by
        cases b with
        | false => rfl
        | true => exact absurd (hbL rfl).1 (by decide)
      subst hb0
      have e0 : EmpAt tIt w.heap.size (u 10) y := hd 6 (by kernel_rfl)
      have e1 : u 14 = D.done.v := hd 10 (by kernel_rfl)
      have HS : Hid (Only [] w y) := Lib.hid hs
      have SR := Lib.hid (H.out.only hs (by simp)).done.src_all
      have HL : Hid (D.done.l.length ≤ 100000) := Lib.hid H.out.fine.done
      have HO := Lib.hid (EmpAt.own3 (q := 3) e0)
      obtain ⟨g, eg, hrow, hBg⟩ := e0
      unfold frB
      rw [eg] at HO ⊢
      rw [e1]
      clear hd eg e1
      refine wpList_append_src rfl (.tmp 10) (.tmp 14) 44 rfl w.heap.size tIt i0 _ 3 56 Tryz.underlying44 hi hz0 hz1 hz2 rfl (by decide) _ 0 [] rfl HO.out _ D.done.l.length (itL D.done.l) rfl SR.out (itL_one _) (by have := HL.out; unfold maxLen; omega) (by have := HL.out; omega) HS.out.size ?_
      intro v' w' hown' hgrow
      have TT : Turn (KBg w s D 11 y) y w' := Turn.grown hgrow (fun b hb => by
        simp [Act.eval, Value.ownBlock] at hb
        subst hb
        exact ⟨hrow, hBg⟩)
      refine ⟨rfl, _, rfl, by simpa using SBg.turn (b := false) H.out HS.out (fun _ => by decide) (by decide) TT, TT, ?_⟩
      show w'.ownsRow _ _ _ _ _ (itL D.done.l)
      simpa using hown'
    case refine_13 =>
      intro b u y hbL hbT hs hd
      have e0 : u 9 = .int .u64 n := hd 5 (by kernel_rfl)
      have e1 : y.ownsRow w.heap.size tIt 3 (u 15) D.done.l.length (itL D.done.l) := hd 11 (by kernel_rfl)
      obtain ⟨a, c, e2, _⟩ := own_shape e1
      rw [e2] at e1
      have HO := Lib.hid e1
      have HS := Lib.hid hs
      unfold frB
      rw [e0, e2]
      clear hd e0 e1 e2 hs
      go_wp2_with fail
      exact ⟨rfl, _, rfl, by simpa using HS.out, Turn.rfl_, ⟨_, rfl, HO.out⟩⟩
    case refine_14 =>
      intro b u y hbL hbT hs hd
      obtain ⟨u', e0, e1⟩ : ∃ u', u 16 = .agg #[.int .u64 n, u', .slice none 0 0, .slice none 0 0] ∧ y.ownsRow w.heap.size tIt 3 u' D.done.l.length (itL D.done.l) := hd 12 (by kernel_rfl)
      obtain ⟨a, c, e2, _⟩ := own_shape e1
      subst e2
      have HO := Lib.hid e1
      have HS := Lib.hid hs
      unfold frB
      rw [e0]
      clear hd e0 e1 hs
      go_wp2_with fail
      have TT : Turn (KBg w s D 13 y) y (y.alloc (.cells #[.int .u64 n, .slice a D.done.l.length c, .slice none 0 0, .slice none 0 0] tRt)) := Turn.alloc _
      exact ⟨rfl, _, rfl, by simpa using SBg.turn H.out HS.out (fun _ => by decide) (by decide) TT, TT, ⟨_, _, rfl, Row.made _ _ _, HS.out.wide.size, HO.out.alloc _⟩⟩
    case refine_15 =>
      intro b u y hbL hbT hs hd
      have hb0 : b = false := by
        cases b with
        | false => rfl
        | true => exact absurd rfl (hbL rfl).2
      subst hb0
      have e0 : u 8 = D.ov := hd 4 (by kernel_rfl)
      obtain ⟨g, u', e1, hr, hg, ho⟩ : ∃ g u', u 17 = .slice (some ⟨g, 0, none⟩) 1 1 ∧ Row y g #[.int .u64 n, u', .slice none 0 0, .slice none 0 0] tRt ∧ w.heap.size ≤ g ∧ y.ownsRow w.heap.size tIt 3 u' D.done.l.length (itL D.done.l) := hd 13 (by kernel_rfl)
      obtain ⟨j0, hj, hy0, hy1, hy2⟩ := info_parts infoRt
      have OV := (H.out.only hs (by simp)).oown
      have HS : Hid (Only [] w y) := Lib.hid hs
      unfold frB
      rw [e0, e1]
      refine wpList_append_at rfl (.tmp 8) (.tmp 17) 45 rfl B tRt j0 _ 4 80 Tryz.underlying45 hj hy0 hy1 hy2 rfl (by decide) D.ov D.op.length (txL D.op) rfl OV ⟨g, 0, none⟩ 1 1 (TxRow n u') rfl rfl ?cells ?one (by have := H.out.fine.len; unfold maxLen; omega) ?bytes (Nat.le_trans HB.out HS.out.size) ?more
      case cells =>
        intro j x hjx
        rw [add_plain, Nat.zero_add, hr.cell j]
        simpa [TxRow] using hjx
      case one =>
        obtain ⟨a, c, rfl, _⟩ := own_shape ho
        intro x hx
        simp [TxRow] at hx
        rcases hx with rfl | rfl | rfl <;> simp [Value.oneCell']
      case bytes => have := H.out.fine.len; omega
      case more =>
        intro v' w' hown' hgrow hfr
        have TT : Turn (KBg w s D 14 y) y w' := Turn.grown hgrow (fun b hb => hb)
        have hu : w'.ownsRow w.heap.size tIt 3 u' D.done.l.length (itL D.done.l) := TT.ownq ho fun g hg hK => by
          have h1 := own_ge ho hg
          have h2 := (H.out.oown.lt g hK).2
          omega
        refine ⟨rfl, _, rfl, ?_, TT, ⟨u', hown', hu, hfr.imp id fun h g hg => ⟨Nat.le_trans HS.out.size (h g hg), fun e => ?_⟩⟩⟩
        · have h1 : SBg w s D true y := ⟨Only.mono hs (by simp), SBg.row (b := false) H.out hs⟩
          exact SBg.turn H.out h1 (fun e => by cases e) (by decide) TT
        · have h1 := h g hg
          have h2 := (ho.lt g e).2
          omega
    case refine_16 =>
      intro b u y hbL hbT hs hd
      have e0 : u 4 = .pointer (some ⟨s, 0, none⟩) := hd 0 (by kernel_rfl)
      unfold frB
      rw [e0]
      clear hd e0
      go_wp2_with fail
      exact ⟨rfl, _, rfl, by simpa using hs, Turn.rfl_, rfl⟩
    case refine_17 =>
      intro b u y hbL hbT hs hd
      have e0 : u 19 = .pointer (some ⟨s, 0, none⟩) := hd 15 (by kernel_rfl)
      unfold frB
      rw [e0]
      clear hd e0
      go_wp2_with fail
      exact ⟨rfl, _, rfl, by simpa using hs, Turn.rfl_, rfl⟩
    case refine_18 =>
      intro b u y hbL hbT hs hd
      have hb1 : b = true := hbT (by kernel_rfl)
      subst hb1
      have e0 : u 20 = .pointer (some ⟨s, 2, none⟩) := hd 16 (by kernel_rfl)
      have e1 : NewOp w B D n (u 18) y := hd 14 (by kernel_rfl)
      obtain ⟨z, hz⟩ := SBg.row H.out hs
      have q2 : y.cell? ⟨s, 2, none⟩ = some z := hz.cell 2
      have qf := hz.free 2
      have hsl : s < w.heap.size := H.out.srow.lt
      have hovs : D.ov.ownBlock ≠ some s := fun e => by
        have := H.out.nd
        simp [RDB.own, e] at this
      obtain ⟨a, c, e2⟩ : ∃ a c, u 18 = .slice a (D.op.length + 1) c := by
        obtain ⟨u', ho, _⟩ := e1
        obtain ⟨a, c, e, _⟩ := own_shape ho
        exact ⟨a, c, e⟩
      rw [e2] at e1
      have HN := Lib.hid e1
      have HS := Lib.hid hs
      have HZ := Lib.hid hz
      unfold frB
      rw [e0, e2]
      clear hd e0 e1 e2 hs hz
      go_wp2_with fail
      have TT : Turn (KBg w s D 17 y) y (y.setCell ⟨s, 2, none⟩ (.slice a (D.op.length + 1) c)) := by
        have := (Only.refl [s] y).setCell (p := ⟨s, 2, none⟩) (.inl (by simp)) (.slice a (D.op.length + 1) c)
        exact ⟨this.os, this.tape, this.output, this.size, fun b hb hn => this.block b hb (by simpa [KBg] using hn)⟩
      have RW : Row (y.setCell ⟨s, 2, none⟩ (.slice a (D.op.length + 1) c)) s #[.int .i64 D.dim, D.done.v, .slice a (D.op.length + 1) c] tSd := by
        have h := HZ.out.set 2 (.slice a (D.op.length + 1) c)
        simpa using h
      obtain ⟨u', ho, hu, hf⟩ := HN.out
      have nu : ∀ g, u'.ownBlock = some g → ¬ KBg w s D 17 y g := fun g hg hK => by
        have h1 := own_ge hu hg
        have h2 : g = s := hK
        omega
      have nv : ∀ g, (Value.slice a (D.op.length + 1) c).ownBlock = some g → ¬ KBg w s D 17 y g := fun g hg hK => by
        have h2 : g = s := hK
        subst h2
        rcases hf with h3 | h3
        · exact hovs (by rw [← h3, hg])
        · have := (h3 g hg).1; omega
      have SS : SBg w s D true (y.setCell ⟨s, 2, none⟩ (.slice a (D.op.length + 1) c)) := ⟨Turn.only HS.out.1 TT (fun b hb => .inl (by have h2 : b = s := hb; simp [h2])), _, RW⟩
      refine ⟨rfl, rfl, by simpa using SS, TT, ⟨_, ⟨u', TT.ownq ho nv, TT.ownq hu nu, hf⟩, RW⟩⟩
  case hend =>
    intro u y hs hd
    obtain ⟨v, hN, hR⟩ : ∃ v, NewOp w B D n v y ∧ Row y s #[.int .i64 D.dim, D.done.v, v] tSd := hd 17 (by decide) (by decide)
    have N : Hid (BegRTo B s D n w (.returned (.tuple #[])) y) := Lib.hid ⟨rfl, hs.1, v, hN, hR⟩
    unfold frB
    clear hd hs hN hR
    go_wp2_with fail
    refine bodyPost_ret (results_none rfl _ _ _) rfl ?_
    exact N.out
end Go.Proofs.YtmbmkfhdiljalaaGreat
