/- Plain: Get. -/
import Derived.Test.YtmbmkfhdiljalaaPlH
namespace Go.Proofs.Ytmbmkfhdiljalaa
open Go.RowKit Go.Shelf
set_option linter.unusedVariables false
set_option linter.unusedSimpArgs false

theorem lkV_mem {l : List (Int × Ver)} {key : Int} {v : Ver} (h : lkV l key = some v) : ∃ y ∈ l, y.2 = v := by
  unfold lkV at h
  rw [Option.map_eq_some_iff] at h
  obtain ⟨y, hy, rfl⟩ := h
  exact ⟨y, List.mem_of_find?_eq_some hy, rfl⟩
theorem asofL_mem {l : List Ver} {at_ : Int} {v : Ver} (h : asofL l at_ = some v) : v ∈ l := by
  have := List.mem_of_find?_eq_some h
  simpa using this
theorem seesR_at {w : World} {B p ba bo : Nat} {D : PDB} (h : DbAt w B p ba bo D) {o : PTx} (ho : o ∈ D.op) {key : Int} {v : Ver} (hv : seesR D o key = some v) : VerAt w v := by
  unfold seesR at hv
  cases hl : lkV o.wr key with
  | some u =>
    rw [hl] at hv
    simp only [Option.some.injEq] at hv
    subst hv
    obtain ⟨y, hy, rfl⟩ := lkV_mem hl
    exact h.wrd o ho y hy
  | none =>
    rw [hl] at hv
    simp only at hv
    exact (vsOf_at h key).each v (asofL_mem hv)
def GetTo (r : Option Ver) (w : World) (e : Ending) (w' : World) : Prop := match r with
  | some v => if v.gone then e = .returned (.tuple #[.agg (itemV none), .int .i64 7]) ∧ Below w.heap.size w w'
    else ∃ va ta : Sl, e = .returned (.tuple #[.agg #[.int .u64 v.key, va.v, ta.v], .int .i64 0]) ∧ va.xs = v.vec.xs ∧ ta.xs = v.tag.xs ∧ SlAt .i32 w' va ∧ SlAt .u8 w' ta ∧ (∀ b ∈ va.bs ++ ta.bs, w.heap.size ≤ b) ∧ Below w.heap.size w w'
  | none => e = .returned (.tuple #[.agg (itemV none), .int .i64 7]) ∧ Below w.heap.size w w'
set_option maxRecDepth 100000 in
set_option maxHeartbeats 4000000 in
theorem get_on {w : World} {B p ba bo : Nat} {D : PDB} (h : DbAt w B p ba bo D) {n key : Int} {o : PTx} (ho : findP n D.op = some o) (hl : (vsOf D.all key).vs.length ≤ 1000000) :
    Calls Try.prog 5 #[.pointer (some ⟨p, 0, none⟩), .int .u64 n, .int .u64 key] w (GetTo (seesR D o key) w) := by
  obtain ⟨hom, rfl⟩ := findP_some ho
  have H := Lib.hid h
  have FI : Hid (∀ y, Only [] w y → Calls Try.prog 20 #[.pointer (some ⟨p, 0, none⟩), .int .u64 o.n] y fun e w' => e = .returned (.tuple #[.pointer (some ⟨o.bt, 0, none⟩), .int .i64 0]) ∧ w' = y) := Lib.hid fun y k => find_yes (h.only k (by simp)) ho
  have SE : Hid (∀ y, Only [] w y → Calls Try.prog 21 #[.pointer (some ⟨p, 0, none⟩), .pointer (some ⟨o.bt, 0, none⟩), .int .u64 key] y (AsOfTo (seesR D o key) y)) := Lib.hid fun y k => sees_on (h.only k (by simp)) hom key hl
  have SV : Hid (∀ v, seesR D o key = some v → VerAt w v) := Lib.hid fun v hv => seesR_at h hom hv
  clear h ho hl
  generalize seesR D o key = r at *
  go_enter Try.func5, Try.ntmps5
  go_wp2_with fail
  have R6 : Hid (Row (w.alloc (.cells #[.int .u64 0, .slice none 0 0, .slice none 0 0] tIt)) w.heap.size (itemV none) tIt) := Lib.hid (Row.made w _ _)
  have K1 : Hid (Only [] w (w.alloc (.cells #[.int .u64 0, .slice none 0 0, .slice none 0 0] tIt))) := Lib.hid ((Only.refl [] w).alloc _)
  generalize w.alloc (.cells #[.int .u64 0, .slice none 0 0, .slice none 0 0] tIt) = w1 at *
  refine (FI.out _ K1.out).mono ?_
  rintro _ w2 ⟨rfl, hw⟩
  subst w2
  go_wp2_with fail
  refine (SE.out _ K1.out).mono ?_
  rintro _ w2 ⟨rfl, hb⟩
  have K2 : Hid (Only [] w w2) := Lib.hid (K1.out.below hb)
  have R62 := Lib.hid (R6.out.only ((Only.refl [] w1).below hb) (by simp))
  clear hb SE FI R6 K1
  have no : okV r = false → GetTo r w (.returned (.tuple #[.agg (itemV none), .int .i64 7])) = GetTo none w (.returned (.tuple #[.agg (itemV none), .int .i64 7])) := by
    intro h
    cases r with
    | none => rfl
    | some v =>
      have hg : v.gone = true := by simpa [okV] using h
      funext w'
      simp [GetTo, hg]
  have NO := Lib.hid no
  clear no
  obtain ⟨b6, hb6⟩ : ∃ b6, w.heap.size = b6 := ⟨_, rfl⟩
  have E6 := Lib.hid hb6
  rw [hb6] at R62 ⊢
  clear hb6
  obtain ⟨k, a1, n1, d1, a2, n2, d2, hI⟩ : ∃ k a1 n1 d1 a2 n2 d2, itemV r = #[.int .u64 k, .slice a1 n1 d1, .slice a2 n2 d2] := by
    cases r with
    | none => exact ⟨_, _, _, _, _, _, _, rfl⟩
    | some x => exact ⟨_, _, _, _, _, _, _, rfl⟩
  have HII := Lib.hid hI
  rw [hI]
  clear hI
  have K3 : Hid (Only [] w (w2.alloc (.cells #[.int .u64 k, .slice a1 n1 d1, .slice a2 n2 d2] tIt))) := Lib.hid (K2.out.alloc _)
  have RX : Hid (Row (w2.alloc (.cells #[.int .u64 k, .slice a1 n1 d1, .slice a2 n2 d2] tIt)) b6 (itemV none) tIt) := Lib.hid (R62.out.only ((Only.refl [] w2).alloc _) (by simp))
  have RY : Hid (Row (w2.alloc (.cells #[.int .u64 k, .slice a1 n1 d1, .slice a2 n2 d2] tIt)) w2.heap.size #[.int .u64 k, .slice a1 n1 d1, .slice a2 n2 d2] tIt) := Lib.hid (Row.made _ _ _)
  have ⟨x0, x1, x2⟩ : (w2.alloc (.cells #[.int .u64 k, .slice a1 n1 d1, .slice a2 n2 d2] tIt)).cell? ⟨b6, 0, none⟩ = some (.int .u64 0) ∧ (w2.alloc (.cells #[.int .u64 k, .slice a1 n1 d1, .slice a2 n2 d2] tIt)).cell? ⟨b6, 1, none⟩ = some (.slice none 0 0) ∧ (w2.alloc (.cells #[.int .u64 k, .slice a1 n1 d1, .slice a2 n2 d2] tIt)).cell? ⟨b6, 2, none⟩ = some (.slice none 0 0) := ⟨RX.out.cell 0, RX.out.cell 1, RX.out.cell 2⟩
  have ⟨y0, y1, y2⟩ : (w2.alloc (.cells #[.int .u64 k, .slice a1 n1 d1, .slice a2 n2 d2] tIt)).frozen? ⟨b6, 0, none⟩ = false ∧ (w2.alloc (.cells #[.int .u64 k, .slice a1 n1 d1, .slice a2 n2 d2] tIt)).frozen? ⟨b6, 1, none⟩ = false ∧ (w2.alloc (.cells #[.int .u64 k, .slice a1 n1 d1, .slice a2 n2 d2] tIt)).frozen? ⟨b6, 2, none⟩ = false := ⟨RX.out.free 0, RX.out.free 1, RX.out.free 2⟩
  cases ho : okV r with
  | false =>
    have HO := Lib.hid ho
    clear ho
    go_upto_region 5 with fail
    generalize w2.alloc (.cells #[.int .u64 k, .slice a1 n1 d1, .slice a2 n2 d2] tIt) = w3 at *
    have N : Hid (Below w.heap.size w (((w3.setCell ⟨b6, 0, none⟩ (.int .u64 0)).setCell ⟨b6, 1, none⟩ (.slice none 0 0)).setCell ⟨b6, 2, none⟩ (.slice none 0 0)) ∧ Row (((w3.setCell ⟨b6, 0, none⟩ (.int .u64 0)).setCell ⟨b6, 1, none⟩ (.slice none 0 0)).setCell ⟨b6, 2, none⟩ (.slice none 0 0)) b6 (itemV none) tIt) := Lib.hid (by
      have K4 : Only [b6] w3 (((w3.setCell ⟨b6, 0, none⟩ (.int .u64 0)).setCell ⟨b6, 1, none⟩ (.slice none 0 0)).setCell ⟨b6, 2, none⟩ (.slice none 0 0)) := (((Only.refl [b6] w3).setCell (.inl (by simp)) _).setCell (.inl (by simp)) _).setCell (.inl (by simp)) _
      have h6 := ((RX.out.set 0 (.int .u64 0)).set 1 (.slice none 0 0)).set 2 (.slice none 0 0)
      exact ⟨(K3.out.trans K4 (fun i hi => by simp at hi; subst hi; exact .inr (by have := E6.out; omega))).toBelow (Nat.le_refl _) (by simp), by simpa [itemV] using h6⟩)
    go_wp2_with fail
    refine bodyPost_ret (results_item_tmp rfl _ _ b6 (itemV none) rfl rfl N.out.2) rfl ?_
    show GetTo r w (.returned (.tuple #[.agg (itemV none), .int .i64 7])) _
    rw [NO.out HO.out]
    exact ⟨rfl, N.out.1⟩
  | true =>
    obtain ⟨v, rfl, hg⟩ : ∃ v, r = some v ∧ v.gone = false := by
      cases r with
      | none => simp [okV] at ho
      | some v => exact ⟨v, rfl, by simpa [okV] using ho⟩
    have HG := Lib.hid hg
    have OW : Hid (∀ y, Only [] w y → Calls Try.prog 22 #[.agg #[.int .u64 k, .slice a1 n1 d1, .slice a2 n2 d2]] y (OwnTo v.key v.vec.xs v.tag.xs y)) := Lib.hid fun y ky => by
      rw [← HII.out]
      exact own_on ((SV.out v rfl).vec.only ky (by simp)) ((SV.out v rfl).tag.only ky (by simp))
    clear ho hg
    go_upto_region 5 with fail
    obtain ⟨b8, hb8⟩ : ∃ b8, w2.heap.size = b8 := ⟨_, rfl⟩
    rw [hb8] at RY ⊢
    clear hb8
    generalize w2.alloc (.cells #[.int .u64 k, .slice a1 n1 d1, .slice a2 n2 d2] tIt) = w3 at *
    have ⟨z0, z1, z2⟩ : w3.cell? ⟨b8, 0, none⟩ = some (.int .u64 k) ∧ w3.cell? ⟨b8, 1, none⟩ = some (.slice a1 n1 d1) ∧ w3.cell? ⟨b8, 2, none⟩ = some (.slice a2 n2 d2) := ⟨RY.out.cell 0, RY.out.cell 1, RY.out.cell 2⟩
    go_wp2_with fail
    refine (OW.out _ K3.out).mono ?_
    rintro _ w4 ⟨va, ta, rfl, hx1, hx2, hs1, hs2, hge, hb⟩
    have HB := Lib.hid hb
    have R64 := Lib.hid (RX.out.only ((Only.refl [] w3).below hb) (by simp))
    clear x0 x1 x2 y0 y1 y2 z0 z1 z2
    have HX : Hid (va.xs = v.vec.xs ∧ ta.xs = v.tag.xs ∧ SlAt .i32 w4 va ∧ SlAt .u8 w4 ta ∧ (∀ b ∈ va.bs ++ ta.bs, w3.heap.size ≤ b)) := Lib.hid ⟨hx1, hx2, hs1, hs2, hge⟩
    clear hx1 hx2 hs1 hs2 hge hb
    have ⟨c0, c1, c2⟩ : w4.cell? ⟨b6, 0, none⟩ = some (.int .u64 0) ∧ w4.cell? ⟨b6, 1, none⟩ = some (.slice none 0 0) ∧ w4.cell? ⟨b6, 2, none⟩ = some (.slice none 0 0) := ⟨R64.out.cell 0, R64.out.cell 1, R64.out.cell 2⟩
    have ⟨f0, f1, f2⟩ : w4.frozen? ⟨b6, 0, none⟩ = false ∧ w4.frozen? ⟨b6, 1, none⟩ = false ∧ w4.frozen? ⟨b6, 2, none⟩ = false := ⟨R64.out.free 0, R64.out.free 1, R64.out.free 2⟩
    have N : Hid (GetTo (some v) w (.returned (.tuple #[.agg #[.int .u64 v.key, va.v, ta.v], .int .i64 0])) (((w4.setCell ⟨b6, 0, none⟩ (.int .u64 v.key)).setCell ⟨b6, 1, none⟩ va.v).setCell ⟨b6, 2, none⟩ ta.v) ∧ Row (((w4.setCell ⟨b6, 0, none⟩ (.int .u64 v.key)).setCell ⟨b6, 1, none⟩ va.v).setCell ⟨b6, 2, none⟩ ta.v) b6 #[.int .u64 v.key, va.v, ta.v] tIt) := Lib.hid (by
      have K4 : Only [b6] w4 (((w4.setCell ⟨b6, 0, none⟩ (.int .u64 v.key)).setCell ⟨b6, 1, none⟩ va.v).setCell ⟨b6, 2, none⟩ ta.v) := (((Only.refl [b6] w4).setCell (.inl (by simp)) _).setCell (.inl (by simp)) _).setCell (.inl (by simp)) _
      have h6 := ((R64.out.set 0 (.int .u64 v.key)).set 1 va.v).set 2 ta.v
      have hx := HX.out
      have e6 := E6.out
      have l6 := RX.out.lt
      have s3 := K3.out.size
      refine ⟨?_, by simpa [itemV] using h6⟩
      simp only [GetTo]
      rw [HG.out]
      simp only [Bool.false_eq_true, if_false]
      refine ⟨va, ta, rfl, hx.1, hx.2.1, hx.2.2.1.only K4 ?_, hx.2.2.2.1.only K4 ?_, fun b hb => by have := hx.2.2.2.2 b hb; omega, ((K3.out.below HB.out).trans K4 (fun i hi => by simp at hi; subst hi; exact .inr (by omega))).toBelow (Nat.le_refl _) (by simp)⟩
      · intro b hb hm
        simp at hm
        have := hx.2.2.2.2 b (List.mem_append_left _ hb)
        omega
      · intro b hb hm
        simp at hm
        have := hx.2.2.2.2 b (List.mem_append_right _ hb)
        omega)
    unfold Sl.v at N ⊢
    go_wp2_with fail
    refine bodyPost_ret (results_item_tmp rfl _ _ b6 #[.int .u64 v.key, .slice va.a va.xs.length va.c, .slice ta.a ta.xs.length ta.c] rfl rfl N.out.2) rfl ?_
    exact N.out.1
end Go.Proofs.Ytmbmkfhdiljalaa
