/- Plain, the document's side: with, without (printed by gen_with.py). -/
import Derived.Test.YtmbmkfhdiljalaaGreatMg30
namespace Go.Proofs.YtmbmkfhdiljalaaGreat
open Go.RowKit Go.ChangeShapes Go.WideShapes Go.ChangeAt
set_option linter.unusedVariables false
set_option linter.unusedSimpArgs false

/-- Is the record at a place of that key? -/
def isAt (l : List Rc) (p : Nat) (k : Int) : Bool := match l[p]? with
  | some y => decide (y.1 = k)
  | none => false
def nextC (l : List Rc) (k : Int) : Nat := if isAt l (placeC l k) k then placeC l k + 1 else placeC l k
/-- A list with a record; without a key. -/
def withC (l : List Rc) (x : Rc) : List Rc := l.take (placeC l x.1) ++ x :: l.drop (nextC l x.1)
def withoutC (l : List Rc) (k : Int) : List Rc := if isAt l (placeC l k) k then l.take (placeC l k) ++ l.drop (placeC l k + 1) else l
def ListRTo (cs : List Rc) (H : List Nat) (w : World) (e : Ending) (w' : World) : Prop := ∃ I : Its, e = .returned I.v ∧ RsAt w' I ∧ I.cs = cs ∧ (∀ b ∈ I.bs, b ∈ H ∨ w.heap.size ≤ b) ∧ Below w.heap.size w w'
theorem itL_one (l : List It) : ∀ u ∈ itL l, u.oneCell' = true := by
  intro u hu
  obtain ⟨x, hx, hu⟩ := List.mem_flatMap.1 hu
  simp [It.cells] at hu
  rcases hu with rfl | rfl | rfl <;> simp [Value.oneCell', Sl.v]
theorem mem_bs {I : Its} {x : It} (h : x ∈ I.l) {b : Nat} (hb : b ∈ x.bs) : b ∈ I.bs := List.mem_append_right _ (List.mem_flatMap.2 ⟨x, h, hb⟩)
/-- The end: the pieces together. -/
theorem list_end {w w' : World} {H : List Nat} {B : Nat} {v : Value} {its : List It} {cs : List Rc} (hB : w.heap.size ≤ B) (ho : w'.ownsRow B tIt 3 v its.length (itL its)) (hb : Below w.heap.size w w')
    (he : ∀ x ∈ its, (SlAt .i32 w' x.vec ∧ SlAt .u8 w' x.tag) ∧ ∀ b ∈ x.bs, b ∈ H ∨ w.heap.size ≤ b) (hc : its.map It.c = cs) : ListRTo cs H w (.returned v) w' := by
  obtain ⟨I', rfl, rfl, h1, h2⟩ := RsAt.of_own ho rfl (fun x hx => (he x hx).1)
  refine ⟨I', rfl, h1, hc, fun b hb => ?_, hb⟩
  rcases List.mem_append.1 hb with hb | hb
  · cases ha : I'.a with
    | none => rw [ha] at hb; simp at hb
    | some ad =>
      rw [ha] at hb
      simp at hb
      subst hb
      have := h2 ad ha
      exact .inr (by omega)
  · obtain ⟨x, hx, hb⟩ := List.mem_flatMap.1 hb
    exact (he x hx).2 b hb
theorem cs_take (I : Its) (p : Nat) : (I.l.take p).map It.c = I.cs.take p := by simp [Its.cs, List.map_take]
theorem cs_drop (I : Its) (p : Nat) : (I.l.drop p).map It.c = I.cs.drop p := by simp [Its.cs, List.map_drop]
theorem old_at {w w' : World} {I : Its} {x : It} (h : RsAt w I) (hb : Below w.heap.size w w') (hx : x ∈ I.l) : (SlAt .i32 w' x.vec ∧ SlAt .u8 w' x.tag) ∧ ∀ b ∈ x.bs, b ∈ I.bs ∨ w.heap.size ≤ b :=
  ⟨⟨(h.each x hx).1.only ((Only.refl [] w).below hb) (by simp), (h.each x hx).2.only ((Only.refl [] w).below hb) (by simp)⟩, fun b hb => .inl (mem_bs hx hb)⟩
theorem without_end {w w' : World} {I : Its} {k : Int} {v : Value} {n : Nat} (h : RsAt w I) (hy : isAt I.cs (placeC I.cs k) k = true) (ho : w'.ownsRow w.heap.size tIt 3 v n (itL (I.l.take (placeC I.cs k)) ++ itL (I.l.drop (placeC I.cs k + 1)))) (hb : Below w.heap.size w w') : ListRTo (withoutC I.cs k) I.bs w (.returned v) w' := by
  rw [← itL_append] at ho
  have hn : n = (I.l.take (placeC I.cs k) ++ I.l.drop (placeC I.cs k + 1)).length := by
    have := ho.1
    rw [itL_len] at this
    omega
  subst hn
  refine list_end (Nat.le_refl _) ho hb (fun x hx => old_at h hb ?_) ?_
  · rcases List.mem_append.1 hx with hx | hx
    · exact List.mem_of_mem_take hx
    · exact List.mem_of_mem_drop hx
  · rw [List.map_append, cs_take, cs_drop]
    unfold withoutC
    rw [if_pos hy]
set_option maxRecDepth 100000 in
set_option maxHeartbeats 4000000 in
theorem without_on {w : World} {I : Its} {k : Int} (h : RsAt w I) (hl : I.l.length ≤ 500000) :
    Calls Tryz.prog 79 #[I.v, .int .u64 k] w (ListRTo (withoutC I.cs k) I.bs w) := by
  obtain ⟨i0, hi, hz0, hz1, hz2⟩ := info_parts infoIt
  have PL := Lib.hid (place_on (k := k) h (by omega))
  have H := Lib.hid h
  have HL := Lib.hid hl
  have CL : Hid (I.cs.length = I.l.length) := Lib.hid (by simp [Its.cs])
  have PLE : Hid (placeC I.cs k ≤ I.l.length) := Lib.hid (by have := placeC_le I.cs k; simpa [Its.cs] using this)
  obtain ⟨p, hp⟩ : ∃ p, placeC I.cs k = p := ⟨_, rfl⟩
  have HP := Lib.hid hp
  obtain ⟨m, hm⟩ : ∃ m, I.l.length = m := ⟨_, rfl⟩
  have HM := Lib.hid hm
  obtain ⟨a, ha⟩ : ∃ a, I.a = a := ⟨_, rfl⟩
  have HA := Lib.hid ha
  obtain ⟨c, hcc⟩ : ∃ c, I.c = c := ⟨_, rfl⟩
  have HC := Lib.hid hcc
  have CAP := h.cap
  unfold Its.v at PL ⊢
  rw [hm, ha, hcc] at PL ⊢
  rw [hp] at PL
  rw [hm, hcc] at CAP
  have SAME : Hid (isAt I.cs p k = false → ListRTo (withoutC I.cs k) I.bs w (.returned (.slice a m c)) w) := Lib.hid fun hf => ⟨I, by unfold Its.v; rw [HA.out, HM.out, HC.out], H.out, by unfold withoutC; rw [HP.out, if_neg (by rw [hf]; simp)], fun b hb => .inl hb, Below.refl _ _⟩
  have PM : p ≤ m := by have := PLE.out; omega
  clear h hl hp hm ha hcc
  go_enter Tryz.func79, Tryz.ntmps79
  go_wp2_with fail
  refine PL.out.mono ?_
  rintro _ w2 ⟨rfl, hw⟩
  subst w2
  by_cases hpm : p = m
  · subst hpm
    have NO : Hid (isAt I.cs p k = false) := Lib.hid (by unfold isAt; rw [List.getElem?_eq_none (by rw [CL.out, HM.out]; exact Nat.le_refl _)])
    go_wp2_with fail
    go_ret
    exact SAME.out NO.out
  · have hlt : p < m := by omega
    have q1 : ((p : Int) == (m : Int)) = false := by simp; omega
    have q2 : decide ((p : Int) = (m : Int)) = false := decide_eq_false (by omega)
    have q3 : decide (p = m) = false := decide_eq_false (by omega)
    obtain ⟨y, hy⟩ : ∃ y, I.l[p]? = some y := ⟨_, List.getElem?_eq_getElem (by rw [HM.out]; exact hlt)⟩
    obtain ⟨g, eg, hc⟩ := H.out.cell hy
    have c0 : w.cell? ⟨g, p * 3, none⟩ = some (.int .u64 y.key) := hc 0 (by omega)
    rw [HA.out] at eg
    subst eg
    have HY := Lib.hid (cs_get hy)
    have b1 : decide ((p : Int) < (m : Int)) = true := decide_eq_true (by omega)
    have b2 : decide (p < m) = true := decide_eq_true hlt
    clear hc hy
    by_cases hk : y.key = k
    · have YES : Hid (isAt I.cs p k = true) := Lib.hid (by unfold isAt; rw [HY.out]; exact decide_eq_true hk)
      rw [hk] at c0
      clear hk
      have e1 : IntKind.i64.wrap ((p : Int) + 1) = ((p + 1 : Nat) : Int) := w_inc _ (by have := HL.out; have := HM.out; omega)
      have k1 : (p : Int) ≤ (c : Int) := by omega
      have k2 : ((p + 1 : Nat) : Int) ≤ (m : Int) := by omega
      have k3 : (m : Int) ≤ (c : Int) := by omega
      have k4 : (0 : Int) ≤ (p : Int) := by omega
      have k5 : (0 : Int) ≤ ((p + 1 : Nat) : Int) := by omega
      have k6 : p ≤ c := by omega
      have k7 : p + 1 ≤ m := by omega
      have k8 : m ≤ c := by omega
      have EM : Hid (World.ownsRow (w.alloc (.cells #[] tIt)) w.heap.size tIt 3 (.slice (some ⟨w.heap.size, 0, none⟩) 0 0) 0 []) := Lib.hid (World.ownsRow_lit w #[] 0 (Nat.le_refl _) (by simp) rfl)
      have SR : Hid (∀ y', Below w.heap.size w y' → SrcOf y' (.slice (some ⟨g, 0, none⟩) p c) p 3 (itL (I.l.take p))) := Lib.hid fun y' hb => by
        have := (H.out.below hb).src (i := 0) (k := p) (by rw [HM.out]; omega) (a := some ⟨g, 0, none⟩) (by rw [HA.out]; simp [add_plain]) (c := c) (fun e => by rw [HA.out] at e; cases e)
        simpa using this
      have SR2 : Hid (∀ y' c', Below w.heap.size w y' → SrcOf y' (.slice (some ⟨g, (p + 1) * 3, none⟩) (m - (p + 1)) c') (m - (p + 1)) 3 (itL (I.l.drop (p + 1)))) := Lib.hid fun y' c' hb => by
        have := (H.out.below hb).src (i := p + 1) (k := m - (p + 1)) (by rw [HM.out]; omega) (a := some ⟨g, (p + 1) * 3, none⟩) (by rw [HA.out]; simp [add_plain]) (c := c') (fun e => by rw [HA.out] at e; cases e)
        rwa [List.take_of_length_le (by rw [List.length_drop, HM.out]; exact Nat.le_refl _)] at this
      have SR3 : Hid (∀ y', Below w.heap.size w y' → c = p + 1 → m = p + 1 → SrcOf y' (.slice (some ⟨g, 0, none⟩) 0 0) 0 3 (itL (I.l.drop (p + 1)))) := Lib.hid fun y' hb e e2 => by
        have e3 : I.l.drop (p + 1) = [] := List.drop_eq_nil_of_le (by rw [HM.out]; omega)
        rw [e3]
        exact .inr ⟨_, _, rfl, rfl, fun j u hj => by simp [itL] at hj⟩
      by_cases hcp : c = p + 1
      · subst hcp
        obtain rfl : m = p + 1 := by omega
        go_wp2_with (at_builtin; refine wpList_append_src rfl (.tmp 24) (.tmp 27) 44 rfl w.heap.size tIt i0 _ 3 56 Tryz.underlying44 hi hz0 hz1 hz2 rfl (by decide) _ 0 [] rfl EM.out _ p (itL (I.l.take p)) rfl (SR.out _ ((Below.refl _ _).alloc (Nat.le_refl _) _)) (itL_one _) (by have := HL.out; have := HM.out; unfold maxLen; omega) (by have := HL.out; have := HM.out; omega) (by simp) ?more)
        case more =>
          intro v1 w3 hown' hgrow
          have B3 : Hid (Below w.heap.size w w3) := Lib.hid (((Below.refl _ _).alloc (Nat.le_refl _) _).grown hgrow (by simp) (fun b hb => by simp [Act.eval, Value.ownBlock] at hb; omega))
          try rw [Nat.zero_add, List.nil_append] at hown'
          have O3 := Lib.hid hown'
          obtain ⟨p1, n1, cc1, rfl⟩ : ∃ a n c, v1 = .slice a n c := by obtain ⟨a, b, e, _⟩ := own_shape hown'; exact ⟨_, _, _, e⟩
          clear hown' hgrow
          go_wp2_with (at_builtin; refine wpList_append_src rfl (.tmp 29) (.tmp 33) 44 rfl w.heap.size tIt i0 _ 3 56 Tryz.underlying44 hi hz0 hz1 hz2 rfl (by decide) _ p (itL (I.l.take p)) rfl O3.out _ 0 (itL (I.l.drop (p + 1))) rfl (SR3.out _ B3.out (by first | rfl | trivial) (by first | rfl | trivial)) (itL_one _) (by have := HL.out; have := HM.out; unfold maxLen; omega) (by have := HL.out; have := HM.out; omega) B3.out.size ?more)
          case more =>
            intro v2 w4 hown' hgrow
            have B4 : Hid (Below w.heap.size w w4) := Lib.hid (B3.out.grown hgrow B3.out.size (fun b hb => (O3.out.lt b (by simpa [Act.eval] using hb)).1))
            have N : Hid (ListRTo (withoutC I.cs k) I.bs w (.returned v2) w4) := Lib.hid (without_end H.out (by rw [HP.out]; exact YES.out) (by rw [HP.out]; exact hown') B4.out)
            obtain ⟨p2, n2, cc2, rfl⟩ : ∃ a n c, v2 = .slice a n c := by obtain ⟨a, b, e, _⟩ := own_shape hown'; exact ⟨_, _, _, e⟩
            clear hown' hgrow
            go_wp2_with fail
            go_ret
            exact N.out
      · skip
        go_wp2_with (at_builtin; refine wpList_append_src rfl (.tmp 24) (.tmp 27) 44 rfl w.heap.size tIt i0 _ 3 56 Tryz.underlying44 hi hz0 hz1 hz2 rfl (by decide) _ 0 [] rfl EM.out _ p (itL (I.l.take p)) rfl (SR.out _ ((Below.refl _ _).alloc (Nat.le_refl _) _)) (itL_one _) (by have := HL.out; have := HM.out; unfold maxLen; omega) (by have := HL.out; have := HM.out; omega) (by simp) ?more)
        case more =>
          intro v1 w3 hown' hgrow
          have B3 : Hid (Below w.heap.size w w3) := Lib.hid (((Below.refl _ _).alloc (Nat.le_refl _) _).grown hgrow (by simp) (fun b hb => by simp [Act.eval, Value.ownBlock] at hb; omega))
          try rw [Nat.zero_add, List.nil_append] at hown'
          have O3 := Lib.hid hown'
          obtain ⟨p1, n1, cc1, rfl⟩ : ∃ a n c, v1 = .slice a n c := by obtain ⟨a, b, e, _⟩ := own_shape hown'; exact ⟨_, _, _, e⟩
          clear hown' hgrow
          go_wp2_with (at_builtin; refine wpList_append_src rfl (.tmp 29) (.tmp 33) 44 rfl w.heap.size tIt i0 _ 3 56 Tryz.underlying44 hi hz0 hz1 hz2 rfl (by decide) _ p (itL (I.l.take p)) rfl O3.out _ (m - (p + 1)) (itL (I.l.drop (p + 1))) rfl (SR2.out _ _ B3.out) (itL_one _) (by have := HL.out; have := HM.out; unfold maxLen; omega) (by have := HL.out; have := HM.out; omega) B3.out.size ?more)
          case more =>
            intro v2 w4 hown' hgrow
            have B4 : Hid (Below w.heap.size w w4) := Lib.hid (B3.out.grown hgrow B3.out.size (fun b hb => (O3.out.lt b (by simpa [Act.eval] using hb)).1))
            have N : Hid (ListRTo (withoutC I.cs k) I.bs w (.returned v2) w4) := Lib.hid (without_end H.out (by rw [HP.out]; exact YES.out) (by rw [HP.out]; exact hown') B4.out)
            obtain ⟨p2, n2, cc2, rfl⟩ : ∃ a n c, v2 = .slice a n c := by obtain ⟨a, b, e, _⟩ := own_shape hown'; exact ⟨_, _, _, e⟩
            clear hown' hgrow
            go_wp2_with fail
            go_ret
            exact N.out
    · have f1 : (y.key == k) = false := by simpa using hk
      have f2 : decide (y.key = k) = false := decide_eq_false hk
      have NO : Hid (isAt I.cs p k = false) := Lib.hid (by unfold isAt; rw [HY.out]; exact decide_eq_false hk)
      generalize y.key = z at c0 f1 f2
      clear hk
      go_wp2_with fail
      go_ret
      exact SAME.out NO.out
end Go.Proofs.YtmbmkfhdiljalaaGreat

/- Plain, the document's side: with (printed by gen_with2.py). -/
namespace Go.Proofs.YtmbmkfhdiljalaaGreat
open Go.RowKit Go.ChangeShapes Go.WideShapes Go.ChangeAt
set_option linter.unusedVariables false
set_option linter.unusedSimpArgs false

theorem with_end {w w' : World} {I : Its} {x cp : It} {v : Value} {n q B : Nat} (h : RsAt w I) (hq : q = nextC I.cs x.key) (hB : w.heap.size ≤ B) (ho : w'.ownsRow B tIt 3 v n ((itL (I.l.take (placeC I.cs x.key)) ++ cp.cells) ++ itL (I.l.drop q))) (hb : Below w.heap.size w w')
    (hcp : SlAt .i32 w' cp.vec ∧ SlAt .u8 w' cp.tag) (hc : cp.c = x.c) (hf : ∀ b ∈ cp.bs, w.heap.size ≤ b) : ListRTo (withC I.cs x.c) I.bs w (.returned v) w' := by
  have e : (itL (I.l.take (placeC I.cs x.key)) ++ cp.cells) ++ itL (I.l.drop q) = itL (I.l.take (placeC I.cs x.key) ++ cp :: I.l.drop q) := by
    rw [itL_append]
    simp [itL]
  rw [e] at ho
  have hn : n = (I.l.take (placeC I.cs x.key) ++ cp :: I.l.drop q).length := by
    have := ho.1
    rw [itL_len] at this
    omega
  subst hn
  refine list_end hB ho hb (fun y hy => ?_) ?_
  · rcases List.mem_append.1 hy with hy | hy
    · exact old_at h hb (List.mem_of_mem_take hy)
    · rcases List.mem_cons.1 hy with rfl | hy
      · exact ⟨hcp, fun b hb => .inr (hf b hb)⟩
      · exact old_at h hb (List.mem_of_mem_drop hy)
  · rw [List.map_append, List.map_cons, cs_take, cs_drop, hc, hq]
    rfl
theorem next_out {I : Its} {k : Int} (h : I.l.length ≤ placeC I.cs k) : nextC I.cs k = placeC I.cs k := by
  unfold nextC isAt
  rw [List.getElem?_eq_none (by simpa [Its.cs] using h)]
  rfl

set_option maxRecDepth 100000 in
set_option maxHeartbeats 8000000 in
theorem with_on {w : World} {I : Its} {x : It} (h : RsAt w I) (hl : I.l.length ≤ 500000) (h1 : SlRd .i32 w x.vec) (h2 : SlRd .u8 w x.tag) :
    Calls Tryz.prog 78 #[I.v, .agg #[.int .u64 x.key, x.vec.v, x.tag.v]] w (ListRTo (withC I.cs x.c) I.bs w) := by
  obtain ⟨i0, hi, hz0, hz1, hz2⟩ := info_parts infoIt
  have PL : Hid (∀ y, Below w.heap.size w y → Calls Tryz.prog 59 #[I.v, .int .u64 x.key] y fun e w' => e = .returned (.int .i64 (placeC I.cs x.key : Int)) ∧ w' = y) := Lib.hid fun y hb => place_on (k := x.key) (h.below hb) (by omega)
  have CP : Hid (∀ y, Below w.heap.size w y → Calls Tryz.prog 22 #[.agg #[.int .u64 x.key, x.vec.v, x.tag.v]] y (OwnTo x.key x.vec.xs x.tag.xs y)) := Lib.hid fun y hb => icopy_on (h1.only ((Only.refl [] w).below hb) (by simp)) (h2.only ((Only.refl [] w).below hb) (by simp))
  unfold OwnTo at CP
  have H := Lib.hid h
  have HL := Lib.hid hl
  have CL : Hid (I.cs.length = I.l.length) := Lib.hid (by simp [Its.cs])
  have PLE : Hid (placeC I.cs x.key ≤ I.l.length) := Lib.hid (by have := placeC_le I.cs x.key; simpa [Its.cs] using this)
  obtain ⟨p, hp⟩ : ∃ p, placeC I.cs x.key = p := ⟨_, rfl⟩
  have HP := Lib.hid hp
  obtain ⟨m, hm⟩ : ∃ m, I.l.length = m := ⟨_, rfl⟩
  have HM := Lib.hid hm
  obtain ⟨c, hcc⟩ : ∃ c, I.c = c := ⟨_, rfl⟩
  have CAP := h.cap
  obtain ⟨a1, ha1⟩ : ∃ a, x.vec.v = a := ⟨_, rfl⟩
  obtain ⟨a2, ha2⟩ : ∃ a, x.tag.v = a := ⟨_, rfl⟩
  obtain ⟨k, hk⟩ : ∃ k, x.key = k := ⟨_, rfl⟩
  have HK := Lib.hid hk
  have sh1 : ∃ b n d, a1 = .slice b n d := ⟨_, _, _, ha1.symm⟩
  have sh2 : ∃ b n d, a2 = .slice b n d := ⟨_, _, _, ha2.symm⟩
  have PM : p ≤ m := by have := PLE.out; omega
  unfold Its.v at PL ⊢
  rw [hm, hcc] at PL ⊢
  rw [hp, hk] at PL
  rw [ha1, ha2, hk] at CP
  rw [hm, hcc] at CAP
  rw [ha1, ha2, hk]
  have HX : Hid (x.c = (k, x.vec.xs, x.tag.xs)) := Lib.hid (by unfold It.c; rw [hk])
  rw [hk] at hp
  have HROW := h.row
  clear h hl h1 h2 hm ha1 ha2 hk
  obtain ⟨b1, n1, d1, rfl⟩ := sh1
  obtain ⟨b2, n2, d2, rfl⟩ := sh2
  generalize hxs : x.vec.xs = xs at CP HX
  generalize hys : x.tag.xs = ys at CP HX
  clear hxs hys hp
  rcases HROW with ⟨ea, el, ec⟩ | ⟨g, ea, _⟩
  · obtain rfl : m = 0 := by rw [← HM.out, el]; rfl
    obtain rfl : p = 0 := by omega
    obtain rfl : c = 0 := by rw [← hcc]; exact ec
    rw [ea] at PL ⊢
    have SR : Hid (∀ y', Below w.heap.size w y' → SrcOf y' (.slice none 0 0) 0 3 (itL (I.l.take 0))) := Lib.hid fun y' hb => .inl ⟨rfl, rfl, rfl⟩
    have HE := Lib.hid el
    have SN : Hid (∀ y', Below w.heap.size w y' → SrcOf y' (.slice none 0 0) 0 3 (itL (I.l.drop 0))) := Lib.hid fun y' hb => .inl ⟨rfl, rfl, by rw [HE.out]; rfl⟩
    clear ea el ec hcc CAP
    go_enter Tryz.func78, Tryz.ntmps78

    go_wp2_with fail
    have R1 : Hid (Row (w.alloc (.cells #[.int .u64 k, .slice b1 n1 d1, .slice b2 n2 d2] tIt)) w.heap.size #[.int .u64 k, .slice b1 n1 d1, .slice b2 n2 d2] tIt) := Lib.hid (Row.made w _ _)
    have B1 : Hid (Below w.heap.size w (w.alloc (.cells #[.int .u64 k, .slice b1 n1 d1, .slice b2 n2 d2] tIt))) := Lib.hid ((Below.refl _ _).alloc (Nat.le_refl _) _)
    have W1 : Hid (w.heap.size < (w.alloc (.cells #[.int .u64 k, .slice b1 n1 d1, .slice b2 n2 d2] tIt)).heap.size) := Lib.hid (by simp)
    refine (PL.out _ B1.out).mono ?_
    rintro _ w2 ⟨rfl, hw⟩
    subst w2
    generalize w.alloc (.cells #[.int .u64 k, .slice b1 n1 d1, .slice b2 n2 d2] tIt) = w1 at *
    have EM : Hid (World.ownsRow (w1.alloc (.cells #[] tIt)) w1.heap.size tIt 3 (.slice (some ⟨w1.heap.size, 0, none⟩) 0 0) 0 []) := Lib.hid (World.ownsRow_lit w1 #[] 0 (Nat.le_refl _) (by simp) rfl)
    go_wp2_with (at_builtin; refine wpList_append_src rfl (.tmp 11) (.tmp 14) 44 rfl w1.heap.size tIt i0 _ 3 56 Tryz.underlying44 hi hz0 hz1 hz2 rfl (by decide) _ 0 [] rfl EM.out _ 0 (itL (I.l.take 0)) rfl (SR.out _ (B1.out.alloc B1.out.size _)) (itL_one _) (by have := HL.out; have := HM.out; unfold maxLen; omega) (by have := HL.out; have := HM.out; omega) (by simp) ?more)
    case more =>
      intro v1 w3 hown' hgrow
      have B3 : Hid (Below w1.heap.size w1 w3) := Lib.hid (((Below.refl _ _).alloc (Nat.le_refl _) _).grown hgrow (by simp) (fun b hb => by simp [Act.eval, Value.ownBlock] at hb; omega))
      have X3 : Hid (Below w.heap.size w w3) := Lib.hid (B1.out.trans (B3.out.mono B1.out.size))
      try rw [Nat.zero_add, List.nil_append] at hown'
      have O3 := Lib.hid hown'
      have RB : Hid (Row w3 w.heap.size #[.int .u64 k, .slice b1 n1 d1, .slice b2 n2 d2] tIt) := Lib.hid (R1.out.only ((Only.refl [] w1).below B3.out) (by simp))
      have r0 : w3.cell? ⟨w.heap.size, 0, none⟩ = some (.int .u64 k) := RB.out.cell 0
      have r1 : w3.cell? ⟨w.heap.size, 1, none⟩ = some (.slice b1 n1 d1) := RB.out.cell 1
      have r2 : w3.cell? ⟨w.heap.size, 2, none⟩ = some (.slice b2 n2 d2) := RB.out.cell 2
      obtain ⟨p1, m1, cc1, rfl⟩ : ∃ a n c, v1 = .slice a n c := by obtain ⟨a, b, e, _⟩ := own_shape hown'; exact ⟨_, _, _, e⟩
      clear hown' hgrow
      go_wp2_with fail
      refine (CP.out w3 X3.out).mono ?_
      rintro _ w4 ⟨va, ta, rfl, e1, e2, s1, s2, fr, hb⟩
      have B4 : Hid (Below w3.heap.size w3 w4) := Lib.hid hb
      have S4 : Hid (SlAt .i32 w4 va ∧ SlAt .u8 w4 ta) := Lib.hid ⟨s1, s2⟩
      have F4 : Hid (∀ b ∈ va.bs ++ ta.bs, w3.heap.size ≤ b ∧ b < w4.heap.size) := Lib.hid fun b hm => ⟨fr b hm, by
        rcases List.mem_append.1 hm with hm | hm
        · exact s1.lt b hm
        · exact s2.lt b hm⟩
      have E4 : Hid (It.c ⟨k, va, ta⟩ = x.c) := Lib.hid (by rw [HX.out]; unfold It.c; rw [e1, e2])
      have O4 : Hid (w4.ownsRow w1.heap.size tIt 3 (.slice p1 m1 cc1) 0 (itL (I.l.take 0))) := Lib.hid (own_keep O3.out fun b hm => B4.out.block b (O3.out.lt b hm).2)
      have X4 : Hid (Below w.heap.size w w4) := Lib.hid (X3.out.trans (hb.mono X3.out.size))
      have L4 : Hid (w1.heap.size ≤ w4.heap.size) := Lib.hid (Nat.le_trans B3.out.size hb.size)
      clear e1 e2 s1 s2 fr hb r0 r1 r2
      unfold Sl.v
      go_wp2_with (at_builtin; refine wpList_append_at rfl (.tmp 16) (.tmp 19) 44 rfl w1.heap.size tIt i0 _ 3 56 Tryz.underlying44 hi hz0 hz1 hz2 rfl (by decide) (.slice p1 m1 cc1) 0 (itL (I.l.take 0)) rfl (O4.out.alloc _) ⟨w4.heap.size, 0, none⟩ 1 1 [.int .u64 k, va.v, ta.v] rfl rfl ?cells (by intro u hu; simp at hu; rcases hu with rfl | rfl | rfl <;> simp [Value.oneCell', Sl.v]) (by have := HL.out; have := HM.out; unfold maxLen; omega) (by have := HL.out; have := HM.out; omega) (by have := L4.out; simp; omega) ?more)
      case cells =>
        intro j u hj
        rw [add_plain, Nat.zero_add]
        have R := Row.made w4 #[.int .u64 k, va.v, ta.v] tIt
        have := R.cell j
        unfold Sl.v at this hj
        rw [this]
        simpa using hj
      case more =>
        intro v2 w5 hown' hgrow hfr
        have G5 : Hid (Only ((Value.slice p1 m1 cc1).ownBlock.toList) w4 w5) := Lib.hid (((Only.refl _ w4).alloc _).grown hgrow (fun b hb => .inl (by rw [hb]; simp)))
        have V1 : Hid (∀ b, (Value.slice p1 m1 cc1).ownBlock = some b → w1.heap.size ≤ b ∧ b < w3.heap.size) := Lib.hid fun b hb => O3.out.lt b hb
        have S5 : Hid (SlAt .i32 w5 va ∧ SlAt .u8 w5 ta) := Lib.hid ⟨S4.out.1.only G5.out (fun b hm hc => by
            have h1 := (F4.out b (List.mem_append_left _ hm)).1
            have h2 := V1.out b (by simpa using hc)
            omega), S4.out.2.only G5.out (fun b hm hc => by
            have h1 := (F4.out b (List.mem_append_right _ hm)).1
            have h2 := V1.out b (by simpa using hc)
            omega)⟩
        have NB : Hid (∀ b, v2.ownBlock = some b → b ∉ va.bs ++ ta.bs) := Lib.hid fun b hb hm => by
          have h1 := F4.out b hm
          rcases hfr with h2 | h2
          · rw [h2] at hb
            have := V1.out b hb
            omega
          · have := h2 b hb
            try simp only [World.size_alloc] at this
            omega
        have X5 : Hid (Below w.heap.size w w5) := Lib.hid (X4.out.trans (G5.out.toBelow X4.out.size (fun b hb => by
          have := (V1.out b (by simpa using hb)).1
          have := B1.out.size
          omega)))
        have O5 : Hid (w5.ownsRow w1.heap.size tIt 3 v2 (0 + 1) (itL (I.l.take 0) ++ It.cells ⟨k, va, ta⟩)) := Lib.hid hown'
        have L5 : Hid (w1.heap.size ≤ w5.heap.size) := Lib.hid (Nat.le_trans L4.out G5.out.size)
        have S6 : Hid (∀ y, Only v2.ownBlock.toList w5 y → SlAt .i32 y va ∧ SlAt .u8 y ta) := Lib.hid fun y k5 => ⟨S5.out.1.only k5 (fun b hm hc => NB.out b (by simpa using hc) (List.mem_append_left _ hm)), S5.out.2.only k5 (fun b hm hc => NB.out b (by simpa using hc) (List.mem_append_right _ hm))⟩
        obtain ⟨p2, m2, cc2, rfl⟩ : ∃ a n c, v2 = .slice a n c := by obtain ⟨a, b, e, _⟩ := own_shape hown'; exact ⟨_, _, _, e⟩
        have RC5 : Hid (Row w5 w.heap.size #[.int .u64 k, .slice b1 n1 d1, .slice b2 n2 d2] tIt) := Lib.hid ((RB.out.only ((Only.refl [] w3).below B4.out) (by simp)).only G5.out (fun hc => by
          have := V1.out _ (by simpa using hc)
          have := W1.out
          omega))
        have r0 : w5.cell? ⟨w.heap.size, 0, none⟩ = some (.int .u64 k) := RC5.out.cell 0
        clear hown' hgrow hfr
        have NX : Hid ((0 : Nat) = nextC I.cs x.key) := Lib.hid (by rw [next_out (by rw [HP.out, HM.out]; exact Nat.le_refl _), HP.out])
        go_upto_region 4 with fail
        go_quiet (fail)
        go_wp2_with (at_builtin; refine wpList_append_src rfl (.tmp 37) (.tmp 40) 44 rfl w1.heap.size tIt i0 _ 3 56 Tryz.underlying44 hi hz0 hz1 hz2 rfl (by decide) _ (0 + 1) (itL (I.l.take 0) ++ It.cells ⟨k, va, ta⟩) rfl O5.out _ 0 (itL (I.l.drop (0))) rfl (SN.out _ (X5.out.trans (((Only.refl [] w5).drewN _).toBelow X5.out.size (by simp)))) (itL_one _) (by have := HL.out; have := HM.out; unfold maxLen; omega) (by have := HL.out; have := HM.out; omega) L5.out ?more)
        case more =>
          intro v3 w6 hown' hgrow
          have G6 : Hid (Only ((Value.slice p2 m2 cc2).ownBlock.toList) w5 w6) := Lib.hid (((Only.refl _ w5).drewN _).grown hgrow (fun b hb => .inl (by rw [show (Value.slice p2 m2 cc2).ownBlock = some b from hb]; simp)))
          have X6 : Hid (Below w.heap.size w w6) := Lib.hid (X5.out.trans (G6.out.toBelow X5.out.size (fun b hb => by
            have := (O5.out.lt b (by simpa using hb)).1
            have := B1.out.size
            omega)))
          have N : Hid (ListRTo (withC I.cs x.c) I.bs w (.returned v3) w6) := Lib.hid (with_end (cp := ⟨k, va, ta⟩) (q := 0) H.out NX.out B1.out.size (by rw [HP.out]; first | exact hown' | (rw [List.append_assoc]; exact hown')) X6.out (S6.out _ G6.out) E4.out (fun b hb => by have := (F4.out b hb).1; have := X3.out.size; omega))
          obtain ⟨p3, m3, cc3, rfl⟩ : ∃ a n c, v3 = .slice a n c := by obtain ⟨a, b, e, _⟩ := own_shape hown'; exact ⟨_, _, _, e⟩
          clear hown' hgrow
          go_wp2_with fail
          go_ret
          exact N.out
  · rw [ea] at PL ⊢
    have HA := Lib.hid ea
    have k1 : (p : Int) ≤ (c : Int) := by omega
    have k2 : (p : Int) ≤ (m : Int) := by omega
    have k3 : (m : Int) ≤ (c : Int) := by omega
    have k4 : (0 : Int) ≤ (p : Int) := by omega
    have k6 : p ≤ c := by omega
    have k8 : m ≤ c := by omega
    have SR : Hid (∀ y', Below w.heap.size w y' → SrcOf y' (.slice (some ⟨g, 0, none⟩) p c) p 3 (itL (I.l.take p))) := Lib.hid fun y' hb => by
      have := (H.out.below hb).src (i := 0) (k := p) (by rw [HM.out]; omega) (a := some ⟨g, 0, none⟩) (by rw [HA.out]; simp [add_plain]) (c := c) (fun e => by rw [HA.out] at e; cases e)
      simpa using this
    have ST : Hid (∀ y' q c', Below w.heap.size w y' → q ≤ m → SrcOf y' (.slice (some ⟨g, q * 3, none⟩) (m - q) c') (m - q) 3 (itL (I.l.drop q))) := Lib.hid fun y' q c' hb hq => by
      have := (H.out.below hb).src (i := q) (k := m - q) (by rw [HM.out]; omega) (a := some ⟨g, q * 3, none⟩) (by rw [HA.out]; simp [add_plain]) (c := c') (fun e => by rw [HA.out] at e; cases e)
      rwa [List.take_of_length_le (by rw [List.length_drop, HM.out]; exact Nat.le_refl _)] at this
    have SE : Hid (∀ y' q, q = m → SrcOf y' (.slice (some ⟨g, 0, none⟩) 0 0) 0 3 (itL (I.l.drop q))) := Lib.hid fun y' q hq => by
      have e3 : I.l.drop q = [] := List.drop_eq_nil_of_le (by rw [HM.out]; omega)
      rw [e3]
      exact .inr ⟨_, _, rfl, rfl, fun j u hj => by simp [itL] at hj⟩
    have SF : Hid (∀ y' q c', q = m → SrcOf y' (.slice (some ⟨g, q * 3, none⟩) 0 c') 0 3 (itL (I.l.drop q))) := Lib.hid fun y' q c' hq => by
      have e3 : I.l.drop q = [] := List.drop_eq_nil_of_le (by rw [HM.out]; omega)
      rw [e3]
      exact .inr ⟨_, _, rfl, rfl, fun j u hj => by simp [itL] at hj⟩
    have HC := Lib.hid hcc
    clear ea hcc
    go_enter Tryz.func78, Tryz.ntmps78

    go_wp2_with fail
    have R1 : Hid (Row (w.alloc (.cells #[.int .u64 k, .slice b1 n1 d1, .slice b2 n2 d2] tIt)) w.heap.size #[.int .u64 k, .slice b1 n1 d1, .slice b2 n2 d2] tIt) := Lib.hid (Row.made w _ _)
    have B1 : Hid (Below w.heap.size w (w.alloc (.cells #[.int .u64 k, .slice b1 n1 d1, .slice b2 n2 d2] tIt))) := Lib.hid ((Below.refl _ _).alloc (Nat.le_refl _) _)
    have W1 : Hid (w.heap.size < (w.alloc (.cells #[.int .u64 k, .slice b1 n1 d1, .slice b2 n2 d2] tIt)).heap.size) := Lib.hid (by simp)
    refine (PL.out _ B1.out).mono ?_
    rintro _ w2 ⟨rfl, hw⟩
    subst w2
    generalize w.alloc (.cells #[.int .u64 k, .slice b1 n1 d1, .slice b2 n2 d2] tIt) = w1 at *
    have EM : Hid (World.ownsRow (w1.alloc (.cells #[] tIt)) w1.heap.size tIt 3 (.slice (some ⟨w1.heap.size, 0, none⟩) 0 0) 0 []) := Lib.hid (World.ownsRow_lit w1 #[] 0 (Nat.le_refl _) (by simp) rfl)
    go_wp2_with (at_builtin; refine wpList_append_src rfl (.tmp 11) (.tmp 14) 44 rfl w1.heap.size tIt i0 _ 3 56 Tryz.underlying44 hi hz0 hz1 hz2 rfl (by decide) _ 0 [] rfl EM.out _ p (itL (I.l.take p)) rfl (SR.out _ (B1.out.alloc B1.out.size _)) (itL_one _) (by have := HL.out; have := HM.out; unfold maxLen; omega) (by have := HL.out; have := HM.out; omega) (by simp) ?more)
    case more =>
      intro v1 w3 hown' hgrow
      have B3 : Hid (Below w1.heap.size w1 w3) := Lib.hid (((Below.refl _ _).alloc (Nat.le_refl _) _).grown hgrow (by simp) (fun b hb => by simp [Act.eval, Value.ownBlock] at hb; omega))
      have X3 : Hid (Below w.heap.size w w3) := Lib.hid (B1.out.trans (B3.out.mono B1.out.size))
      try rw [Nat.zero_add, List.nil_append] at hown'
      have O3 := Lib.hid hown'
      have RB : Hid (Row w3 w.heap.size #[.int .u64 k, .slice b1 n1 d1, .slice b2 n2 d2] tIt) := Lib.hid (R1.out.only ((Only.refl [] w1).below B3.out) (by simp))
      have r0 : w3.cell? ⟨w.heap.size, 0, none⟩ = some (.int .u64 k) := RB.out.cell 0
      have r1 : w3.cell? ⟨w.heap.size, 1, none⟩ = some (.slice b1 n1 d1) := RB.out.cell 1
      have r2 : w3.cell? ⟨w.heap.size, 2, none⟩ = some (.slice b2 n2 d2) := RB.out.cell 2
      obtain ⟨p1, m1, cc1, rfl⟩ : ∃ a n c, v1 = .slice a n c := by obtain ⟨a, b, e, _⟩ := own_shape hown'; exact ⟨_, _, _, e⟩
      clear hown' hgrow
      go_wp2_with fail
      refine (CP.out w3 X3.out).mono ?_
      rintro _ w4 ⟨va, ta, rfl, e1, e2, s1, s2, fr, hb⟩
      have B4 : Hid (Below w3.heap.size w3 w4) := Lib.hid hb
      have S4 : Hid (SlAt .i32 w4 va ∧ SlAt .u8 w4 ta) := Lib.hid ⟨s1, s2⟩
      have F4 : Hid (∀ b ∈ va.bs ++ ta.bs, w3.heap.size ≤ b ∧ b < w4.heap.size) := Lib.hid fun b hm => ⟨fr b hm, by
        rcases List.mem_append.1 hm with hm | hm
        · exact s1.lt b hm
        · exact s2.lt b hm⟩
      have E4 : Hid (It.c ⟨k, va, ta⟩ = x.c) := Lib.hid (by rw [HX.out]; unfold It.c; rw [e1, e2])
      have O4 : Hid (w4.ownsRow w1.heap.size tIt 3 (.slice p1 m1 cc1) p (itL (I.l.take p))) := Lib.hid (own_keep O3.out fun b hm => B4.out.block b (O3.out.lt b hm).2)
      have X4 : Hid (Below w.heap.size w w4) := Lib.hid (X3.out.trans (hb.mono X3.out.size))
      have L4 : Hid (w1.heap.size ≤ w4.heap.size) := Lib.hid (Nat.le_trans B3.out.size hb.size)
      clear e1 e2 s1 s2 fr hb r0 r1 r2
      unfold Sl.v
      go_wp2_with (at_builtin; refine wpList_append_at rfl (.tmp 16) (.tmp 19) 44 rfl w1.heap.size tIt i0 _ 3 56 Tryz.underlying44 hi hz0 hz1 hz2 rfl (by decide) (.slice p1 m1 cc1) p (itL (I.l.take p)) rfl (O4.out.alloc _) ⟨w4.heap.size, 0, none⟩ 1 1 [.int .u64 k, va.v, ta.v] rfl rfl ?cells (by intro u hu; simp at hu; rcases hu with rfl | rfl | rfl <;> simp [Value.oneCell', Sl.v]) (by have := HL.out; have := HM.out; unfold maxLen; omega) (by have := HL.out; have := HM.out; omega) (by have := L4.out; simp; omega) ?more)
      case cells =>
        intro j u hj
        rw [add_plain, Nat.zero_add]
        have R := Row.made w4 #[.int .u64 k, va.v, ta.v] tIt
        have := R.cell j
        unfold Sl.v at this hj
        rw [this]
        simpa using hj
      case more =>
        intro v2 w5 hown' hgrow hfr
        have G5 : Hid (Only ((Value.slice p1 m1 cc1).ownBlock.toList) w4 w5) := Lib.hid (((Only.refl _ w4).alloc _).grown hgrow (fun b hb => .inl (by rw [hb]; simp)))
        have V1 : Hid (∀ b, (Value.slice p1 m1 cc1).ownBlock = some b → w1.heap.size ≤ b ∧ b < w3.heap.size) := Lib.hid fun b hb => O3.out.lt b hb
        have S5 : Hid (SlAt .i32 w5 va ∧ SlAt .u8 w5 ta) := Lib.hid ⟨S4.out.1.only G5.out (fun b hm hc => by
            have h1 := (F4.out b (List.mem_append_left _ hm)).1
            have h2 := V1.out b (by simpa using hc)
            omega), S4.out.2.only G5.out (fun b hm hc => by
            have h1 := (F4.out b (List.mem_append_right _ hm)).1
            have h2 := V1.out b (by simpa using hc)
            omega)⟩
        have NB : Hid (∀ b, v2.ownBlock = some b → b ∉ va.bs ++ ta.bs) := Lib.hid fun b hb hm => by
          have h1 := F4.out b hm
          rcases hfr with h2 | h2
          · rw [h2] at hb
            have := V1.out b hb
            omega
          · have := h2 b hb
            try simp only [World.size_alloc] at this
            omega
        have X5 : Hid (Below w.heap.size w w5) := Lib.hid (X4.out.trans (G5.out.toBelow X4.out.size (fun b hb => by
          have := (V1.out b (by simpa using hb)).1
          have := B1.out.size
          omega)))
        have O5 : Hid (w5.ownsRow w1.heap.size tIt 3 v2 (p + 1) (itL (I.l.take p) ++ It.cells ⟨k, va, ta⟩)) := Lib.hid hown'
        have L5 : Hid (w1.heap.size ≤ w5.heap.size) := Lib.hid (Nat.le_trans L4.out G5.out.size)
        have S6 : Hid (∀ y, Only v2.ownBlock.toList w5 y → SlAt .i32 y va ∧ SlAt .u8 y ta) := Lib.hid fun y k5 => ⟨S5.out.1.only k5 (fun b hm hc => NB.out b (by simpa using hc) (List.mem_append_left _ hm)), S5.out.2.only k5 (fun b hm hc => NB.out b (by simpa using hc) (List.mem_append_right _ hm))⟩
        obtain ⟨p2, m2, cc2, rfl⟩ : ∃ a n c, v2 = .slice a n c := by obtain ⟨a, b, e, _⟩ := own_shape hown'; exact ⟨_, _, _, e⟩
        have RC5 : Hid (Row w5 w.heap.size #[.int .u64 k, .slice b1 n1 d1, .slice b2 n2 d2] tIt) := Lib.hid ((RB.out.only ((Only.refl [] w3).below B4.out) (by simp)).only G5.out (fun hc => by
          have := V1.out _ (by simpa using hc)
          have := W1.out
          omega))
        have r0 : w5.cell? ⟨w.heap.size, 0, none⟩ = some (.int .u64 k) := RC5.out.cell 0
        clear hown' hgrow hfr
        by_cases hpm : p = m
        · subst hpm
          have NX : Hid (p = nextC I.cs x.key) := Lib.hid (by rw [next_out (by rw [HP.out, HM.out]; exact Nat.le_refl _), HP.out])
          have q2 : decide ((p : Int) < (p : Int)) = false := decide_eq_false (by omega)
          have q3 : decide (p < p) = false := decide_eq_false (by omega)
          by_cases hcp : c = p
          · subst hcp
            go_upto_region 4 with fail
            go_quiet (fail)
            go_wp2_with (at_builtin; refine wpList_append_src rfl (.tmp 37) (.tmp 40) 44 rfl w1.heap.size tIt i0 _ 3 56 Tryz.underlying44 hi hz0 hz1 hz2 rfl (by decide) _ (c + 1) (itL (I.l.take c) ++ It.cells ⟨k, va, ta⟩) rfl O5.out _ 0 (itL (I.l.drop (c))) rfl (SE.out _ _ (by first | rfl | trivial)) (itL_one _) (by have := HL.out; have := HM.out; unfold maxLen; omega) (by have := HL.out; have := HM.out; omega) L5.out ?more)
            case more =>
              intro v3 w6 hown' hgrow
              have G6 : Hid (Only ((Value.slice p2 m2 cc2).ownBlock.toList) w5 w6) := Lib.hid (((Only.refl _ w5).drewN _).grown hgrow (fun b hb => .inl (by rw [show (Value.slice p2 m2 cc2).ownBlock = some b from hb]; simp)))
              have X6 : Hid (Below w.heap.size w w6) := Lib.hid (X5.out.trans (G6.out.toBelow X5.out.size (fun b hb => by
                have := (O5.out.lt b (by simpa using hb)).1
                have := B1.out.size
                omega)))
              have N : Hid (ListRTo (withC I.cs x.c) I.bs w (.returned v3) w6) := Lib.hid (with_end (cp := ⟨k, va, ta⟩) (q := c) H.out NX.out B1.out.size (by rw [HP.out]; first | exact hown' | (rw [List.append_assoc]; exact hown')) X6.out (S6.out _ G6.out) E4.out (fun b hb => by have := (F4.out b hb).1; have := X3.out.size; omega))
              obtain ⟨p3, m3, cc3, rfl⟩ : ∃ a n c, v3 = .slice a n c := by obtain ⟨a, b, e, _⟩ := own_shape hown'; exact ⟨_, _, _, e⟩
              clear hown' hgrow
              go_wp2_with fail
              go_ret
              exact N.out

          · go_upto_region 4 with fail
            go_quiet (fail)
            go_wp2_with (at_builtin; refine wpList_append_src rfl (.tmp 37) (.tmp 40) 44 rfl w1.heap.size tIt i0 _ 3 56 Tryz.underlying44 hi hz0 hz1 hz2 rfl (by decide) _ (p + 1) (itL (I.l.take p) ++ It.cells ⟨k, va, ta⟩) rfl O5.out _ 0 (itL (I.l.drop (p))) rfl (SF.out _ p _ (by first | rfl | trivial)) (itL_one _) (by have := HL.out; have := HM.out; unfold maxLen; omega) (by have := HL.out; have := HM.out; omega) L5.out ?more)
            case more =>
              intro v3 w6 hown' hgrow
              have G6 : Hid (Only ((Value.slice p2 m2 cc2).ownBlock.toList) w5 w6) := Lib.hid (((Only.refl _ w5).drewN _).grown hgrow (fun b hb => .inl (by rw [show (Value.slice p2 m2 cc2).ownBlock = some b from hb]; simp)))
              have X6 : Hid (Below w.heap.size w w6) := Lib.hid (X5.out.trans (G6.out.toBelow X5.out.size (fun b hb => by
                have := (O5.out.lt b (by simpa using hb)).1
                have := B1.out.size
                omega)))
              have N : Hid (ListRTo (withC I.cs x.c) I.bs w (.returned v3) w6) := Lib.hid (with_end (cp := ⟨k, va, ta⟩) (q := p) H.out NX.out B1.out.size (by rw [HP.out]; first | exact hown' | (rw [List.append_assoc]; exact hown')) X6.out (S6.out _ G6.out) E4.out (fun b hb => by have := (F4.out b hb).1; have := X3.out.size; omega))
              obtain ⟨p3, m3, cc3, rfl⟩ : ∃ a n c, v3 = .slice a n c := by obtain ⟨a, b, e, _⟩ := own_shape hown'; exact ⟨_, _, _, e⟩
              clear hown' hgrow
              go_wp2_with fail
              go_ret
              exact N.out

        · have hlt : p < m := by omega
          have q2 : decide ((p : Int) < (m : Int)) = true := decide_eq_true (by omega)
          have q3 : decide (p < m) = true := decide_eq_true hlt
          obtain ⟨y, hy⟩ : ∃ y, I.l[p]? = some y := ⟨_, List.getElem?_eq_getElem (by rw [HM.out]; exact hlt)⟩
          obtain ⟨g', eg, hc⟩ := (H.out.below X5.out).cell hy
          have c0 : w5.cell? ⟨g', p * 3, none⟩ = some (.int .u64 y.key) := hc 0 (by omega)
          rw [HA.out] at eg
          cases eg
          have HY := Lib.hid (cs_get hy)
          clear hc hy
          by_cases hyk : y.key = k
          · have NX : Hid (p + 1 = nextC I.cs x.key) := Lib.hid (by unfold nextC isAt; rw [HP.out, HY.out]; simp [It.c, hyk, HK.out])
            rw [hyk] at c0
            clear hyk
            have e1 : IntKind.i64.wrap ((p : Int) + 1) = ((p + 1 : Nat) : Int) := w_inc _ (by have := HL.out; have := HM.out; omega)
            have k9 : ((p + 1 : Nat) : Int) ≤ (m : Int) := by omega
            have k10 : (0 : Int) ≤ ((p + 1 : Nat) : Int) := by omega
            have k11 : p + 1 ≤ m := by omega
            by_cases hcp : c = p + 1
            · subst hcp
              obtain rfl : m = p + 1 := by omega
              have q4 : decide ((p : Int) < (p : Int) + 1) = true := decide_eq_true (by omega)
              have q5 : decide (p < p + 1) = true := decide_eq_true (by omega)
              have q6 : ((p : Int) < (p : Int) + 1) := by omega
              go_upto_region 4 with fail
              go_quiet (fail)
              go_wp2_with (at_builtin; refine wpList_append_src rfl (.tmp 37) (.tmp 40) 44 rfl w1.heap.size tIt i0 _ 3 56 Tryz.underlying44 hi hz0 hz1 hz2 rfl (by decide) _ (p + 1) (itL (I.l.take p) ++ It.cells ⟨k, va, ta⟩) rfl O5.out _ 0 (itL (I.l.drop (p + 1))) rfl (SE.out _ _ (by first | rfl | trivial)) (itL_one _) (by have := HL.out; have := HM.out; unfold maxLen; omega) (by have := HL.out; have := HM.out; omega) L5.out ?more)
              case more =>
                intro v3 w6 hown' hgrow
                have G6 : Hid (Only ((Value.slice p2 m2 cc2).ownBlock.toList) w5 w6) := Lib.hid (((Only.refl _ w5).drewN _).grown hgrow (fun b hb => .inl (by rw [show (Value.slice p2 m2 cc2).ownBlock = some b from hb]; simp)))
                have X6 : Hid (Below w.heap.size w w6) := Lib.hid (X5.out.trans (G6.out.toBelow X5.out.size (fun b hb => by
                  have := (O5.out.lt b (by simpa using hb)).1
                  have := B1.out.size
                  omega)))
                have N : Hid (ListRTo (withC I.cs x.c) I.bs w (.returned v3) w6) := Lib.hid (with_end (cp := ⟨k, va, ta⟩) (q := p + 1) H.out NX.out B1.out.size (by rw [HP.out]; first | exact hown' | (rw [List.append_assoc]; exact hown')) X6.out (S6.out _ G6.out) E4.out (fun b hb => by have := (F4.out b hb).1; have := X3.out.size; omega))
                obtain ⟨p3, m3, cc3, rfl⟩ : ∃ a n c, v3 = .slice a n c := by obtain ⟨a, b, e, _⟩ := own_shape hown'; exact ⟨_, _, _, e⟩
                clear hown' hgrow
                go_wp2_with fail
                go_ret
                exact N.out

            · go_upto_region 4 with fail
              go_quiet (fail)
              go_wp2_with (at_builtin; refine wpList_append_src rfl (.tmp 37) (.tmp 40) 44 rfl w1.heap.size tIt i0 _ 3 56 Tryz.underlying44 hi hz0 hz1 hz2 rfl (by decide) _ (p + 1) (itL (I.l.take p) ++ It.cells ⟨k, va, ta⟩) rfl O5.out _ (m - (p + 1)) (itL (I.l.drop (p + 1))) rfl (ST.out _ (p + 1) _ (X5.out.trans (((Only.refl [] w5).drewN _).toBelow X5.out.size (by simp))) (by omega)) (itL_one _) (by have := HL.out; have := HM.out; unfold maxLen; omega) (by have := HL.out; have := HM.out; omega) L5.out ?more)
              case more =>
                intro v3 w6 hown' hgrow
                have G6 : Hid (Only ((Value.slice p2 m2 cc2).ownBlock.toList) w5 w6) := Lib.hid (((Only.refl _ w5).drewN _).grown hgrow (fun b hb => .inl (by rw [show (Value.slice p2 m2 cc2).ownBlock = some b from hb]; simp)))
                have X6 : Hid (Below w.heap.size w w6) := Lib.hid (X5.out.trans (G6.out.toBelow X5.out.size (fun b hb => by
                  have := (O5.out.lt b (by simpa using hb)).1
                  have := B1.out.size
                  omega)))
                have N : Hid (ListRTo (withC I.cs x.c) I.bs w (.returned v3) w6) := Lib.hid (with_end (cp := ⟨k, va, ta⟩) (q := p + 1) H.out NX.out B1.out.size (by rw [HP.out]; first | exact hown' | (rw [List.append_assoc]; exact hown')) X6.out (S6.out _ G6.out) E4.out (fun b hb => by have := (F4.out b hb).1; have := X3.out.size; omega))
                obtain ⟨p3, m3, cc3, rfl⟩ : ∃ a n c, v3 = .slice a n c := by obtain ⟨a, b, e, _⟩ := own_shape hown'; exact ⟨_, _, _, e⟩
                clear hown' hgrow
                go_wp2_with fail
                go_ret
                exact N.out

          · have NX : Hid (p = nextC I.cs x.key) := Lib.hid (by unfold nextC isAt; rw [HP.out, HY.out]; simp [It.c, hyk, HK.out])
            have f1 : (y.key == k) = false := by simpa using hyk
            have f2 : decide (y.key = k) = false := decide_eq_false hyk
            have hcp : ¬ c = p := by omega
            generalize y.key = z at c0 f1 f2
            clear hyk
            go_upto_region 4 with fail
            go_quiet (fail)
            go_wp2_with (at_builtin; refine wpList_append_src rfl (.tmp 37) (.tmp 40) 44 rfl w1.heap.size tIt i0 _ 3 56 Tryz.underlying44 hi hz0 hz1 hz2 rfl (by decide) _ (p + 1) (itL (I.l.take p) ++ It.cells ⟨k, va, ta⟩) rfl O5.out _ (m - p) (itL (I.l.drop (p))) rfl (ST.out _ p _ (X5.out.trans (((Only.refl [] w5).drewN _).toBelow X5.out.size (by simp))) (by omega)) (itL_one _) (by have := HL.out; have := HM.out; unfold maxLen; omega) (by have := HL.out; have := HM.out; omega) L5.out ?more)
            case more =>
              intro v3 w6 hown' hgrow
              have G6 : Hid (Only ((Value.slice p2 m2 cc2).ownBlock.toList) w5 w6) := Lib.hid (((Only.refl _ w5).drewN _).grown hgrow (fun b hb => .inl (by rw [show (Value.slice p2 m2 cc2).ownBlock = some b from hb]; simp)))
              have X6 : Hid (Below w.heap.size w w6) := Lib.hid (X5.out.trans (G6.out.toBelow X5.out.size (fun b hb => by
                have := (O5.out.lt b (by simpa using hb)).1
                have := B1.out.size
                omega)))
              have N : Hid (ListRTo (withC I.cs x.c) I.bs w (.returned v3) w6) := Lib.hid (with_end (cp := ⟨k, va, ta⟩) (q := p) H.out NX.out B1.out.size (by rw [HP.out]; first | exact hown' | (rw [List.append_assoc]; exact hown')) X6.out (S6.out _ G6.out) E4.out (fun b hb => by have := (F4.out b hb).1; have := X3.out.size; omega))
              obtain ⟨p3, m3, cc3, rfl⟩ : ∃ a n c, v3 = .slice a n c := by obtain ⟨a, b, e, _⟩ := own_shape hown'; exact ⟨_, _, _, e⟩
              clear hown' hgrow
              go_wp2_with fail
              go_ret
              exact N.out
end Go.Proofs.YtmbmkfhdiljalaaGreat

/- Plain, the document's side: a DB in memory; Find. -/
namespace Go.Proofs.YtmbmkfhdiljalaaGreat
open Go.RowKit Go.ChangeShapes Go.WideShapes Go.ChangeAt
set_option linter.unusedVariables false
set_option linter.unusedSimpArgs false

abbrev tRd : TypeId := 42
abbrev tSd : TypeId := 47
abbrev tRt : TypeId := 59
/-- An open transaction of the document's. -/
structure RTx where
  n : Int
  sees : Its
  wa : Option Addr
  wc : Nat
  wr : List Int
  since : Sl
def RTx.wv (x : RTx) : Value := .slice x.wa x.wr.length x.wc
def RTx.cells (x : RTx) : List Value := [.int .u64 x.n, x.sees.v, x.wv, x.since.v]
def txL (l : List RTx) : List Value := l.flatMap RTx.cells
theorem txL_append (a b : List RTx) : txL (a ++ b) = txL a ++ txL b := by simp [txL]
theorem txL_len (l : List RTx) : (txL l).length = l.length * 4 := by
  induction l with
  | nil => rfl
  | cons x l ih =>
    show (x.cells ++ txL l).length = _
    rw [List.length_append, ih]
    simp [RTx.cells]
    omega
theorem txL_get (l : List RTx) : ∀ (j : Nat) (x : RTx), l[j]? = some x → ∀ i, i < 4 → (txL l)[j * 4 + i]? = x.cells[i]? := by
  induction l with
  | nil => intro j x h; simp at h
  | cons y l ih =>
    intro j x h i hi
    show (y.cells ++ txL l)[j * 4 + i]? = _
    cases j with
    | zero =>
      simp only [List.getElem?_cons_zero, Option.some.injEq] at h
      subst h
      rw [List.getElem?_append_left (by simp [RTx.cells]; omega)]
      simp
    | succ j =>
      rw [List.getElem?_append_right (by simp [RTx.cells]; omega)]
      have e : (j + 1) * 4 + i - y.cells.length = j * 4 + i := by simp [RTx.cells]; omega
      rw [e]
      exact ih j x (by simpa using h) i hi
structure RDB where
  dim : Int
  begun : Int
  done : Its
  oa : Option Addr
  oc : Nat
  op : List RTx
def RDB.ov (D : RDB) : Value := .slice D.oa D.op.length D.oc
def wrB2 (l : List RTx) : List Nat := l.flatMap fun o => o.wv.ownBlock.toList
def RDB.own (D : RDB) (p s : Nat) : List Nat := p :: s :: (D.ov.ownBlock.toList ++ wrB2 D.op)
def opR (l : List RTx) : List Nat := l.flatMap fun o => o.sees.bs ++ o.since.bs
def RDB.reads (D : RDB) : List Nat := D.done.bs ++ opR D.op
structure RDB.Fine (D : RDB) : Prop where
  dim : 1 ≤ D.dim ∧ D.dim ≤ 4096
  begun : 0 ≤ D.begun ∧ D.begun ≤ 1000000
  len : D.op.length ≤ 8
  done : D.done.l.length ≤ 100000
  ops : ∀ o ∈ D.op, (0 < o.n ∧ o.n ≤ D.begun) ∧ o.sees.l.length ≤ 100000 ∧ o.wr.length ≤ 100000 ∧ o.since.xs.length ≤ 100000
structure RdbAt (w : World) (B p s : Nat) (D : RDB) : Prop where
  row : Row w p #[.pointer (some ⟨s, 0, none⟩), .int .u64 D.begun] tRd
  srow : Row w s #[.int .i64 D.dim, D.done.v, D.ov] tSd
  oown : w.ownsRow B tRt 4 D.ov D.op.length (txL D.op)
  wown : ∀ o ∈ D.op, w.ownsRow B tU 1 o.wv o.wr.length (o.wr.map (Value.int .u64))
  done : RsAt w D.done
  sees : ∀ o ∈ D.op, RsAt w o.sees
  since : ∀ o ∈ D.op, SlAt .u64 w o.since
  nd : (D.own p s).Nodup
  ge : ∀ b ∈ D.own p s, B ≤ b
  gr : ∀ b ∈ D.reads, B ≤ b
  ap : ∀ b ∈ D.own p s, b ∉ D.reads
  fine : D.Fine
theorem mem_wrB2 {l : List RTx} {o : RTx} (h : o ∈ l) {b : Nat} (hb : o.wv.ownBlock = some b) : b ∈ wrB2 l := List.mem_flatMap.2 ⟨o, h, by simp [hb]⟩
theorem mem_opR {l : List RTx} {o : RTx} (h : o ∈ l) {b : Nat} (hb : b ∈ o.sees.bs ∨ b ∈ o.since.bs) : b ∈ opR l := List.mem_flatMap.2 ⟨o, h, List.mem_append.2 hb⟩
theorem RdbAt.lt {w : World} {B p s : Nat} {D : RDB} (h : RdbAt w B p s D) : ∀ b ∈ D.own p s, b < w.heap.size := by
  intro b hb
  simp only [RDB.own, List.mem_cons, List.mem_append] at hb
  rcases hb with rfl | rfl | hb | hb
  · exact h.row.lt
  · exact h.srow.lt
  · exact (h.oown.lt b (by simpa using hb)).2
  · obtain ⟨o, ho, hb⟩ := List.mem_flatMap.1 hb
    exact ((h.wown o ho).lt b (by simpa using hb)).2
theorem RdbAt.ltr {w : World} {B p s : Nat} {D : RDB} (h : RdbAt w B p s D) : ∀ b ∈ D.reads, b < w.heap.size := by
  intro b hb
  rcases List.mem_append.1 hb with hb | hb
  · exact h.done.lt b hb
  · obtain ⟨o, ho, hb⟩ := List.mem_flatMap.1 hb
    rcases List.mem_append.1 hb with hb | hb
    · exact (h.sees o ho).lt b hb
    · exact (h.since o ho).lt b hb
theorem RdbAt.only {G : List Nat} {w w' : World} {B p s : Nat} {D : RDB} (h : RdbAt w B p s D) (k : Only G w w') (hG : ∀ b ∈ G, b ∉ D.own p s ∧ b ∉ D.reads) : RdbAt w' B p s D := by
  have h1 : ∀ b, b ∈ D.own p s → b ∉ G := fun b hb hg => (hG b hg).1 hb
  have h2 : ∀ b, b ∈ D.reads → b ∉ G := fun b hb hg => (hG b hg).2 hb
  exact ⟨h.row.only k (h1 _ (by simp [RDB.own])), h.srow.only k (h1 _ (by simp [RDB.own])),
    own_keep h.oown fun b hb => k.block b (h.oown.lt b hb).2 (h1 _ (by simp [RDB.own, hb])),
    fun o ho => own_keep (h.wown o ho) fun b hb => k.block b ((h.wown o ho).lt b hb).2 (h1 _ (by simp [RDB.own, mem_wrB2 ho hb])),
    h.done.only k fun b hb => h2 b (List.mem_append_left _ hb),
    fun o ho => (h.sees o ho).only k fun b hb => h2 b (List.mem_append_right _ (mem_opR ho (.inl hb))),
    fun o ho => (h.since o ho).only k fun b hb => h2 b (List.mem_append_right _ (mem_opR ho (.inr hb))), h.nd, h.ge, h.gr, h.ap, h.fine⟩
theorem RdbAt.below {w w' : World} {B p s : Nat} {D : RDB} (h : RdbAt w B p s D) (k : Below w.heap.size w w') : RdbAt w' B p s D := h.only ((Only.refl [] w).below k) (by simp)
def RdbF (w : World) (B p : Nat) (D : RDB) (F H : List Nat) : Prop := ∃ s, RdbAt w B p s D ∧ F = D.own p s ∧ H = D.reads
/-- Where the cells of an open transaction lie. -/
theorem RdbAt.at_ {w : World} {B p s : Nat} {D : RDB} (h : RdbAt w B p s D) {j : Nat} {x : RTx} (hx : D.op[j]? = some x) : ∃ g, D.oa = some ⟨g, 0, none⟩ ∧ D.op.length ≤ D.oc ∧ ∀ i, i < 4 → w.cell? ⟨g, j * 4 + i, none⟩ = x.cells[i]? := by
  have hj := (List.getElem?_eq_some_iff.1 hx).1
  rcases h.oown.2 with ⟨e, h0⟩ | ⟨g, cap, cur, e, hb, hg, hc, _⟩
  · omega
  · have e2 := e
    unfold RDB.ov at e2
    simp only [Value.slice.injEq] at e2
    refine ⟨g, e2.1, by omega, fun i hi => ?_⟩
    have ho := h.oown
    rw [e] at ho
    rw [ho.cellAt _ (by omega), txL_get D.op j x hx i hi]
/-- Where a transaction stands. -/
def findR (l : List RTx) (t : Int) : Option Nat := l.findIdx? fun x => decide (x.n = t)
def findV (l : List RTx) (t : Int) : Int := match findR l t with
  | some i => (i : Int)
  | none => -1
theorem findR_some {l : List RTx} {t : Int} {j : Nat} {x : RTx} (hx : l[j]? = some x) (hn : x.n = t) (h : ∀ (i : Nat) (y : RTx), i < j → l[i]? = some y → y.n ≠ t) : findR l t = some j := by
  unfold findR
  rw [List.findIdx?_eq_some_iff_getElem]
  obtain ⟨hj, he⟩ := List.getElem?_eq_some_iff.1 hx
  refine ⟨hj, by simp [he, hn], fun i hi => ?_⟩
  have := h i l[i] hi (List.getElem?_eq_getElem (by omega))
  simp [this]
theorem findR_none {l : List RTx} {t : Int} (h : ∀ (i : Nat) (y : RTx), l[i]? = some y → y.n ≠ t) : findR l t = none := by
  unfold findR
  rw [List.findIdx?_eq_none_iff]
  intro x hx
  obtain ⟨i, hi⟩ := List.mem_iff_getElem?.1 hx
  simp [h i x hi]
set_option maxHeartbeats 2000000 in
theorem find_ref {w : World} {B p s : Nat} {D : RDB} {t : Int} (h : RdbAt w B p s D) :
    Calls Tryz.prog 58 #[.pointer (some ⟨s, 0, none⟩), .int .u64 t] w fun e w' => e = .returned (.int .i64 (findV D.op t)) ∧ w' = w := by
  have H := Lib.hid h
  obtain ⟨m, hm⟩ : ∃ m, D.op.length = m := ⟨_, rfl⟩
  have HM := Lib.hid hm
  have HN : Hid (m ≤ 8) := Lib.hid (by have := h.fine.len; omega)
  obtain ⟨a, ha⟩ : ∃ a, D.oa = a := ⟨_, rfl⟩
  have HA := Lib.hid ha
  have c2 : w.cell? ⟨s, 2, none⟩ = some (.slice a m D.oc) := by
    have := h.srow.cell 2
    rw [← ha, ← hm]
    exact this
  have CAP : Hid (D.oa = a) := Lib.hid ha
  generalize D.oc = c at c2
  clear h hm ha
  go_enter Tryz.func58, Tryz.ntmps58
  go_wp2_with fail
  go_loopw [5] (fun u wr => ∃ j : Nat, u = .int .i64 (j : Int) ∧ Hid (j ≤ m) ∧ Hid (wr = w) ∧ Hid (∀ i x, i < j → D.op[i]? = some x → x.n ≠ t)) (fun u _ => m - (intOf u).toNat)
  case atStart => exact ⟨0, rfl, Lib.hid (Nat.zero_le _), Lib.hid rfl, Lib.hid (fun i x hi => by omega)⟩
  case round =>
    obtain ⟨j, rfl, HK, hw, HF⟩ := hrel
    have hw2 := hw.out
    clear hw
    rename World => w3
    subst w3
    by_cases hlt : j < m
    · have d1 : decide ((j : Int) < (m : Int)) = true := decide_eq_true (by omega)
      have d1' : decide (j < m) = true := decide_eq_true hlt
      have e1 : IntKind.i64.wrap ((j : Int) + 1) = ((j + 1 : Nat) : Int) := w_inc _ (by have := HN.out; omega)
      obtain ⟨x, hx⟩ : ∃ x, D.op[j]? = some x := ⟨_, List.getElem?_eq_getElem (by rw [HM.out]; exact hlt)⟩
      obtain ⟨g, eg, _, hc⟩ := H.out.at_ hx
      have c0 : w.cell? ⟨g, j * 4, none⟩ = some (.int .u64 x.n) := hc 0 (by omega)
      rw [HA.out] at eg
      subst eg
      have HX := Lib.hid hx
      have JM := Lib.hid hlt
      clear hc hx
      by_cases hk : x.n = t
      · have HE : Hid (findV D.op t = (j : Int)) := Lib.hid (by unfold findV; rw [findR_some HX.out hk HF.out])
        rw [hk] at c0
        clear hk
        go_wp2_with fail
        go_ret
        exact ⟨by rw [HE.out]; rfl, rfl⟩
      · have f1 : (x.n == t) = false := by simpa using hk
        have f2 : decide (x.n = t) = false := decide_eq_false hk
        have NE := Lib.hid hk
        generalize hz : x.n = z at c0 f1 f2
        have HZ := Lib.hid hz
        clear hk hz
        go_wp2_with fail
        go_roundw
        case rel => exact ⟨j + 1, by go_num, Lib.hid (by have := JM.out; omega), Lib.hid (by first | rfl | trivial), Lib.hid (fun i y hi hy => by
          by_cases e : i < j
          · exact HF.out i y e hy
          · obtain rfl : i = j := by omega
            rw [HX.out] at hy
            cases hy
            exact NE.out)⟩
        case measure => have := JM.out; simp [intOf]; omega
    · have d1 : decide ((j : Int) < (m : Int)) = false := decide_eq_false (by omega)
      have d1' : decide (j < m) = false := decide_eq_false hlt
      have HE : Hid (findV D.op t = -1) := Lib.hid (by
        unfold findV
        rw [findR_none fun i y hy => HF.out i y (by have := (List.getElem?_eq_some_iff.1 hy).1; rw [HM.out] at this; omega) hy])
      clear hlt
      go_wp2_with fail
      go_ret
      exact ⟨by rw [HE.out]; rfl, rfl⟩
end Go.Proofs.YtmbmkfhdiljalaaGreat
