/- Streams, in general: Feed, Next. -/
import Derived.Test.YtcgmgdjeamidlaaGreatOff
import Derived.Test.YtcgmgdjeamidlaaGreatSsN
namespace Go.Proofs.YtcgmgdjeamidlaaGreat
open Go.RowKit Go.ChangeShapes Go.WideShapes Go.ChangeAt
set_option linter.unusedVariables false
set_option linter.unusedSimpArgs false

/-- A stream in block s: its bytes, its error; F: the blocks that it has. -/
def StrmF (w : World) (s : Nat) (xs : List Int) (e : Int) (F : List Nat) : Prop := ∃ sl : Sl, Row w s #[.int .i64 e, sl.v] tSt ∧ Bk w sl ∧ sl.xs = xs ∧ F = s :: sl.bs
theorem StrmF.only {w w' : World} {s : Nat} {xs : List Int} {e : Int} {F G : List Nat} (h : StrmF w s xs e F) (k : Only G w w') (hG : ∀ b ∈ F, b ∉ G) : StrmF w' s xs e F := by
  obtain ⟨sl, hr, hb, hx, rfl⟩ := h
  exact ⟨sl, hr.only k (hG s (by simp)), hb.only k (fun b hb => hG b (by simp [hb])), hx, rfl⟩
theorem StrmF.lt {w : World} {s : Nat} {xs : List Int} {e : Int} {F : List Nat} (h : StrmF w s xs e F) : ∀ b ∈ F, b < w.heap.size := by
  obtain ⟨sl, hr, hb, hx, rfl⟩ := h
  intro b hm
  rcases List.mem_cons.1 hm with rfl | hm
  · exact hr.lt
  · exact hb.lt b hm
theorem StrmF.le {w : World} {s : Nat} {xs : List Int} {e : Int} {F : List Nat} (h : StrmF w s xs e F) : xs.length ≤ 1000000 := by
  obtain ⟨sl, hr, hb, rfl, rfl⟩ := h
  exact hb.le
theorem StrmF.self {w : World} {s : Nat} {xs : List Int} {e : Int} {F : List Nat} (h : StrmF w s xs e F) : s ∈ F := by
  obtain ⟨sl, hr, hb, rfl, rfl⟩ := h
  simp
theorem tag_ne {w : World} {s b : Nat} {cs cs' : Array Value} (h : Row w s cs tSt) (k : Row w b cs' 5) : b ≠ s := by
  rintro rfl
  have h1 : w.heap[b]? = some (.cells cs tSt (0, 0)) := h
  have h2 : w.heap[b]? = some (.cells cs' 5 (0, 0)) := k
  rw [h1] at h2
  simp at h2
  exact absurd h2.2 (by decide)
theorem StrmF.off {w : World} {s : Nat} {cs : Array Value} {sl : Sl} (h : Row w s cs tSt) (k : Bk w sl) : s ∉ sl.bs := fun hm => by
  obtain ⟨cs', h2⟩ := k.tag s hm
  exact tag_ne h h2 rfl
theorem StrmF.made (w : World) : StrmF (w.alloc (.cells #[.int .i64 0, .slice none 0 0] tSt)) w.heap.size [] 0 [w.heap.size] :=
  ⟨Sl.no, Row.made w _ _, Bk.no _, rfl, rfl⟩
def FeedTo (s : Nat) (xs : List Int) (e : Int) (F : List Nat) (ys : List Int) (w : World) (r : Ending) (w' : World) : Prop :=
  r = .returned (.int .i64 e) ∧ ∃ F', StrmF w' s (if e = 0 then xs ++ ys else xs) e F' ∧ Only F w w' ∧ ∀ b ∈ F', b ∈ F ∨ w.heap.size ≤ b
set_option maxRecDepth 100000 in
set_option maxHeartbeats 4000000 in
theorem strm_put {s : Nat} {xs : List Int} {e : Int} {F : List Nat} {u : Sl} {w : World} (h : StrmF w s xs e F) (hu : SlRd .u8 w u) (hl : xs.length + u.xs.length ≤ 1000000) : Calls Tryz.prog 57 #[.pointer (some ⟨s, 0, none⟩), u.v] w (FeedTo s xs e F u.xs w) := by
  obtain ⟨sl, hr, hb, rfl, rfl⟩ := h
  have c0 : w.cell? ⟨s, 0, none⟩ = some (.int .i64 e) := hr.cell 0
  have c1 : w.cell? ⟨s, 1, none⟩ = some sl.v := hr.cell 1
  by_cases he : e = 0
  · subst he
    have HR := Lib.hid hr
    have HB := Lib.hid hb
    have HL := Lib.hid hl
    have SR := Lib.hid hu.src
    obtain ⟨uv, huv⟩ : ∃ v, v = u.v := ⟨_, rfl⟩
    rw [← huv] at SR ⊢
    obtain ⟨sv, hsv⟩ : ∃ v, v = sl.v := ⟨_, rfl⟩
    have ES := Lib.hid hsv.symm
    rw [← hsv] at c1
    clear hr hb hu hl huv hsv
    go_enter Tryz.func57, Tryz.ntmps57
    go_wp2_with (at_builtin; refine wpList_append_bk _ rfl (.tmp 17) (.tmp 18) 30 rfl Tryz.underlying30 sl ?s0 HB.out _ u.xs rfl SR.out HL.out ?s6)
    case s0 => exact ES.out.symm
    case s6 =>
      intro s' w3 hx hb3 ho hf
      have O3 := Lib.hid ho
      have B3 := Lib.hid hb3
      have NS : Hid (s ∉ sl.bs) := Lib.hid (StrmF.off HR.out HB.out)
      have R3 := Lib.hid (HR.out.only ho NS.out)
      have f1 := R3.out.free 1
      have z0 : w3.cell? ⟨s, 0, none⟩ = some (.int .i64 0) := R3.out.cell 0
      have z1 : w3.cell? ⟨s, 1, none⟩ = some sv := by rw [← ES.out]; exact R3.out.cell 1
      have R4 : Hid (Row (w3.setCell ⟨s, 1, none⟩ s'.v) s #[.int .i64 0, s'.v] tSt) := Lib.hid (by simpa using R3.out.set 1 s'.v)
      have NV : Hid (s ∉ s'.bs) := Lib.hid (StrmF.off R3.out hb3)
      have O4 : Hid (Only [s] w3 (w3.setCell ⟨s, 1, none⟩ s'.v)) := Lib.hid ((Only.refl [s] w3).setCell (.inl (by simp)) _)
      have N4 : Hid (FeedTo s sl.xs 0 (s :: sl.bs) u.xs w (.returned (.int .i64 0)) (w3.setCell ⟨s, 1, none⟩ s'.v)) := Lib.hid ⟨rfl, s :: s'.bs, ⟨s', R4.out, B3.out.only O4.out (by intro b hb hm; simp at hm; subst hm; exact NV.out hb), by rw [if_pos rfl]; exact hx, rfl⟩,
        (O3.out.mono (by intro i hi; left; simp [hi])).trans O4.out (by intro i hi; left; simp at hi; simp [hi]), fun b hb => by
          rcases List.mem_cons.1 hb with rfl | hb
          · exact .inl (by simp)
          · exact (hf b hb).imp (fun h => by simp [h]) id⟩
      have c40 : (w3.setCell ⟨s, 1, none⟩ s'.v).cell? ⟨s, 0, none⟩ = some (.int .i64 0) := R4.out.cell 0
      unfold Sl.v at c40 N4
      clear hx hb3 ho hf O4 NV R4
      unfold Sl.v
      go_wp2_with fail
      go_ret
      exact N4.out
  · have d1 : decide (e = 0) = false := decide_eq_false he
    have N : Hid (FeedTo s sl.xs e (s :: sl.bs) u.xs w (.returned (.int .i64 e)) w) := Lib.hid ⟨rfl, _, ⟨sl, hr, hb, by rw [if_neg he], rfl⟩, Only.refl _ _, fun b hb => .inl hb⟩
    unfold Sl.v at c1 ⊢
    clear hr hb hl hu
    go_enter Tryz.func57, Tryz.ntmps57
    go_wp2_with fail
    go_ret
    exact N.out
def NoneTo (s : Nat) (xs : List Int) (e : Int) (F : List Nat) (d : Int) (w : World) (r : Ending) (w' : World) : Prop :=
  r = .returned (.tuple #[.slice none 0 0, .int .i64 d]) ∧ ∃ F', StrmF w' s xs e F' ∧ Only F w w' ∧ ∀ b ∈ F', b ∈ F
theorem strm_broken {s : Nat} {xs : List Int} {e : Int} {F : List Nat} {w : World} (h : StrmF w s xs e F) (he : e ≠ 0) : Calls Tryz.prog 98 #[.pointer (some ⟨s, 0, none⟩)] w (NoneTo s xs e F e w) := by
  have HS := Lib.hid h
  obtain ⟨sl, hr, hb, rfl, rfl⟩ := h
  have c0 : w.cell? ⟨s, 0, none⟩ = some (.int .i64 e) := hr.cell 0
  have d1 : decide (e = 0) = false := decide_eq_false he
  clear hr hb
  go_enter Tryz.func98, Tryz.ntmps98
  go_wp2_with fail
  go_region
  go_wp2_with fail
  go_ret2
  exact ⟨rfl, _, HS.out.only ((Only.refl [] w).drew) (by simp), (Only.refl _ w).drew, fun b hb => hb⟩
set_option maxRecDepth 100000 in
set_option maxHeartbeats 4000000 in
theorem strm_none {s : Nat} {xs : List Int} {F : List Nat} {w : World} (h : StrmF w s xs 0 F) (hb : IsBy xs) (hz : sizeF xs = (0, 7)) : Calls Tryz.prog 98 #[.pointer (some ⟨s, 0, none⟩)] w (NoneTo s xs 0 F 7 w) := by
  have HS := Lib.hid h
  obtain ⟨sl, hr, hs, rfl, rfl⟩ := h
  have SZ := Lib.hid (size_on hs.rd hb)
  rw [hz] at SZ
  have c0 : w.cell? ⟨s, 0, none⟩ = some (.int .i64 0) := hr.cell 0
  have c1 : w.cell? ⟨s, 1, none⟩ = some sl.v := hr.cell 1
  unfold Sl.v at c1 SZ
  clear hr hs hb hz
  go_enter Tryz.func98, Tryz.ntmps98
  go_wp2_with fail
  refine SZ.out.mono ?_
  rintro _ w2 ⟨rfl, hb2⟩
  have B2 := Lib.hid hb2
  clear hb2 SZ c0 c1
  go_wp2_with fail
  go_ret2
  exact ⟨rfl, _, HS.out.only ((Only.refl [] w).below B2.out) (by simp), (Only.refl _ w).below B2.out, fun b hb => hb⟩
set_option maxRecDepth 100000 in
set_option maxHeartbeats 4000000 in
theorem strm_long {s : Nat} {xs : List Int} {F : List Nat} {w : World} (h : StrmF w s xs 0 F) (hb : IsBy xs) (hz : sizeF xs = (0, 3)) : Calls Tryz.prog 98 #[.pointer (some ⟨s, 0, none⟩)] w (NoneTo s [] 3 F 3 w) := by
  obtain ⟨sl, hr, hs, rfl, rfl⟩ := h
  have SZ := Lib.hid (size_on hs.rd hb)
  rw [hz] at SZ
  have HR := Lib.hid hr
  have c0 : w.cell? ⟨s, 0, none⟩ = some (.int .i64 0) := hr.cell 0
  have c1 : w.cell? ⟨s, 1, none⟩ = some sl.v := hr.cell 1
  unfold Sl.v at c1 SZ
  clear hr hs hb hz
  go_enter Tryz.func98, Tryz.ntmps98
  go_wp2_with fail
  refine SZ.out.mono ?_
  rintro _ w2 ⟨rfl, hb2⟩
  have O2 : Hid (Only [] w w2) := Lib.hid ((Only.refl [] w).below hb2)
  have R2 := HR.out.only O2.out (by simp)
  have d0 : w2.cell? ⟨s, 0, none⟩ = some (.int .i64 0) := R2.cell 0
  have d1 : w2.cell? ⟨s, 1, none⟩ = some sl.v := R2.cell 1
  have f0 := R2.free 0
  have f1 := R2.free 1
  unfold Sl.v at d1
  have N : Hid (NoneTo s [] 3 (s :: sl.bs) 3 w (.returned (.tuple #[.slice none 0 0, .int .i64 3])) ((w2.setCell ⟨s, 0, none⟩ (.int .i64 3)).setCell ⟨s, 1, none⟩ (.slice none 0 0))) := Lib.hid (by
    have R4 := (R2.set 0 (.int .i64 3)).set 1 (.slice none 0 0)
    have k4 : Only [s] w2 ((w2.setCell ⟨s, 0, none⟩ (.int .i64 3)).setCell ⟨s, 1, none⟩ (.slice none 0 0)) := ((Only.refl [s] w2).setCell (.inl (by simp)) _).setCell (.inl (by simp)) _
    exact ⟨rfl, [s], ⟨Sl.no, by simpa [Sl.v, Sl.no] using R4, Bk.no _, rfl, rfl⟩, (O2.out.mono (by simp)).trans k4 (by intro i hi; left; simp at hi; simp [hi]), by intro b hb; simp at hb; simp [hb]⟩)
  clear hb2 SZ c0 c1 R2
  go_wp2_with fail
  go_ret2
  exact N.out
/-- A frame of n bytes. -/
def OneTo (s : Nat) (xs : List Int) (n : Nat) (F : List Nat) (w : World) (r : Ending) (w' : World) : Prop := ∃ p : Sl, r = .returned (.tuple #[p.v, .int .i64 0]) ∧ p.xs = (xs.drop 4).take n ∧ SlAt .u8 w' p ∧ (∀ b ∈ p.bs, w.heap.size ≤ b) ∧ StrmF w' s (xs.drop (4 + n)) 0 F ∧ Only F w w'
set_option maxRecDepth 100000 in
set_option maxHeartbeats 8000000 in
theorem strm_one {s n : Nat} {xs : List Int} {F : List Nat} {w : World} (h : StrmF w s xs 0 F) (hb : IsBy xs) (hz : sizeF xs = ((n : Int), 0)) : Calls Tryz.prog 98 #[.pointer (some ⟨s, 0, none⟩)] w (OneTo s xs n F w) := by
  obtain ⟨sl, hr, hs, rfl, rfl⟩ := h
  obtain ⟨hl, hn⟩ := size_some hz
  have SZ := Lib.hid (size_on hs.rd hb)
  rw [hz] at SZ
  have HR := Lib.hid hr
  have HB := Lib.hid hs
  have NS : Hid (s ∉ sl.bs) := Lib.hid (StrmF.off hr hs)
  obtain ⟨q, hq⟩ : ∃ q, 4 + n = q := ⟨_, rfl⟩
  have HQ := Lib.hid hq
  have en : IntKind.i64.wrap (4 + (n : Int)) = (q : Int) := by rw [show 4 + (n : Int) = (q : Int) by omega]; exact IntWalk.i64_in _ (by omega)
  have HL : Hid (q ≤ sl.xs.length ∧ 4 ≤ q ∧ q - 4 = n) := Lib.hid ⟨by omega, by omega, by omega⟩
  have e1 : ∀ y : World, (Instr.slice 30 (.slice sl.a sl.xs.length sl.c) (some (.int .i64 4)) (some (.int .i64 (q : Int))) none).run Tryz.prog y = .ok (sl.cut 4 q).v y := fun y => run_cut Tryz.underlying30 infoBy .i64 .i64 sl (l := 4) (h := q) (by omega) (by omega) hs.cap.1 y
  have e2 : ∀ y : World, (Instr.slice 30 (.slice sl.a sl.xs.length sl.c) (some (.int .i64 (q : Int))) none none).run Tryz.prog y = .ok (sl.cut q sl.xs.length).v y := fun y => run_tail Tryz.underlying30 infoBy .i64 sl (by omega) y
  have CL := Lib.hid fun (y : World) (hy : Only [] w y) => clone_u8 ((hs.rd.cut (l := 4) (k := q) (by omega) (by omega) hs.cap.1).only hy (by simp))
  have EX : Hid ((sl.cut 4 q).xs = (sl.xs.drop 4).take n) := Lib.hid (by unfold Sl.cut; simp only; rw [HL.out.2.2])
  have EY : Hid ((sl.cut q sl.xs.length).xs = sl.xs.drop q) := Lib.hid (by unfold Sl.cut; simp only; exact List.take_of_length_le (by simp))
  obtain ⟨v1, hv1⟩ : ∃ v, v = (sl.cut 4 q).v := ⟨_, rfl⟩
  obtain ⟨v2, hv2⟩ : ∃ v, v = (sl.cut q sl.xs.length).v := ⟨_, rfl⟩
  have V1 := Lib.hid hv1
  have V2 := Lib.hid hv2
  rw [← hv1] at e1 CL
  rw [← hv2] at e2
  have c0 : w.cell? ⟨s, 0, none⟩ = some (.int .i64 0) := hr.cell 0
  have c1 : w.cell? ⟨s, 1, none⟩ = some (.slice sl.a sl.xs.length sl.c) := hr.cell 1
  unfold Sl.v at SZ
  clear hr hs hb hz hl hn hq hv1 hv2
  go_enter Tryz.func98, Tryz.ntmps98
  go_wp2_with fail
  refine SZ.out.mono ?_
  rintro _ w2 ⟨rfl, hb2⟩
  have O2 : Hid (Only [] w w2) := Lib.hid ((Only.refl [] w).below hb2)
  have d1 : w2.cell? ⟨s, 1, none⟩ = some (.slice sl.a sl.xs.length sl.c) := (HR.out.only O2.out (by simp)).cell 1
  clear hb2 SZ c0 c1
  go_wp2_with fail
  refine (CL.out w2 O2.out).mono ?_
  rintro _ w3 ⟨p, rfl, ep, hp, hpb, hb3⟩
  have O3 : Hid (Only [] w w3) := Lib.hid (O2.out.below hb3)
  have R3 := HR.out.only O3.out (by simp)
  have d1 : w3.cell? ⟨s, 1, none⟩ = some (.slice sl.a sl.xs.length sl.c) := R3.cell 1
  have f1 := R3.free 1
  have N : Hid (OneTo s sl.xs n (s :: sl.bs) w (.returned (.tuple #[p.v, .int .i64 0])) (w3.setCell ⟨s, 1, none⟩ v2)) := Lib.hid (by
    have R4 := R3.set 1 v2
    have k4 : Only [s] w3 (w3.setCell ⟨s, 1, none⟩ v2) := (Only.refl [s] w3).setCell (.inl (by simp)) _
    refine ⟨p, rfl, by rw [ep, EX.out], hp.only k4 (fun b hb hm => ?_), fun b hb => Nat.le_trans O2.out.size (hpb b hb), ⟨sl.cut q sl.xs.length, by rw [← V2.out]; simpa using R4, ((HB.out.only O3.out (by simp)).tail HL.out.1).only k4 (fun b hb hm => ?_), by rw [EY.out, HQ.out], by rw [Sl.cut_bs]⟩, (O3.out.mono (by simp)).trans k4 (by intro i hi; left; simp at hi; simp [hi])⟩
    · simp at hm
      have := hpb b hb
      have := O2.out.size
      have := HR.out.lt
      omega
    · simp at hm
      subst hm
      rw [Sl.cut_bs] at hb
      exact NS.out hb)
  have ev2 : ∃ a n c, v2 = .slice a n c := ⟨_, _, _, V2.out⟩
  obtain ⟨a2, n2, c2, rfl⟩ := ev2
  clear ep hp hpb hb3 R3 CL
  unfold Sl.v at N ⊢
  go_wp2_with fail
  go_ret2
  exact N.out
end Go.Proofs.YtcgmgdjeamidlaaGreat
