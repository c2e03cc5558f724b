/- DiskCopies: a copy goes its own way: what is done to the one is not seen in the other, and both crash as they would have: for every input. -/
import Derived.Test.YtiheobbollpaaaaDkN
import Derived.OpenShut
import Derived.OwnWalk
namespace Go.Proofs.Ytiheobbollpaaaa.diskCopies
open Go.ChangeShapes Go.WideShapes Go.ChangeAt Go.RowKit Go.Joins
set_option linter.unusedVariables false

/-- Three devices apart. -/
structure Three (W w : World) (pd pe pc : Nat) (F E C : List Nat) (Dd De Dc : Dk) : Prop where
  d : Dev W w pd Dd F
  e : Dev W w pe De E
  c : Dev W w pc Dc C
  de : ∀ b ∈ F, b ∉ E
  dc : ∀ b ∈ F, b ∉ C
  ec : ∀ b ∈ E, b ∉ C
section
variable {W w w' : World} {pd pe pc : Nat} {F E C : List Nat} {Dd De Dc D' : Dk}
theorem Three.none (h : Three W w pd pe pc F E C Dd De Dc) (k : Only [] w w') : Three W w' pd pe pc F E C Dd De Dc :=
  ⟨h.d.none k, h.e.none k, h.c.none k, h.de, h.dc, h.ec⟩
theorem Three.onD (h : Three W w pd pe pc F E C Dd De Dc) (hd : Dev W w' pd D' F) (k : Only F w w') : Three W w' pd pe pc F E C D' De Dc :=
  ⟨hd, h.e.only k h.de h.d.ge, h.c.only k h.dc h.d.ge, h.de, h.dc, h.ec⟩
theorem Three.onE (h : Three W w pd pe pc F E C Dd De Dc) (hd : Dev W w' pe D' E) (k : Only E w w') : Three W w' pd pe pc F E C Dd D' Dc :=
  ⟨h.d.only k (fun b hb hf => h.de b hf hb) h.e.ge, hd, h.c.only k h.ec h.e.ge, h.de, h.dc, h.ec⟩
theorem Three.onC (h : Three W w pd pe pc F E C Dd De Dc) (hd : Dev W w' pc D' C) (k : Only C w w') : Three W w' pd pe pc F E C Dd De D' :=
  ⟨h.d.only k (fun b hb hf => h.dc b hf hb) h.c.ge, h.e.only k (fun b hb hf => h.ec b hf hb) h.c.ge, hd, h.de, h.dc, h.ec⟩
end
def Goal (a : Option Addr) (n c : Nat) (a2 : Option Addr) (n2 c2 : Nat) (a3 : Option Addr) (n3 c3 : Nat) (pa : Option Addr) (m pc : Nat) (w : World) : Prop := Calls Try.prog 5 #[.slice a n c, .slice a2 n2 c2, .slice a3 n3 c3, .slice pa m pc] w fun e w' => e = .returned (.bool true) ∧ Below w.heap.size w w'
set_option maxRecDepth 100000 in
set_option maxHeartbeats 2000000 in
theorem out (a : Option Addr) (n c : Nat) (a2 : Option Addr) (n2 c2 : Nat) (a3 : Option Addr) (n3 c3 : Nat) (pa : Option Addr) (m pc : Nat) (w : World) (h : 60 < n ∨ 60 < n2 ∨ 60 < n3) (hn : n ≤ 9223372036854775807) (hm : n2 ≤ 9223372036854775807) (hm3 : n3 ≤ 9223372036854775807) : Goal a n c a2 n2 c2 a3 n3 c3 pa m pc w := by
  unfold Goal
  by_cases h1 : 60 < n
  · have h1' : (60 : Int) < (n : Int) := by omega
    go_enter Try.func5, Try.ntmps5
    go_wp2_with fail
    refine (known_any _).mono ?_
    rintro _ w9 ⟨rfl, hb9⟩
    have H9 := Lib.hid hb9
    clear hb9
    go_wp2_with fail
    go_ret
    exact ⟨rfl, H9.out⟩

  have h1' : ¬ (60 : Int) < (n : Int) := by omega
  by_cases h2 : 60 < n2
  · have h2' : (60 : Int) < (n2 : Int) := by omega
    go_enter Try.func5, Try.ntmps5
    go_wp2_with fail
    refine (known_any _).mono ?_
    rintro _ w9 ⟨rfl, hb9⟩
    have H9 := Lib.hid hb9
    clear hb9
    go_wp2_with fail
    go_ret
    exact ⟨rfl, H9.out⟩

  have h2' : ¬ (60 : Int) < (n2 : Int) := by omega
  have h3' : (60 : Int) < (n3 : Int) := by omega
  go_enter Try.func5, Try.ntmps5
  go_wp2_with fail
  refine (known_any _).mono ?_
  rintro _ w9 ⟨rfl, hb9⟩
  have H9 := Lib.hid hb9
  clear hb9
  go_wp2_with fail
  go_ret
  exact ⟨rfl, H9.out⟩

set_option maxRecDepth 100000 in
set_option maxHeartbeats 8000000 in
theorem main (a : Option Addr) (n c : Nat) (os : List OpV) (a2 : Option Addr) (n2 c2 : Nat) (os2 : List OpV) (a3 : Option Addr) (n3 c3 : Nat) (os3 : List OpV) (pa : Option Addr) (m pcap : Nat) (pz : List Int) (w : World) (hos : OpsIn w a n c os) (hos2 : OpsIn w a2 n2 c2 os2) (hos3 : OpsIn w a3 n3 c3 os3) (hp : IsRow .u8 w pa m pcap pz) (h1 : n ≤ 60) (h2 : n2 ≤ 60) (h3 : n3 ≤ 60) : Goal a n c a2 n2 c2 a3 n3 c3 pa m pcap w := by
  unfold Goal
  have NN := Lib.hid (new_dev (W := w) (Below.refl _ _) 12 12 (by omega) (by omega) (by omega) (by omega))
  have HO1 := Lib.hid hos
  have HO2 := Lib.hid hos2
  have HO3 := Lib.hid hos3
  have HP := Lib.hid hp
  have g1 : ¬ (60 : Int) < (n : Int) := by omega
  have g2 : ¬ (60 : Int) < (n2 : Int) := by omega
  have g3 : ¬ (60 : Int) < (n3 : Int) := by omega
  clear hos hos2 hos3 hp
  go_enter Try.func5, Try.ntmps5
  go_wp2_with fail
  refine NN.out.mono ?_
  rintro _ w1 ⟨pd, F, rfl, hd, k1, hB⟩
  have H1 := Lib.hid hd
  clear hd k1 hB NN g1 g2 g3
  go_wp2_with fail
  refine (new_dev (W := w) H1.out.bl 12 12 (by omega) (by omega) (by omega) (by omega)).mono ?_
  rintro _ w2 ⟨pe, E, rfl, he, k2, hE⟩
  have H2 := Lib.hid (H1.out.none k2)
  have E2 := Lib.hid he
  have FE : Hid (∀ b ∈ F, b ∉ E) := Lib.hid (fun b hb hb' => by have := H1.out.lt b hb; have := hE b hb'; omega)
  clear he k2 hE H1
  go_wp2_with fail
  refine (writes_dev H2.out twelve_new HO1.out).mono ?_
  rintro _ w3 ⟨rfl, hd3, k3⟩
  have H3 := Lib.hid hd3
  have E3 := Lib.hid (E2.out.only k3 FE.out hd3.ge)
  clear hd3 k3 H2 E2
  go_wp2_with fail
  refine (writes_dev E3.out twelve_new HO1.out).mono ?_
  rintro _ w4 ⟨rfl, hd4, k4⟩
  have E4 := Lib.hid hd4
  have H4 := Lib.hid (H3.out.only k4 (fun b hb hf => FE.out b hf hb) hd4.ge)
  have T1 := Lib.hid (twelve_new.writesD os)
  clear hd4 k4 H3 E3
  generalize writesD (newD 12 12) os = D1 at *
  go_wp2_with fail
  refine (copy_dev H4.out).mono ?_
  rintro _ w5 ⟨pc, C, rfl, hc, kc, bc⟩
  have Q5 : Hid (Three w w5 pd pe pc F E C D1 D1 D1) := Lib.hid ⟨H4.out.none kc, E4.out.none kc, hc, FE.out, fun b hb hb' => by have := H4.out.lt b hb; have := bc b hb'; omega, fun b hb hb' => by have := E4.out.lt b hb; have := bc b hb'; omega⟩
  clear hc kc bc H4 E4
  go_wp2_with fail
  refine (writes_dev Q5.out.c T1.out HO3.out).mono ?_
  rintro _ w6 ⟨rfl, hd6, k6⟩
  have TC := Lib.hid (T1.out.writesD os3)
  have Q6 := Lib.hid (Q5.out.onC hd6 k6)
  clear hd6 k6 Q5
  generalize writesD D1 os3 = C1 at *
  go_wp2_with fail
  refine (writes_dev Q6.out.d T1.out HO2.out).mono ?_
  rintro _ w7 ⟨rfl, hd7, k7⟩
  have Q7 := Lib.hid (Q6.out.onD hd7 k7)
  clear hd7 k7 Q6
  go_wp2_with fail
  refine (writes_dev Q7.out.e T1.out HO2.out).mono ?_
  rintro _ w8 ⟨rfl, hd8, k8⟩
  have Q8 := Lib.hid (Q7.out.onE hd8 k8)
  have T2 := Lib.hid (T1.out.writesD os2)
  clear hd8 k8 Q7
  generalize writesD D1 os2 = D2 at *
  go_wp2_with fail
  refine (crash_picks Q8.out.d HP.out).mono ?_
  rintro _ w9 ⟨rfl, hd9, k9⟩
  have Q9 := Lib.hid (Q8.out.onD hd9 k9)
  clear hd9 k9 Q8
  go_wp2_with fail
  refine (crash_picks Q9.out.e HP.out).mono ?_
  rintro _ w10 ⟨rfl, hd10, k10⟩
  have Q10 := Lib.hid (Q9.out.onE hd10 k10)
  have T3 := Lib.hid (T2.out.crashD (pz.take m))
  clear hd10 k10 Q9
  generalize crashD D2 (pz.take m) = D3 at *
  go_wp2_with fail
  refine (writes_dev Q10.out.c TC.out HO3.out).mono ?_
  rintro _ w11 ⟨rfl, hd11, k11⟩
  have Q11 := Lib.hid (Q10.out.onC hd11 k11)
  clear hd11 k11 Q10
  generalize writesD C1 os3 = C2 at *
  go_wp2_with fail
  go_loopw [14, 15, 16, 17, 18] (fun u _ _ _ _ wr => ∃ i : Nat, i ≤ 12 ∧ u = .int .i64 i ∧ Hid (Three w wr pd pe pc F E C D3 D3 C2)) (fun u _ _ _ _ _ => 12 - (intOf u).toNat)
  case atStart => exact ⟨0, by omega, rfl, Q11⟩
  case round =>
    clear Q11
    obtain ⟨i, hi, rfl, HQ⟩ := hrel
    have i0 : (0 : Int) ≤ (i : Int) := Int.natCast_nonneg _
    by_cases hlt : i < 12
    · have d1 : decide ((i : Int) < 12) = true := decide_eq_true (by omega)
      have i2 : (i : Int) < 12 := by omega
      go_wp2_with fail
      refine (read12 HQ.out.d T3.out i0 i2).mono ?_
      rintro _ v1 ⟨rfl, r1, _, k1, s1⟩
      have G1 := Lib.hid (HQ.out.none k1)
      have B1 := Lib.hid r1
      have l1 : wr.heap.size < v1.heap.size := by omega
      clear r1 k1 s1
      go_wp2_with fail
      refine (read12 G1.out.e T3.out i0 i2).mono ?_
      rintro _ v2 ⟨rfl, r2, _, k2, s2⟩
      have G2 := Lib.hid (G1.out.none k2)
      have y1 := conv_bytes (cap := 128) (B1.out.only k2 (by simp)) (sectorD_is G2.out.d.fine _).1
      have y2 := conv_bytes (cap := 128) r2 (sectorD_is G2.out.e.fine _).1
      clear r2 k2 s2 B1 G1 HQ
      go_wp2_with fail
      go_roundw
      case rel => exact ⟨i + 1, by omega, by go_num, G2⟩
      case measure => simp [intOf]; omega
    · have d1 : decide ((i : Int) < 12) = false := decide_eq_false (by omega)
      go_wp2_with fail
      refine (known_any wr).mono ?_
      rintro _ w6 ⟨rfl, hb6⟩
      have H6 := Lib.hid (HQ.out.d.bl.trans (hb6.mono HQ.out.d.bl.size))
      clear hb6
      go_wp2_with fail
      go_ret
      exact ⟨rfl, H6.out⟩
theorem walk (a : Option Addr) (n c : Nat) (os : List OpV) (a2 : Option Addr) (n2 c2 : Nat) (os2 : List OpV) (a3 : Option Addr) (n3 c3 : Nat) (os3 : List OpV) (pa : Option Addr) (m pc : Nat) (pz : List Int) (W : World) (hos : OpsIn W a n c os) (hos2 : OpsIn W a2 n2 c2 os2) (hos3 : OpsIn W a3 n3 c3 os3) (hp : IsRow .u8 W pa m pc pz) (_ : pc * 1 ≤ 140737488351232) :
    Calls Try.prog 5 #[.slice a n c, .slice a2 n2 c2, .slice a3 n3 c3, .slice pa m pc] W fun e w' => e = .returned (.bool true) ∧ Below W.heap.size W w' := by
  by_cases h : 60 < n ∨ 60 < n2 ∨ 60 < n3
  · exact out a n c a2 n2 c2 a3 n3 c3 pa m pc W h hos.2.1 hos2.2.1 hos3.2.1
  · exact main a n c os a2 n2 c2 os2 a3 n3 c3 os3 pa m pc pz W hos hos2 hos3 hp (by omega) (by omega) (by omega)

theorem own : ownKnob Try.prog.godebug = none := by kernel_rfl
theorem laidOut : laidOutB Try.prog = true := by kernel_rfl

set_option maxRecDepth 100000 in
theorem contract (H : Type) (enc : TypeId × Value → H) (W : World) (base : Nat) (args : Array Value) (ds gs : List (DataW H)) (before : List MemPlace)
    (hval0 : ∀ (j : Nat) t v, Try.f5.params[j]? = some t → args[j]? = some v → Value.okWide Try.prog W .any base t v)
    (hW : DataW.Whole enc Try.prog Try.f5.params.toList Rows.diskCopiesSpec.vars false W args.toList ds gs before)
    (hsz0 : (DataW.weightsEach Try.prog (Try.f5.params.toList ++ Rows.diskCopiesSpec.plain.varTypes Try.prog) (ds ++ gs)).all (· ≤ reachBytes) = true) :
    Calls Try.prog 5 args W fun e W' => ∃ v, e = .returned v ∧ Rows.diskCopiesSpec.post enc Try.prog Try.f5 false true false false W args v W' := by
  have hval : ∀ (j : Nat) t v, Try.f5.params[j]? = some t → args[j]? = some v → Value.okWide Try.prog W .any base t v := hval0
  have hW' := hW
  obtain ⟨p, q, hA0, hV, rfl, hfz, hnd⟩ := hW
  have hA : DataW.TrodAll enc Try.prog W 0 (fun _ => true) true Try.f5.params.toList args.toList ds p := hA0
  have hsz : (DataW.weightsEach Try.prog (Try.f5.params.toList ++ Rows.diskCopiesSpec.plain.varTypes Try.prog) (ds ++ gs)).all (· ≤ reachBytes) = true := hsz0
  rw [Try.params5] at hA hval hsz
  obtain ⟨v0, vs0, d0, ds0, p0, q0, hargs, rfl, rfl, h0, r0'⟩ := trodAll_cons hA
  obtain ⟨v1, vs1, d1, ds1, p1, q1, rfl, rfl, rfl, h1, r1'⟩ := trodAll_cons r0'
  obtain ⟨v2, vs2, d2, ds2, p2, q2, rfl, rfl, rfl, h2, r2'⟩ := trodAll_cons r1'
  obtain ⟨v3, vs3, d3, ds3, p3, q3, rfl, rfl, rfl, h3, r3'⟩ := trodAll_cons r2'
  obtain ⟨rfl, rfl, rfl⟩ := trodAll_nil r3'
  obtain rfl : args = #[v0, v1, v2, v3] := by cases args; simp_all
  obtain ⟨rfl, rfl⟩ := trodVars_none hV
  have k0 := h0
  have lt0 : ∀ x ∈ p0, x.block < W.heap.size := by obtain ⟨m, hm⟩ := k0; exact DataW.trod_lt m _ _ _ hm
  have k1 := h1
  have lt1 : ∀ x ∈ p1, x.block < W.heap.size := by obtain ⟨m, hm⟩ := k1; exact DataW.trod_lt m _ _ _ hm
  have k2 := h2
  have lt2 : ∀ x ∈ p2, x.block < W.heap.size := by obtain ⟨m, hm⟩ := k2; exact DataW.trod_lt m _ _ _ hm
  have k3 := h3
  have lt3 : ∀ x ∈ p3, x.block < W.heap.size := by obtain ⟨m, hm⟩ := k3; exact DataW.trod_lt m _ _ _ hm
  obtain ⟨a0, n0, c0, rfl⟩ := okWide_slice Try.underlying22 (hval 0 22 v0 rfl rfl)
  obtain ⟨z0, w0⟩ : ∃ os, OpsIn W a0 n0 c0 os := by
    obtain ⟨fuel, hf⟩ := h0
    simp [Value.cells] at hf
    exact ops_in hf
  obtain ⟨a1, n1, c1, rfl⟩ := okWide_slice Try.underlying22 (hval 1 22 v1 rfl rfl)
  obtain ⟨z1, w1⟩ : ∃ os, OpsIn W a1 n1 c1 os := by
    obtain ⟨fuel, hf⟩ := h1
    simp [Value.cells] at hf
    exact ops_in hf
  obtain ⟨a2, n2, c2, rfl⟩ := okWide_slice Try.underlying22 (hval 2 22 v2 rfl rfl)
  obtain ⟨z2, w2⟩ : ∃ os, OpsIn W a2 n2 c2 os := by
    obtain ⟨fuel, hf⟩ := h2
    simp [Value.cells] at hf
    exact ops_in hf
  obtain ⟨a3, n3, c3, rfl⟩ := okWide_slice Try.underlying23 (hval 3 23 v3 rfl rfl)
  obtain ⟨z3, w3, r3⟩ : ∃ zs, IsRow .u8 W a3 n3 c3 zs ∧ c3 * 1 ≤ 140737488351232 := by
    obtain ⟨fuel, hf⟩ := h3
    rcases open_ints Try.underlying23 Try.underlying5 (by kernel_rfl) hf with ⟨hcs, _⟩ | ⟨x, l, c, zs, hcs, _, hl, hm, hz, hx, hcell, hwz⟩
    · simp [Value.cells] at hcs
      obtain ⟨rfl, rfl, rfl⟩ := hcs
      exact ⟨[], .inl ⟨rfl, rfl, rfl, rfl⟩, by omega⟩
    · simp [Value.cells] at hcs
      obtain ⟨rfl, rfl, rfl⟩ := hcs
      simp only [Prod.mk.injEq] at hx
      have hz' : zs.length = c3 := by simpa using hz
      have hs := sized_slice hsz (j := 3) (t := 23) rfl (congrArg some hx.1) Try.underlying23
      rw [show Try.prog.bytesOf 5 = 1 from by kernel_rfl] at hs
      simp only [lits, List.length_map, List.length_take, List.length_drop, reachBytes] at hs
      exact ⟨zs, .inr ⟨_, rfl, hl, hm, hz', hcell, hwz⟩, by omega⟩
  clear hA0 hval0 hsz0
  refine (walk a0 n0 c0 z0 a1 n1 c1 z1 a2 n2 c2 z2 a3 n3 c3 z3 W w0 w1 w2 w3 r3).mono fun e W' ⟨he, bel⟩ => ?_
  subst he
  exact ⟨_, rfl, _, _, _, [], _, [], hW', trodAll_mk1 (shut_bool Try.underlying4 _), (trodAll_cons_mk (Below.trod laidOut (by kernel_rfl) (of_decide_eq_true (by kernel_rfl)) k0 bel lt0) (trodAll_cons_mk (Below.trod laidOut (by kernel_rfl) (of_decide_eq_true (by kernel_rfl)) k1 bel lt1) (trodAll_cons_mk (Below.trod laidOut (by kernel_rfl) (of_decide_eq_true (by kernel_rfl)) k2 bel lt2) (trodAll_cons_mk (Below.trod laidOut (by kernel_rfl) (of_decide_eq_true (by kernel_rfl)) k3 bel lt3) trodAll_mk0)))), rfl, bel.frame _, fun h => by cases h⟩

set_option maxRecDepth 100000 in
theorem lifted (os : Os) (started : os.Started) (H : Type) (enc : TypeId × Value → H) :
    ReturnsInHanded {} Try.checked os 5 .any (Rows.diskCopiesSpec.pre6 enc Try.prog Try.f5 Rows.diskCopiesRow.domain false) (Rows.diskCopiesSpec.post enc Try.prog Try.f5 false true false false) := by
  refine returnsInHanded_of_change_sized (C := Try.checked) own started (by kernel_rfl) Try.func5
    (ChangeSpec.witness6 (enc := enc) (C := Try.checked) false ⟨#[], #[.slice none 0 0, .slice none 0 0, .slice none 0 0, .slice none 0 0], []⟩ 8 (by kernel_rfl) (by kernel_rfl) (by kernel_rfl) (by kernel_rfl)) ?_
  intro W base args ds gs before hval hW _ hsz _
  exact contract H enc W base args ds gs before hval hW hsz

theorem over : Rows.diskCopiesRow.holds Try.pinned (OpenSpec.ofChange Rows.diskCopiesSpec) :=
  OpenClaim.holds_of_wide 5 Try.f5 rfl rfl rfl rfl rfl rfl rfl ⟨rfl, rfl, rfl, rfl, rfl⟩ rfl rfl rfl rfl rfl (by kernel_rfl) Try.func5 (by kernel_rfl)
    (of_decide_eq_true (by kernel_rfl)) (by unfold Func.isWrapper; first | (rw [if_pos (by decide +kernel)]; kernel_rfl) | (rw [if_neg (by decide +kernel)]; exact ⟨rfl, rfl⟩))
    (fun os started H enc _ => lifted os started H enc)

theorem proved : Rows.DiskCopiesSaid := over
#print axioms proved
end Go.Proofs.Ytiheobbollpaaaa.diskCopies
