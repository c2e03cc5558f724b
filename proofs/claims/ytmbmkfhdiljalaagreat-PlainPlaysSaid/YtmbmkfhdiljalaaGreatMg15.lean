/- Plain: Commit: is there a conflict? -/
import Derived.Test.YtmbmkfhdiljalaaGreatMg14
namespace Go.Proofs.YtmbmkfhdiljalaaGreat
open Go.RowKit Go.Shelf Go.ChangeShapes Go.WideShapes Go.ChangeAt
set_option linter.unusedVariables false
set_option linter.unusedSimpArgs false

set_option maxRecDepth 100000 in
set_option maxHeartbeats 4000000 in
theorem commit_on {w : World} {B p : Nat} {D : PDB} {F H : List Nat} (h : DbF w B p D F H) (hB : B ≤ w.heap.size) {n : Int} {o : PTx} (ho : findP n D.op = some o) (hl : D.last < 1000000) (hlen : ∀ j, (vsOf D.all j).vs.length ≤ 1000000) :
    Calls Tryz.prog 15 #[.pointer (some ⟨p, 0, none⟩), .int .u64 n] w (CommitTo B p D o F H w) := by
  obtain ⟨ba, bo, h, rfl, rfl⟩ := h
  obtain ⟨hom, rfl⟩ := findP_some ho
  have H0 := Lib.hid h
  have HOM := Lib.hid hom
  have HL := Lib.hid hl
  have HBw := Lib.hid hB
  have HLN := Lib.hid hlen
  have F1 := Lib.hid (find_yes h ho)
  have c4 : w.cell? ⟨p, 4, none⟩ = some (.map (some bo)) := h.row.cell 4
  have OM := Lib.hid h.om
  clear h ho hom hl hB hlen
  go_enter Tryz.func15, Tryz.ntmps15
  go_wp2_with fail
  refine F1.out.mono ?_
  rintro _ w1 ⟨rfl, hw1⟩
  subst w1
  go_upto_region 5 with (at_delete; refine wpList_delete_at _ rfl (.tmp 23) (.tmp 24) tMpx 30 rfl 81 .u64 Tryz.underlying62 Tryz.underlying30 bo (pxL D.op) rfl OM.out o.n rfl ?_)
  intro w1 hm k1 hs1
  have S1 := Lib.hid (H0.out.shut o.n k1 hm)
  have K1 := Lib.hid k1
  have OT : Hid (Row w1 o.bt #[.int .u64 o.start, .map (some o.bm)] tPx ∧ MapAt w1 o.bm .u64 (wrL o.wr)) := Lib.hid (by
    have a4 := (own_apart H0.out.nd).2.2.2
    exact ⟨(H0.out.oa o HOM.out).1.only k1 (by simp; exact (a4 _ (mem_pxB HOM.out).1).2.2), (H0.out.oa o HOM.out).2.only k1 (by simp; exact (a4 _ (mem_pxB HOM.out).2).2.2)⟩)
  clear hm k1 hs1 c4 OM
  have t1 : w1.cell? ⟨o.bt, 1, none⟩ = some (.map (some o.bm)) := OT.out.1.cell 1
  go_wp2_with (at_range; refine wpList_range_at _ rfl (.tmp 28) tMvr rfl 30 tVr .u64 Tryz.underlying82 o.bm (wrL o.wr) rfl OT.out.2 ?_)
  intro w2 r2 o2 s2
  have B2 : Hid (Below w1.heap.size w1 w2) := Lib.hid (o2.toBelow (Nat.le_refl _) (by simp))
  have R2 := Lib.hid r2
  clear r2 o2 s2 t1
  go_wp2_with fail
  go_loopw [7, 8] (fun u v wr => Hid (∃ left, Rng wr o.bm w1.heap.size .u64 (wrL o.wr) left ∧ ClearYet D o left ∧ Below w1.heap.size w1 wr)) (fun u v wr => wr.rangeLeft o.bm w1.heap.size)
  case atStart => exact Lib.hid ⟨_, R2.out, (fun y hy hn => absurd rfl (hn (y.1, y.2.val) (List.mem_map.2 ⟨y, hy, rfl⟩))), B2.out⟩
  case round =>
    obtain ⟨left, hr, hy, hb⟩ := hrel.out
    have RG := Lib.hid hr
    have HY := Lib.hid hy
    have HB := Lib.hid hb
    clear hr hy hb hrel
    go_wp2_with (at_next; refine wpList_next_at _ rfl (.tmp 29) rfl o.bm w1.heap.size .u64 (wrL o.wr) left rfl RG.out ?_ ?_)
    · intro hnil
      have HN := Lib.hid hnil
      clear hnil
      go_upto_region 11 with fail
      have NC : Hid (¬ ClashP D o) := Lib.hid (by
        rintro ⟨y, hy, hc⟩
        exact HY.out y hy (by rw [HN.out]; simp) hc)
      have DW := Lib.hid (S1.out.1.only ((Only.refl [] w1).below HB.out) (by simp))
      have T0 := Lib.hid (OT.out.1.only ((Only.refl [] w1).below HB.out) (by simp))
      have M0 := Lib.hid (OT.out.2.only ((Only.refl [] w1).below HB.out) (by simp))
      have KW : Hid (Only [bo] w wr) := Lib.hid (K1.out.below HB.out)
      rename World => w2
      have c2 : w2.cell? ⟨p, 2, none⟩ = some (.int .u64 D.last) := DW.out.row.cell 2
      have f2 : w2.frozen? ⟨p, 2, none⟩ = false := DW.out.row.free 2
      have e4 : IntKind.u64.wrap (D.last + 1) = D.last + 1 := IntWalk.u64_in _ (by have := H0.out.fine.last; have := HL.out; omega)
      go_upto_region 12 with fail
      have hd := DW.out.head (D' := { shutP D o.n with last := D.last + 1 }) 2 (.int .u64 (D.last + 1)) rfl rfl rfl ⟨DW.out.fine.dim, DW.out.fine.begun, by have := DW.out.fine.last; have := HL.out; exact ⟨by have : 0 ≤ (shutP D o.n).last := DW.out.fine.last.1; exact Int.le_trans this (by show D.last ≤ D.last + 1; omega), by show D.last + 1 ≤ 1000000; omega⟩, fun x hx => by have h1 := DW.out.fine.ops x hx; have h2 : x.start ≤ D.last := h1.2.2.2; exact ⟨h1.1, h1.2.1, h1.2.2.1, by show x.start ≤ D.last + 1; omega⟩⟩
      have hpb := (own_apart H0.out.nd).2.2.2
      have ob := hpb _ (mem_pxB HOM.out).2
      have ot := hpb _ (mem_pxB HOM.out).1
      have D4 := Lib.hid hd.1
      have T4 := Lib.hid (T0.out.only hd.2 (by simp; exact ot.1))
      have M4 := Lib.hid (M0.out.only hd.2 (by simp; exact ob.1))
      have K4 : Hid (Only [p, ba, bo] w (w2.setCell ⟨p, 2, none⟩ (.int .u64 (D.last + 1)))) := Lib.hid ((KW.out.mono (fun i hi => .inl (by simp at hi; simp [hi]))).trans hd.2 (by intro i hi; simp at hi; simp [hi]))
      have OB := Lib.hid ob
      have OTN := Lib.hid ot
      clear hd hpb ob ot c2 f2 e4
      generalize w2.setCell ⟨p, 2, none⟩ (.int .u64 (D.last + 1)) = w4 at *
      have t1 : w4.cell? ⟨o.bt, 1, none⟩ = some (.map (some o.bm)) := T4.out.cell 1
      go_wp2_with (at_range; refine wpList_range_at _ rfl (.tmp 67) tMvr rfl 30 tVr .u64 Tryz.underlying82 o.bm (wrL o.wr) rfl M4.out ?_)
      intro w5 r5 o5 s5
      have I5 : Hid (CmInv w B p ba bo w4.heap.size D o (wrL o.wr) D.all w5) := Lib.hid ⟨r5, D4.out.only o5 (by simp), fun j => by
        unfold laidL lkV
        cases hf : o.wr.find? fun x => decide (x.1 = j) with
        | none => simp
        | some y =>
          have hy := List.mem_of_find?_eq_some hf
          have hj : y.1 = j := by simpa using List.find?_some hf
          have : (wrL o.wr).any (fun q => decide (q.1 = j)) = true := List.any_eq_true.2 ⟨(y.1, y.2.val), List.mem_map.2 ⟨y, hy, rfl⟩, by simp [hj]⟩
          simp [this], K4.out.below (o5.toBelow (Nat.le_refl _) (by simp)), fun b hb => .inl (S1.out.2.2 b hb), fun hr => by have h1 := H0.out.ltr _ (S1.out.2.2 _ hr); have := K4.out.size; omega, ⟨fun y hy => .inl (List.mem_map.2 ⟨y, hy, rfl⟩), by simp [wrL], fun hne y hy => hne y hy⟩⟩
      clear r5 o5 s5 t1
      go_wp2_with fail
      go_loopw [9, 10] (fun u v wr => Hid (∃ left all', CmInv w B p ba bo w4.heap.size D o left all' wr)) (fun u v wr => wr.rangeLeft o.bm w4.heap.size)
      case atStart => exact Lib.hid ⟨_, _, I5.out⟩
      case round =>
        obtain ⟨left, all', hI⟩ := hrel.out
        have HI := Lib.hid hI
        clear hI hrel
        go_wp2_with (at_next; refine wpList_next_at _ rfl (.tmp 68) rfl o.bm w4.heap.size .u64 (wrL o.wr) left rfl HI.out.rng ?_ ?_)
        · intro hnil
          have HN2 := Lib.hid hnil
          clear hnil
          go_wp2_with fail
          go_ret
          exact ⟨_, _, HI.out.only.mono (by intro i hi; simp at hi; rcases hi with rfl | rfl | rfl <;> exact .inl (by simp [PDB.own])), fun b hb => .inl (S1.out.2.1 b hb), HI.out.kept, .inr ⟨NC.out, rfl, all', ⟨ba, bo, HI.out.db, rfl, rfl⟩, (by have h9 := HI.out.keys; rw [HN2.out] at h9; exact h9), fun j => by rw [HI.out.at_ j, HN2.out, laidL_done]⟩⟩
        · intro k v w6 hmem hr6 ho6 hs6 hen
          obtain ⟨x, hx, hkv⟩ := List.mem_map.1 (HI.out.rng.sub _ hmem)
          simp only [Prod.mk.injEq] at hkv
          obtain ⟨rfl, rfl⟩ := hkv
          have HX := Lib.hid hx
          have HM2 := Lib.hid hmem
          have R6 := Lib.hid hr6
          have O6 := Lib.hid ho6
          have D6 := Lib.hid (HI.out.db.only ho6 (by
            intro b hb
            simp at hb
            subst hb
            have := K4.out.size
            refine ⟨fun h => ?_, fun h => ?_⟩
            · have := S1.out.2.1 _ h
              have := H0.out.lt _ this
              omega
            · exact HI.out.nr h))
          clear hmem hr6 ho6 hs6 hx
          have DA : ∀ cs T, (w6.alloc (.cells cs T)).cell? ⟨p, 2, none⟩ = some (.int .u64 (D.last + 1)) := fun cs T => (D6.out.row.only ((Only.refl [] w6).alloc _) (by simp)).cell 2
          unfold Ver.val Sl.v at hen ⊢
          go_upto_region 16 with fail
          obtain ⟨V, hV⟩ : ∃ V, vsOf all' x.1 = V := ⟨_, rfl⟩
          obtain ⟨b10, hb10⟩ : ∃ b10, w6.heap.size = b10 := ⟨_, rfl⟩
          have E10 := Lib.hid hb10
          have R10 : Hid (Row (w6.alloc (.cells #[.int .u64 (D.last + 1), .bool x.2.gone, .int .u64 x.2.key, .slice x.2.vec.a x.2.vec.xs.length x.2.vec.c, .slice x.2.tag.a x.2.tag.xs.length x.2.tag.c] tVr)) b10 (newV D x.2).cells.toArray tVr) := Lib.hid (by rw [← hb10]; exact Row.made _ _ _)
          have K7 : Hid (Only [] w6 (w6.alloc (.cells #[.int .u64 (D.last + 1), .bool x.2.gone, .int .u64 x.2.key, .slice x.2.vec.a x.2.vec.xs.length x.2.vec.c, .slice x.2.tag.a x.2.tag.xs.length x.2.tag.c] tVr))) := Lib.hid ((Only.refl [] w6).alloc _)
          rw [hb10]
          clear hb10 DA hen
          generalize w6.alloc (.cells #[.int .u64 (D.last + 1), .bool x.2.gone, .int .u64 x.2.key, .slice x.2.vec.a x.2.vec.xs.length x.2.vec.c, .slice x.2.tag.a x.2.tag.xs.length x.2.tag.c] tVr) = w7 at *
          have D7 := Lib.hid (D6.out.only K7.out (by simp))
          have V7 : Hid (VsAt w7 V) := Lib.hid (by rw [← hV]; exact vsOf_at D7.out x.1)
          have VL : Hid (V.vs = (vsOf D.all x.1).vs) := Lib.hid (by rw [← hV, HI.out.at_, laidL_still HM2.out]; simp)
          have U7 : Hid (VerAt w7 (newV D x.2)) := Lib.hid (by
            have k := (HI.out.only.trans O6.out (by intro i hi; simp at hi; subst hi; exact .inr K4.out.size)).trans K7.out (by simp)
            have hu := (H0.out.wrd o HOM.out x HX.out).only k (fun b hb hm => H0.out.ap b (by simp at hm; rcases hm with rfl | rfl | rfl <;> simp [PDB.own]) (mem_reads2 HOM.out HX.out hb))
            exact ⟨hu.vec, hu.tag⟩)
          obtain ⟨ROW, hROW⟩ : ∃ ROW : Obj, ROW = .cells (newV D x.2).cells.toArray tVr := ⟨_, rfl⟩
          have K8 : Hid (Only [] w7 (w7.alloc (.cells (newV D x.2).cells.toArray tVr)).drew) := Lib.hid (((Only.refl [] w7).alloc _).drew)
          have c3 : w7.drew.cell? ⟨p, 3, none⟩ = some (.map (some ba)) := (D7.out.row.only (Only.refl [] w7).drew (by simp)).cell 3
          have c3b : (w7.alloc (.cells #[.int .u64 (D.last + 1), .bool x.2.gone, .int .u64 x.2.key, .slice x.2.vec.a x.2.vec.xs.length x.2.vec.c, .slice x.2.tag.a x.2.tag.xs.length x.2.tag.c] tVr)).drew.cell? ⟨p, 3, none⟩ = some (.map (some ba)) := (D7.out.row.only K8.out (by simp)).cell 3
          have RD := R10.out.only (Only.refl [] w7).drew (by simp)
          have q0 : w7.drew.cell? ⟨b10, 0, none⟩ = some (.int .u64 (D.last + 1)) := RD.cell 0
          have q1 : w7.drew.cell? ⟨b10, 1, none⟩ = some (.bool x.2.gone) := RD.cell 1
          have q2 : w7.drew.cell? ⟨b10, 2, none⟩ = some (.int .u64 x.2.key) := RD.cell 2
          have q3 : w7.drew.cell? ⟨b10, 3, none⟩ = some (.slice x.2.vec.a x.2.vec.xs.length x.2.vec.c) := RD.cell 3
          have q4 : w7.drew.cell? ⟨b10, 4, none⟩ = some (.slice x.2.tag.a x.2.tag.xs.length x.2.tag.c) := RD.cell 4
          have hlv : (lk x.1 (vsL all')).getD (.slice none 0 0) = .slice V.a V.vs.length V.c := by rw [lk_vsOf, hV]; rfl
          have hlk1 := (D7.out.am.only ((Only.refl [] w7).drew) (by simp)).look (P := Tryz.prog) Tryz.underlying61 Tryz.underlying30 (z := .slice none 0 0) (zeroVs _) x.1 false
          have hlk2 := (D7.out.am.only K8.out (by simp)).look (P := Tryz.prog) Tryz.underlying61 Tryz.underlying30 (z := .slice none 0 0) (zeroVs _) x.1 false
          simp only [Bool.false_eq_true, if_false] at hlk1 hlk2
          rw [hlv] at hlk1 hlk2
          have BR : Row (w7.alloc (.cells (newV D x.2).cells.toArray tVr)).drew w7.heap.size (newV D x.2).cells.toArray tVr := (Row.made w7 _ _).only (Only.refl [] _).drew (by simp)
          obtain ⟨V', w8, hrun, a1, a2, a3, k8⟩ := vs_append (V7.out.only K8.out (by simp)) (by rw [VL.out]; exact HLN.out _) (U7.out.only K8.out (by simp)) BR
          have c3c : w8.cell? ⟨p, 3, none⟩ = some (.map (some ba)) := ((D7.out.row.only K8.out (by simp)).only k8 (by simp)).cell 3
          have HA := Lib.hid (And.intro a1 (And.intro a2 a3))
          have KA := Lib.hid k8
          obtain ⟨es, clock, hb0, hs0, hL0⟩ : MapAt w8 ba .u64 (vsL all') := (D7.out.am.only K8.out (by simp)).only k8 (by simp)
          have hup := run_update (P := Tryz.prog) (w := w8) hb0 hL0 Tryz.underlying61 Tryz.underlying30 x.1 V'.v
          have HS := Lib.hid (MapAt.set hb0 hs0 hL0 x.1 V'.v)
          generalize upObj es clock .u64 x.1 V'.v (vsL all') = ob at hup HS
          have N : Hid (CmInv w B p ba bo w4.heap.size D o (rm x.1 left) (upS x.1 V' all') (ChangeMaps.setBlock w8 ba ob)) := Lib.hid (CmInv.step H0.out HBw.out HOM.out HX.out K4.out.size HI.out HM2.out (((O6.out.trans K7.out (by simp)).trans K8.out (by simp)).trans k8 (by simp)) (((R6.out.only K7.out (by simp) (by simp)).only K8.out (by simp) (by simp)).only k8 (by simp) (by simp)) (by rw [hV]; exact a1) a2 (fun ad ha => by have h1 := a3 ad ha; have h2 := R6.out.lt; have h3 := K7.out.size; have h4 := K8.out.size; omega) setBlock_only HS.out)
          have CL1 := Lib.hid (clip_on (V7.out.only ((Only.refl [] w7).drew) (by simp)) (by rw [VL.out]; exact HLN.out _))
          have CL2 := Lib.hid (clip_on (V7.out.only K8.out (by simp)) (by rw [VL.out]; exact HLN.out _))
          clear hROW ROW hb0 hs0 hL0 BR hlv RD a1 a2 a3 k8 hV
          simp only [Vs.v, cut1, newV, Ver.cells, Sl.v] at hrun hup CL1 CL2 hlk2
          go_region_law (first
            | (refine step_append_eq rfl (.tmp 90) (.tmp 92) tVrs rfl (.slice V.a V.vs.length V.vs.length) (.slice (some ⟨w7.heap.size, 0, none⟩) 1 1) (.slice V'.a V'.vs.length V'.c) w8 (by simp [Act.eval, Act.put]) (by simp [Act.eval, Act.put]) hrun ?_)
            | (go_simp; go_at_call 43; first | (refine CL1.out.mono ?_) | (refine CL2.out.mono ?_); rintro _ x1 ⟨rfl, hz⟩; subst x1))
          all_goals
            go_wp2_with fail
            go_roundw
            case rel => exact Lib.hid ⟨_, _, N.out⟩
            case measure =>
              rw [N.out.rng.left_eq, HI.out.rng.left_eq]
              exact rm_lt HM2.out
    · intro k v w3 hmem hr3 ho3 hs3 hen
      obtain ⟨x, hx, hkv⟩ := List.mem_map.1 (RG.out.sub _ hmem)
      simp only [Prod.mk.injEq] at hkv
      obtain ⟨rfl, rfl⟩ := hkv
      have HX := Lib.hid hx
      have HM2 := Lib.hid hmem
      have R3 := Lib.hid hr3
      have B3 : Hid (Below w1.heap.size w1 w3) := Lib.hid (HB.out.trans (ho3.toBelow (by exact HB.out.size) (by simp)))
      have D3 := Lib.hid (S1.out.1.only ((Only.refl [] w1).below B3.out) (by simp))
      have T3 := Lib.hid (OT.out.1.only ((Only.refl [] w1).below B3.out) (by simp))
      have t0 : w3.cell? ⟨o.bt, 0, none⟩ = some (.int .u64 o.start) := T3.out.cell 0
      have c3 : w3.cell? ⟨p, 3, none⟩ = some (.map (some ba)) := D3.out.row.cell 3
      have LK := Lib.hid (lk_vsOf D.all x.1)
      have V3 : Hid (VsAt w3 (vsOf D.all x.1)) := Lib.hid (vsOf_at D3.out x.1)
      have N3 : Hid (Rng w3.drew o.bm w1.heap.size .u64 (wrL o.wr) (rm x.1 left) ∧ Below w1.heap.size w1 w3.drew) := Lib.hid ⟨R3.out.only ((Only.refl [] _).drew) (by simp) (by simp), B3.out.trans ((Only.refl [] w3).drew.toBelow B3.out.size (by simp))⟩
      clear hmem hr3 ho3 hs3 hx
      unfold Vs.v at LK
      rcases List.eq_nil_or_concat (vsOf D.all x.1).vs with hnil | ⟨pre, z, hz⟩
      · have NC : Hid (¬ ClashAt (vsOf D.all x.1) o.start) := Lib.hid (by rintro ⟨v, hv, _⟩; rw [hnil] at hv; simp at hv)
        rw [hnil] at LK
        clear hnil
        go_upto_region 9 with (at_lookup; refine wpList_look_to rfl (.tmp 37) (.tmp 38) tMvs rfl 30 tVrs .u64 Tryz.underlying61 Tryz.underlying30 _ zeroVs ba (vsL D.all) rfl D3.out.am x.1 rfl _ LK.out ?_)
        generalize (vsOf D.all x.1).a = va
        generalize (vsOf D.all x.1).c = vc
        go_region
        all_goals
          go_wp2_with fail
          go_roundw
          case rel =>
            refine Lib.hid ⟨rm x.1 left, N3.out.1, fun y hy hn => ?_, N3.out.2⟩
            by_cases e : y.1 = x.1
            · rw [e]; exact NC.out
            · exact HY.out y hy fun q hq e' => hn q (mem_rm.2 ⟨hq, fun h => e (e'.symm.trans h)⟩) e'
          case measure =>
            rw [N3.out.1.left_eq, RG.out.left_eq]
            exact rm_lt HM2.out
      · have hx : (vsOf D.all x.1).vs[pre.length]? = some z := by rw [hz]; simp
        have hln : (vsOf D.all x.1).vs.length = pre.length + 1 := by rw [hz]; simp
        obtain ⟨b, f, ha, hc⟩ := Vs.at_ V3.out hx
        have c0 := hc 0 (by omega)
        simp only [Ver.cells, List.getElem?_cons_zero, Nat.add_zero] at c0
        have HLN := Lib.hid hln
        have HX0 := Lib.hid hx
        have HLS : Hid ((vsOf D.all x.1).vs.getLast? = some z) := Lib.hid (by rw [hz]; simp)
        have hcap := V3.out.cap
        have e2 : IntKind.i64.wrap (pre.length : Int) = (pre.length : Int) := IntWalk.i64_in _ (by unfold maxLen at hcap; omega)
        have e3 : wrap64 (pre.length : Int) = (pre.length : Int) := by unfold wrap64; unfold maxLen at hcap; omega
        rw [hln, ha] at LK
        clear hln hx hz hc ha hcap
        generalize pre.length = m at *
        generalize (vsOf D.all x.1).c = vc at *
        go_upto_region 9 with (at_lookup; refine wpList_look_to rfl (.tmp 37) (.tmp 38) tMvs rfl 30 tVrs .u64 Tryz.underlying61 Tryz.underlying30 _ zeroVs ba (vsL D.all) rfl D3.out.am x.1 rfl _ LK.out ?_)
        by_cases hlt : o.start < z.at_
        · have CL : Hid (ClashP D o) := Lib.hid ⟨x, HX.out, z, HLS.out, hlt⟩
          go_region
          all_goals
            go_wp2_with fail
            go_ret
            exact ⟨(shutP D o.n).own p ba bo, (shutP D o.n).reads, ((K1.out.below B3.out).drew).mono (by intro i hi; simp at hi; subst hi; exact .inl (by simp [PDB.own])), fun b hb => .inl (S1.out.2.1 b hb), fun b hb => .inl (S1.out.2.2 b hb), .inl ⟨CL.out, rfl, ba, bo, D3.out.only (Only.refl [] _).drew (by simp), rfl, rfl⟩⟩
        · have NC : Hid (¬ ClashAt (vsOf D.all x.1) o.start) := Lib.hid (by rintro ⟨v, hv, h⟩; rw [HLS.out] at hv; cases hv; exact hlt h)
          go_region
          all_goals
            go_wp2_with fail
            go_roundw
            case rel =>
              refine Lib.hid ⟨rm x.1 left, N3.out.1, fun y hy hn => ?_, N3.out.2⟩
              by_cases e : y.1 = x.1
              · rw [e]; exact NC.out
              · exact HY.out y hy fun q hq e' => hn q (mem_rm.2 ⟨hq, fun h => e (e'.symm.trans h)⟩) e'
            case measure =>
              rw [N3.out.1.left_eq, RG.out.left_eq]
              exact rm_lt HM2.out
end Go.Proofs.YtmbmkfhdiljalaaGreat

/- Plain: what was committed is seen by who begins then, and no one else (known). -/
namespace Go.Proofs.YtmbmkfhdiljalaaGreat
open Go.RowKit Go.Shelf Go.ChangeShapes Go.WideShapes Go.ChangeAt
set_option linter.unusedVariables false
set_option linter.unusedSimpArgs false

set_option maxRecDepth 100000 in
set_option maxHeartbeats 8000000 in
theorem known_on (w : World) : Calls Tryz.prog 5 #[] w fun e w' => e = .returned (.bool true) ∧ Below w.heap.size w w' := by
  go_enter Tryz.func5, Tryz.ntmps5
  go_wp2_with fail
  refine (new_on 1 w (by omega) (by omega)).mono ?_
  rintro _ w1 ⟨p, F, H, rfl, hd, hb⟩
  have D1 := Lib.hid hd
  have B1 := Lib.hid hb
  have G1 : Hid (∀ b ∈ F, w.heap.size ≤ b) := Lib.hid hd.ge.1
  clear hd hb
  go_wp2_with fail
  refine (begin_on D1.out B1.out.size (by simp [newP]) (by simp [newP])).mono ?_
  rintro _ w2 ⟨bt1, bm1, F2, rfl, hd, ho, hk⟩
  have D2 := Lib.hid hd
  have B2 : Hid (Below w.heap.size w w2) := Lib.hid (B1.out.trans (ho.toBelow B1.out.size G1.out))
  have G2 : Hid (∀ b ∈ F2, w.heap.size ≤ b) := Lib.hid hd.ge.1
  clear hd ho hk D1 G1
  simp only [newP, Int.zero_add]
  go_wp2_with fail
  refine (begin_on D2.out B2.out.size (by simp [newP, beginP]) (by simp [newP, beginP])).mono ?_
  rintro _ w3 ⟨bt2, bm2, F3, rfl, hd, ho, hk⟩
  have D3 := Lib.hid hd
  have B3 : Hid (Below w.heap.size w w3) := Lib.hid (B2.out.trans (ho.toBelow B2.out.size G2.out))
  have G3 : Hid (∀ b ∈ F3, w.heap.size ≤ b) := Lib.hid hd.ge.1
  clear hd ho hk D2 G2
  go_wp2_with fail
  have R4 : Hid (Row (w3.alloc (.cells #[.int .i32 5] 21)) w3.heap.size #[.int .i32 5] 21) := Lib.hid (Row.made _ _ _)
  have K4 : Hid (Only [] w3 (w3.alloc (.cells #[.int .i32 5] 21))) := Lib.hid ((Only.refl [] w3).alloc _)
  have S4 : Hid (SlAt .i32 (w3.alloc (.cells #[.int .i32 5] 21)) ⟨some ⟨w3.heap.size, 0, none⟩, 1, [5]⟩) := Lib.hid ⟨.inr ⟨_, 0, 1, rfl, fun i hi => by
    obtain rfl : i = 0 := by simpa using hi
    exact R4.out.cell 0⟩, fun b hb => by simp [Sl.bs] at hb; subst hb; exact R4.out.lt, fun h => by simp at h, by simp, fun b hb => by simp [Sl.bs] at hb; subst hb; exact ⟨_, _, R4.out⟩⟩
  generalize w3.alloc (.cells #[.int .i32 5] 21) = w4 at *
  have P4 := Lib.hid (put_on (n := 1) (key := 1) (o := ⟨1, 0, bt1, bm1, []⟩) (D3.out.only K4.out (by simp)) (Nat.le_trans B3.out.size K4.out.size) (by simp [findP, beginP, newP]) S4.out.rd (SlAt.no .u8 w4).rd (by simp [beginP, newP]) (by simp [Sl.no]))
  refine P4.out.mono ?_
  rintro _ w5 ⟨v, H5, rfl, v0, v1, v2, v3, v4, hd, ho, hk⟩
  have D5 := Lib.hid hd
  have B5 : Hid (Below w.heap.size w w5) := Lib.hid ((B3.out.trans (K4.out.toBelow B3.out.size (by simp))).trans (ho.toBelow (Nat.le_trans B3.out.size K4.out.size) G3.out))
  have V := Lib.hid (And.intro v1 (And.intro v2 v3))
  clear hd ho hk D3 P4 S4 R4 K4 v0 v1 v2 v3 v4
  have E5 : Hid (wroteP (beginP (beginP (newP 1) bt1 bm1) bt2 bm2) 1 1 v = ⟨1, 2, 0, [], [⟨1, 0, bt1, bm1, [(1, v)]⟩, ⟨2, 0, bt2, bm2, []⟩]⟩) := Lib.hid (by simp [wroteP, beginP, newP, upV])
  have D5 := Lib.hid (E5.out ▸ D5.out)
  clear E5
  go_wp2_with fail
  have P5 := Lib.hid (commit_on (n := 1) (o := ⟨1, 0, bt1, bm1, [(1, v)]⟩) D5.out B5.out.size (by simp [findP]) (by simp) (fun j => by simp [vsOf, Vs.no]))
  refine P5.out.mono ?_
  rintro _ w6 ⟨F6, H6, ho, hk1, hk2, ⟨hc, _⟩ | ⟨_, rfl, all', hd, _, hall⟩⟩
  · exfalso
    obtain ⟨y, _, u, hu, _⟩ := hc
    simp [vsOf, Vs.no] at hu
  have B6 : Hid (Below w.heap.size w w6) := Lib.hid (B5.out.trans (ho.toBelow B5.out.size G3.out))
  have G6 : Hid (∀ b ∈ F6, w.heap.size ≤ b) := Lib.hid hd.ge.1
  have E6 : Hid (({ shutP ⟨1, 2, 0, [], [⟨1, 0, bt1, bm1, [(1, v)]⟩, ⟨2, 0, bt2, bm2, []⟩]⟩ 1 with last := 1, all := all' } : PDB) = ⟨1, 2, 1, all', [⟨2, 0, bt2, bm2, []⟩]⟩) := Lib.hid (by simp [shutP])
  have D6 : Hid (DbF w6 w.heap.size p ⟨1, 2, 1, all', [⟨2, 0, bt2, bm2, []⟩]⟩ F6 H6) := Lib.hid (by rw [← E6.out]; exact hd)
  have A6 : Hid ((vsOf all' 1).vs = [{ v with at_ := 1 }]) := Lib.hid (by
    have := hall 1
    rw [this]
    rw [show vsOf ([] : List (Int × Vs)) 1 = Vs.no from rfl]
    simp [Vs.no, lkV])
  clear hd ho hk1 hk2 hall E6 P5 D5 G3
  go_wp2_with fail
  refine (begin_on D6.out B6.out.size (by simp) (by simp)).mono ?_
  rintro _ w7 ⟨bt3, bm3, F7, rfl, hd, ho, hk⟩
  have B7 : Hid (Below w.heap.size w w7) := Lib.hid (B6.out.trans (ho.toBelow B6.out.size G6.out))
  have D7 : Hid (DbF w7 w.heap.size p ⟨1, 3, 1, all', [⟨2, 0, bt2, bm2, []⟩, ⟨3, 1, bt3, bm3, []⟩]⟩ F7 H6) := Lib.hid (by simpa [beginP] using hd)
  clear hd ho hk D6 G6
  simp only [Int.reduceAdd]
  go_wp2_with fail
  obtain ⟨ba, bo, h7, _, _⟩ := D7.out
  have H7 := Lib.hid h7
  clear h7
  have P7 := Lib.hid (get_on (n := 2) (key := 1) (o := ⟨2, 0, bt2, bm2, []⟩) H7.out (by simp [findP]) (by rw [A6.out]; simp))
  have S7 : Hid (seesR ⟨1, 3, 1, all', [⟨2, 0, bt2, bm2, []⟩, ⟨3, 1, bt3, bm3, []⟩]⟩ ⟨2, 0, bt2, bm2, []⟩ 1 = none) := Lib.hid (by simp [seesR, lkV, A6.out, asofL])
  rw [S7.out] at P7
  refine P7.out.mono ?_
  rintro _ w8 ⟨rfl, hb⟩
  have K8 : Hid (Only [] w7 w8) := Lib.hid ((Only.refl [] w7).below hb)
  have B8 : Hid (Below w.heap.size w w8) := Lib.hid (B7.out.trans (hb.mono B7.out.size))
  clear hb P7 S7
  unfold itemV
  go_wp2_with fail
  have K9 : Hid (Only [] w7 (w8.alloc (.cells #[.int .u64 0, .slice none 0 0, .slice none 0 0] tIt))) := Lib.hid (K8.out.alloc _)
  have B9 : Hid (Below w.heap.size w (w8.alloc (.cells #[.int .u64 0, .slice none 0 0, .slice none 0 0] tIt))) := Lib.hid (B8.out.alloc B8.out.size _)
  generalize w8.alloc (.cells #[.int .u64 0, .slice none 0 0, .slice none 0 0] tIt) = w9 at *
  have P9 := Lib.hid (get_on (n := 3) (key := 1) (o := ⟨3, 1, bt3, bm3, []⟩) (H7.out.only K9.out (by simp)) (by simp [findP]) (by rw [A6.out]; simp))
  have S9 : Hid (seesR ⟨1, 3, 1, all', [⟨2, 0, bt2, bm2, []⟩, ⟨3, 1, bt3, bm3, []⟩]⟩ ⟨3, 1, bt3, bm3, []⟩ 1 = some { v with at_ := 1 }) := Lib.hid (by simp [seesR, lkV, A6.out, asofL])
  rw [S9.out] at P9
  unfold GetTo at P9
  simp only [V.out.1, Bool.false_eq_true, if_false] at P9
  refine P9.out.mono ?_
  rintro _ w10 ⟨va, ta, rfl, e1, e2, m1, m2, fr, hb⟩
  have B10 : Hid (Below w.heap.size w w10) := Lib.hid (B9.out.trans (hb.mono B9.out.size))
  obtain ⟨b, o, c, hv, hc, hlt⟩ : ∃ (b o c : Nat), va.v = .slice (some ⟨b, o, none⟩) 1 c ∧ w10.cell? ⟨b, o, none⟩ = some (.int .i32 5) ∧ b < w10.heap.size := by
    have hx : va.xs = [5] := e1.trans V.out.2.2
    rcases m1.ints with ⟨h, _⟩ | ⟨b, o, c, h, hc⟩
    · rw [hx] at h; simp at h
    · rw [hx] at h hc
      exact ⟨b, o, c, h, by have := hc 0 (by simp); simpa using this, World.block_lt_of_cell? _ _ (hc 0 (by simp))⟩
  rw [hv]
  have c1 : (w10.alloc (.cells #[.int .u64 ({ v with at_ := 1 } : Ver).key, .slice (some ⟨b, o, none⟩) 1 c, ta.v] tIt)).cell? ⟨b, o, none⟩ = some (.int .i32 5) := by rw [((Only.refl [] w10).alloc _).cell hlt (by simp)]; exact hc
  obtain ⟨t1, t2, t3, ht⟩ : ∃ a n c, ta.v = .slice a n c := ⟨_, _, _, rfl⟩
  rw [ht] at c1 ⊢
  clear e1 e2 m1 m2 fr hb hv hc hlt ht P9 S9
  go_wp2_with fail
  go_ret
  exact ⟨rfl, B10.out.alloc B10.out.size _⟩
end Go.Proofs.YtmbmkfhdiljalaaGreat
