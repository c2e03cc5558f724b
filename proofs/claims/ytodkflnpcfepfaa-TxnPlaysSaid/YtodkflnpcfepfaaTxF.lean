/- Commit: the walk. -/
import Derived.Test.YtodkflnpcfepfaaTxE
namespace Go.Proofs.Ytodkflnpcfepfaa
open Go.RowKit Go.ChangeShapes Go.WideShapes Go.ChangeAt
set_option linter.unusedVariables false
set_option linter.unusedSimpArgs false

set_option maxHeartbeats 1000000 in
theorem commit_clash (B p bo bw : Nat) (dv : Value) (M : Mg) (w : World) (n : Int) (o : Tx) (h : MgAt w B p bo bw dv M) (ho : findT n M.os = some o) (hc : Clash M o) :
    Calls Try.prog 12 #[.pointer (some ⟨p, 0, none⟩), .int .u64 n] w fun e w' => e = .returned (.tuple #[.int .u64 0, .int .i64 11]) ∧ Below w.heap.size w w' := by
  have C1 := check_yes B p bo bw dv M w n o h ho
  rw [if_pos hc] at C1
  have C2 := Lib.hid C1
  clear C1 h ho hc
  go_enter Try.func12, Try.ntmps12
  go_wp2_with fail
  refine C2.out.mono ?_
  rintro _ w' ⟨rfl, hb⟩
  have HB := Lib.hid hb
  clear hb
  go_wp2_with fail
  go_ret2
  exact ⟨rfl, HB.out⟩
set_option maxHeartbeats 1000000 in
theorem commit_no (B p bo bw : Nat) (dv : Value) (M : Mg) (w : World) (n : Int) (h : MgAt w B p bo bw dv M) (ho : findT n M.os = none) :
    Calls Try.prog 12 #[.pointer (some ⟨p, 0, none⟩), .int .u64 n] w fun e w' => e = .returned (.tuple #[.int .u64 0, .int .i64 12]) ∧ w' = w := by
  have C2 := Lib.hid (check_no B p bo bw dv M w n h ho)
  clear h ho
  go_enter Try.func12, Try.ntmps12
  go_wp2_with fail
  refine C2.out.mono ?_
  rintro _ w' ⟨rfl, rfl⟩
  go_wp2_with fail
  go_ret2
  exact ⟨rfl, rfl⟩
theorem up_freshW (n : Int) (v : Value) (ws : List Wr) (h : ∀ x ∈ ws, x.st ≠ n) : up n v (wsL ws) = wsL ws ++ [(n, v)] := by
  refine up_none fun p hp => ?_
  obtain ⟨o, ho, rfl⟩ := List.mem_map.1 hp
  exact h o ho
def CommitPost (B p bo bw : Nat) (dv : Value) (M : Mg) (o : Tx) (w : World) (e : Ending) (w' : World) : Prop :=
  ∃ v', e = .returned (.tuple #[.int .u64 (M.last + 1), .int .i64 0]) ∧ MgAt w' B p bo bw v' (commitM M o) ∧ Only (M.blocks p bo bw dv) w w' ∧ ∀ b ∈ (commitM M o).blocks p bo bw v', b ∈ M.blocks p bo bw dv ∨ w.heap.size ≤ b
set_option maxHeartbeats 4000000 in
theorem commit_ok (B p bo bw : Nat) (dv : Value) (M : Mg) (w : World) (n : Int) (o : Tx) (h : MgAt w B p bo bw dv M) (hB : B ≤ w.heap.size) (ho : findT n M.os = some o) (hc : ¬ Clash M o) (hl : M.last < 1000000) (hd : M.ds.length < 1000000) :
    Calls Try.prog 12 #[.pointer (some ⟨p, 0, none⟩), .int .u64 n] w (CommitPost B p bo bw dv M o w) := by
  have C1 := check_yes B p bo bw dv M w n o h ho
  rw [if_neg hc] at C1
  have C2 := Lib.hid C1
  obtain ⟨hm, rfl⟩ := findT_some ho
  have H := Lib.hid h
  have HM := Lib.hid hm
  have HO := Lib.hid ho
  have HB := Lib.hid hB
  have HD := Lib.hid hd
  have g0 := h.fine.last0
  clear C1 h ho hc hm hB hd
  go_enter Try.func12, Try.ntmps12
  go_wp2_with fail
  refine C2.out.mono ?_
  rintro _ wc ⟨rfl, hb⟩
  have HWC := Lib.hid hb
  have MC : Hid (MgAt wc B p bo bw dv M) := Lib.hid (H.out.only (G := []) ⟨hb.os, hb.tape, hb.output, hb.size, fun i hi _ => hb.block i hi⟩ (by simp))
  clear hb C2
  have c2 := MC.out.c2
  have fz := MC.out.row.free 2
  go_wp2_with fail
  have hsz1 : (wc.setCell ⟨p, 2, none⟩ (.int .u64 (M.last + 1))).heap.size = wc.heap.size := by simp [World.setCell]
  have M1 := Lib.hid (MC.out.step2 hl)
  have K1 : Hid (Only [p] wc (wc.setCell ⟨p, 2, none⟩ (.int .u64 (M.last + 1)))) := Lib.hid ((Only.refl _ _).setCell (by simp) _)
  have HSZ := Lib.hid hsz1
  clear hsz1 c2 fz
  generalize wc.setCell ⟨p, 2, none⟩ (.int .u64 (M.last + 1)) = w1 at *
  have d2 := M1.out.c2
  have d4 := M1.out.c4
  simp only at d2 d4
  have plt := M1.out.row.lt
  obtain ⟨X, hX⟩ : ∃ X, X = (Obj.cells #[.int .u64 o.n, .int .u64 (M.last + 1)] 47 (0, 0)) := ⟨_, rfl⟩
  have kX : Only [] w1 (w1.alloc X).drew := ((Only.refl [] w1).alloc X).drew
  have d4a : (w1.alloc X).cell? ⟨p, 4, none⟩ = some dv := by rw [((Only.refl [] w1).alloc _).cell plt (by simp)]; exact d4
  obtain ⟨i0, hi0, hz0, hz1, hz2⟩ := info_parts infoStamp
  have ownX : (w1.alloc X).drew.ownsRow B 47 2 dv M.ds.length (dsL M.ds) := own_keep (M1.out.dr.alloc X) (fun _ _ => rfl)
  have hBs : B ≤ w1.heap.size := by have := HSZ.out; have := HWC.out.size; have := HB.out; omega
  obtain ⟨v', W2, hrun, ho, hg, hfr⟩ := append_own_at (P := Try.prog) (w1.alloc X).drew B 40 40 47 i0 _ 2 16 Try.underlying40 hi0 hz0 hz1 hz2 (by rfl) (by decide) dv M.ds.length (dsL M.ds) ownX
    ⟨w1.heap.size, 0, none⟩ 1 1 [.int .u64 o.n, .int .u64 (M.last + 1)] rfl (by
      have hr : Row (w1.alloc X).drew w1.heap.size #[.int .u64 o.n, .int .u64 (M.last + 1)] 47 := by rw [hX]; exact (Row.made w1 _ _)
      intro j u hj
      rw [add_plain, Nat.zero_add, hr.cell j]
      rcases j with _ | _ | j
      · simpa using hj
      · simpa using hj
      · simp at hj) (by simp [Value.oneCell']) (by have := HD.out; unfold maxLen; omega) (by have := HD.out; omega) (by simp; omega)
  obtain ⟨pp, cc, hv', _, _⟩ := own_shape ho
  obtain ⟨a1, a2, a3, a4, a5, a6⟩ := head_apart M1.out.nd
  have K2 : Only dv.ownBlock.toList w1 W2 := (kX.mono (by simp)).grown hg (by intro k hk; exact .inl (by simp [hk]))
  have pn : p ∉ dv.ownBlock.toList := fun hm => (a4 p (by simpa using hm)).1 rfl
  have d4c : W2.cell? ⟨p, 4, none⟩ = some dv := by rw [K2.cell plt pn]; exact d4
  have fz4 : W2.frozen? ⟨p, 4, none⟩ = false := (M1.out.row.only K2 pn).free 4
  have hAP := Lib.hid (M1.out.appended (n := o.n) (t := M.last + 1) hBs HD.out ho K2 (by
    rcases hfr with e | e
    · exact .inl e
    · exact .inr fun g hg => by have := e g hg; simp at this; omega))
  clear ho hg hfr ownX K2 pn a1 a2 a3 a4 a5 a6 hBs
  subst hv'
  have HX := Lib.hid hX
  rw [hX] at d4a hrun
  clear hX kX
  go_region_law (refine step_append_eq rfl (.tmp 24) (.tmp 31) 40 rfl dv (.slice (some ⟨w1.heap.size, 0, none⟩) 1 1) (.slice pp (M.ds.length + 1) cc) W2 (by simp [Act.eval, Act.put]) (by simp [Act.eval, Act.put]) hrun ?_)
  all_goals
    have HLT := Lib.hid (M1.out.lt)
    have SZ1 := Lib.hid (show w.heap.size ≤ w1.heap.size by have := HSZ.out; have := HWC.out.size; omega)
    clear d2 d4 plt d4a d4c fz4 hrun hi0 hz0 hz1 hz2 HX
    generalize W2.setCell ⟨p, 4, none⟩ (.slice pp (M.ds.length + 1) cc) = w6 at *
    generalize Value.slice pp (M.ds.length + 1) cc = dv2 at *
    have M6 := Lib.hid hAP.out.1
    have K6 := Lib.hid hAP.out.2.1
    have V6 := Lib.hid hAP.out.2.2
    clear hAP
    have e2 := M6.out.c2
    have e3 := M6.out.c3
    have e5 := M6.out.c5
    simp only at e2 e3 e5
    have e1 := (one_cells (M6.out.oa o HM.out).1).2
    have hlk0 := (M6.out.om.only ((Only.refl [] w6).drew) (by simp)).look (P := Try.prog) Try.underlying64 Try.underlying29 (z := .pointer none) (zeroOne _) o.n false
    have hlv : (lk o.n (osL M.os)).getD (.pointer none) = .pointer (some ⟨o.bt, 0, none⟩) := by
      have ho := HO.out
      unfold osL
      rw [lk_map]
      unfold findT at ho
      rw [ho]; rfl
    simp only [Bool.false_eq_true, if_false] at hlk0
    rw [hlv] at hlk0
    clear hlv
    obtain ⟨es, clock, hb0, hs0, hL0⟩ : MapAt w6.drew bw .u64 (wsL M.ws) := M6.out.wm.only ((Only.refl [] w6).drew) (by simp)
    have hup := run_update (P := Try.prog) (w := w6.drew) hb0 hL0 Try.underlying65 Try.underlying29 (M.last + 1) (.map (some o.bk))
    have hset := MapAt.set hb0 hs0 hL0 (M.last + 1) (.map (some o.bk))
    rw [up_freshW _ _ _ (fun x hx => by have := (H.out.fine.ws1 x hx).2; omega)] at hset
    have HS := Lib.hid hset
    generalize upObj es clock .u64 (M.last + 1) (.map (some o.bk)) (wsL M.ws) = ob at hup HS
    clear hb0 hs0 hL0 hset
    go_wp2_with fail
    go_region
    all_goals
      have K7 : Hid (Only [bw] w6 (ChangeMaps.setBlock w6.drew bw ob)) := Lib.hid (((Only.refl [bw] w6).drew).trans setBlock_only (by simp))
      clear hup hlk0
      generalize ChangeMaps.setBlock w6.drew bw ob = w7 at *
      have hap := head_apart M6.out.nd
      have f3 : w7.cell? ⟨p, 3, none⟩ = some (.map (some bo)) := by rw [K7.out.cell M6.out.row.lt (by simpa using hap.2.1)]; exact e3
      have OM7 := Lib.hid (M6.out.om.only K7.out (by simpa using hap.2.2.1))
      clear hap e1 e2 e3 e5
      go_wp2_with (at_delete; refine wpList_delete_at _ rfl (.tmp 55) (.tmp 56) 64 29 rfl 71 .u64 Try.underlying64 Try.underlying29 bo (osL M.os) rfl OM7.out o.n rfl ?_)
      intro w8 hm8 k8 hs8
      have hap := head_apart M6.out.nd
      have hrm : rm o.n (osL M.os) = osL (M.os.filter fun x => !decide (x.n = o.n)) := by
        exact rm_map (fun o => o.n) (fun o => .pointer (some ⟨o.bt, 0, none⟩)) o.n M.os
      rw [hrm] at hm8
      have K8 : Only [bw, bo] w6 w8 := (K7.out.mono (G := [bw, bo]) (by simp)).trans k8 (by simp)
      have hW8 : MapAt w8 bw .u64 (wsL (M.ws ++ [⟨M.last + 1, o.keys, o.bk⟩])) := by
        rw [wsL_append]
        exact HS.out.only k8 (by simpa using hap.2.2.1.symm)
      obtain ⟨M8, hmem⟩ := M6.out.filed (o := o) HM.out (by show 0 < M.last + 1; omega) K8 hW8 hm8
      have c2 := M8.c2
      simp only at c2
      have KK : Only (M.blocks p bo bw dv) w w8 := by
        have q1 : Only (M.blocks p bo bw dv) w w1 := ((Only.refl _ w).below HWC.out).trans K1.out (by simp [Mg.blocks])
        have q2 : Only (M.blocks p bo bw dv) w w6 := q1.trans K6.out (by
          intro i hi
          rcases List.mem_cons.1 hi with rfl | hi
          · exact .inl (by simp [Mg.blocks])
          · exact .inl (by simp [Mg.blocks]; simp at hi; simp [hi]))
        exact q2.trans K8 (by intro i hi; simp at hi; rcases hi with rfl | rfl <;> exact .inl (by simp [Mg.blocks]))
      have MM : Hid (MgAt w8 B p bo bw dv2 (commitM M o)) := Lib.hid M8
      have HK := Lib.hid KK
      have HMM := Lib.hid hmem
      clear hm8 k8 hs8 K8 hW8 M8 hmem KK hap hrm
      go_wp2_with fail
      go_ret2
      refine ⟨dv2, rfl, MM.out, HK.out, fun b hb => ?_⟩
      have h1 := HMM.out b hb
      simp only [Mg.blocks, List.mem_cons, List.mem_append] at h1 ⊢
      rcases h1 with h1 | h1 | h1 | h1 | h1
      · exact .inl (.inl h1)
      · exact .inl (.inr (.inl h1))
      · exact .inl (.inr (.inr (.inl h1)))
      · rcases V6.out b (by simpa using h1) with e | e
        · exact .inl (.inr (.inr (.inr (.inl (by simp [e])))))
        · exact .inr (Nat.le_trans SZ1.out e)
      · exact .inl (.inr (.inr (.inr (.inr h1))))
end Go.Proofs.Ytodkflnpcfepfaa
