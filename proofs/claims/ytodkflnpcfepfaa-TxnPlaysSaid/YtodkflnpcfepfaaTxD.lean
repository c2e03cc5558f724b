/- Wrote, Check. -/
import Derived.Test.YtodkflnpcfepfaaTxC
namespace Go.Proofs.Ytodkflnpcfepfaa
open Go.RowKit
set_option linter.unusedVariables false
set_option linter.unusedSimpArgs false

theorem MgAt.os_nodup {w : World} {B p bo bw : Nat} {dv : Value} {M : Mg} (h : MgAt w B p bo bw dv M) : (M.os.map (·.n)).Nodup := by
  have := h.om.nodup
  simpa [osL, List.map_map, Function.comp_def] using this
theorem MgAt.ws_nodup {w : World} {B p bo bw : Nat} {dv : Value} {M : Mg} (h : MgAt w B p bo bw dv M) : (M.ws.map (·.st)).Nodup := by
  have := h.wm.nodup
  simpa [wsL, List.map_map, Function.comp_def] using this
theorem eq_of_map {α : Type} {f : α → Int} : ∀ {l : List α} {x y : α}, (l.map f).Nodup → x ∈ l → y ∈ l → f x = f y → x = y
  | a :: l, x, y, hn, hx, hy, h => by
    simp only [List.map_cons, List.nodup_cons] at hn
    rcases List.mem_cons.1 hx with rfl | hx' <;> rcases List.mem_cons.1 hy with rfl | hy'
    · rfl
    · exact absurd (List.mem_map.2 ⟨y, hy', h.symm⟩) hn.1
    · exact absurd (List.mem_map.2 ⟨x, hx', h⟩) hn.1
    · exact eq_of_map hn.2 hx' hy' h
def wroteM (M : Mg) (n k : Int) : Mg := { M with os := M.os.map fun x => if x.n = n then { x with keys := addK k x.keys } else x }
theorem wrote_blocks (M : Mg) (n k : Int) (p bo bw : Nat) (dv : Value) : (wroteM M n k).blocks p bo bw dv = M.blocks p bo bw dv := by
  have : osB (wroteM M n k).os = osB M.os := by
    unfold osB wroteM
    rw [List.flatMap_map]
    congr 1
    funext x
    by_cases h : x.n = n <;> simp [h]
  unfold Mg.blocks
  rw [this]
  rfl
theorem wrote_osL (M : Mg) (n k : Int) : osL (wroteM M n k).os = osL M.os := by
  unfold osL wroteM
  rw [List.map_map]
  refine List.map_congr_left fun x _ => ?_
  by_cases h : x.n = n <;> simp [h]
theorem nodup_disj {M : Mg} {p bo bw : Nat} {dv : Value} (h : (M.blocks p bo bw dv).Nodup) {o : Tx} (ho : o ∈ M.os) : o.bk ≠ p ∧ o.bk ≠ bo ∧ o.bk ≠ bw ∧ dv.ownBlock ≠ some o.bk ∧ (∀ x ∈ M.os, o.bk ≠ x.bt) ∧ (∀ x ∈ M.os, x ≠ o → o.bk ≠ x.bk) ∧ (∀ x ∈ M.ws, o.bk ≠ x.bk) := by
  simp only [Mg.blocks, List.nodup_cons, List.nodup_append, List.mem_cons, List.mem_append, not_or] at h
  obtain ⟨⟨a1, a2, a3, a4, a5⟩, ⟨b1, b2, b3, b4⟩, ⟨c1, c2, c3⟩, d1, ⟨e1, e2, e3⟩, d2⟩ := h
  have hm := mem_osB ho
  refine ⟨fun e => a4 (e ▸ hm.2), fun e => b3 (e ▸ hm.2), fun e => c2 (e ▸ hm.2), fun e => d2 o.bk (by simp [e]) o.bk (.inl hm.2) rfl, ?_, ?_, fun x hx e => e3 o.bk hm.2 x.bk (mem_wsB hx) e⟩
  · intro x hx
    obtain ⟨s, t, hst⟩ := List.append_of_mem ho
    rw [hst] at hx e1
    have e1' : (osB s ++ (o.bt :: o.bk :: osB t)).Nodup := by rw [osB_append] at e1; simpa [osB] using e1
    rw [List.nodup_append] at e1'
    obtain ⟨_, f2, f3⟩ := e1'
    simp only [List.nodup_cons, List.mem_cons, not_or] at f2
    rcases List.mem_append.1 hx with hx | hx
    · exact fun e => f3 x.bt (mem_osB hx).1 o.bk (by simp) e.symm
    · rcases List.mem_cons.1 hx with rfl | hx
      · exact fun e => f2.1.1 e.symm
      · exact fun e => f2.2.1 (e ▸ (mem_osB hx).1)
  · intro x hx hne
    obtain ⟨s, t, hst⟩ := List.append_of_mem ho
    rw [hst] at hx e1
    have e1' : (osB s ++ (o.bt :: o.bk :: osB t)).Nodup := by rw [osB_append] at e1; simpa [osB] using e1
    rw [List.nodup_append] at e1'
    obtain ⟨_, f2, f3⟩ := e1'
    simp only [List.nodup_cons, List.mem_cons, not_or] at f2
    rcases List.mem_append.1 hx with hx | hx
    · exact fun e => f3 x.bk (mem_osB hx).2 o.bk (by simp) e.symm
    · rcases List.mem_cons.1 hx with rfl | hx
      · exact absurd rfl hne
      · exact fun e => f2.2.1 (e ▸ (mem_osB hx).2)
theorem MgAt.wrote {w w' : World} {B p bo bw : Nat} {dv : Value} {M : Mg} {o : Tx} {k : Int} (h : MgAt w B p bo bw dv M) (ho : o ∈ M.os) (hk : MapAt w' o.bk .u64 (setL (addK k o.keys))) (kO : Only [o.bk] w w') : MgAt w' B p bo bw dv (wroteM M o.n k) := by
  obtain ⟨n1, n2, n3, n4, n5, n6, n7⟩ := nodup_disj h.nd ho
  have hnd := h.os_nodup
  refine ⟨h.row.only kO (by simpa using fun e => n1 e.symm), by rw [wrote_osL]; exact h.om.only kO (by simpa using fun e => n2 e.symm), h.wm.only kO (by simpa using fun e => n3 e.symm),
    own_keep h.dr (fun g hg => kO.block g (h.dr.lt g hg).2 (by simp; rintro rfl; exact n4 hg)), ?_, fun x hx => (h.wa x hx).only kO (by simpa using fun e => n7 x hx e.symm), by rw [wrote_blocks]; exact h.nd, by rw [wrote_blocks]; exact h.ge,
    ⟨h.fine.base0, h.fine.base1, h.fine.begun0, h.fine.begun1, h.fine.last0, h.fine.last1, ?_, h.fine.ws1, h.fine.dl⟩⟩
  · intro y hy
    obtain ⟨x, hx, rfl⟩ := List.mem_map.1 hy
    by_cases e : x.n = o.n
    · have : x = o := eq_of_map hnd hx ho e
      subst this
      simp only [if_true]
      exact ⟨(h.oa x hx).1.only kO (by simpa using fun e => n5 x hx e.symm), hk⟩
    · simp only [if_neg e]
      exact ⟨(h.oa x hx).1.only kO (by simpa using fun e => n5 x hx e.symm), (h.oa x hx).2.only kO (by simpa using fun e' => n6 x hx (fun h => e (h ▸ rfl)) e'.symm)⟩
  · intro y hy
    obtain ⟨x, hx, rfl⟩ := List.mem_map.1 hy
    have := h.fine.os1 x hx
    by_cases e : x.n = o.n
    · simp only [if_pos e]; exact this
    · simp only [if_neg e]; exact this
theorem one_cells {w : World} {o : Tx} (h : Row w o.bt #[.int .u64 o.start, .map (some o.bk)] tOne) : w.cell? ⟨o.bt, 0, none⟩ = some (.int .u64 o.start) ∧ w.cell? ⟨o.bt, 1, none⟩ = some (.map (some o.bk)) := ⟨h.cell 0, h.cell 1⟩
set_option maxHeartbeats 1000000 in
theorem wrote_yes (B p bo bw : Nat) (dv : Value) (M : Mg) (w : World) (n k : Int) (o : Tx) (h : MgAt w B p bo bw dv M) (ho : findT n M.os = some o) :
    Calls Try.prog 10 #[.pointer (some ⟨p, 0, none⟩), .int .u64 n, .int .u64 k] w fun e w' => e = .returned (.int .i64 0) ∧ MgAt w' B p bo bw dv (wroteM M n k) ∧ Only [o.bk] w w' := by
  obtain ⟨hm, hn⟩ := findT_some ho
  have F1 := Lib.hid (find_yes B p bo bw dv M w n o h ho)
  obtain ⟨hr, hk⟩ := h.oa o hm
  obtain ⟨c0, c1⟩ := one_cells hr
  have A1 := Lib.hid (add_any o.bk o.keys k w hk)
  have H := Lib.hid h
  have HM := Lib.hid hm
  have HN := Lib.hid hn
  clear h ho hm hn hr hk
  go_enter Try.func10, Try.ntmps10
  go_wp2_with fail
  refine F1.out.mono ?_
  rintro _ w' ⟨rfl, rfl⟩
  go_wp2_with fail
  refine A1.out.mono ?_
  rintro _ w2 ⟨rfl, h2, h3, h4⟩
  have H2 := Lib.hid h2
  have H3 := Lib.hid h3
  clear h2 h3 h4
  go_wp2_with fail
  go_ret
  refine ⟨rfl, ?_, H3.out⟩
  rw [← HN.out]
  exact H.out.wrote HM.out H2.out H3.out
set_option maxHeartbeats 1000000 in
theorem wrote_no (B p bo bw : Nat) (dv : Value) (M : Mg) (w : World) (n k : Int) (h : MgAt w B p bo bw dv M) (ho : findT n M.os = none) :
    Calls Try.prog 10 #[.pointer (some ⟨p, 0, none⟩), .int .u64 n, .int .u64 k] w fun e w' => e = .returned (.int .i64 12) ∧ w' = w := by
  have F1 := Lib.hid (find_no B p bo bw dv M w n h ho)
  clear h ho
  go_enter Try.func10, Try.ntmps10
  go_wp2_with fail
  refine F1.out.mono ?_
  rintro _ w' ⟨rfl, rfl⟩
  go_wp2_with fail
  go_ret
  exact ⟨rfl, rfl⟩
/-- Is it in conflict? -/
def Clash (M : Mg) (o : Tx) : Prop := ∃ x ∈ M.ws, o.start < x.st ∧ Meets o.keys x.keys
instance (M : Mg) (o : Tx) : Decidable (Clash M o) := inferInstanceAs (Decidable (∃ x ∈ M.ws, o.start < x.st ∧ Meets o.keys x.keys))
def NoneYet (M : Mg) (o : Tx) (left : List (Int × Value)) : Prop := ∀ x ∈ M.ws, (∀ p ∈ left, p.1 ≠ x.st) → ¬ (o.start < x.st ∧ Meets o.keys x.keys)
set_option maxHeartbeats 2000000 in
theorem check_yes (B p bo bw : Nat) (dv : Value) (M : Mg) (w : World) (n : Int) (o : Tx) (h : MgAt w B p bo bw dv M) (ho : findT n M.os = some o) :
    Calls Try.prog 18 #[.pointer (some ⟨p, 0, none⟩), .int .u64 n] w fun e w' => e = .returned (.int .i64 (if Clash M o then 11 else 0)) ∧ Below w.heap.size w w' := by
  obtain ⟨hm, hn⟩ := findT_some ho
  have F1 := Lib.hid (find_yes B p bo bw dv M w n o h ho)
  obtain ⟨hr, hk⟩ := h.oa o hm
  have H := Lib.hid h
  have HM := Lib.hid hm
  have HR := Lib.hid hr
  have HK := Lib.hid hk
  have c5 := h.c5
  obtain ⟨R, hR⟩ : ∃ R : Int, R = if Clash M o then 11 else 0 := ⟨_, rfl⟩
  rw [← hR]
  have HRR := Lib.hid hR
  clear h ho hm hn hr hk hR
  go_enter Try.func18, Try.ntmps18
  go_wp2_with fail
  refine F1.out.mono ?_
  rintro _ w' ⟨rfl, rfl⟩
  go_wp2_with (at_range; refine wpList_range_at _ rfl (.tmp 21) 65 rfl 29 73 .u64 Try.underlying65 bw (wsL M.ws) rfl H.out.wm ?_)
  intro w1 r1 o1 s1
  have b1 : Hid (Below w'.heap.size w' w1) := Lib.hid (o1.toBelow (Nat.le_refl _) (by simp))
  have R1 := Lib.hid r1
  clear r1 o1 s1
  go_wp2_with fail
  go_loopw [7, 8] (fun u v wr => Hid (∃ left, Rng wr bw w'.heap.size .u64 (wsL M.ws) left ∧ NoneYet M o left ∧ Below w'.heap.size w' wr)) (fun u v wr => wr.rangeLeft bw w'.heap.size)
  case atStart => exact Lib.hid ⟨_, R1.out, (fun x hx hn => absurd rfl (hn (x.st, .map (some x.bk)) (List.mem_map.2 ⟨x, hx, rfl⟩))), b1.out⟩
  case round =>
    obtain ⟨left, hr, hy, hb⟩ := hrel.out
    have RG := Lib.hid hr
    have HY := Lib.hid hy
    have HB := Lib.hid hb
    clear hr hy hb hrel
    go_wp2_with (at_next; refine wpList_next_at _ rfl (.tmp 22) rfl bw w'.heap.size .u64 (wsL M.ws) left rfl RG.out ?_ ?_)
    · intro hnil
      have HN := Lib.hid hnil
      clear hnil
      go_wp2_with fail
      go_ret
      refine ⟨ret_int ?_, HB.out⟩
      rw [HRR.out, if_neg]
      rintro ⟨x, hx, hc⟩
      have := HY.out
      rw [HN.out] at this
      exact this x hx (by simp) hc
    · intro k v w2 hmem hr2 ho2 hs2 hen
      obtain ⟨x, hx, hkv⟩ := List.mem_map.1 (RG.out.sub _ hmem)
      simp only [Prod.mk.injEq] at hkv
      obtain ⟨rfl, rfl⟩ := hkv
      have HX := Lib.hid hx
      have HM2 := Lib.hid hmem
      have R2 := Lib.hid hr2
      have B2 : Hid (Below w'.heap.size w' w2) := Lib.hid (HB.out.trans (ho2.toBelow (by exact HB.out.size) (by simp)))
      obtain ⟨c0, c1⟩ := one_cells (HR.out.of_block (B2.out.block o.bt HR.out.lt))
      have ME := Lib.hid (meets_any o.bk x.bk o.keys x.keys w2 (HK.out.of_block (B2.out.block _ HK.out.lt)) ((H.out.wa x hx).of_block (B2.out.block _ (H.out.wa x hx).lt)))
      clear hmem hr2 ho2 hs2 hx
      by_cases hlt : o.start < x.st
      · by_cases hme : Meets o.keys x.keys
        · rw [decide_eq_true hme] at ME
          have HME := Lib.hid hme
          clear hme
          go_wp2_with fail
          refine ME.out.mono ?_
          rintro _ w3 ⟨rfl, hb3⟩
          have B3 := Lib.hid hb3
          clear hb3
          go_wp2_with fail
          go_ret
          exact ⟨ret_int (by rw [HRR.out, if_pos ⟨x, HX.out, hlt, HME.out⟩]), B2.out.trans (B3.out.mono B2.out.size)⟩
        · rw [decide_eq_false hme] at ME
          have HME := Lib.hid hme
          clear hme
          go_wp2_with fail
          refine ME.out.mono ?_
          rintro _ w3 ⟨rfl, hb3⟩
          have B3 := Lib.hid hb3
          clear hb3
          go_wp2_with fail
          go_roundw
          case rel =>
            have hr3 : Rng w3 bw w'.heap.size .u64 (wsL M.ws) (rm x.st left) := R2.out.of_blocks (B3.out.block bw R2.out.mapAt.lt) (B3.out.block _ R2.out.lt)
            refine Lib.hid ⟨rm x.st left, hr3, fun y hy hn => ?_, B2.out.trans (B3.out.mono B2.out.size)⟩
            by_cases e : y.st = x.st
            · rw [show y = x from eq_of_map H.out.ws_nodup hy HX.out e]
              exact fun h => HME.out h.2
            · exact HY.out y hy fun q hq e' => hn q (mem_rm.2 ⟨hq, fun h => e (e'.symm.trans h)⟩) e'
          case measure =>
            have hr3 : Rng w3 bw w'.heap.size .u64 (wsL M.ws) (rm x.st left) := R2.out.of_blocks (B3.out.block bw R2.out.mapAt.lt) (B3.out.block _ R2.out.lt)
            rw [hr3.left_eq, RG.out.left_eq]
            exact rm_lt HM2.out
      · go_wp2_with fail
        go_roundw
        case rel =>
          refine Lib.hid ⟨rm x.st left, R2.out, fun y hy hn => ?_, B2.out⟩
          by_cases e : y.st = x.st
          · rw [show y = x from eq_of_map H.out.ws_nodup hy HX.out e]
            exact fun h => hlt h.1
          · exact HY.out y hy fun q hq e' => hn q (mem_rm.2 ⟨hq, fun h => e (e'.symm.trans h)⟩) e'
        case measure =>
          rw [R2.out.left_eq, RG.out.left_eq]
          exact rm_lt HM2.out
set_option maxHeartbeats 1000000 in
theorem check_no (B p bo bw : Nat) (dv : Value) (M : Mg) (w : World) (n : Int) (h : MgAt w B p bo bw dv M) (ho : findT n M.os = none) :
    Calls Try.prog 18 #[.pointer (some ⟨p, 0, none⟩), .int .u64 n] w fun e w' => e = .returned (.int .i64 12) ∧ w' = w := by
  have F1 := Lib.hid (find_no B p bo bw dv M w n h ho)
  clear h ho
  go_enter Try.func18, Try.ntmps18
  go_wp2_with fail
  refine F1.out.mono ?_
  rintro _ w' ⟨rfl, rfl⟩
  go_wp2_with fail
  go_ret
  exact ⟨rfl, rfl⟩
end Go.Proofs.Ytodkflnpcfepfaa
