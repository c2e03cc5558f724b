/- The document's manager: Wrote. -/
import Derived.Test.YtodkflnpcfepfaaTxZd
import Derived.Deep.CutRange
namespace Go.Proofs.Ytodkflnpcfepfaa
open Go.RowKit Go.ChangeShapes Go.WideShapes Go.ChangeAt
set_option linter.unusedVariables false
set_option linter.unusedSimpArgs false

theorem split_at {l : List RT} {i : Nat} {x : RT} (h : l[i]? = some x) : ∃ a b, l = a ++ x :: b ∧ a.length = i ∧ ∀ y, l.set i y = a ++ y :: b := by
  obtain ⟨hi, rfl⟩ := List.getElem?_eq_some_iff.1 h
  refine ⟨l.take i, l.drop (i + 1), by simp, by simp; omega, fun y => by rw [List.set_eq_take_append_cons_drop, if_pos hi]⟩
theorem keyB_cons (x : RT) (l : List RT) : keyB (x :: l) = x.kv.ownBlock.toList ++ keyB l := by simp [keyB]
/-- A list of keys that has grown, and is stored again. -/
theorem RfAt.keyed {w w2 : World} {B p : Nat} {av : Value} {R : Rf} {i : Nat} {x x' : RT} {k : Int} (h : RfAt w B p av R) (hx : R.all[i]? = some x) (e0 : x'.n = x.n) (e1 : x'.start = x.start) (e2 : x'.at_ = x.at_) (e3 : x'.op = x.op) (ek : x'.keys = x.keys ++ [k])
    (ho : w2.ownsRow B tU 1 x'.kv x'.keys.length (x'.keys.map (Value.int .u64))) (ko : Only x.kv.ownBlock.toList w w2) (hf : x'.kv.ownBlock = x.kv.ownBlock ∨ ∀ b, x'.kv.ownBlock = some b → w.heap.size ≤ b) (hl : x.keys.length < 1000) :
    ∃ g c, av = .slice (some ⟨g, 0, none⟩) R.all.length c ∧ w2.frozen? ⟨g, i * 6 + 4, none⟩ = false ∧ RfAt (w2.setCell ⟨g, i * 6 + 4, none⟩ x'.kv) B p av { R with all := R.all.set i x' } ∧ Only (R.blocks p av) w (w2.setCell ⟨g, i * 6 + 4, none⟩ x'.kv) ∧ ∀ b ∈ ({ R with all := R.all.set i x' } : Rf).blocks p av, b ∈ R.blocks p av ∨ w.heap.size ≤ b := by
  obtain ⟨g, c, e, hcap, hB, hR⟩ := h.at_ hx
  obtain ⟨la, lb, hl1, hl2, hset⟩ := split_at hx
  have hlt := h.lt
  have hnd := h.nd
  have hge := h.ge
  have hg : g ∈ R.blocks p av := by simp [Rf.blocks, e, Value.ownBlock]
  have hxb : ∀ b, x.kv.ownBlock = some b → b ∈ R.blocks p av := fun b hb => by simp [Rf.blocks, hl1, keyB_append, keyB_cons, hb]
  have avb : av.ownBlock = some g := by rw [e]; rfl
  have hn2 : (p :: g :: (keyB la ++ (x.kv.ownBlock.toList ++ keyB lb))).Nodup := by
    have := hnd
    rw [Rf.blocks, avb, hl1, keyB_append, keyB_cons] at this
    simpa using this
  rw [List.nodup_cons, List.nodup_cons, List.nodup_append, List.nodup_append] at hn2
  obtain ⟨np, ng, na, ⟨nx, nb, nxb⟩, nax⟩ := hn2
  simp only [List.mem_cons, List.mem_append, not_or] at np ng nax
  have fx : ∀ b, x'.kv.ownBlock = some b → b ≠ p ∧ b ≠ g ∧ b ∉ keyB la ∧ b ∉ keyB lb := by
    intro b hb
    rcases hf with hf | hf
    · rw [hf] at hb
      have hm : b ∈ x.kv.ownBlock.toList := by simp [hb]
      refine ⟨?_, ?_, fun hh => nax b hh b (.inl hm) rfl, fun hh => nxb b hm b hh rfl⟩
      · rintro rfl; exact np.2.2.1 hm
      · rintro rfl; exact ng.2.1 hm
    · have hb2 := hf b hb
      have : b ∉ R.blocks p av := fun hh => by have := hlt b hh; omega
      rw [Rf.blocks, avb, hl1, keyB_append, keyB_cons] at this
      simp only [List.mem_cons, List.mem_append, not_or, Option.toList] at this
      exact ⟨this.1, by simpa using this.2.1, this.2.2.1, this.2.2.2.2⟩
  have ks : Only [g] w2 (w2.setCell ⟨g, i * 6 + 4, none⟩ x'.kv) := (Only.refl _ _).setCell (by simp) _
  have kk : Only (x.kv.ownBlock.toList ++ [g]) w (w2.setCell ⟨g, i * 6 + 4, none⟩ x'.kv) := (ko.mono (by intro b hb; exact .inl (List.mem_append_left _ hb))).trans ks (by simp)
  have hbl : ({ R with all := R.all.set i x' } : Rf).blocks p av = p :: g :: (keyB la ++ (x'.kv.ownBlock.toList ++ keyB lb)) := by
    rw [Rf.blocks, avb]
    simp only [hset, keyB_append, keyB_cons]
    simp
  have ho1 : w2.ownsRow B tRt 6 av R.all.length (allL R.all) := own_keep h.own fun b hb => ko.block b (hlt b (by simp [Rf.blocks, hb])) (by
    rw [avb] at hb
    simp only [Option.some.injEq] at hb
    subst hb
    exact ng.2.1)
  have ho2 := ho1
  rw [e] at ho2
  refine ⟨g, c, e, ho2.frozenAt _, ⟨?_, ?_, ?_, ?_, ?_, ?_⟩, kk.mono ?_, ?_⟩
  · exact h.row.only kk (by simp only [List.mem_append, List.mem_singleton, not_or]; exact ⟨np.2.2.1, np.1⟩)
  · have st := (ho2.stored (i * 6 + 4) x'.kv).1
    rw [allL_set R.all i x x' 4 x'.kv hx (by omega) (by
      simp [RT.cells, e0, e1, e2, e3])] at st
    rw [e]
    simpa using st
  · intro y hy
    rw [hset] at hy
    have oth : ∀ z, z ∈ R.all → (∀ b, z.kv.ownBlock = some b → b ∉ x.kv.ownBlock.toList ∧ b ≠ g) → (w2.setCell ⟨g, i * 6 + 4, none⟩ x'.kv).ownsRow B tU 1 z.kv z.keys.length (z.keys.map (Value.int .u64)) := fun z hz hd =>
      own_keep (h.keys z hz) fun b hb => kk.block b ((h.keys z hz).lt b hb).2 (by simp only [List.mem_append, List.mem_singleton, not_or]; exact hd b hb)
    rcases List.mem_append.1 hy with hy | hy
    · refine oth y (by rw [hl1]; exact List.mem_append_left _ hy) fun b hb => ?_
      have hm := mem_keyB hy hb
      exact ⟨fun hh => nax b hm b (.inl hh) rfl, by rintro rfl; exact ng.1 hm⟩
    · rcases List.mem_cons.1 hy with rfl | hy
      · exact own_keep ho fun b hb => ks.block b (ho.lt b hb).2 (by simp only [List.mem_singleton]; exact (fx b hb).2.1)
      · refine oth y (by rw [hl1]; exact List.mem_append_right _ (List.mem_cons_of_mem _ hy)) fun b hb => ?_
        have hm := mem_keyB hy hb
        exact ⟨fun hh => nxb b hh b hm rfl, by rintro rfl; exact ng.2.2 hm⟩
  · rw [hbl, List.nodup_cons, List.nodup_cons, List.nodup_append, List.nodup_append]
    simp only [List.mem_cons, List.mem_append, not_or]
    refine ⟨⟨np.1, np.2.1, fun hh => (fx p (by simpa using hh)).1 rfl, np.2.2.2⟩, ⟨ng.1, fun hh => (fx g (by simpa using hh)).2.1 rfl, ng.2.2⟩, na, ⟨by cases x'.kv.ownBlock <;> simp, nb, ?_⟩, ?_⟩
    · rintro b hb b2 hb2 rfl
      exact (fx b (by simpa using hb)).2.2.2 hb2
    · rintro b hb b2 hb2 rfl
      rcases hb2 with hb2 | hb2
      · exact (fx b (by simpa using hb2)).2.2.1 hb
      · exact nax b hb b (.inr hb2) rfl
  · rw [hbl]
    intro b hb
    simp only [List.mem_cons, List.mem_append] at hb
    rcases hb with rfl | rfl | hb | hb | hb
    · exact hge _ (by simp [Rf.blocks])
    · exact hge _ hg
    · exact hge _ (by simp [Rf.blocks, hl1, keyB_append, hb])
    · exact (ho.lt b (by simpa using hb)).1
    · exact hge _ (by simp [Rf.blocks, hl1, keyB_append, keyB_cons, hb])
  · refine ⟨h.fine.ep0, h.fine.last0, by simpa using h.fine.len, fun y hy => ?_⟩
    have fxx := h.fine.each x (List.mem_of_getElem? hx)
    rcases mem_set_of hy with rfl | hy
    · rw [e0, e1, e2, ek]
      exact ⟨fxx.1, fxx.2.1, fxx.2.2.1, by simp; omega⟩
    · exact h.fine.each y hy
  · intro b hb
    simp only [List.mem_append, List.mem_singleton] at hb
    rcases hb with hb | rfl
    · exact .inl (hxb b (by simpa using hb))
    · exact .inl hg
  · rw [hbl]
    intro b hb
    simp only [List.mem_cons, List.mem_append] at hb
    rcases hb with rfl | rfl | hb | hb | hb
    · exact .inl (by simp [Rf.blocks])
    · exact .inl hg
    · exact .inl (by simp [Rf.blocks, hl1, keyB_append, hb])
    · have hb' : x'.kv.ownBlock = some b := by simpa using hb
      rcases hf with e4 | e4
      · exact .inl (hxb b (by rw [← e4]; exact hb'))
      · exact .inr (e4 b hb')
    · exact .inl (by simp [Rf.blocks, hl1, keyB_append, keyB_cons, hb])
theorem wrote_refno {w : World} {B p : Nat} {av : Value} {R : Rf} {n : Int} (hf : NotFound R n) (h : RfAt w B p av R) (k : Int) :
    Calls Try.prog 17 #[.pointer (some ⟨p, 0, none⟩), .int .u64 n, .int .u64 k] w fun e w' => e = .returned (.int .i64 12) ∧ w' = w := by
  have FI := Lib.hid (find_none hf h)
  clear h hf
  go_enter Try.func17, Try.ntmps17
  go_wp2_with fail
  refine FI.out.mono ?_
  rintro _ w1 ⟨rfl, rfl⟩
  go_wp2_with fail
  go_ret
  exact ⟨rfl, rfl⟩
set_option maxHeartbeats 1000000 in
theorem wrote_refold {w : World} {B p : Nat} {av : Value} {R : Rf} {n : Int} {i : Nat} {x : RT} {k : Int} (hf : FoundAt R n i) (hx : R.all[i]? = some x) (h : RfAt w B p av R) (hk : k ∈ x.keys) :
    Calls Try.prog 17 #[.pointer (some ⟨p, 0, none⟩), .int .u64 n, .int .u64 k] w fun e w' => e = .returned (.int .i64 0) ∧ w' = w := by
  have FI := Lib.hid (find_ref hf h)
  obtain ⟨g, c, hav, _, _, hR⟩ := h.at_ hx
  have hil := (List.getElem?_eq_some_iff.1 hx).1
  have hlen := h.fine.len
  have c1 : w.cell? ⟨p, 1, none⟩ = some (.slice (some ⟨g, 0, none⟩) R.all.length c) := by rw [← hav]; exact h.row.cell 1
  have hxm := List.mem_of_getElem? hx
  have HS := Lib.hid (has_any x.ka x.keys.length x.kc x.keys k w rfl (ints_own (h.keys x hxm)) (by have := (h.fine.each x hxm).2.2.2; omega))
  rw [decide_eq_true hk] at HS
  have r4 := hR.c4
  obtain ⟨m, hm⟩ : ∃ m, R.all.length = m := ⟨_, rfl⟩
  rw [hm] at c1 hil hlen
  have d0 : decide ((i : Int) < 0) = false := decide_eq_false (by omega)
  clear h hav hf hx hm hR hk hxm
  go_enter Try.func17, Try.ntmps17
  go_wp2_with fail
  refine FI.out.mono ?_
  rintro _ w1 ⟨rfl, rfl⟩
  go_wp2_with fail
  refine HS.out.mono ?_
  rintro _ w2 ⟨rfl, rfl⟩
  go_wp2_with fail
  go_ret
  exact ⟨rfl, rfl⟩
def wroteT (x : RT) (k : Int) (a : Option Addr) (c : Nat) : RT := { x with keys := x.keys ++ [k], ka := a, kc := c }
def wroteR (R : Rf) (i : Nat) (x : RT) (k : Int) (a : Option Addr) (c : Nat) : Rf := { R with all := R.all.set i (wroteT x k a c) }
def WroteRTo (B p : Nat) (R : Rf) (i : Nat) (x : RT) (k : Int) (w : World) (F : List Nat) (e : Ending) (w' : World) : Prop := e = .returned (.int .i64 0) ∧ ∃ a c F', RfF w' B p (wroteR R i x k a c) F' ∧ Only F w w' ∧ ∀ b ∈ F', b ∈ F ∨ w.heap.size ≤ b
set_option maxHeartbeats 4000000 in
theorem wrote_refnew {w : World} {B p : Nat} {av : Value} {R : Rf} {n : Int} {i : Nat} {x : RT} {k : Int} (hf : FoundAt R n i) (hx : R.all[i]? = some x) (h : RfAt w B p av R) (hk : k ∉ x.keys) (hkl : x.keys.length < 1000) :
    Calls Try.prog 17 #[.pointer (some ⟨p, 0, none⟩), .int .u64 n, .int .u64 k] w (WroteRTo B p R i x k w (R.blocks p av)) := by
  have FI := Lib.hid (find_ref hf h)
  obtain ⟨g, c, hav, hgc, hgB, hR⟩ := h.at_ hx
  have hil := (List.getElem?_eq_some_iff.1 hx).1
  have hlen := h.fine.len
  have c1 : w.cell? ⟨p, 1, none⟩ = some (.slice (some ⟨g, 0, none⟩) R.all.length c) := by rw [← hav]; exact h.row.cell 1
  have hxm := List.mem_of_getElem? hx
  have HS := Lib.hid (has_any x.ka x.keys.length x.kc x.keys k w rfl (ints_own (h.keys x hxm)) (by have := (h.fine.each x hxm).2.2.2; omega))
  rw [decide_eq_false hk] at HS
  have r4 := hR.c4
  have plt := h.row.lt
  have hglt : g < w.heap.size := h.lt g (by simp [Rf.blocks, hav, Value.ownBlock])
  have hBs : B ≤ w.heap.size := by have := h.ge p (by simp [Rf.blocks]); omega
  obtain ⟨X, hX⟩ : ∃ X, X = (Obj.cells #[.int .u64 k] tU (0, 0)) := ⟨_, rfl⟩
  have kX : Only [] w (w.alloc X).drew := ((Only.refl [] w).alloc X).drew
  have c1a : (w.alloc X).cell? ⟨p, 1, none⟩ = some (.slice (some ⟨g, 0, none⟩) R.all.length c) := by rw [((Only.refl [] w).alloc _).cell plt (by simp)]; exact c1
  have r4a : (w.alloc X).cell? ⟨g, i * 6 + 4, none⟩ = some (.slice x.ka x.keys.length x.kc) := by rw [((Only.refl [] w).alloc _).cell hglt (by simp)]; exact r4
  obtain ⟨i0, hi0, hz0, hz1, hz2⟩ := info_parts infoU64
  have ownX : (w.alloc X).drew.ownsRow B tU 1 (.slice x.ka x.keys.length x.kc) x.keys.length (x.keys.map (Value.int .u64)) := own_keep ((h.keys x hxm).alloc X) (fun _ _ => rfl)
  obtain ⟨v', W2, hrun, ho, hg, hfr⟩ := append_own_at (P := Try.prog) (w.alloc X).drew B 28 28 tU i0 _ 1 8 Try.underlying28 hi0 hz0 hz1 hz2 (by rfl) (by decide) (.slice x.ka x.keys.length x.kc) x.keys.length (x.keys.map (Value.int .u64)) ownX
      ⟨w.heap.size, 0, none⟩ 1 1 [.int .u64 k] rfl (by
        have hr : Row (w.alloc X).drew w.heap.size #[.int .u64 k] tU := by rw [hX]; exact (Row.made w _ _)
        intro j u hj
        rw [add_plain, Nat.zero_add, hr.cell j]
        simpa using hj) (by simp [Value.oneCell']) (by unfold maxLen; omega) (by omega) (by simp; omega)
  obtain ⟨pp, cc, hv', _, _⟩ := own_shape ho
  have K2 : Only x.kv.ownBlock.toList w W2 := (kX.mono (by simp)).grown hg (by intro b hb; exact .inl (by rw [show x.kv.ownBlock = (Value.slice x.ka x.keys.length x.kc).ownBlock from rfl]; simpa using hb))
  have nd := h.nd
  have pn : p ∉ x.kv.ownBlock.toList := fun hm => by
    simp only [Rf.blocks, List.nodup_cons, List.mem_append, not_or] at nd
    exact nd.1.2 (mem_keyB hxm (by simpa using hm))
  have gn : g ∉ x.kv.ownBlock.toList := fun hm => by
    simp only [Rf.blocks, List.nodup_cons, hav, Value.ownBlock, Option.toList, List.cons_append, List.nil_append] at nd
    exact nd.2.1 (mem_keyB hxm (by simpa using hm))
  have c1c : W2.cell? ⟨p, 1, none⟩ = some (.slice (some ⟨g, 0, none⟩) R.all.length c) := by rw [K2.cell plt pn]; exact c1
  have r4c : W2.cell? ⟨g, i * 6 + 4, none⟩ = some (.slice x.ka x.keys.length x.kc) := by rw [K2.cell hglt gn]; exact r4
  subst hv'
  obtain ⟨g2, c2, e2, fz, hAP, hON, hBL⟩ := h.keyed (x' := wroteT x k pp cc) (k := k) hx rfl rfl rfl rfl rfl (by
      have : (wroteT x k pp cc).kv = .slice pp (x.keys.length + 1) cc := by simp [RT.kv, wroteT]
      rw [this]
      simpa [wroteT] using ho) K2 (by
      have : (wroteT x k pp cc).kv = .slice pp (x.keys.length + 1) cc := by simp [RT.kv, wroteT]
      rw [this]
      rcases hfr with e | e
      · exact .inl e
      · exact .inr fun b hb => by have := e b hb; simp at this; omega) hkl
  rw [hav] at e2
  simp only [Value.slice.injEq, Option.some.injEq, Addr.mk.injEq] at e2
  obtain ⟨⟨e2, _⟩, _⟩ := e2
  subst e2
  have hkv2 : (wroteT x k pp cc).kv = .slice pp (x.keys.length + 1) cc := by simp [RT.kv, wroteT]
  rw [hkv2] at hAP hON
  have AP := Lib.hid hAP
  have ON := Lib.hid hON
  have BL := Lib.hid hBL
  obtain ⟨m, hm⟩ : ∃ m, R.all.length = m := ⟨_, rfl⟩
  obtain ⟨q, hq⟩ : ∃ q, x.keys.length = q := ⟨_, rfl⟩
  rw [hm] at c1 c1a c1c hil hlen
  rw [hq] at r4 r4a r4c hrun HS
  rw [hq] at AP ON
  have d0 : decide ((i : Int) < 0) = false := decide_eq_false (by omega)
  have h5 := @step_append_eq
  rw [hX] at c1a r4a hrun
  clear h hav hf hx hm hR hk hxm hX kX ho hg hfr ownX K2 nd pn gn hq hBs hkv2 hAP hON hBL hgB hkl h5
  go_enter Try.func17, Try.ntmps17
  go_wp2_with fail
  refine FI.out.mono ?_
  rintro _ w1 ⟨rfl, rfl⟩
  go_wp2_with fail
  refine HS.out.mono ?_
  rintro _ w2 ⟨rfl, rfl⟩
  go_upto_region 5 with fail
  go_region_law (refine step_append_eq rfl (.tmp 36) (.tmp 38) 28 rfl (.slice x.ka q x.kc) (.slice (some ⟨w2.heap.size, 0, none⟩) 1 1) (.slice pp (q + 1) cc) W2 (by simp [Act.eval, Act.put]) (by simp [Act.eval, Act.put]) hrun ?_)
  all_goals
    clear c1 c1a c1c r4 r4a r4c hrun hi0 hz0 hz1 hz2
    go_wp2_with fail
    go_ret
    exact ⟨rfl, pp, cc, _, ⟨av, AP.out, rfl⟩, ON.out, BL.out⟩
end Go.Proofs.Ytodkflnpcfepfaa
