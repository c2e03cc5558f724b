/- Commit: what it makes of a manager. -/
import Derived.Test.YtodkflnpcfepfaaTxD
namespace Go.Proofs.Ytodkflnpcfepfaa
open Go.RowKit
set_option linter.unusedVariables false
set_option linter.unusedSimpArgs false

def commitM (M : Mg) (o : Tx) : Mg := { M with last := M.last + 1, ds := M.ds ++ [(o.n, M.last + 1)], ws := M.ws ++ [⟨M.last + 1, o.keys, o.bk⟩], os := M.os.filter fun x => !decide (x.n = o.n) }
theorem dsL_append (a b : List (Int × Int)) : dsL (a ++ b) = dsL a ++ dsL b := by simp [dsL]
theorem wsL_append (a b : List Wr) : wsL (a ++ b) = wsL a ++ wsL b := by simp [wsL]
theorem head_apart {M : Mg} {p bo bw : Nat} {dv : Value} (h : (M.blocks p bo bw dv).Nodup) : p ≠ bo ∧ p ≠ bw ∧ bo ≠ bw ∧ (∀ g, dv.ownBlock = some g → g ≠ p ∧ g ≠ bo ∧ g ≠ bw) ∧ (∀ b ∈ osB M.os, b ≠ p ∧ b ≠ bo ∧ b ≠ bw ∧ dv.ownBlock ≠ some b) ∧ (∀ b ∈ wsB M.ws, b ≠ p ∧ b ≠ bo ∧ b ≠ bw ∧ dv.ownBlock ≠ some b) := by
  simp only [Mg.blocks, List.nodup_cons, List.nodup_append, List.mem_cons, List.mem_append, not_or] at h
  obtain ⟨⟨a1, a2, a3, a4, a5⟩, ⟨b1, b2, b3, b4⟩, ⟨c1, c2, c3⟩, d1, ⟨e1, e2, e3⟩, d2⟩ := h
  refine ⟨a1, a2, b1, ?_, ?_, ?_⟩
  · intro g hg
    exact ⟨fun e => a3 (by simp [hg, e]), fun e => b2 (by simp [hg, e]), fun e => c1 (by simp [hg, e])⟩
  · intro b hb
    exact ⟨fun e => a4 (e ▸ hb), fun e => b3 (e ▸ hb), fun e => c2 (e ▸ hb), fun e => d2 b (by simp [e]) b (.inl hb) rfl⟩
  · intro b hb
    exact ⟨fun e => a5 (e ▸ hb), fun e => b4 (e ▸ hb), fun e => c3 (e ▸ hb), fun e => d2 b (by simp [e]) b (.inr hb) rfl⟩
theorem MgAt.step2 {w : World} {B p bo bw : Nat} {dv : Value} {M : Mg} (h : MgAt w B p bo bw dv M) (h1 : M.last < 1000000) :
    MgAt (w.setCell ⟨p, 2, none⟩ (.int .u64 (M.last + 1))) B p bo bw dv { M with last := M.last + 1 } := by
  have k : Only [p] w (w.setCell ⟨p, 2, none⟩ (.int .u64 (M.last + 1))) := (Only.refl _ _).setCell (by simp) _
  obtain ⟨a1, a2, a3, a4, a5, a6⟩ := head_apart h.nd
  exact ⟨h.row.set 2 _, h.om.only k (by simpa using a1.symm), h.wm.only k (by simpa using a2.symm),
    own_keep h.dr (fun g hg => k.block g (h.dr.lt g hg).2 (by simpa using (a4 g hg).1)),
    fun o ho => ⟨(h.oa o ho).1.only k (by simpa using (a5 _ (mem_osB ho).1).1), (h.oa o ho).2.only k (by simpa using (a5 _ (mem_osB ho).2).1)⟩,
    fun x hx => (h.wa x hx).only k (by simpa using (a6 _ (mem_wsB hx)).1), h.nd, h.ge,
    ⟨h.fine.base0, h.fine.base1, h.fine.begun0, h.fine.begun1, by have := h.fine.last0; simp; omega, by simp; omega, fun o ho => by have := h.fine.os1 o ho; simp; omega, fun x hx => by have := h.fine.ws1 x hx; simp; omega, h.fine.dl⟩⟩
theorem MgAt.appended {w w2 : World} {B p bo bw : Nat} {dv v' : Value} {M : Mg} {n t : Int} (h : MgAt w B p bo bw dv M) (hB : B ≤ w.heap.size) (hd : M.ds.length < 1000000)
    (ho : w2.ownsRow B 47 2 v' (M.ds.length + 1) (dsL M.ds ++ [.int .u64 n, .int .u64 t])) (k : Only dv.ownBlock.toList w w2) (hf : v'.ownBlock = dv.ownBlock ∨ ∀ g, v'.ownBlock = some g → w.heap.size ≤ g) :
    MgAt (w2.setCell ⟨p, 4, none⟩ v') B p bo bw v' { M with ds := M.ds ++ [(n, t)] } ∧ Only (p :: dv.ownBlock.toList) w (w2.setCell ⟨p, 4, none⟩ v') ∧ (∀ b, v'.ownBlock = some b → dv.ownBlock = some b ∨ w.heap.size ≤ b) := by
  obtain ⟨a1, a2, a3, a4, a5, a6⟩ := head_apart h.nd
  have nf : ∀ b, b ∈ dv.ownBlock.toList → dv.ownBlock = some b := fun b hb => by simpa using hb
  have k2 : Only [p] w2 (w2.setCell ⟨p, 4, none⟩ v') := (Only.refl _ _).setCell (by simp) _
  have hv : ∀ b, v'.ownBlock = some b → dv.ownBlock = some b ∨ w.heap.size ≤ b := fun b hb => by
    rcases hf with hf | hf
    · exact .inl (hf ▸ hb)
    · exact .inr (hf b hb)
  have hlt := h.lt
  have ne1 : ∀ b, b ∈ M.blocks p bo bw dv → dv.ownBlock ≠ some b → v'.ownBlock ≠ some b := fun b hb hd hv' => by
    rcases hv b hv' with e | e
    · exact hd e
    · have := hlt b hb; omega
  have m0 : p ∈ M.blocks p bo bw dv := by simp [Mg.blocks]
  have m1 : bo ∈ M.blocks p bo bw dv := by simp [Mg.blocks]
  have m2 : bw ∈ M.blocks p bo bw dv := by simp [Mg.blocks]
  have m4 : ∀ b, b ∈ osB M.os → b ∈ M.blocks p bo bw dv := fun b hb => by simp [Mg.blocks, hb]
  have m5 : ∀ b, b ∈ wsB M.ws → b ∈ M.blocks p bo bw dv := fun b hb => by simp [Mg.blocks, hb]
  have p0 : dv.ownBlock ≠ some p := fun e => (a4 p e).1 rfl
  have p1 : dv.ownBlock ≠ some bo := fun e => (a4 bo e).2.1 rfl
  have p2 : dv.ownBlock ≠ some bw := fun e => (a4 bw e).2.2 rfl
  have kk : Only (p :: dv.ownBlock.toList) w (w2.setCell ⟨p, 4, none⟩ v') := (k.mono (by intro i hi; exact .inl (List.mem_cons_of_mem _ hi))).trans k2 (by simp)
  have nin : ∀ b, dv.ownBlock ≠ some b → b ≠ p → b ∉ p :: dv.ownBlock.toList := fun b hb hp hm => by
    rcases List.mem_cons.1 hm with rfl | hm
    · exact hp rfl
    · exact hb (nf b hm)
  refine ⟨⟨?_, h.om.only kk (nin _ p1 a1.symm), h.wm.only kk (nin _ p2 a2.symm), ?_, ?_, ?_, ?_, ?_, ?_⟩, kk, hv⟩
  · exact (h.row.only k (fun hm => p0 (nf p hm))).set 4 v'
  · have e : dsL (M.ds ++ [(n, t)]) = dsL M.ds ++ [.int .u64 n, .int .u64 t] := by simp [dsL]
    show (w2.setCell _ _).ownsRow _ _ _ _ (M.ds ++ [(n, t)]).length (dsL (M.ds ++ [(n, t)]))
    rw [e, List.length_append]
    exact own_keep ho (fun g hg => k2.block g (ho.lt g hg).2 (by simp; rintro rfl; exact ne1 _ m0 p0 hg))
  · intro o ho
    have h1 := a5 _ (mem_osB ho).1
    have h2 := a5 _ (mem_osB ho).2
    exact ⟨(h.oa o ho).1.only kk (nin _ h1.2.2.2 h1.1), (h.oa o ho).2.only kk (nin _ h2.2.2.2 h2.1)⟩
  · intro x hx
    have h1 := a6 _ (mem_wsB hx)
    exact (h.wa x hx).only kk (nin _ h1.2.2.2 h1.1)
  · have hnd := h.nd
    simp only [Mg.blocks, List.nodup_cons, List.nodup_append, List.mem_cons, List.mem_append, not_or] at hnd ⊢
    obtain ⟨⟨x1, x2, x3, x4, x5⟩, ⟨y1, y2, y3, y4⟩, ⟨z1, z2, z3⟩, u1, u2, u3⟩ := hnd
    refine ⟨⟨x1, x2, by simpa using ne1 p m0 p0, x4, x5⟩, ⟨y1, by simpa using ne1 bo m1 p1, y3, y4⟩, ⟨by simpa using ne1 bw m2 p2, z2, z3⟩, ?_, u2, ?_⟩
    · cases v'.ownBlock <;> simp
    · intro a ha b hb hab
      subst hab
      have ha' : v'.ownBlock = some a := by simpa using ha
      rcases hb with hb | hb
      · exact ne1 a (m4 a hb) (a5 a hb).2.2.2 ha'
      · exact ne1 a (m5 a hb) (a6 a hb).2.2.2 ha'
  · intro b hb
    simp only [Mg.blocks, List.mem_cons, List.mem_append] at hb
    have hge := h.ge
    rcases hb with rfl | rfl | rfl | hb | hb | hb
    · exact hge _ m0
    · exact hge _ m1
    · exact hge _ m2
    · rcases hv b (by simpa using hb) with e | e
      · exact hge b (by simp [Mg.blocks, e])
      · omega
    · exact hge b (m4 b hb)
    · exact hge b (m5 b hb)
  · exact ⟨h.fine.base0, h.fine.base1, h.fine.begun0, h.fine.begun1, h.fine.last0, h.fine.last1, h.fine.os1, h.fine.ws1, by simp; omega⟩
theorem osB_sub {s t : List Tx} (h : s.Sublist t) : (osB s).Sublist (osB t) := by
  induction h with
  | slnil => exact List.Sublist.refl _
  | cons a _ ih =>
    show (osB _).Sublist (a.bt :: a.bk :: osB _)
    exact (ih.cons _).cons _
  | cons_cons a _ ih =>
    show (a.bt :: a.bk :: osB _).Sublist (a.bt :: a.bk :: osB _)
    exact (ih.cons_cons _).cons_cons _
theorem MgAt.filed {w w' : World} {B p bo bw : Nat} {dv : Value} {M : Mg} {o : Tx} (h : MgAt w B p bo bw dv M) (ho : o ∈ M.os) (hl : 0 < M.last) (k : Only [bw, bo] w w')
    (hw : MapAt w' bw .u64 (wsL (M.ws ++ [⟨M.last, o.keys, o.bk⟩]))) (hm : MapAt w' bo .u64 (osL (M.os.filter fun x => !decide (x.n = o.n)))) :
    MgAt w' B p bo bw dv { M with ws := M.ws ++ [⟨M.last, o.keys, o.bk⟩], os := M.os.filter fun x => !decide (x.n = o.n) } ∧ (∀ b ∈ ({ M with ws := M.ws ++ [⟨M.last, o.keys, o.bk⟩], os := M.os.filter fun x => !decide (x.n = o.n) } : Mg).blocks p bo bw dv, b ∈ M.blocks p bo bw dv) := by
  obtain ⟨a1, a2, a3, a4, a5, a6⟩ := head_apart h.nd
  obtain ⟨s, t, hst⟩ := List.append_of_mem ho
  have hfil : (M.os.filter fun x => !decide (x.n = o.n)).Sublist (s ++ t) := by
    rw [hst, List.filter_append, List.filter_cons]
    simp only [decide_true, Bool.not_true, Bool.false_eq_true, if_false]
    rw [← List.filter_append]
    exact List.filter_sublist
  have hsub := osB_sub hfil
  have hblk : ∀ b, b ∈ osB (M.os.filter fun x => !decide (x.n = o.n)) → b ∈ osB M.os := fun b hb => by
    have h1 := hsub.subset hb
    rw [osB_append] at h1
    rw [hst, osB_append]
    rcases List.mem_append.1 h1 with h1 | h1
    · exact List.mem_append_left _ h1
    · refine List.mem_append_right _ ?_
      show b ∈ o.bt :: o.bk :: osB t
      simp [h1]
  have ew : wsB (M.ws ++ [⟨M.last, o.keys, o.bk⟩]) = wsB M.ws ++ [o.bk] := by simp [wsB]
  have hmem : ∀ b ∈ ({ M with ws := M.ws ++ [⟨M.last, o.keys, o.bk⟩], os := M.os.filter fun x => !decide (x.n = o.n) } : Mg).blocks p bo bw dv, b ∈ M.blocks p bo bw dv := by
    intro b hb
    simp only [Mg.blocks, List.mem_cons, List.mem_append, ew, List.not_mem_nil, or_false] at hb ⊢
    rcases hb with hb | hb | hb | hb | hb | hb | hb
    · exact .inl hb
    · exact .inr (.inl hb)
    · exact .inr (.inr (.inl hb))
    · exact .inr (.inr (.inr (.inl hb)))
    · exact .inr (.inr (.inr (.inr (.inl (hblk b hb)))))
    · exact .inr (.inr (.inr (.inr (.inr hb))))
    · subst hb; exact .inr (.inr (.inr (.inr (.inl (mem_osB ho).2))))
  have nin : ∀ b, b ≠ bo → b ≠ bw → b ∉ [bw, bo] := fun b h1 h2 hm => by simp at hm; exact hm.elim h2 h1
  refine ⟨⟨h.row.only k (nin _ a1 a2), hm, hw, own_keep h.dr (fun g hg => k.block g (h.dr.lt g hg).2 (nin _ (a4 g hg).2.1 (a4 g hg).2.2)), ?_, ?_, ?_, fun b hb => h.ge b (hmem b hb), ⟨h.fine.base0, h.fine.base1, h.fine.begun0, h.fine.begun1, h.fine.last0, h.fine.last1, fun x hx => h.fine.os1 x (List.mem_filter.1 hx).1, ?_, h.fine.dl⟩⟩, hmem⟩
  · intro x hx
    have hx' := (List.mem_filter.1 hx).1
    have h1 := a5 _ (mem_osB hx').1
    have h2 := a5 _ (mem_osB hx').2
    exact ⟨(h.oa x hx').1.only k (nin _ h1.2.1 h1.2.2.1), (h.oa x hx').2.only k (nin _ h2.2.1 h2.2.2.1)⟩
  · intro x hx
    rcases List.mem_append.1 hx with hx | hx
    · have h1 := a6 _ (mem_wsB hx)
      exact (h.wa x hx).only k (nin _ h1.2.1 h1.2.2.1)
    · simp only [List.mem_singleton] at hx
      subst hx
      have h2 := a5 _ (mem_osB ho).2
      exact (h.oa o ho).2.only k (nin _ h2.2.1 h2.2.2.1)
  · have hnd := h.nd
    have e0 : M.blocks p bo bw dv = (p :: bo :: bw :: dv.ownBlock.toList) ++ (osB s ++ (o.bt :: o.bk :: osB t)) ++ wsB M.ws := by
      simp only [Mg.blocks]
      rw [hst, osB_append]
      show _ = _
      simp [osB]
    have e1 : ({ M with ws := M.ws ++ [⟨M.last, o.keys, o.bk⟩], os := M.os.filter fun x => !decide (x.n = o.n) } : Mg).blocks p bo bw dv = (p :: bo :: bw :: dv.ownBlock.toList) ++ osB (M.os.filter fun x => !decide (x.n = o.n)) ++ (wsB M.ws ++ [o.bk]) := by
      simp only [Mg.blocks, ew]
      simp
    rw [e1]
    have sub1 : ((p :: bo :: bw :: dv.ownBlock.toList) ++ osB (M.os.filter fun x => !decide (x.n = o.n)) ++ (wsB M.ws ++ [o.bk])).Sublist ((p :: bo :: bw :: dv.ownBlock.toList) ++ (osB s ++ osB t) ++ (wsB M.ws ++ [o.bk])) := by
      refine List.Sublist.append (List.Sublist.append (List.Sublist.refl _) ?_) (List.Sublist.refl _)
      rw [← osB_append]; exact hsub
    refine sub1.nodup ?_
    have pm : ((p :: bo :: bw :: dv.ownBlock.toList) ++ (osB s ++ osB t) ++ (wsB M.ws ++ [o.bk])).Perm ((p :: bo :: bw :: dv.ownBlock.toList) ++ (osB s ++ (o.bk :: osB t)) ++ wsB M.ws) := by
      have x1 : ((p :: bo :: bw :: dv.ownBlock.toList) ++ (osB s ++ osB t) ++ (wsB M.ws ++ [o.bk])) = ((p :: bo :: bw :: dv.ownBlock.toList) ++ osB s) ++ ((osB t ++ wsB M.ws) ++ [o.bk]) := by simp
      have x2 : ((p :: bo :: bw :: dv.ownBlock.toList) ++ (osB s ++ (o.bk :: osB t)) ++ wsB M.ws) = ((p :: bo :: bw :: dv.ownBlock.toList) ++ osB s) ++ ([o.bk] ++ (osB t ++ wsB M.ws)) := by simp
      rw [x1, x2]
      exact List.Perm.append_left _ List.perm_append_comm
    refine pm.nodup_iff.2 ?_
    have sub2 : ((p :: bo :: bw :: dv.ownBlock.toList) ++ (osB s ++ (o.bk :: osB t)) ++ wsB M.ws).Sublist ((p :: bo :: bw :: dv.ownBlock.toList) ++ (osB s ++ (o.bt :: o.bk :: osB t)) ++ wsB M.ws) := by
      refine List.Sublist.append (List.Sublist.append (List.Sublist.refl _) (List.Sublist.append (List.Sublist.refl _) ?_)) (List.Sublist.refl _)
      exact List.sublist_cons_self _ _
    rw [e0] at hnd
    exact sub2.nodup hnd
  · intro x hx
    rcases List.mem_append.1 hx with hx | hx
    · exact h.fine.ws1 x hx
    · simp only [List.mem_singleton] at hx; subst hx; exact ⟨hl, Int.le_refl _⟩
end Go.Proofs.Ytodkflnpcfepfaa
