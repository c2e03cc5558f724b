/- Plain: Begin. -/
import Derived.Test.YtcgmgdjeamidlaaGreatPlB
namespace Go.Proofs.YtcgmgdjeamidlaaGreat
open Go.RowKit Go.ChangeShapes Go.WideShapes Go.ChangeAt
set_option linter.unusedVariables false
set_option linter.unusedSimpArgs false

def Kept (F F' : List Nat) (w : World) : Prop := ∀ b ∈ F', b ∈ F ∨ w.heap.size ≤ b
theorem Kept.refl (F : List Nat) (w : World) : Kept F F w := fun b hb => .inl hb
theorem Kept.trans {F G K : List Nat} {w w' : World} (h : Kept F G w) (k : Kept G K w') (hs : w.heap.size ≤ w'.heap.size) : Kept F K w := fun b hb => by
  rcases k b hb with h1 | h1
  · exact h b h1
  · exact .inr (Nat.le_trans hs h1)
theorem only_trans {F G : List Nat} {a b c : World} (h : Only F a b) (k : Only G b c) (hk : Kept F G a) : Only F a c := h.trans k hk
def begP (D : PDB) : PDB := { D with begun := D.begun + 1 }
def beginP (D : PDB) (bt bm : Nat) : PDB := { D with begun := D.begun + 1, op := D.op ++ [⟨D.begun + 1, D.last, bt, bm, []⟩] }
theorem pxB_append (a b : List PTx) : pxB (a ++ b) = pxB a ++ pxB b := by simp [pxB]
theorem pxL_append (a b : List PTx) : pxL (a ++ b) = pxL a ++ pxL b := by simp [pxL]
theorem own_apart {D : PDB} {p ba bo : Nat} (h : (D.own p ba bo).Nodup) : p ≠ ba ∧ p ≠ bo ∧ ba ≠ bo ∧ (∀ b ∈ pxB D.op, b ≠ p ∧ b ≠ ba ∧ b ≠ bo) := by
  simp only [PDB.own, List.nodup_cons, List.mem_cons, not_or] at h
  obtain ⟨⟨h1, h2, h3⟩, ⟨h4, h5⟩, h6, _⟩ := h
  refine ⟨h1, h2, h4, fun b hb => ⟨?_, ?_, ?_⟩⟩
  · rintro rfl; exact h3 hb
  · rintro rfl; exact h5 hb
  · rintro rfl; exact h6 hb
/-- A store into a number of the DB itself. -/
theorem DbAt.head {w : World} {B p ba bo : Nat} {D D' : PDB} (h : DbAt w B p ba bo D) (j : Nat) (u : Value) (hc : D'.cells ba bo = (D.cells ba bo).setIfInBounds j u) (h1 : D'.all = D.all) (h2 : D'.op = D.op) (hf : D'.Fine) :
    DbAt (w.setCell ⟨p, j, none⟩ u) B p ba bo D' ∧ Only [p] w (w.setCell ⟨p, j, none⟩ u) := by
  have k : Only [p] w (w.setCell ⟨p, j, none⟩ u) := (Only.refl _ _).setCell (by simp) _
  obtain ⟨a1, a2, a3, a4⟩ := own_apart h.nd
  have hr : D'.reads = D.reads := by unfold PDB.reads; rw [h1, h2]
  have ho : D'.own p ba bo = D.own p ba bo := by unfold PDB.own; rw [h2]
  have hp : p ∈ D.own p ba bo := by simp [PDB.own]
  refine ⟨⟨by rw [hc]; exact h.row.set j u, by rw [h1]; exact h.am.only k (by simp; exact fun e => a1 e.symm), by rw [h2]; exact h.om.only k (by simp; exact fun e => a2 e.symm), ?_, ?_, ?_, by rw [ho]; exact h.nd, by rw [ho]; exact h.ge, by rw [hr]; exact h.gr, by rw [ho, hr]; exact h.ap, hf⟩, k⟩
  · rw [h2]
    exact fun o hh => ⟨(h.oa o hh).1.only k (by simp; exact (a4 _ (mem_pxB hh).1).1), (h.oa o hh).2.only k (by simp; exact (a4 _ (mem_pxB hh).2).1)⟩
  · rw [h1]
    exact fun x hx => (h.vsd x hx).only k fun b hb => by simp; rintro rfl; exact h.ap _ hp (mem_reads1 hx hb)
  · rw [h2]
    exact fun o hh y hy => (h.wrd o hh y hy).only k fun b hb => by simp; rintro rfl; exact h.ap _ hp (mem_reads2 hh hy hb)
theorem DbAt.opened {w w' : World} {B p ba bo : Nat} {D : PDB} {o : PTx} (h : DbAt w B p ba bo D) (k : Only [bo] w w') (hm : MapAt w' bo .u64 (pxL (D.op ++ [o])))
    (hr : Row w' o.bt #[.int .u64 o.start, .map (some o.bm)] tPx) (hk : MapAt w' o.bm .u64 (wrL o.wr)) (hw : o.wr = []) (n1 : o.bt ∉ D.own p ba bo ∧ o.bt ∉ D.reads) (n2 : o.bm ∉ D.own p ba bo ∧ o.bm ∉ D.reads) (n3 : o.bt ≠ o.bm) (g1 : B ≤ o.bt) (g2 : B ≤ o.bm)
    (f1 : 0 < o.n ∧ o.n ≤ D.begun ∧ 0 ≤ o.start ∧ o.start ≤ D.last) : DbAt w' B p ba bo { D with op := D.op ++ [o] } := by
  obtain ⟨a1, a2, a3, a4⟩ := own_apart h.nd
  have hbo : bo ∈ D.own p ba bo := by simp [PDB.own]
  have hperm : (({ D with op := D.op ++ [o] } : PDB).own p ba bo).Perm (o.bt :: o.bm :: D.own p ba bo) := by
    simp only [PDB.own, pxB_append]
    have e : pxB [o] = [o.bt, o.bm] := by simp [pxB]
    rw [e]
    have : (p :: ba :: bo :: (pxB D.op ++ [o.bt, o.bm])) = (p :: ba :: bo :: pxB D.op) ++ [o.bt, o.bm] := by simp
    rw [this]
    exact List.perm_append_comm
  have hrd : ({ D with op := D.op ++ [o] } : PDB).reads = D.reads := by simp [PDB.reads, hw, wrB]
  have k1 : ∀ b, b ∈ D.reads → b ∉ [bo] := fun b hb => by simp; rintro rfl; exact h.ap _ hbo hb
  refine ⟨h.row.only k (by simp; exact a2), h.am.only k (by simp; exact a3), hm, ?_, fun x hx => (h.vsd x hx).only k fun b hb => k1 b (List.mem_append_left _ (List.mem_flatMap.2 ⟨x, hx, hb⟩)), ?_, ?_, ?_, by rw [hrd]; exact h.gr, ?_, ⟨h.fine.dim, h.fine.begun, h.fine.last, ?_⟩⟩
  · intro x hx
    rcases List.mem_append.1 hx with hx | hx
    · exact ⟨(h.oa x hx).1.only k (by simp; exact (a4 _ (mem_pxB hx).1).2.2), (h.oa x hx).2.only k (by simp; exact (a4 _ (mem_pxB hx).2).2.2)⟩
    · simp only [List.mem_singleton] at hx; subst hx; exact ⟨hr, hk⟩
  · intro x hx y hy
    rcases List.mem_append.1 hx with hx | hx
    · exact (h.wrd x hx y hy).only k fun b hb => k1 b (mem_reads2 hx hy hb)
    · simp only [List.mem_singleton] at hx; subst hx; rw [hw] at hy; simp at hy
  · refine hperm.nodup_iff.2 (List.nodup_cons.2 ⟨?_, List.nodup_cons.2 ⟨n2.1, h.nd⟩⟩)
    simp only [List.mem_cons, not_or]
    exact ⟨n3, n1.1⟩
  · intro b hb
    have := hperm.mem_iff.1 hb
    simp only [List.mem_cons] at this
    rcases this with rfl | rfl | hb
    · exact g1
    · exact g2
    · exact h.ge b hb
  · rw [hrd]
    intro b hb
    have := hperm.mem_iff.1 hb
    simp only [List.mem_cons] at this
    rcases this with rfl | rfl | hb
    · exact n1.2
    · exact n2.2
    · exact h.ap b hb
  · intro x hx
    rcases List.mem_append.1 hx with hx | hx
    · exact h.fine.ops x hx
    · simp only [List.mem_singleton] at hx; subst hx; exact f1
theorem up_freshP (n : Int) (v : Value) (l : List PTx) (h : ∀ o ∈ l, o.n ≠ n) : up n v (pxL l) = pxL l ++ [(n, v)] := by
  refine up_none fun p hp => ?_
  obtain ⟨o, ho, rfl⟩ := List.mem_map.1 hp
  exact h o ho
def BeginPTo (B p : Nat) (D : PDB) (F H : List Nat) (w : World) (e : Ending) (w' : World) : Prop := ∃ bt bm F', e = .returned (.tuple #[.int .u64 (D.begun + 1), .int .i64 0]) ∧ DbF w' B p (beginP D bt bm) F' H ∧ Only F w w' ∧ Kept F F' w
set_option maxHeartbeats 2000000 in
theorem begin_on {w : World} {B p : Nat} {D : PDB} {F H : List Nat} (h : DbF w B p D F H) (hB : B ≤ w.heap.size) (hl : D.op.length < 8) (hb : D.begun < 1000000) :
    Calls Tryz.prog 228 #[.pointer (some ⟨p, 0, none⟩)] w (BeginPTo B p D F H w) := by
  obtain ⟨ba, bo, h, rfl, rfl⟩ := h
  have hmm := @run_makeMap Tryz.prog
  have c1 : w.cell? ⟨p, 1, none⟩ = some (.int .u64 D.begun) := h.row.cell 1
  have c4 : w.cell? ⟨p, 4, none⟩ = some (.map (some bo)) := h.row.cell 4
  have fz := h.row.free 1
  have TH := Lib.hid (there_on h.row)
  have g2 := h.fine.begun
  have hlen : ((pxL D.op).length : Int) < 8 := by simp [pxL]; omega
  have HH := Lib.hid h
  have H1 := Lib.hid (h.head (D' := begP D) 1 (.int .u64 (D.begun + 1)) rfl rfl rfl ⟨h.fine.dim, ⟨by show 0 ≤ D.begun + 1; omega, by show D.begun + 1 ≤ 1000000; omega⟩, h.fine.last, fun o ho => by have := h.fine.ops o ho; show 0 < o.n ∧ o.n ≤ D.begun + 1 ∧ 0 ≤ o.start ∧ o.start ≤ D.last; omega⟩)
  have HB := Lib.hid hB
  clear h hl hB
  go_enter Tryz.func228, Tryz.ntmps228
  go_wp2_with fail
  refine TH.out.mono ?_
  rintro _ w1 ⟨rfl, hw⟩
  subst w1
  go_wp2_with (at_len; refine wpList_len_at _ rfl (.tmp 12) tMpx rfl 34 280 .u64 Tryz.underlying106 bo (pxL D.op) rfl HH.out.om ?_)
  have M1 := Lib.hid H1.out.1
  have K1 := Lib.hid H1.out.2
  clear H1 c1 c4 fz
  generalize w.setCell ⟨p, 1, none⟩ (.int .u64 (D.begun + 1)) = w2 at *
  have d1 : w2.cell? ⟨p, 1, none⟩ = some (.int .u64 (D.begun + 1)) := M1.out.row.cell 1
  have d2 : w2.cell? ⟨p, 2, none⟩ = some (.int .u64 D.last) := M1.out.row.cell 2
  have d4 : w2.cell? ⟨p, 4, none⟩ = some (.map (some bo)) := M1.out.row.cell 4
  have plt := M1.out.row.lt
  obtain ⟨W3, hW3⟩ : ∃ W3, W3 = (w2.alloc (.map #[] 0)).alloc (.cells #[.int .u64 D.last, .map (some w2.heap.size)] tPx (0, 0)) := ⟨_, rfl⟩
  have O3 : Only [] w2 W3 := by rw [hW3]; exact ((Only.refl [] w2).alloc _).alloc _
  have d1a : (w2.alloc (.map #[] 0)).cell? ⟨p, 1, none⟩ = some (.int .u64 (D.begun + 1)) := by rw [((Only.refl [] w2).alloc _).cell plt (by simp)]; exact d1
  have d2a : (w2.alloc (.map #[] 0)).cell? ⟨p, 2, none⟩ = some (.int .u64 D.last) := by rw [((Only.refl [] w2).alloc _).cell plt (by simp)]; exact d2
  have d4a : (w2.alloc (.map #[] 0)).cell? ⟨p, 4, none⟩ = some (.map (some bo)) := by rw [((Only.refl [] w2).alloc _).cell plt (by simp)]; exact d4
  have d1b : W3.cell? ⟨p, 1, none⟩ = some (.int .u64 (D.begun + 1)) := by rw [O3.cell plt (by simp)]; exact d1
  have d4b : W3.cell? ⟨p, 4, none⟩ = some (.map (some bo)) := by rw [O3.cell plt (by simp)]; exact d4
  obtain ⟨es, clock, hb0, hs0, hL0⟩ : MapAt W3.drew bo .u64 (pxL D.op) := (M1.out.om.only O3 (by simp)).only ((Only.refl [] W3).drew) (by simp)
  have hup := run_update (P := Tryz.prog) (w := W3.drew) hb0 hL0 Tryz.underlying106 Tryz.underlying34 (D.begun + 1) (.pointer (some ⟨w2.heap.size + 1, 0, none⟩))
  have hset := Lib.hid (MapAt.set hb0 hs0 hL0 (D.begun + 1) (.pointer (some ⟨w2.heap.size + 1, 0, none⟩)))
  have pl2 : (ChangeMaps.setBlock W3.drew bo (upObj es clock .u64 (D.begun + 1) (.pointer (some ⟨w2.heap.size + 1, 0, none⟩)) (pxL D.op))).cell? ⟨p, 1, none⟩ = some (.int .u64 (D.begun + 1)) := by
    have k : Only [bo] W3 (ChangeMaps.setBlock W3.drew bo (upObj es clock .u64 (D.begun + 1) (.pointer (some ⟨w2.heap.size + 1, 0, none⟩)) (pxL D.op))) := ((Only.refl [bo] W3).drew).trans setBlock_only (by simp)
    rw [k.cell (Nat.lt_of_lt_of_le plt O3.size) (by simp; exact (own_apart HH.out.nd).2.1)]
    exact d1b
  generalize upObj es clock .u64 (D.begun + 1) (.pointer (some ⟨w2.heap.size + 1, 0, none⟩)) (pxL D.op) = ob at hup hset pl2
  have HO3 := Lib.hid O3
  clear hb0 hs0 hL0 O3 plt
  have HW3 := Lib.hid hW3
  rw [hW3] at d4b d1b hup pl2
  clear hW3
  go_region
  go_wp2_with fail
  go_ret2
  have hO : Only [bo] W3 (ChangeMaps.setBlock W3.drew bo ob) := ((Only.refl [bo] W3).drew).trans setBlock_only (by simp)
  rw [← HW3.out]
  have hf : ∀ o ∈ D.op, o.n ≠ D.begun + 1 := fun o ho => by have := (HH.out.fine.ops o ho).2.1; omega
  have hm := hset.out
  rw [up_freshP _ _ _ hf] at hm
  have hsz : w.heap.size ≤ w2.heap.size := K1.out.size
  have r1 : Row W3 (w2.heap.size + 1) #[.int .u64 D.last, .map (some w2.heap.size)] tPx := by
    have := Row.made (w2.alloc (.map #[] 0)) #[.int .u64 D.last, .map (some w2.heap.size)] tPx
    rw [show (w2.alloc (.map #[] 0)).heap.size = w2.heap.size + 1 by simp] at this
    rw [HW3.out]; exact this
  have r2 : MapAt W3 w2.heap.size .u64 (wrL []) := by
    rw [HW3.out]
    exact (MapAt.made w2 .u64).only ((Only.refl [] _).alloc _) (by simp)
  have n1 : ∀ b, b ∈ D.own p ba bo → b < w2.heap.size := fun b hb => Nat.lt_of_lt_of_le (HH.out.lt b hb) hsz
  have n2 : ∀ b, b ∈ D.reads → b < w2.heap.size := fun b hb => Nat.lt_of_lt_of_le (HH.out.ltr b hb) hsz
  have nb : bo < w2.heap.size := n1 bo (by simp [PDB.own])
  have M3 := M1.out.only HO3.out (by simp)
  have hBB := HB.out
  refine ⟨w2.heap.size + 1, w2.heap.size, _, rfl, ⟨ba, bo, ?_, rfl, by simp [PDB.reads, beginP, wrB]⟩, ?_, ?_⟩
  · refine M3.opened (o := ⟨D.begun + 1, D.last, w2.heap.size + 1, w2.heap.size, []⟩) hO ?_ ?_ ?_ rfl ⟨fun hh => by have h1 : w2.heap.size + 1 < w2.heap.size := n1 _ hh; omega, fun hh => by have h1 : w2.heap.size + 1 < w2.heap.size := n2 _ hh; omega⟩ ⟨fun hh => by have h1 : w2.heap.size < w2.heap.size := n1 _ hh; omega, fun hh => by have h1 : w2.heap.size < w2.heap.size := n2 _ hh; omega⟩ (by simp) (by show B ≤ w2.heap.size + 1; omega) (by show B ≤ w2.heap.size; omega) ⟨by show 0 < D.begun + 1; omega, Int.le_refl _, HH.out.fine.last.1, Int.le_refl _⟩
    · show MapAt _ _ _ (pxL (D.op ++ _))
      rw [pxL_append]; exact hm
    · exact r1.only hO (by simp; omega)
    · exact r2.only hO (by simp; omega)
  · refine ((K1.out.mono (G := D.own p ba bo) (by simp [PDB.own])).trans HO3.out (by simp)).trans hO (by simp [PDB.own])
  · intro b hb
    simp only [PDB.own, beginP, pxB_append, List.mem_cons, List.mem_append] at hb ⊢
    rcases hb with rfl | rfl | rfl | hb | hb
    · exact .inl (.inl rfl)
    · exact .inl (.inr (.inl rfl))
    · exact .inl (.inr (.inr (.inl rfl)))
    · exact .inl (.inr (.inr (.inr hb)))
    · simp [pxB] at hb
      rcases hb with rfl | rfl <;> exact .inr (by omega)
end Go.Proofs.YtcgmgdjeamidlaaGreat
