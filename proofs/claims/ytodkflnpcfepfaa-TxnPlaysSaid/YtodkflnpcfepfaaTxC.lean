/- New, Begin. -/
import Derived.Test.YtodkflnpcfepfaaTxB
import Derived.Carry
namespace Go.Proofs.Ytodkflnpcfepfaa
open Go.RowKit
set_option linter.unusedVariables false
set_option linter.unusedSimpArgs false

def newM (ep : Int) : Mg := ⟨ep * 4294967296, 0, 0, [], [], []⟩
set_option maxHeartbeats 1000000 in
theorem new_any (ep : Int) (w : World) (h0 : 0 ≤ ep) (h1 : ep < 4294967296) :
    Calls Try.prog 8 #[.int .u32 ep] w fun e w' => ∃ p F, e = .returned (.pointer (some ⟨p, 0, none⟩)) ∧ MgF w' w.heap.size p (newM ep) F ∧ Below w.heap.size w w' := by
  have hmm := @run_makeMap Try.prog
  go_enter Try.func8, Try.ntmps8
  go_wp2
  go_ret
  have k0 := Only.refl [] (w.alloc (.map #[] 0))
  have k1 := k0.alloc (.map #[] 0)
  refine ⟨_, _, rfl, ⟨w.heap.size, w.heap.size + 1, .slice none 0 0, ?_, rfl⟩, ((((Below.refl _ _).alloc (Nat.le_refl _) _).alloc (by simp) _).alloc (by simp; omega) _)⟩
  refine ⟨?_, ((MapAt.made w .u64).only k1 (by simp)).only ((Only.refl [] _).alloc _) (by simp), ?_, ⟨rfl, .inl ⟨rfl, rfl⟩⟩, by intro o ho; simp [newM] at ho, by intro o ho; simp [newM] at ho, ?_, ?_, ⟨?_, ?_, by simp [newM], by simp [newM], by simp [newM], by simp [newM], by intro o ho; simp [newM] at ho, by intro o ho; simp [newM] at ho, by simp [newM]⟩⟩
  · have := Row.made ((w.alloc (.map #[] 0)).alloc (.map #[] 0)) ((newM ep).cells w.heap.size (w.heap.size + 1) (.slice none 0 0)) tMg
    simpa [Mg.cells, newM] using this
  · have hs : (w.alloc (.map #[] 0)).heap.size = w.heap.size + 1 := by simp
    show MapAt _ _ _ []
    rw [← hs]
    exact (MapAt.made (w.alloc (.map #[] 0)) .u64).only ((Only.refl [] _).alloc _) (by simp)
  · simp [Mg.blocks, newM, osB, wsB, Value.ownBlock]
    omega
  · simp [Mg.blocks, newM, osB, wsB, Value.ownBlock]
    try omega
  · simp [newM]; omega
  · simp [newM]; omega

def beginM (M : Mg) (bt bk : Nat) : Mg := { M with begun := M.begun + 1, os := M.os ++ [⟨M.base + (M.begun + 1), M.last, [], bt, bk⟩] }
theorem osB_append (a b : List Tx) : osB (a ++ b) = osB a ++ osB b := by simp [osB]
theorem osL_append (a b : List Tx) : osL (a ++ b) = osL a ++ osL b := by simp [osL]
theorem wsB_append (a b : List Wr) : wsB (a ++ b) = wsB a ++ wsB b := by simp [wsB]
theorem MgAt.step1 {w : World} {B p bo bw : Nat} {dv : Value} {M : Mg} (h : MgAt w B p bo bw dv M) (h1 : M.begun < 1000000) :
    MgAt (w.setCell ⟨p, 1, none⟩ (.int .u64 (M.begun + 1))) B p bo bw dv { M with begun := M.begun + 1 } := by
  have k : Only [p] w (w.setCell ⟨p, 1, none⟩ (.int .u64 (M.begun + 1))) := (Only.refl _ _).setCell (by simp) _
  have hnd := h.nd
  simp only [Mg.blocks, List.nodup_cons, List.mem_cons, List.mem_append, not_or] at hnd
  obtain ⟨⟨n1, n2, n3, n4, n5⟩, _⟩ := hnd
  exact ⟨h.row.set 1 _, h.om.only k (by simp; exact fun e => n1 e.symm), h.wm.only k (by simp; exact fun e => n2 e.symm),
    own_keep h.dr (fun g hg => k.block g (h.dr.lt g hg).2 (by simp; rintro rfl; exact n3 (by simp [hg]))),
    fun o ho => ⟨(h.oa o ho).1.only k (by simp; rintro rfl; exact n4 (mem_osB ho).1), (h.oa o ho).2.only k (by simp; rintro rfl; exact n4 (mem_osB ho).2)⟩,
    fun x hx => (h.wa x hx).only k (by simp; rintro rfl; exact n5 (mem_wsB hx)), h.nd, h.ge,
    ⟨h.fine.base0, h.fine.base1, by have := h.fine.begun0; simp; omega, by simp; omega, h.fine.last0, h.fine.last1, fun o ho => by have := h.fine.os1 o ho; simp; omega, h.fine.ws1, h.fine.dl⟩⟩
theorem MgAt.opened {w w' : World} {B p bo bw : Nat} {dv : Value} {M : Mg} {o : Tx} (h : MgAt w B p bo bw dv M) (k : Only [bo] w w') (hm : MapAt w' bo .u64 (osL (M.os ++ [o])))
    (hr : Row w' o.bt #[.int .u64 o.start, .map (some o.bk)] tOne) (hk : MapAt w' o.bk .u64 (setL o.keys)) (n1 : o.bt ∉ M.blocks p bo bw dv) (n2 : o.bk ∉ M.blocks p bo bw dv) (n3 : o.bt ≠ o.bk) (g1 : B ≤ o.bt) (g2 : B ≤ o.bk)
    (f1 : M.base < o.n ∧ o.n ≤ M.base + M.begun ∧ 0 ≤ o.start ∧ o.start ≤ M.last) : MgAt w' B p bo bw dv { M with os := M.os ++ [o] } := by
  have hnd := h.nd
  simp only [Mg.blocks, List.nodup_cons, List.mem_cons, List.mem_append, not_or] at hnd
  obtain ⟨⟨a1, a2, a3, a4, a5⟩, ⟨b1, b2, b3, b4⟩, _⟩ := hnd
  have hperm : (({ M with os := M.os ++ [o] } : Mg).blocks p bo bw dv).Perm (o.bt :: o.bk :: M.blocks p bo bw dv) := by
    simp only [Mg.blocks, osB_append]
    have e : osB [o] = [o.bt, o.bk] := by simp [osB]
    rw [e]
    have : (p :: bo :: bw :: (dv.ownBlock.toList ++ (osB M.os ++ [o.bt, o.bk] ++ wsB M.ws))) = ([p, bo, bw] ++ dv.ownBlock.toList ++ osB M.os) ++ ([o.bt, o.bk] ++ wsB M.ws) := by simp
    rw [this]
    have : (o.bt :: o.bk :: p :: bo :: bw :: (dv.ownBlock.toList ++ (osB M.os ++ wsB M.ws))) = [o.bt, o.bk] ++ (([p, bo, bw] ++ dv.ownBlock.toList ++ osB M.os) ++ wsB M.ws) := by simp
    rw [this, ← List.append_assoc, ← List.append_assoc]
    exact List.Perm.append_right _ List.perm_append_comm
  refine ⟨h.row.only k (by simp; exact a1), hm, h.wm.only k (by simp; exact fun e => b1 e.symm), own_keep h.dr (fun g hg => k.block g (h.dr.lt g hg).2 (by simp; rintro rfl; exact b2 (by simp [hg]))), ?_,
    fun x hx => (h.wa x hx).only k (by simp; rintro rfl; exact b4 (mem_wsB hx)), ?_, ?_, ⟨h.fine.base0, h.fine.base1, h.fine.begun0, h.fine.begun1, h.fine.last0, h.fine.last1, ?_, h.fine.ws1, h.fine.dl⟩⟩
  · intro x hx
    rcases List.mem_append.1 hx with hx | hx
    · exact ⟨(h.oa x hx).1.only k (by simp; rintro rfl; exact b3 (mem_osB hx).1), (h.oa x hx).2.only k (by simp; rintro rfl; exact b3 (mem_osB hx).2)⟩
    · simp only [List.mem_singleton] at hx; subst hx; exact ⟨hr, hk⟩
  · refine hperm.nodup_iff.2 (List.nodup_cons.2 ⟨?_, List.nodup_cons.2 ⟨n2, h.nd⟩⟩)
    simp only [List.mem_cons, not_or]
    exact ⟨n3, n1⟩
  · intro b hb
    have := hperm.mem_iff.1 hb
    simp only [List.mem_cons] at this
    rcases this with rfl | rfl | hb
    · exact g1
    · exact g2
    · exact h.ge b (by simpa only [Mg.blocks, List.mem_cons] using hb)
  · intro x hx
    rcases List.mem_append.1 hx with hx | hx
    · exact h.fine.os1 x hx
    · simp only [List.mem_singleton] at hx; subst hx; exact f1
theorem up_fresh (n : Int) (v : Value) (os : List Tx) (h : ∀ o ∈ os, o.n ≠ n) : up n v (osL os) = osL os ++ [(n, v)] := by
  refine up_none fun p hp => ?_
  obtain ⟨o, ho, rfl⟩ := List.mem_map.1 hp
  exact h o ho
def BeginPost (B p bo bw : Nat) (dv : Value) (M : Mg) (w : World) (e : Ending) (w' : World) : Prop := ∃ bt bk, e = .returned (.tuple #[.int .u64 (M.base + (M.begun + 1)), .int .i64 0]) ∧ MgAt w' B p bo bw dv (beginM M bt bk) ∧ Only [p, bo] w w' ∧ w.heap.size ≤ bt ∧ w.heap.size ≤ bk
set_option maxHeartbeats 2000000 in
theorem begin_at (B p bo bw : Nat) (dv : Value) (M : Mg) (w : World) (h : MgAt w B p bo bw dv M) (hB : B ≤ w.heap.size) (hl : M.os.length < 8) (hb : M.begun < 1000000) :
    Calls Try.prog 9 #[.pointer (some ⟨p, 0, none⟩)] w (BeginPost B p bo bw dv M w) := by
  have hmm := @run_makeMap Try.prog
  have c1 := h.c1
  have c3 := h.c3
  have fz := h.row.free 1
  have N1 := Lib.hid (none_at B p bo bw dv M w h)
  have g0 := h.fine.base0
  have g1 := h.fine.base1
  have g2 := h.fine.begun0
  have hlen : ((osL M.os).length : Int) < 8 := by simp [osL]; omega
  have H := Lib.hid h
  have H1 := Lib.hid (h.step1 hb)
  have HB := Lib.hid hB
  clear h hl hB
  go_enter Try.func9, Try.ntmps9
  go_wp2_with fail
  refine N1.out.mono ?_
  rintro _ w' ⟨rfl, rfl⟩
  go_wp2_with (at_len; refine wpList_len_at _ rfl (.tmp 12) 64 rfl 29 71 .u64 Try.underlying64 bo (osL M.os) rfl H.out.om ?_)
  have M1c0 := H1.out.c0
  have M1c1 := H1.out.c1
  have M1c2 := H1.out.c2
  have M1c3 := H1.out.c3
  have K1 : Hid (Only [p] w' (w'.setCell ⟨p, 1, none⟩ (.int .u64 (M.begun + 1)))) := Lib.hid ((Only.refl _ _).setCell (by simp) _)
  generalize w'.setCell ⟨p, 1, none⟩ (.int .u64 (M.begun + 1)) = w1 at *
  simp only at M1c0 M1c1 M1c2 M1c3
  go_quiet (fail)
  go_wp2_with fail
  have C2 : Hid (Only [p] w' (w1.drewN nq)) := Lib.hid (K1.out.drewN nq)
  have M2 : Hid (MgAt (w1.drewN nq) B p bo bw dv { M with begun := M.begun + 1 }) := Lib.hid (H1.out.only ((Only.refl [] _).drewN nq) (by simp))
  generalize w1.drewN nq = w2 at *
  have d2 := M2.out.c2
  have d3 := M2.out.c3
  simp only at d2 d3
  have plt := M2.out.row.lt
  obtain ⟨W3, hW3⟩ : ∃ W3, W3 = (w2.alloc (.map #[] 0)).alloc (.cells #[.int .u64 M.last, .map (some w2.heap.size)] tOne (0, 0)) := ⟨_, rfl⟩
  have O3 : Only [] w2 W3 := by rw [hW3]; exact ((Only.refl [] w2).alloc _).alloc _
  have d2a : (w2.alloc (.map #[] 0)).cell? ⟨p, 2, none⟩ = some (.int .u64 M.last) := by rw [((Only.refl [] w2).alloc _).cell plt (by simp)]; exact d2
  have d3a : (w2.alloc (.map #[] 0)).cell? ⟨p, 3, none⟩ = some (.map (some bo)) := by rw [((Only.refl [] w2).alloc _).cell plt (by simp)]; exact d3
  have d3b : W3.cell? ⟨p, 3, none⟩ = some (.map (some bo)) := by rw [O3.cell plt (by simp)]; exact d3
  obtain ⟨es, clock, hb0, hs0, hL0⟩ : MapAt W3.drew bo .u64 (osL M.os) := (M2.out.om.only O3 (by simp)).only ((Only.refl [] W3).drew) (by simp)
  have hup := run_update (P := Try.prog) (w := W3.drew) hb0 hL0 Try.underlying64 Try.underlying29 (M.base + (M.begun + 1)) (.pointer (some ⟨w2.heap.size + 1, 0, none⟩))
  have hset := Lib.hid (MapAt.set hb0 hs0 hL0 (M.base + (M.begun + 1)) (.pointer (some ⟨w2.heap.size + 1, 0, none⟩)))
  generalize upObj es clock .u64 (M.base + (M.begun + 1)) (.pointer (some ⟨w2.heap.size + 1, 0, none⟩)) (osL M.os) = ob at hup hset
  have HB0 := Lib.hid hb0
  have HL0 := Lib.hid hL0
  have HO3 := Lib.hid O3
  clear hb0 hs0 hL0 O3 plt
  have HW3 := Lib.hid hW3
  rw [hW3] at d3b hup
  clear hW3
  go_region
  go_wp2_with fail
  go_ret2
  have hO : Only [bo] W3 (ChangeMaps.setBlock W3.drew bo ob) := ((Only.refl [bo] W3).drew).trans setBlock_only (by simp)
  rw [← HW3.out]
  have hf : ∀ o ∈ M.os, o.n ≠ M.base + (M.begun + 1) := fun o ho => by have := (H.out.fine.os1 o ho).2.1; omega
  have hm := hset.out
  rw [up_fresh _ _ _ hf] at hm
  have hsz : w'.heap.size ≤ w2.heap.size := C2.out.size
  have r1 : Row W3 (w2.heap.size + 1) #[.int .u64 M.last, .map (some w2.heap.size)] tOne := by
    have := Row.made (w2.alloc (.map #[] 0)) #[.int .u64 M.last, .map (some w2.heap.size)] tOne
    rw [show (w2.alloc (.map #[] 0)).heap.size = w2.heap.size + 1 by simp] at this
    rw [HW3.out]; exact this
  have r2 : MapAt W3 w2.heap.size .u64 (setL []) := by
    rw [HW3.out]
    exact (MapAt.made w2 .u64).only ((Only.refl [] _).alloc _) (by simp)
  have n1 : ∀ b, b ∈ M.blocks p bo bw dv → b < w2.heap.size := fun b hb => Nat.lt_of_lt_of_le (H.out.lt b hb) hsz
  have nb : bo < w2.heap.size := n1 bo (by simp [Mg.blocks])
  have M3 := M2.out.only HO3.out (by simp)
  refine ⟨w2.heap.size + 1, w2.heap.size, rfl, ?_, ?_, by omega, by omega⟩
  · refine M3.opened (o := ⟨M.base + (M.begun + 1), M.last, [], w2.heap.size + 1, w2.heap.size⟩) hO ?_ ?_ ?_ (fun hh => by have h1 : w2.heap.size + 1 < w2.heap.size := n1 _ hh; omega) (fun hh => by have h1 : w2.heap.size < w2.heap.size := n1 _ hh; omega) (by simp) (by have := HB.out; show B ≤ w2.heap.size + 1; omega) (by have := HB.out; show B ≤ w2.heap.size; omega) ⟨by show M.base < M.base + (M.begun + 1); omega, Int.le_refl _, H.out.fine.last0, Int.le_refl _⟩
    · rw [osL_append]; exact hm
    · exact r1.only hO (by simp; omega)
    · exact r2.only hO (by simp; omega)
  · exact ((C2.out.mono (G := [p, bo]) (by simp)).trans HO3.out (by simp)).trans hO (by simp)
end Go.Proofs.Ytodkflnpcfepfaa
