/- Abort; Begin of a full manager; Clone, Look. -/
import Derived.Test.YtodkflnpcfepfaaTxG
import Derived.Deep.Cut
import Derived.Deep.RegionHeld3
namespace Go.Proofs.Ytodkflnpcfepfaa
open Go.RowKit Go.ChangeShapes Go.WideShapes Go.ChangeAt
set_option linter.unusedVariables false
set_option linter.unusedSimpArgs false

theorem wsB_sub {s t : List Wr} (h : s.Sublist t) : (wsB s).Sublist (wsB t) := h.map _
def thinM (M : Mg) (os : List Tx) (ws : List Wr) : Mg := { M with os := os, ws := ws }
/-- Fewer transactions, fewer sets of keys. -/
theorem MgAt.thin {w w' : World} {B p bo bw : Nat} {dv : Value} {M : Mg} (h : MgAt w B p bo bw dv M) {os : List Tx} {ws : List Wr} (so : os.Sublist M.os) (sw : ws.Sublist M.ws) {G : List Nat} (k : Only G w w') (hG : ∀ b ∈ G, b = bo ∨ b = bw)
    (hm : MapAt w' bo .u64 (osL os)) (hw : MapAt w' bw .u64 (wsL ws)) : MgAt w' B p bo bw dv (thinM M os ws) ∧ (∀ b ∈ (thinM M os ws).blocks p bo bw dv, b ∈ M.blocks p bo bw dv) := by
  obtain ⟨a1, a2, a3, a4, a5, a6⟩ := head_apart h.nd
  have sub : ((thinM M os ws).blocks p bo bw dv).Sublist (M.blocks p bo bw dv) := by
    show (p :: bo :: bw :: (dv.ownBlock.toList ++ (osB os ++ wsB ws))).Sublist (p :: bo :: bw :: (dv.ownBlock.toList ++ (osB M.os ++ wsB M.ws)))
    exact (((List.Sublist.append (List.Sublist.refl _) (List.Sublist.append (osB_sub so) (wsB_sub sw))).cons_cons _).cons_cons _).cons_cons _
  have hmem : ∀ b ∈ (thinM M os ws).blocks p bo bw dv, b ∈ M.blocks p bo bw dv := fun b hb => sub.subset hb
  have nin : ∀ b, b ≠ bo → b ≠ bw → b ∉ G := fun b h1 h2 hm => (hG b hm).elim h1 h2
  refine ⟨⟨h.row.only k (nin _ a1 a2), hm, hw, own_keep h.dr (fun g hg => k.block g (h.dr.lt g hg).2 (nin _ (a4 g hg).2.1 (a4 g hg).2.2)), ?_, ?_, sub.nodup h.nd, fun b hb => h.ge b (hmem b hb), ⟨h.fine.base0, h.fine.base1, h.fine.begun0, h.fine.begun1, h.fine.last0, h.fine.last1, fun x hx => h.fine.os1 x (so.subset hx), fun x hx => h.fine.ws1 x (sw.subset hx), h.fine.dl⟩⟩, hmem⟩
  · intro x hx
    have hx' := so.subset hx
    have h1 := a5 _ (mem_osB hx').1
    have h2 := a5 _ (mem_osB hx').2
    exact ⟨(h.oa x hx').1.only k (nin _ h1.2.1 h1.2.2.1), (h.oa x hx').2.only k (nin _ h2.2.1 h2.2.2.1)⟩
  · intro x hx
    have h1 := a6 _ (mem_wsB (sw.subset hx))
    exact (h.wa x (sw.subset hx)).only k (nin _ h1.2.1 h1.2.2.1)
def abortM (M : Mg) (n : Int) : Mg := thinM M (M.os.filter fun x => !decide (x.n = n)) M.ws
def ThinF (B p : Nat) (M M' : Mg) (F : List Nat) (v : Value) (w : World) (e : Ending) (w' : World) : Prop := ∃ F', e = .returned v ∧ MgF w' B p M' F' ∧ Only F w w' ∧ Kept F F' w
set_option maxHeartbeats 1000000 in
theorem abort_yes {B p : Nat} {M : Mg} {F : List Nat} {w : World} {n : Int} {o : Tx} (h : MgF w B p M F) (ho : findT n M.os = some o) :
    Calls Try.prog 21 #[.pointer (some ⟨p, 0, none⟩), .int .u64 n] w (ThinF B p M (abortM M n) F (.int .i64 0) w) := by
  obtain ⟨bo, bw, dv, h, rfl⟩ := h
  have F1 := Lib.hid (find_yes B p bo bw dv M w n o h ho)
  have c3 := h.c3
  have H := Lib.hid h
  clear h ho
  go_enter Try.func21, Try.ntmps21
  go_wp2_with fail
  refine F1.out.mono ?_
  rintro _ w1 ⟨rfl, hw1⟩
  subst w1
  go_wp2_with (at_delete; refine wpList_delete_at _ rfl (.tmp 18) (.tmp 19) 64 29 rfl 71 .u64 Try.underlying64 Try.underlying29 bo (osL M.os) rfl H.out.om n rfl ?_)
  intro w8 hm8 k8 hs8
  have hrm : rm n (osL M.os) = osL (M.os.filter fun x => !decide (x.n = n)) := rm_map (fun o : Tx => o.n) (fun o : Tx => .pointer (some ⟨o.bt, 0, none⟩)) n M.os
  rw [hrm] at hm8
  have hap := head_apart H.out.nd
  have T := Lib.hid (H.out.thin (List.filter_sublist (l := M.os)) (List.Sublist.refl _) k8 (by simp) hm8 (H.out.wm.only k8 (by simpa using hap.2.2.1.symm)))
  have K8 := Lib.hid k8
  clear hm8 k8 hs8 hrm hap
  go_wp2_with fail
  go_ret
  exact ⟨_, rfl, ⟨bo, bw, dv, T.out.1, rfl⟩, K8.out.mono (by intro i hi; simp at hi; subst hi; exact .inl (by simp [Mg.blocks])), fun b hb => .inl (T.out.2 b hb)⟩
theorem abort_no {B p : Nat} {M : Mg} {F : List Nat} {w : World} {n : Int} (h : MgF w B p M F) (ho : findT n M.os = none) :
    Calls Try.prog 21 #[.pointer (some ⟨p, 0, none⟩), .int .u64 n] w (fun e w' => e = .returned (.int .i64 12) ∧ w' = w) := by
  obtain ⟨bo, bw, dv, h, rfl⟩ := h
  have F1 := Lib.hid (find_no B p bo bw dv M w n h ho)
  clear h ho
  go_enter Try.func21, Try.ntmps21
  go_wp2_with fail
  refine F1.out.mono ?_
  rintro _ w1 ⟨rfl, hw1⟩
  subst w1
  go_wp2_with fail
  go_ret
  exact ⟨rfl, rfl⟩
set_option maxHeartbeats 1000000 in
theorem begin_full {B p : Nat} {M : Mg} {F : List Nat} {w : World} (h : MgF w B p M F) (hl : 8 ≤ M.os.length) :
    Calls Try.prog 9 #[.pointer (some ⟨p, 0, none⟩)] w (fun e w' => e = .returned (.tuple #[.int .u64 0, .int .i64 5]) ∧ w' = w) := by
  obtain ⟨bo, bw, dv, h, rfl⟩ := h
  have c3 := h.c3
  have N1 := Lib.hid (none_at B p bo bw dv M w h)
  have hlen : (8 : Int) ≤ ((osL M.os).length : Int) := by simp [osL]; omega
  have H := Lib.hid h
  clear h hl
  go_enter Try.func9, Try.ntmps9
  go_wp2_with fail
  refine N1.out.mono ?_
  rintro _ w1 ⟨rfl, hw1⟩
  subst w1
  go_wp2_with (at_len; refine wpList_len_at _ rfl (.tmp 12) 64 rfl 29 71 .u64 Try.underlying64 bo (osL M.os) rfl H.out.om ?_)
  go_ret2
  exact ⟨rfl, rfl⟩
theorem last_at {B p : Nat} {M : Mg} {F : List Nat} {w : World} (h : MgF w B p M F) :
    Calls Try.prog 28 #[.pointer (some ⟨p, 0, none⟩)] w (fun e w' => e = .returned (.int .u64 M.last) ∧ w' = w) := by
  obtain ⟨bo, bw, dv, h, rfl⟩ := h
  have c2 := h.c2
  have N1 := Lib.hid (none_at B p bo bw dv M w h)
  clear h
  go_enter Try.func28, Try.ntmps28
  go_wp2_with fail
  refine N1.out.mono ?_
  rintro _ w1 ⟨rfl, hw1⟩
  subst w1
  go_wp2_with fail
  go_ret
  exact ⟨rfl, rfl⟩

abbrev tSt : TypeId := 47
theorem own_slice {w : World} {B n size : Nat} {e : TypeId} {v : Value} {xs : List Value} (h : w.ownsRow B e size v n xs) : ∃ a m c, v = .slice a m c := by
  rcases h.2 with ⟨rfl, _⟩ | ⟨g, cap, cur, rfl, _⟩
  · exact ⟨_, _, _, rfl⟩
  · exact ⟨_, _, _, rfl⟩
theorem own_base {w : World} {B C n size : Nat} {e : TypeId} {v : Value} {xs : List Value} (h : w.ownsRow B e size v n xs) (hc : C ≤ B) : w.ownsRow C e size v n xs := by
  refine ⟨h.1, ?_⟩
  rcases h.2 with h | ⟨g, cap, cur, h1, h2, h3⟩
  · exact .inl h
  · exact .inr ⟨g, cap, cur, h1, Nat.le_trans hc h2, h3⟩
def CloneTo (n : Nat) (xs : List Value) (w : World) (e : Ending) (w' : World) : Prop := ∃ a m c, e = .returned (.slice a m c) ∧ w'.ownsRow w.heap.size tSt 2 (.slice a m c) n xs ∧ Below w.heap.size w w'
set_option maxRecDepth 100000 in
set_option maxHeartbeats 2000000 in
theorem clone_at (B n : Nat) (dv : Value) (xs : List Value) (w : World) (h : w.ownsRow B tSt 2 dv n xs) (h1 : ∀ u ∈ xs, u.oneCell' = true) (hn : n ≤ 1000000) :
    Calls Try.prog 35 #[dv] w (CloneTo n xs w) := by
  have h2 := h
  rcases h2.2 with ⟨rfl, h0⟩ | ⟨g, cap, cur, rfl, hb, hgh, hnc, hcm, hcs, htake⟩
  · have hx : xs = [] := by have := h2.1; rw [h0] at this; simpa using this
    subst hx h0
    have qT : ∀ w : World, (binOp .eql 40 (.slice none 0 0) (.slice none 0 0)).run Try.prog w = .ok (.bool true) w := fun w => by kernel_rfl
    clear h h1 h2
    go_enter Try.func35, Try.ntmps35
    go_wp2_with fail
    go_ret
    exact ⟨_, _, _, rfl, World.ownsRow_nil _ _ _ _, Below.refl _ _⟩
  · have CE := Lib.hid (fun j u hj => h.cells rfl j u hj)
    have GL := Lib.hid hb
    have GS : Hid (g < w.heap.size) := Lib.hid (Array.getElem?_eq_some_iff.1 hgh).1
    have XL := Lib.hid h2.1
    have O1 := Lib.hid h1
    have HN := Lib.hid hn
    have qT : ∀ w : World, (binOp .eql 40 (.slice (some ⟨g, 0, none⟩) n cap) (.slice none 0 0)).run Try.prog w = .ok (.bool false) w := fun w => by kernel_rfl
    clear h h1 h2 hb hgh hnc hcm hcs htake hn
    obtain ⟨i0, hi, hz0, hz1, hz2⟩ := info_parts infoStamp
    go_enter Try.func35, Try.ntmps35
    have OE : Hid ((w.alloc (.cells #[] tSt)).ownsRow w.heap.size tSt 2 (.slice (some ⟨w.heap.size, 0, none⟩) 0 0) 0 []) := Lib.hid ⟨rfl, .inr ⟨w.heap.size, 0, #[], rfl, Nat.le_refl _, by show (w.heap.push _)[w.heap.size]? = _; simp, Nat.le_refl _, by decide, rfl, rfl⟩⟩
    have BL : Hid (Below w.heap.size w (w.alloc (.cells #[] tSt))) := Lib.hid ((Below.refl _ _).alloc (Nat.le_refl _) _)
    have CE2 : Hid (∀ (j : Nat) (u : Value), xs[j]? = some u → (w.alloc (.cells #[] tSt)).cell? ((⟨g, 0, none⟩ : Addr).add j) = some u) := Lib.hid fun j u hj => by
      have h := CE.out j u hj
      refine (World.cell?_alloc_lt w _ _ ?_).trans h
      have := GS.out
      unfold Addr.add
      split <;> exact this
    clear CE
    go_wp2_with (at_builtin; refine wpList_append_at rfl (.tmp 5) (.tmp 6) 40 rfl w.heap.size tSt i0 (.agg #[.int .u64 0, .int .u64 0]) 2 16 Try.underlying40 hi hz0 hz1 hz2 rfl (by decide) _ 0 [] rfl OE.out ⟨g, 0, none⟩ n cap xs rfl XL.out CE2.out O1.out (by have := HN.out; unfold maxLen; omega) (by have := HN.out; omega) (by simp) ?_; intro v' w1 hown' hgrow _)
    go_ret
    have e0 : 0 + n = n := by omega
    rw [e0, List.nil_append] at hown'
    obtain ⟨a, m, c, rfl⟩ := own_slice hown'
    exact ⟨_, _, _, rfl, hown', BL.out.grown hgrow (by simp) (fun k hk => by simp [Act.eval, Value.ownBlock] at hk; omega)⟩

abbrev tLk : TypeId := 42
theorem lookSize : (Try.prog.info? tLk).map (·.size) = some 4 := by kernel_rfl
theorem results_look2 {fn : Func} {p u : Tmp} (h : fn.results = #[.cell p tLk, .tmp u]) (tmps : Array Value) (w : World) (g : Nat) (R : Array Value) (hR : R.size = 4) (hp : tmps.getD p undef = .pointer (some ⟨g, 0, none⟩)) (hg : Row w g R tLk) : (results fn tmps).run Try.prog w = .ok (.tuple #[.agg R, tmps.getD u undef]) w := by
  have hp' : tmps[p]?.getD undef = .pointer (some ⟨g, 0, none⟩) := by simpa using hp
  simp only [results, h]
  simp [Sem.run_bind, hp', asAddr, Result.andThen, run_loadVar_row w g _ _ _ _ _ hg Try.underlying42 rfl (by rw [lookSize, hR])]
def lookR (self start base : Int) (v : Value) : Array Value := #[.int .u64 self, .int .u64 start, .int .u64 base, v]
def LookF (M : Mg) (n : Int) (o : Tx) (w : World) (e : Ending) (w' : World) : Prop := ∃ a m c, e = .returned (.tuple #[.agg (lookR n o.start M.base (.slice a m c)), .int .i64 0]) ∧ w'.ownsRow w.heap.size tSt 2 (.slice a m c) M.ds.length (dsL M.ds) ∧ Below w.heap.size w w'
theorem look_no {B p : Nat} {M : Mg} {F : List Nat} {w : World} {n : Int} (h : MgF w B p M F) (ho : findT n M.os = none) :
    Calls Try.prog 14 #[.pointer (some ⟨p, 0, none⟩), .int .u64 n] w (fun e w' => e = .returned (.tuple #[.agg (lookR 0 0 0 (.slice none 0 0)), .int .i64 12]) ∧ Below w.heap.size w w') := by
  have A0 : Hid (MgF (w.alloc (.cells #[.int .u64 0, .int .u64 0, .int .u64 0, .slice none 0 0] tLk)) B p M F) := Lib.hid (h.only ((Only.refl [] _).alloc _) (by simp))
  clear h
  obtain ⟨bo, bw, dv, h, hF⟩ := A0.out
  have F1 := Lib.hid (find_no B p bo bw dv M _ n h ho)
  clear h ho A0 hF
  go_enter Try.func14, Try.ntmps14
  go_wp2_with fail
  refine F1.out.mono ?_
  rintro _ w1 ⟨rfl, hw1⟩
  subst w1
  go_wp2_with fail
  refine bodyPost_ret (results_look2 rfl _ _ w.heap.size (lookR 0 0 0 (.slice none 0 0)) rfl rfl ?_) rfl ?_
  · exact Row.made _ _ _
  · exact ⟨rfl, (Below.refl _ _).alloc (Nat.le_refl _) _⟩
set_option maxHeartbeats 4000000 in
theorem look_yes {B p : Nat} {M : Mg} {F : List Nat} {w : World} {n : Int} {o : Tx} (h : MgF w B p M F) (ho : findT n M.os = some o) :
    Calls Try.prog 14 #[.pointer (some ⟨p, 0, none⟩), .int .u64 n] w (LookF M n o w) := by
  have A0 : Hid (MgF (w.alloc (.cells #[.int .u64 0, .int .u64 0, .int .u64 0, .slice none 0 0] tLk)) B p M F) := Lib.hid (h.only ((Only.refl [] _).alloc _) (by simp))
  have LT1 := h.lt
  clear h
  obtain ⟨bo, bw, dv, h, hF⟩ := A0.out
  have LT0 : ∀ b ∈ M.blocks p bo bw dv, b < w.heap.size := hF ▸ LT1
  clear LT1
  have F1 := Lib.hid (find_yes B p bo bw dv M _ n o h ho)
  have RW : Hid (Row (w.alloc (.cells #[.int .u64 0, .int .u64 0, .int .u64 0, .slice none 0 0] tLk)) w.heap.size #[.int .u64 0, .int .u64 0, .int .u64 0, .slice none 0 0] tLk) := Lib.hid (Row.made _ _ _)
  have BL : Hid (Below w.heap.size w (w.alloc (.cells #[.int .u64 0, .int .u64 0, .int .u64 0, .slice none 0 0] tLk))) := Lib.hid ((Below.refl _ _).alloc (Nat.le_refl _) _)
  have H := Lib.hid h
  have HO := Lib.hid ho
  have LT := Lib.hid LT0
  clear h ho A0 hF LT0
  go_enter Try.func14, Try.ntmps14
  go_wp2_with fail
  refine F1.out.mono ?_
  rintro _ w1 ⟨rfl, hw1⟩
  subst w1
  clear F1
  go_upto_region 4 with fail
  generalize w.alloc (.cells #[.int .u64 0, .int .u64 0, .int .u64 0, .slice none 0 0] tLk) = w1 at *
  have NB : Hid (w.heap.size ∉ M.blocks p bo bw dv) := Lib.hid fun hb => by have := LT.out _ hb; omega
  have SO : Hid (∀ y, Only [w.heap.size] w1 y → (y.cell? ⟨o.bt, 0, none⟩ = some (.int .u64 o.start) ∧ y.cell? ⟨p, 0, none⟩ = some (.int .u64 M.base) ∧ y.cell? ⟨p, 4, none⟩ = some dv)) := Lib.hid fun y k => by
    have hm : MgAt y B p bo bw dv M := H.out.only k (by simpa using NB.out)
    exact ⟨(one_cells (hm.oa o (findT_some HO.out).1).1).1, hm.c0, hm.c4⟩
  have CL : Hid (∀ y, Only [] w1 y → Calls Try.prog 35 #[dv] y (CloneTo M.ds.length (dsL M.ds) y)) := Lib.hid fun y k => by
    have hm : MgAt y B p bo bw dv M := H.out.only k (by simp)
    exact clone_at B M.ds.length dv (dsL M.ds) y hm.dr (fun u hu => by
      obtain ⟨d, _, hd⟩ := List.mem_flatMap.1 hu
      simp at hd
      rcases hd with rfl | rfl <;> rfl) (by have := hm.fine.dl; omega)
  go_region_held3 (fun y => (y.cell? ⟨o.bt, 0, none⟩ = some (.int .u64 o.start) ∧ y.cell? ⟨p, 0, none⟩ = some (.int .u64 M.base) ∧ y.cell? ⟨p, 4, none⟩ = some dv))
    (first
      | exact SO.out _ (((((X1.out.mono (by simp)).setCell (.inl (by simp)) _).setCell (.inl (by simp)) _).setCell (.inl (by simp)) _).setCell (.inl (by simp)) _)
      | exact SO.out _ (X1.out.mono (by simp))
      | exact SO.out _ (Only.refl _ w1).drew)
    (first
      | (go_at_call 35; refine (CL.out w1.drew (Only.refl [] w1).drew).mono ?_; rintro _ x1 ⟨a1, m1, c1, rfl, o1, b1⟩; have X1 : Hid (Only [] w1 x1) := Lib.hid (((Only.refl [] w1).drew).below b1); have O1 := Lib.hid o1; have RX := Lib.hid (RW.out.only X1.out (by simp)); clear o1 b1; have r0 : x1.cell? ⟨w.heap.size, 0, none⟩ = some (.int .u64 0) := RX.out.cell 0; have r1 : x1.cell? ⟨w.heap.size, 1, none⟩ = some (.int .u64 0) := RX.out.cell 1; have r2 : x1.cell? ⟨w.heap.size, 2, none⟩ = some (.int .u64 0) := RX.out.cell 2; have r3 : x1.cell? ⟨w.heap.size, 3, none⟩ = some (.slice none 0 0) := RX.out.cell 3; have q0 := RX.out.free 0; have q1 := RX.out.free 1; have q2 := RX.out.free 2; have q3 := RX.out.free 3))
  go_wp2_with fail
  refine bodyPost_ret (results_look2 rfl _ _ w.heap.size (lookR n o.start M.base (.slice a1 m1 c1)) rfl rfl ?_) rfl ?_
  · have h := (((RX.out.set 0 (.int .u64 n)).set 1 (.int .u64 o.start)).set 2 (.int .u64 M.base)).set 3 (.slice a1 m1 c1)
    simpa [lookR] using h
  · have ko : Only [w.heap.size] x1 ((((x1.setCell ⟨w.heap.size, 0, none⟩ (.int .u64 n)).setCell ⟨w.heap.size, 1, none⟩ (.int .u64 o.start)).setCell ⟨w.heap.size, 2, none⟩ (.int .u64 M.base)).setCell ⟨w.heap.size, 3, none⟩ (.slice a1 m1 c1)) := ((((Only.refl [w.heap.size] x1).setCell (.inl (by simp)) _).setCell (.inl (by simp)) _).setCell (.inl (by simp)) _).setCell (.inl (by simp)) _
    have hs : w.heap.size < w1.heap.size := RW.out.lt
    refine ⟨a1, m1, c1, rfl, ?_, ?_⟩
    · refine own_base (own_keep O1.out fun g hg => ko.block g (O1.out.lt g hg).2 (by have := (O1.out.lt g hg).1; simp at this ⊢; omega)) ?_
      show w.heap.size ≤ w1.heap.size
      omega
    · exact BL.out.trans ((X1.out.mono (G := [w.heap.size]) (by simp)).trans ko (by simp) |>.toBelow (by omega) (by simp))
end Go.Proofs.Ytodkflnpcfepfaa
