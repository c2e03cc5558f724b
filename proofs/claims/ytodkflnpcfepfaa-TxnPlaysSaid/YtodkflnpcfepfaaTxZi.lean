/- Looks. -/
import Derived.Test.YtodkflnpcfepfaaTxP
import Derived.Test.YtodkflnpcfepfaaTxZh
import Derived.Sort.CutIn
import Derived.Deep.RegionHeld3
namespace Go.Proofs.Ytodkflnpcfepfaa
open Go.RowKit Go.Shelf
set_option linter.unusedVariables false
set_option linter.unusedSimpArgs false
attribute [local go_sem] Oper.semAt_some

abbrev tMp : TypeId := 25
abbrev tLs : TypeId := 58
structure LcI (w W : World) (p bb bx : Nat) (base : Int) (ds : List (Int × Int)) (v : Value) (xs : List LkX) (ks : List (Int × Int)) : Prop where
  lk : LkI w W base ds v xs ks
  box : Row W bb #[.pointer (some ⟨p, 0, none⟩)] tMp
  out : Row W bx #[v] tLs
  gb : w.heap.size ≤ bb
  gx : w.heap.size ≤ bx
theorem own_ne_row {w : World} {B n size b : Nat} {e T : TypeId} {v : Value} {xs : List Value} {cs : Array Value} (h : w.ownsRow B e size v n xs) (r : Row w b cs T) (hT : e ≠ T) : v.ownBlock ≠ some b := by
  intro hb
  rcases h.2 with ⟨rfl, _⟩ | ⟨g, cap, cur, rfl, _, h2, _⟩
  · simp [Value.ownBlock] at hb
  · simp [Value.ownBlock] at hb
    subst hb
    unfold Row at r
    rw [r] at h2
    simp only [Option.some.injEq] at h2
    injection h2 with _ e2 _
    exact hT e2.symm
theorem LkRow.cells {w w' : World} {B : Nat} {base : Int} {ds : List (Int × Int)} {v : Value} {xs : List LkX} (h : LkRow w B base ds v xs) (hk : ∀ (b : Nat) (o : Obj), w.heap[b]? = some o → o.isCells = true → w'.heap[b]? = some o) : LkRow w' B base ds v xs := by
  have key : ∀ {B n size : Nat} {e : TypeId} {u : Value} {ys : List Value}, w.ownsRow B e size u n ys → w'.ownsRow B e size u n ys := fun hu => by
    refine own_keep hu fun g hg => ?_
    rcases hu.2 with ⟨rfl, _⟩ | ⟨g', cap, cur, rfl, _, h2, _⟩
    · simp [Value.ownBlock] at hg
    · simp [Value.ownBlock] at hg
      subst hg
      rw [h2, hk _ _ h2 rfl]
  exact ⟨key h.own, fun x hx => ⟨key (h.each x hx).1, (h.each x hx).2⟩⟩
theorem LkRow.onlyG {G : List Nat} {w w' : World} {B : Nat} {base : Int} {ds : List (Int × Int)} {v : Value} {xs : List LkX} (h : LkRow w B base ds v xs) (k : Only G w w') (hv : ∀ g, v.ownBlock = some g → g ∉ G) (hx : ∀ x ∈ xs, ∀ g, x.2.2.ownBlock = some g → g ∉ G) : LkRow w' B base ds v xs :=
  ⟨own_keep h.own fun g hg => k.block g (h.own.lt g hg).2 (hv g hg), fun x hx' => ⟨own_keep (h.each x hx').1 fun g hg => k.block g ((h.each x hx').1.lt g hg).2 (hx x hx' g hg), (h.each x hx').2⟩⟩
theorem LcI.cells {w W W' : World} {p bb bx : Nat} {base : Int} {ds : List (Int × Int)} {v : Value} {xs : List LkX} {ks : List (Int × Int)} (h : LcI w W p bb bx base ds v xs ks) (hk : ∀ (b : Nat) (o : Obj), W.heap[b]? = some o → o.isCells = true → W'.heap[b]? = some o) (hb : Below w.heap.size w W') : LcI w W' p bb bx base ds v xs ks :=
  ⟨⟨h.lk.keys, h.lk.row.cells hk, hb⟩, hk _ _ h.box rfl, hk _ _ h.out rfl, h.gb, h.gx⟩
/-- One look more. -/
theorem LcI.next {w W W1 W2 : World} {p bb bx : Nat} {base s t : Int} {ds : List (Int × Int)} {v v' vd : Value} {xs : List LkX} {ks : List (Int × Int)} {o1 o2 : Obj} (h : LcI w W p bb bx base ds v xs ks) (hb : Below W.heap.size W W1) (hd : W1.ownsRow W.heap.size tSt 2 vd ds.length (dsL ds))
    (ho : W2.ownsRow w.heap.size tLk 4 v' (xs.length + 1) (lksL base xs ++ [.int .u64 s, .int .u64 t, .int .u64 base, vd])) (k : ((W1.alloc o1).alloc o2).grownBy W2 v.ownBlock) (hf : v'.ownBlock = v.ownBlock ∨ ∀ g, v'.ownBlock = some g → ((W1.alloc o1).alloc o2).heap.size ≤ g) :
    LcI w (W2.setCell ⟨bx, 0, none⟩ v') p bb bx base ds v' (xs ++ [(s, t, vd)]) (ks ++ [(s, t)]) ∧ Only (bx :: v.ownBlock.toList) W (W2.setCell ⟨bx, 0, none⟩ v') ∧ W2.frozen? ⟨bx, 0, none⟩ = false ∧ W2.cell? ⟨bx, 0, none⟩ = some v := by
  have L := LkO.append (B := w.heap.size) (ov := .slice none 0 0) (opens := []) ⟨h.lk, World.ownsRow_nil W w.heap.size tU 1, by simp [Value.ownBlock], Nat.le_refl _⟩ hb hd ho k hf
  have k2 : Only v.ownBlock.toList W1 W2 := (((Only.refl _ W1).alloc o1).alloc o2).grown k (fun b hb => .inl (by simp [hb]))
  have k3 : Only v.ownBlock.toList W W2 := (((Only.refl [] W).below hb).mono (by simp)).trans k2 (fun i hi => .inl hi)
  have n1 : v.ownBlock ≠ some bb := own_ne_row h.lk.row.own h.box (by decide)
  have n2 : v.ownBlock ≠ some bx := own_ne_row h.lk.row.own h.out (by decide)
  have nbx : bb ≠ bx := fun e => by
    have h1 := h.box
    rw [e] at h1
    unfold Row at h1
    have h2 := h.out
    unfold Row at h2
    rw [h1] at h2
    simp only [Option.some.injEq] at h2
    injection h2 with _ e2 _
    exact absurd e2 (by decide)
  have r2 : Row W2 bx #[v] tLs := h.out.only k3 (by simpa using n2)
  have ks : Only [bx] W2 (W2.setCell ⟨bx, 0, none⟩ v') := (Only.refl _ _).setCell (by simp) _
  have kf : Only (bx :: v.ownBlock.toList) W (W2.setCell ⟨bx, 0, none⟩ v') := (k3.mono (by intro i hi; exact .inl (List.mem_cons_of_mem _ hi))).trans ks (by simp)
  refine ⟨⟨⟨L.lk.keys, ?_, ?_⟩, ?_, ?_, h.gb, h.gx⟩, kf, r2.free 0, r2.cell 0⟩
  · refine L.lk.row.onlyG ks (fun g hg => ?_) (fun x hx g hg => ?_)
    · simp only [List.mem_singleton]
      rintro rfl
      exact own_ne_row L.lk.row.own r2 (by decide) hg
    · simp only [List.mem_singleton]
      rintro rfl
      exact own_ne_row (L.lk.row.each x hx).1 r2 (by decide) hg
  · exact L.lk.bl.trans (ks.toBelow L.lk.bl.size (by intro i hi; simp at hi; subst hi; exact h.gx))
  · exact h.box.only kf (by simp; exact ⟨nbx, n1⟩)
  · have := r2.set 0 v'
    simpa using this
theorem KeepsOthers.of_only {G : List Nat} {W W' : World} (h : Only G W W') (hG : ∀ b ∈ G, ∀ o : Obj, W.heap[b]? = some o → o.isCells = true) : KeepsOthers W W' :=
  ⟨h.size, fun k o hk hc => (h.block k (Array.getElem?_eq_some_iff.1 hk).1 (fun hm => by have := hG k hm o hk; rw [this] at hc; cases hc)).trans hk⟩
theorem KeepC.of_lk {G : List Nat} {W W' : World} {bx B n : Nat} {v : Value} {xs : List Value} (h : Only (bx :: v.ownBlock.toList) W W') (ho : W.ownsRow B tLk 4 v n xs) (hG : bx ∈ G) : KeepC G W W' :=
  ⟨h.size, fun k o hk _ hl hn => (h.block k (Array.getElem?_eq_some_iff.1 hk).1 (fun hm => by
    rcases List.mem_cons.1 hm with rfl | hm
    · exact hn hG
    · have hm' : v.ownBlock = some k := by simpa using hm
      rcases ho.2 with ⟨rfl, _⟩ | ⟨g, cap, cur, rfl, _, h2, _⟩
      · simp [Value.ownBlock] at hm'
      · simp [Value.ownBlock] at hm'
        subst hm'
        rw [h2] at hk
        simp only [Option.some.injEq] at hk
        exact hl _ _ hk.symm)).trans hk⟩
def looksM (M : Mg) (xs : List Tx) : List (Int × Int) := (0, M.last) :: xs.map fun o => (o.n, o.start)
def LcAt (M : Mg) (w : World) (p bb bx : Nat) (pre : List (OpenTx M)) (W : World) : Prop := ∃ v xs, LcI w W p bb bx M.base M.ds v xs (looksM M (txsT pre))
def LooksFTo (M : Mg) (w : World) (e : Ending) (w' : World) : Prop := ∃ ys : List (OpenTx M), ((numsT ys).Perm (M.os.map (·.n)) ∧ SortedTo (numsT ys) (numsT ys).length) ∧ LooksTo M.base M.ds (looksM M (txsT ys)) w e w'
theorem LcAt.own (M : Mg) (w w0 : World) (p bb bx : Nat) (h0 : w.heap.size ≤ w0.heap.size) : OwnFrom w0.heap.size (fun pre W => LcAt M w p bb bx pre W) := fun s W W' row h hg hr => by
  obtain ⟨v, xs, h⟩ := h
  have hk : ∀ (b : Nat) (o : Obj), W.heap[b]? = some o → o.isCells = true → W'.heap[b]? = some o := fun b o hb hc =>
    (hg.block b (Array.getElem?_eq_some_iff.1 hb).1 (fun e => by obtain ⟨_, o', h1, h2⟩ := hr b e.symm; rw [hb] at h1; cases h1; rw [hc] at h2; cases h2)).trans hb
  refine ⟨v, xs, h.cells hk (h.lk.bl.trans ⟨hg.os, hg.tape, hg.output, hg.size, fun b hb => ?_⟩)⟩
  exact hg.block b (Nat.lt_of_lt_of_le hb h.lk.bl.size) (fun e => by have := (hr b e.symm).1; omega)
theorem findT_mem {os : List Tx} (hn : (os.map (·.n)).Nodup) {o : Tx} (ho : o ∈ os) : findT o.n os = some o := by
  unfold findT
  cases h : os.find? fun x => decide (x.n = o.n) with
  | none =>
    rw [List.find?_eq_none] at h
    have := h o ho
    simp at this
  | some y =>
    have h1 := List.mem_of_find?_eq_some h
    have h2 : y.n = o.n := by simpa using List.find?_some h
    rw [eq_of_map hn h1 ho h2]
theorem lc_one {w w0 W : World} {p bb bx g B : Nat} {base s : Int} {ds : List (Int × Int)} {vd : Value} (hR : Row w0 bb #[.pointer (some ⟨p, 0, none⟩)] tMp) (k0 : Only [] w w0) (hbb : w.heap.size = bb) (hW : Only [] w0 W) (ho : W.ownsRow B tSt 2 vd ds.length (dsL ds)) (hB : w.heap.size ≤ B)
    (rg : Row W g #[.int .u64 0, .int .u64 s, .int .u64 base, vd] tLk) (rx : Row W bx #[.slice (some ⟨g, 0, none⟩) 1 1] tLs) (hg : w0.heap.size ≤ g) (hx : w0.heap.size ≤ bx) : ∃ v xs, LcI w W p bb bx base ds v xs [(0, s)] := by
  have hs := k0.size
  have hd := own_mono ho hB
  refine ⟨.slice (some ⟨g, 0, none⟩) 1 1, [(0, s, vd)], ⟨rfl, ⟨⟨rfl, .inr ⟨g, 1, _, rfl, by omega, rg, Nat.le_refl _, by unfold maxLen; omega, rfl, rfl⟩⟩, fun x hx' => ?_⟩, (k0.trans hW (by simp)).toBelow (Nat.le_refl _) (by simp)⟩, hR.only hW (by simp), rx, by omega, by omega⟩
  simp only [List.mem_singleton] at hx'
  subst hx'
  refine ⟨hd, fun i hi e => ?_⟩
  simp [Value.ownBlock] at e
  subst e
  exact own_ne_row hd rg (by decide) hi
theorem lc_way1 {w w0 x2 : World} {p bb B : Nat} {base s : Int} {ds : List (Int × Int)} {vd : Value} (hR : Row w0 bb #[.pointer (some ⟨p, 0, none⟩)] tMp) (k0 : Only [] w w0) (hbb : w.heap.size = bb) (hW : Only [] w0 x2) (ho : x2.ownsRow B tSt 2 vd ds.length (dsL ds)) (hB : w.heap.size ≤ B) :
    ∃ v xs, LcI w ((x2.alloc (.cells #[.int .u64 0, .int .u64 s, .int .u64 base, vd] tLk)).alloc (.cells #[.slice (some ⟨x2.heap.size, 0, none⟩) 1 1] tLs)) p bb (x2.heap.size + 1) base ds v xs [(0, s)] := by
  have hs := hW.size
  have r2 := Row.made (x2.alloc (.cells #[.int .u64 0, .int .u64 s, .int .u64 base, vd] tLk)) #[.slice (some ⟨x2.heap.size, 0, none⟩) 1 1] tLs
  rw [World.size_alloc] at r2
  exact lc_one hR k0 hbb ((hW.alloc _).alloc _) ((ho.alloc _).alloc _) hB ((Row.made x2 _ _).only ((Only.refl [] _).alloc _) (by simp)) r2 hs (by omega)
theorem lc_way2 {w w0 x2 : World} {p bb B : Nat} {base s : Int} {ds : List (Int × Int)} {vd : Value} (hR : Row w0 bb #[.pointer (some ⟨p, 0, none⟩)] tMp) (k0 : Only [] w w0) (hbb : w.heap.size = bb) (hW : Only [] w0 x2) (ho : x2.ownsRow B tSt 2 vd ds.length (dsL ds)) (hB : w.heap.size ≤ B) :
    ∃ v xs, LcI w ((x2.alloc (.cells #[.slice (some ⟨x2.heap.size + 1, 0, none⟩) 1 1] tLs)).alloc (.cells #[.int .u64 0, .int .u64 s, .int .u64 base, vd] tLk)) p bb x2.heap.size base ds v xs [(0, s)] := by
  have hs := hW.size
  have r2 := Row.made (x2.alloc (.cells #[.slice (some ⟨x2.heap.size + 1, 0, none⟩) 1 1] tLs)) #[.int .u64 0, .int .u64 s, .int .u64 base, vd] tLk
  rw [World.size_alloc] at r2
  exact lc_one hR k0 hbb ((hW.alloc _).alloc _) ((ho.alloc _).alloc _) hB r2 ((Row.made x2 _ _).only ((Only.refl [] _).alloc _) (by simp)) (by omega) hs
theorem lc_way3 {w w0 x2 : World} {p bb B : Nat} {base s : Int} {ds : List (Int × Int)} {vd : Value} (hR : Row w0 bb #[.pointer (some ⟨p, 0, none⟩)] tMp) (k0 : Only [] w w0) (hbb : w.heap.size = bb) (hW : Only [] w0 x2) (ho : x2.ownsRow B tSt 2 vd ds.length (dsL ds)) (hB : w0.heap.size ≤ B) (rx : Row x2 w0.heap.size #[.slice none 0 0] tLs) :
    ∃ v xs, LcI w ((x2.alloc (.cells #[.int .u64 0, .int .u64 s, .int .u64 base, vd] tLk)).setCell ⟨w0.heap.size, 0, none⟩ (.slice (some ⟨x2.heap.size, 0, none⟩) 1 1)) p bb w0.heap.size base ds v xs [(0, s)] := by
  have hs := hW.size
  have hs0 := k0.size
  have hlt := rx.lt
  have k : Only [w0.heap.size] (x2.alloc (.cells #[.int .u64 0, .int .u64 s, .int .u64 base, vd] tLk)) ((x2.alloc (.cells #[.int .u64 0, .int .u64 s, .int .u64 base, vd] tLk)).setCell ⟨w0.heap.size, 0, none⟩ (.slice (some ⟨x2.heap.size, 0, none⟩) 1 1)) := (Only.refl _ _).setCell (by simp) _
  have r1 := (rx.only ((Only.refl [] x2).alloc (.cells #[.int .u64 0, .int .u64 s, .int .u64 base, vd] tLk)) (by simp)).set 0 (.slice (some ⟨x2.heap.size, 0, none⟩) 1 1)
  have r2 := (Row.made x2 #[.int .u64 0, .int .u64 s, .int .u64 base, vd] tLk).only k (by simp; omega)
  refine lc_one hR k0 hbb ((hW.alloc _).setCell (.inr (Nat.le_refl _)) _) (own_keep (ho.alloc _) fun g hg => k.block g ((ho.alloc _).lt g hg).2 ?_) (by omega) r2 (by simpa using r1) hs (Nat.le_refl _)
  simp only [List.mem_singleton]
  rintro rfl
  exact own_ne_row ho rx (by decide) hg
theorem wpIn_calm {F : Fence} {n : Nat} {P : Program} {s : Code} {K : Act → World → Prop} {Q : Exit → Act → World → Prop} {a : Act} {w : World} (h : s.wpIn F n P (Exit.then K (fun _ _ _ => False)) a w) : s.wpIn F n P (Exit.then K Q) a w := by
  refine wpIn_mono h ?_
  intro e a' w' hq
  cases e with
  | normal => exact hq
  | exit id => exact hq.elim
  | goto l => exact hq.elim
  | ret => exact hq.elim
  | panic ch => exact hq.elim
  | outgrown => exact hq.elim
set_option maxRecDepth 100000 in
set_option maxHeartbeats 4000000 in
theorem looks_at {B p : Nat} {M : Mg} {F : List Nat} {w : World} (h : MgF w B p M F) (hl : M.os.length ≤ 12) (hd : M.ds.length ≤ 1000000) :
    Calls Try.prog 24 #[.pointer (some ⟨p, 0, none⟩)] w (LooksFTo M w) := by
  obtain ⟨bo, bw, dv, h, rfl⟩ := h
  have hro : Fence.wide.round = none := rfl
  have HN : Hid (∀ y, Only [] w y → Calls Try.prog 32 #[.pointer (some ⟨p, 0, none⟩)] y fun e w' => e = .returned (.bool false) ∧ w' = y) := Lib.hid fun y k => none_at B p bo bw dv M y (h.only k (by simp))
  have H := Lib.hid h
  have HL := Lib.hid hl
  have CLN : Hid (∀ y, Only [] w y → Calls Try.prog 35 #[dv] y (CloneTo M.ds.length (dsL M.ds) y)) := Lib.hid fun y k => clone_at B M.ds.length dv (dsL M.ds) y (h.only k (by simp)).dr (by
    intro u hu
    simp only [dsL, List.mem_flatMap] at hu
    obtain ⟨d, _, hu⟩ := hu
    simp at hu
    rcases hu with rfl | rfl <;> rfl) hd
  have CC : Hid (∀ y, Only [] w y → y.cell? ⟨p, 0, none⟩ = some (.int .u64 M.base) ∧ y.cell? ⟨p, 2, none⟩ = some (.int .u64 M.last) ∧ y.cell? ⟨p, 4, none⟩ = some dv) := Lib.hid fun y k => ⟨(h.only k (by simp)).c0, (h.only k (by simp)).c2, (h.only k (by simp)).c4⟩
  clear h hl hd
  refine callsIn_wide (n := 5) |>.1 ?_
  refine callsIn_of_wp_marks Try.func24 rfl trivial ?_ hro
  simp only [Try.ntmps24, List.size_toArray, List.length_cons, List.length_nil, Nat.reduceAdd, Nat.reduceSub, Array.replicate_succ, Array.replicate_zero, List.push_toArray, List.append_toArray, List.nil_append, List.cons_append]
  gi_wp2_with fail
  refine ⟨trivial, (callsIn_wide.2 (HN.out _ ((Only.refl [] w).alloc _))).mono ?_⟩
  rintro _ w1 ⟨rfl, hw1⟩
  subst w1
  gi_upto_region 3 with fail
  have R0 : Hid (Row (w.alloc (.cells #[.pointer (some ⟨p, 0, none⟩)] tMp)) w.heap.size #[.pointer (some ⟨p, 0, none⟩)] tMp) := Lib.hid (Row.made w _ _)
  have K0 : Hid (Only [] w (w.alloc (.cells #[.pointer (some ⟨p, 0, none⟩)] tMp))) := Lib.hid ((Only.refl [] w).alloc _)
  have Z0 : Hid ((w.alloc (.cells #[.pointer (some ⟨p, 0, none⟩)] tMp)).heap.size = w.heap.size + 1) := Lib.hid (by simp)
  generalize w.alloc (.cells #[.pointer (some ⟨p, 0, none⟩)] tMp) = w0 at *
  obtain ⟨bb, hbb⟩ : ∃ bb, w.heap.size = bb := ⟨_, rfl⟩
  rw [hbb] at R0 Z0
  rw [hbb]
  have HBB := Lib.hid hbb
  clear hbb
  have CF : Hid (∀ y, Only [] w0 y → y.cell? ⟨bb, 0, none⟩ = some (.pointer (some ⟨p, 0, none⟩)) ∧ y.cell? ⟨p, 0, none⟩ = some (.int .u64 M.base) ∧ y.cell? ⟨p, 2, none⟩ = some (.int .u64 M.last) ∧ y.cell? ⟨p, 4, none⟩ = some dv) := Lib.hid fun y k => ⟨(R0.out.only k (by simp)).cell 0, CC.out y (K0.out.trans k (by simp))⟩
  obtain ⟨a1, a2, a3, a4⟩ := CF.out w0 (Only.refl _ _)
  obtain ⟨b1, b2, b3, b4⟩ := CF.out (w0.alloc (.cells #[.slice none 0 0] tLs)) ((Only.refl _ _).alloc _)
  have O1 : Only [] w0 w0.drew := (Only.refl [] w0).drew
  have O2 : Only [] w0 (w0.alloc (.cells #[.slice none 0 0] tLs)).drew := ((Only.refl [] w0).alloc _).drew
  have CLA : Hid (Calls Try.prog 35 #[dv] w0.drew (CloneTo M.ds.length (dsL M.ds) w0.drew)) := Lib.hid (CLN.out _ (K0.out.trans O1 (by simp)))
  have CLB : Hid (Calls Try.prog 35 #[dv] (w0.alloc (.cells #[.slice none 0 0] tLs)).drew (CloneTo M.ds.length (dsL M.ds) (w0.alloc (.cells #[.slice none 0 0] tLs)).drew)) := Lib.hid (CLN.out _ (K0.out.trans O2 (by simp)))
  have RZ : Hid (Row (w0.alloc (.cells #[.slice none 0 0] tLs)).drew w0.heap.size #[.slice none 0 0] tLs) := Lib.hid ((Row.made w0 _ _).only (Only.refl [] _).drew (by simp))
  clear CLN CC HN
  gi_cut [3] from 9 (fun s3 wc => ∃ bx : Nat, s3 = .pointer (some ⟨bx, 0, none⟩) ∧ Hid (∃ v xs, LcI w wc p bb bx M.base M.ds v xs [(0, M.last)]))
  case first =>
    refine wpIn_wide.2 ?_
    go_region_held3 (fun y => y.cell? ⟨bb, 0, none⟩ = some (.pointer (some ⟨p, 0, none⟩)) ∧ y.cell? ⟨p, 0, none⟩ = some (.int .u64 M.base) ∧ y.cell? ⟨p, 2, none⟩ = some (.int .u64 M.last) ∧ y.cell? ⟨p, 4, none⟩ = some dv)
      (first | exact CF.out _ O1 | exact CF.out _ O2 | exact CF.out _ O3 | exact CF.out _ (O3.alloc _) | exact CF.out _ ((O3.alloc _).alloc _) | exact CF.out _ ((O3.alloc _).setCell (.inr (Nat.le_refl _)) _))
      (first
        | ((with_reducible refine (CLA.out).mono ?_); rintro _ x2 ⟨da, dm, dc, rfl, ho, hb⟩; have O3 : Only [] w0 x2 := Only.below O1 hb; have HO := Lib.hid ho; have HB := Lib.hid hb; clear ho hb)
        | ((with_reducible refine (CLB.out).mono ?_); rintro _ x2 ⟨da, dm, dc, rfl, ho, hb⟩; have O3 : Only [] w0 x2 := Only.below O2 hb; have RX : Row x2 w0.heap.size #[.slice none 0 0] tLs := RZ.out.only ((Only.refl [] _).below hb) (by simp); have RX2 : Row (x2.alloc (.cells #[.int .u64 0, .int .u64 M.last, .int .u64 M.base, .slice da dm dc] tLk)) w0.heap.size #[.slice none 0 0] tLs := RX.only ((Only.refl [] _).alloc _) (by simp); have d1 := RX2.cell 0; have d2 := RX2.free 0; have HRX := Lib.hid RX; have HO := Lib.hid ho; have HB := Lib.hid hb; clear ho hb RX RX2))
    all_goals
      gi_wp2_with fail
      gi_meet
      first
        | exact ⟨_, rfl, Lib.hid (lc_way1 R0.out K0.out HBB.out O3 HO.out K0.out.size)⟩
        | exact ⟨_, rfl, Lib.hid (lc_way2 R0.out K0.out HBB.out O3 HO.out K0.out.size)⟩
        | exact ⟨_, rfl, Lib.hid (lc_way3 R0.out K0.out HBB.out O3 HO.out (by simp) HRX.out)⟩
  case rest =>
    obtain ⟨bx, rfl, HC⟩ := hcut
    clear a1 a2 a3 a4 b1 b2 b3 b4 O1 O2 CLA CLB RZ CF
    obtain ⟨v0, xs0, hI⟩ := HC.out
    have I0 := Lib.hid hI
    clear hI HC
    have H1 : Hid (MgAt wc B p bo bw dv M) := Lib.hid (H.out.only ((Only.refl [] w).below I0.out.lk.bl) (by simp))
    have f1 : wc.cell? ⟨bb, 0, none⟩ = some (.pointer (some ⟨p, 0, none⟩)) := I0.out.box.cell 0
    gi_wp2_with fail
    refine ⟨trivial, (callsIn_wide.2 (all_any _ _)).mono ?_⟩
    rintro _ w1 ⟨rfl, hw1⟩
    subst w1
    gi_wp2_with fail
    have R3 : Hid (Row (wc.alloc (.cells #[.pointer (some ⟨p, 0, none⟩)] tMp)) wc.heap.size #[.pointer (some ⟨p, 0, none⟩)] tMp) := Lib.hid (Row.made wc _ _)
    have K3 : Hid (Only [] wc (wc.alloc (.cells #[.pointer (some ⟨p, 0, none⟩)] tMp))) := Lib.hid ((Only.refl [] wc).alloc _)
    have I3 : Hid (LcI w (wc.alloc (.cells #[.pointer (some ⟨p, 0, none⟩)] tMp)) p bb bx M.base M.ds v0 xs0 [(0, M.last)]) := Lib.hid (I0.out.cells (fun b o hb _ => (((Only.refl [] wc).alloc _).block b (Array.getElem?_eq_some_iff.1 hb).1 (by simp)).trans hb) (I0.out.lk.bl.alloc I0.out.lk.bl.size _))
    have H3 : Hid (MgAt (wc.alloc (.cells #[.pointer (some ⟨p, 0, none⟩)] tMp)) B p bo bw dv M) := Lib.hid (H1.out.only K3.out (by simp))
    have BX : Hid (bx < wc.heap.size ∧ p < w.heap.size ∧ bo < w.heap.size ∧ w.heap.size ≤ bx ∧ w.heap.size ≤ wc.heap.size) := Lib.hid ⟨I0.out.out.lt, H.out.lt p (by simp [Mg.blocks]), H.out.lt bo (by simp [Mg.blocks]), I0.out.gx, I0.out.lk.bl.size⟩
    obtain ⟨Bm, hBm⟩ : ∃ Bm, wc.heap.size = Bm := ⟨_, rfl⟩
    rw [hBm] at R3 BX
    rw [hBm]
    clear hBm f1
    generalize wc.alloc (.cells #[.pointer (some ⟨p, 0, none⟩)] tMp) = w3 at *
    have HX3 : Hid (bx < w3.heap.size) := Lib.hid I3.out.out.lt
    have HS3 : Hid (w.heap.size ≤ w3.heap.size) := Lib.hid I3.out.lk.bl.size
    refine wpIn_rangeFunc_ownF hro (by omega) (gf := 46) (lb := #[.pointer (some ⟨Bm, 0, none⟩)]) rfl trivial (enters_of Try.func46 (by kernel_rfl) rfl)
      (all_stops 4 (by omega) Bm B p bo bw dv M [bx] w3 R3.out H3.out HL.out (by intro b hb; simp at hb; subst hb; have := BX.out; have := HX3.out; omega)) KeepC.trans KeepC.put (Below.refl _ _) (fun _ => rfl)
      (fun pre W => LcAt M w p bb bx pre W)
      (fun _ _ _ => False)
      (LcAt.own M w w3 p bb bx HS3.out)
      (fun _ _ _ _ _ hs _ _ => hs)
      ⟨v0, xs0, I3.out⟩
      (fun x => { tmps := #[.pointer (some ⟨p, 0, none⟩), .pointer (some ⟨bb, 0, none⟩), .slice none 0 0, .pointer (some ⟨bx, 0, none⟩), .int .u64 x.1.n, undef, undef, .pointer (some ⟨p, 0, none⟩), .bool false, u9, u10, u11, u12, u13, u14, u15, u16, u17, u18, u19, u20, u21, u22, u23, .pointer (some ⟨p, 0, none⟩), .func (.func 46) #[] #[.pointer (some ⟨Bm, 0, none⟩)], .int .u64 x.1.n, .pointer (some ⟨x.1.bt, 0, none⟩), u28, u29, u30, u31, u32, u33, u34, u35, u36, u37, u38], defers := [] }) ?assign ?body ?done ?stop
    case assign =>
      intro l x W K hK
      simp only [encT]
      gi_wp2
      exact hK
    case body =>
      rintro l pre x W ⟨v, xs, hI⟩ hlt
      have HI := Lib.hid hI
      have HLT := Lib.hid hlt
      have HW : Hid (MgF W B p M (M.blocks p bo bw dv)) := Lib.hid ⟨bo, bw, dv, H.out.only ((Only.refl [] w).below HI.out.lk.bl) (by simp), rfl⟩
      have LK := Lib.hid (look_yes HW.out (findT_mem H.out.os_nodup x.2))
      have b1 : W.cell? ⟨bb, 0, none⟩ = some (.pointer (some ⟨p, 0, none⟩)) := HI.out.box.cell 0
      have XL : Hid (xs.length ≤ 13) := Lib.hid (by
        have h1 := congrArg List.length HI.out.lk.keys
        have h2 := HL.out
        simp [looksM, txsT] at h1
        have := HLT.out
        omega)
      clear hI hlt
      gi_wp2_with fail
      refine ⟨trivial, (callsIn_wide.2 LK.out).mono ?_⟩
      rintro _ W1 ⟨da, dm, dc, rfl, ho, hb⟩
      unfold lookR
      have HO := Lib.hid ho
      have HB := Lib.hid hb
      have hs1 : Hid (W.heap.size ≤ W1.heap.size ∧ w.heap.size ≤ W.heap.size) := Lib.hid ⟨hb.size, HI.out.lk.bl.size⟩
      have OX : Hid (∀ y, Only [] W y → y.ownsRow w.heap.size tLk 4 v xs.length (lksL M.base xs) ∧ y.cell? ⟨bx, 0, none⟩ = some v) := Lib.hid fun y k => ⟨own_keep HI.out.lk.row.own fun g hg => k.block g (HI.out.lk.row.own.lt g hg).2 (by simp), (HI.out.out.only k (by simp)).cell 0⟩
      obtain ⟨o1, x1⟩ := OX.out (W1.alloc (.cells #[.int .u64 x.1.n, .int .u64 x.1.start, .int .u64 M.base, .slice da dm dc] tLk)) (((Only.refl [] W).below hb).alloc _)
      obtain ⟨o2, x2⟩ := OX.out ((W1.alloc (.cells #[.int .u64 x.1.n, .int .u64 x.1.start, .int .u64 M.base, .slice da dm dc] tLk)).alloc (.cells #[.int .u64 x.1.n, .int .u64 x.1.start, .int .u64 M.base, .slice da dm dc] tLk)) ((((Only.refl [] W).below hb).alloc _).alloc _)
      have OWN := Lib.hid o2
      have x0 := (OX.out W1 ((Only.refl [] W).below hb)).2
      clear ho hb LK b1 o1 o2
      obtain ⟨i0, hi, hz0, hz1, hz2⟩ := info_parts infoLook
      gi_wp2_with (gi_at_builtin; refine wpListIn_append_at _ rfl (.tmp 34) (.tmp 36) 58 rfl w.heap.size tLk i0 (.agg #[.int .u64 0, .int .u64 0, .int .u64 0, .slice none 0 0]) 4 48 Try.underlying58 hi hz0 hz1 hz2 rfl (by decide) v _ _ rfl OWN.out ⟨W1.heap.size + 1, 0, none⟩ 1 1 [.int .u64 x.1.n, .int .u64 x.1.start, .int .u64 M.base, .slice da dm dc] rfl rfl (look_new _ _ _ _ _ _ _) (by simp [Value.oneCell']) (by have := XL.out; unfold maxLen; omega) (by have := XL.out; omega) (by have := hs1.out; simp; omega) ?_; intro v' W5 hown' hgrow hfr; obtain ⟨pp, cc, rfl, _, _⟩ := own_shape hown'; obtain ⟨n1, n2, n3, n4⟩ := HI.out.next HB.out HO.out hown' hgrow hfr; have N1 := Lib.hid n1; have N2 := Lib.hid n2; clear hown' hgrow hfr n1 n2)
      have FIN : Hid (KeepsOthers W (W5.setCell ⟨bx, 0, none⟩ (.slice pp (xs.length + 1) cc)) ∧ KeepC [bx] W (W5.setCell ⟨bx, 0, none⟩ (.slice pp (xs.length + 1) cc)) ∧ LcAt M w p bb bx (pre ++ [x]) (W5.setCell ⟨bx, 0, none⟩ (.slice pp (xs.length + 1) cc))) := Lib.hid (by
        refine ⟨KeepsOthers.of_only N2.out ?_, KeepC.of_lk N2.out HI.out.lk.row.own (by simp), ⟨.slice pp (xs.length + 1) cc, xs ++ [(x.1.n, x.1.start, .slice da dm dc)], ?_⟩⟩
        · intro b hb o hbo
          rcases List.mem_cons.1 hb with rfl | hb
          · have h1 := HI.out.out
            unfold Row at h1
            rw [h1] at hbo
            cases hbo
            rfl
          · have hb' : v.ownBlock = some b := by simpa using hb
            rcases HI.out.lk.row.own.2 with ⟨rfl, _⟩ | ⟨g, cap, cur, rfl, _, h2, _⟩
            · simp [Value.ownBlock] at hb'
            · simp [Value.ownBlock] at hb'
              subst hb'
              rw [h2] at hbo
              cases hbo
              rfl
        · have e : looksM M (txsT (pre ++ [x])) = looksM M (txsT pre) ++ [(x.1.n, x.1.start)] := by rw [txsT_snoc]; simp [looksM]
          rw [e]
          exact N1.out)
      exact FIN.out
    case done =>
      rintro D ys W hD hS ⟨v, xs, hI⟩ hK
      have HI := Lib.hid hI
      have HD := Lib.hid hD
      have HS := Lib.hid hS
      have HKD := Lib.hid hK
      have x0 : W.cell? ⟨bx, 0, none⟩ = some v := HI.out.out.cell 0
      clear hI hD hS hK
      gi_wp2_with fail
      refine ⟨by simp, .inl ⟨_, _, rfl, run_takeDeferred HKD.out, ?_⟩⟩
      have kd : Only [D] W (W.putObj D (.deferred none)) := by
        have hg := grownBy_putObj' W D (.deferred none)
        exact ⟨hg.os, hg.tape, hg.output, hg.size, fun i hi hn => hg.block i hi (by simp at hn; simpa using hn)⟩
      have HF : LcI w (W.putObj D (.deferred none)) p bb bx M.base M.ds v xs (looksM M (txsT ys)) := HI.out.cells (fun b o hb hc => (kd.block b (Array.getElem?_eq_some_iff.1 hb).1 (by
        simp only [List.mem_singleton]
        rintro rfl
        rw [HKD.out] at hb
        cases hb
        cases hc)).trans hb) (HI.out.lk.bl.trans (kd.toBelow HI.out.lk.bl.size (by intro i hi; simp at hi; subst hi; have := HD.out; have := HS3.out; omega)))
      exact ⟨_, results_tmp rfl _ _ _, ys, HS.out, v, rfl, xs, HF.lk⟩
    case stop =>
      rintro D c pre W _ _ h _
      exact h.elim
end Go.Proofs.Ytodkflnpcfepfaa
