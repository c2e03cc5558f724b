/- Forget. -/
import Derived.Test.YtodkflnpcfepfaaTxO
import Derived.Shelf.RegionOpen
namespace Go.Proofs.Ytodkflnpcfepfaa
open Go.RowKit Go.Shelf
set_option linter.unusedVariables false
set_option linter.unusedSimpArgs false
attribute [local go_sem] Oper.semAt_some

/-- The least start of those that are open; how many keys they have. -/
def minT (last : Int) (os : List Tx) : Int := os.foldl (fun m o => min m o.start) last
def sumT (os : List Tx) : Int := os.foldl (fun m o => m + (o.keys.length : Int)) 0
def sumW (ws : List Wr) : Int := ws.foldl (fun m x => m + (x.keys.length : Int)) 0
def txsT {M : Mg} (xs : List (OpenTx M)) : List Tx := xs.map (·.1)
theorem txsT_snoc {M : Mg} (xs : List (OpenTx M)) (x : OpenTx M) : txsT (xs ++ [x]) = txsT xs ++ [x.1] := by simp [txsT]
theorem minT_snoc (last : Int) (os : List Tx) (o : Tx) : minT last (os ++ [o]) = min (minT last os) o.start := by simp [minT, List.foldl_append]
theorem sumT_snoc (os : List Tx) (o : Tx) : sumT (os ++ [o]) = sumT os + (o.keys.length : Int) := by simp [sumT, List.foldl_append]
theorem sumT_fold : ∀ (os : List Tx) (acc : Int), (∀ o ∈ os, o.keys.length ≤ 1000000) → acc ≤ os.foldl (fun m o => m + (o.keys.length : Int)) acc ∧ os.foldl (fun m o => m + (o.keys.length : Int)) acc ≤ acc + 1000000 * (os.length : Int)
  | [], acc, _ => by simp
  | o :: os, acc, h => by
    have h1 := h o (List.mem_cons_self ..)
    have h2 := sumT_fold os (acc + (o.keys.length : Int)) (fun x hx => h x (List.mem_cons_of_mem _ hx))
    simp only [List.foldl_cons, List.length_cons]
    omega
theorem sumT_le {M : Mg} (hk : ∀ o ∈ M.os, o.keys.length ≤ 1000000) (pre : List (OpenTx M)) : 0 ≤ sumT (txsT pre) ∧ sumT (txsT pre) ≤ 1000000 * (pre.length : Int) := by
  have h := sumT_fold (txsT pre) 0 (fun o ho => by
    obtain ⟨x, _, rfl⟩ := List.mem_map.1 ho
    exact hk x.1 x.2)
  have e : (txsT pre).length = pre.length := by simp [txsT]
  rw [e] at h
  unfold sumT
  omega
theorem txsT_perm {M : Mg} (hn : (M.os.map (·.n)).Nodup) {ys : List (OpenTx M)} (h : (numsT ys).Perm (M.os.map (·.n))) : (txsT ys).Perm M.os := by
  have g : ∀ o ∈ M.os, findT o.n M.os = some o := fun o ho => by
    obtain ⟨y, hy⟩ : ∃ y, findT o.n M.os = some y := by
      unfold findT
      rw [← Option.isSome_iff_exists, List.find?_isSome]
      exact ⟨o, ho, by simp⟩
    have h1 := findT_some hy
    rw [hy, eq_of_map hn h1.1 ho h1.2]
  have back : ∀ l : List Tx, (∀ o ∈ l, o ∈ M.os) → (l.map (·.n)).map (fun n => findT n M.os) = l.map some := fun l hl => by
    rw [List.map_map]
    exact List.map_congr_left fun o ho => g o (hl o ho)
  have h1 : ((txsT ys).map some).Perm (M.os.map some) := by
    rw [← back (txsT ys) (fun o ho => by obtain ⟨x, _, rfl⟩ := List.mem_map.1 ho; exact x.2), ← back M.os (fun o ho => ho)]
    refine List.Perm.map _ ?_
    have e : (txsT ys).map (·.n) = numsT ys := by simp [txsT, numsT, List.map_map, Function.comp_def]
    rw [e]; exact h
  have h2 := h1.filterMap id
  simpa [List.filterMap_map, Function.comp_def] using h2
theorem minT_perm {last : Int} {a b : List Tx} (h : a.Perm b) : minT last a = minT last b :=
  h.foldl_eq' (fun x _ y _ z => by show min (min z x.start) y.start = min (min z y.start) x.start; omega) last
theorem sumT_perm {a b : List Tx} (h : a.Perm b) : sumT a = sumT b :=
  h.foldl_eq' (fun x _ y _ z => by show z + _ + _ = z + _ + _; omega) 0
/-- How many keys are filed under a stamp. -/
def lenK (ws : List Wr) (k : Int) : Int := ((ws.find? fun x => decide (x.st = k)).map fun x => (x.keys.length : Int)).getD 0
def sumK (ws : List Wr) (ks : List Int) : Int := ks.foldl (fun m k => m + lenK ws k) 0
theorem sumK_perm {ws : List Wr} {a b : List Int} (h : a.Perm b) : sumK ws a = sumK ws b :=
  h.foldl_eq' (fun x _ y _ z => by show z + _ + _ = z + _ + _; omega) 0
theorem fold_add (f : Int → Int) : ∀ (ks : List Int) (a b : Int), ks.foldl (fun m k => m + f k) (a + b) = a + ks.foldl (fun m k => m + f k) b
  | [], a, b => rfl
  | k :: ks, a, b => by
    simp only [List.foldl_cons]
    rw [show a + b + f k = a + (b + f k) by omega, fold_add f ks a (b + f k)]
theorem sumK_cons (ws : List Wr) (k : Int) (ks : List Int) : sumK ws (k :: ks) = lenK ws k + sumK ws ks := by
  unfold sumK
  rw [List.foldl_cons, show (0 : Int) + lenK ws k = lenK ws k + 0 by omega, fold_add]
theorem lenK_at {ws : List Wr} (hn : (ws.map (·.st)).Nodup) {x : Wr} (hx : x ∈ ws) : lenK ws x.st = (x.keys.length : Int) := by
  unfold lenK
  obtain ⟨y, hy⟩ : ∃ y, (ws.find? fun z => decide (z.st = x.st)) = some y := by
    rw [← Option.isSome_iff_exists, List.find?_isSome]
    exact ⟨x, hx, by simp⟩
  have h1 : y ∈ ws := List.mem_of_find?_eq_some hy
  have h2 : y.st = x.st := by simpa using List.find?_some hy
  rw [hy, eq_of_map hn h1 hx h2]; rfl
theorem lenK_le {ws : List Wr} (h : ∀ x ∈ ws, x.keys.length ≤ 1000000) (k : Int) : 0 ≤ lenK ws k ∧ lenK ws k ≤ 1000000 := by
  unfold lenK
  cases hf : ws.find? fun x => decide (x.st = k) with
  | none => simp
  | some y =>
    have := h y (List.mem_of_find?_eq_some hf)
    show 0 ≤ (y.keys.length : Int) ∧ (y.keys.length : Int) ≤ 1000000
    omega
theorem sumK_le {ws : List Wr} (h : ∀ x ∈ ws, x.keys.length ≤ 1000000) : ∀ ks : List Int, 0 ≤ sumK ws ks ∧ sumK ws ks ≤ 1000000 * (ks.length : Int)
  | [] => by simp [sumK]
  | k :: ks => by
    rw [sumK_cons]
    have := lenK_le h k
    have := sumK_le h ks
    simp only [List.length_cons]
    omega
theorem sumK_all {ws : List Wr} (hn : (ws.map (·.st)).Nodup) : sumK ws (ws.map (·.st)) = sumW ws := by
  have key : ∀ (l : List Wr), (∀ x ∈ l, x ∈ ws) → ∀ acc : Int, (l.map (·.st)).foldl (fun m k => m + lenK ws k) acc = l.foldl (fun m x => m + (x.keys.length : Int)) acc := by
    intro l
    induction l with
    | nil => intros; rfl
    | cons x l ih =>
      intro hl acc
      simp only [List.map_cons, List.foldl_cons]
      rw [lenK_at hn (hl x (List.mem_cons_self ..)), ih (fun y hy => hl y (List.mem_cons_of_mem _ hy))]
  exact key ws (fun x hx => hx) 0
def forgetM (M : Mg) : Mg := thinM M M.os (M.ws.filter fun x => decide (minT M.last M.os < x.st))
/-- Between two rounds of Forget's loop. -/
structure FgInv (M : Mg) (w W : World) (bl bn : Nat) (pre : List (OpenTx M)) : Prop where
  least : Row W bl #[.int .u64 (minT M.last (txsT pre))] 29
  num : Row W bn #[.int .i64 (sumT (txsT pre))] 3
  only : Only [bl, bn] w W
theorem FgInv.own (M : Mg) (w : World) (bl bn : Nat) (hl : bl < w.heap.size) (hn : bn < w.heap.size) : OwnFrom w.heap.size (fun pre W => FgInv M w W bl bn pre) := fun s W W' row h hg hr => by
  have hne : ∀ b, b < w.heap.size → W'.heap[b]? = W.heap[b]? := fun b hb => hg.block b (Nat.lt_of_lt_of_le hb h.only.size) (fun e => by have := (hr b e.symm).1; omega)
  refine ⟨?_, ?_, ?_⟩
  · have := h.least
    unfold Row at this ⊢
    rw [hne bl hl]; exact this
  · have := h.num
    unfold Row at this ⊢
    rw [hne bn hn]; exact this
  · exact ⟨hg.os.trans h.only.os, hg.tape.trans h.only.tape, hg.output.trans h.only.output, Nat.le_trans h.only.size hg.size, fun i hi hn => (hne i hi).trans (h.only.block i hi hn)⟩
theorem run_len_map {P : Program} {w : World} {b : Nat} {q : IntKind} {L : List (Int × Value)} {t kt et : TypeId} (ht : P.underlying t = some (.map kt et)) (h : MapAt w b q L) (ty : TypeId) : (Builtin.len_ #[t] ty #[.map (some b)]).run P w = .ok (.int .i64 (L.length : Int)) w := by
  obtain ⟨es, clock, hb, hs, hL⟩ := h
  rw [← kvs_len hL]
  simp [Builtin.len_, run_underlying ht, MapKept.run_getObj_map hb, goInt, Result.andThen]
theorem Rng.left_le {w : World} {b r : Nat} {q : IntKind} {L left : List (Int × Value)} (h : Rng w b r q L left) : left.length ≤ L.length := by
  obtain ⟨es, clock, since, seen, c0, h1, h2, h3, h4, h5, h6, h7, h8⟩ := h
  have e1 := congrArg List.length h8
  rw [List.length_map, List.length_map] at e1
  rw [← e1, ← kvs_len h3]
  unfold leftOf
  simp only [Array.toList_filter]
  exact Nat.le_trans (List.length_filter_le _ _) (by simp)
/-- Between two rounds of the last loop: the keys of those that are left are not yet counted. -/
structure SumInv (M : Mg) (w wr : World) (bw bn r : Nat) (T : Int) (left : List (Int × Value)) : Prop where
  rng : Rng wr bw r .u64 (wsL M.ws) left
  only : Only [r, bn] w wr
  nd : (left.map (·.1)).Nodup
  num : Row wr bn #[.int .i64 (T - sumK M.ws (left.map (·.1)))] 3
def ForgetTo (B p : Nat) (M : Mg) (F : List Nat) (w : World) (e : Ending) (w' : World) : Prop := ∃ F', e = .returned (.int .i64 (sumT M.os + sumW (forgetM M).ws)) ∧ MgF w' B p (forgetM M) F' ∧ Only F w w' ∧ Kept F F' w
set_option maxRecDepth 100000 in
set_option maxHeartbeats 4000000 in
theorem forget_at {B p : Nat} {M : Mg} {F : List Nat} {w : World} (h : MgF w B p M F) (hl : M.os.length ≤ 12) (hk : ∀ o ∈ M.os, o.keys.length ≤ 1000000) (hw : ∀ x ∈ M.ws, x.keys.length ≤ 1000000) (hwl : M.ws.length ≤ 1000000) :
    Calls Try.prog 26 #[.pointer (some ⟨p, 0, none⟩)] w (ForgetTo B p M F w) := by
  obtain ⟨bo, bw, dv, h, rfl⟩ := h
  have hro : Fence.wide.round = none := rfl
  have N1 := Lib.hid (none_at B p bo bw dv M w h)
  have c2 := h.c2
  have H := Lib.hid h
  have HL := Lib.hid hl
  have HK := Lib.hid hk
  have HW := Lib.hid hw
  have HWL := Lib.hid hwl
  clear h hl hk hw hwl
  refine callsIn_wide (n := 5) |>.1 ?_
  refine callsIn_of_wp_marks Try.func26 rfl trivial ?_ hro
  simp only [Try.ntmps26, List.size_toArray, List.length_cons, List.length_nil, Nat.reduceAdd, Nat.reduceSub, Array.replicate_succ, Array.replicate_zero, List.push_toArray, List.append_toArray, List.nil_append, List.cons_append]
  gi_wp2_with fail
  refine ⟨trivial, (callsIn_wide.2 N1.out).mono ?_⟩
  rintro _ w1 ⟨rfl, hw1⟩
  subst w1
  gi_wp2_with fail
  refine ⟨trivial, (callsIn_wide.2 (all_any _ _)).mono ?_⟩
  rintro _ w1 ⟨rfl, hw1⟩
  subst w1
  gi_wp2_with fail
  have hw2 : ((w.alloc (.cells #[.int .u64 M.last] 29)).alloc (.cells #[.int .i64 0] 3)).heap.size = w.heap.size + 2 := by simp
  have R1 : Hid (Row (((w.alloc (.cells #[.int .u64 M.last] 29)).alloc (.cells #[.int .i64 0] 3)).alloc (.cells #[.pointer (some ⟨p, 0, none⟩)] 25)) w.heap.size #[.int .u64 M.last] 29) := Lib.hid (((Row.made w _ _).only ((Only.refl [] _).alloc _) (by simp)).only ((Only.refl [] _).alloc _) (by simp))
  have R2 : Hid (Row (((w.alloc (.cells #[.int .u64 M.last] 29)).alloc (.cells #[.int .i64 0] 3)).alloc (.cells #[.pointer (some ⟨p, 0, none⟩)] 25)) (w.heap.size + 1) #[.int .i64 0] 3) := Lib.hid (by
    have h := Row.made (w.alloc (.cells #[.int .u64 M.last] 29)) #[.int .i64 0] 3
    rw [World.size_alloc] at h
    exact h.only ((Only.refl [] _).alloc _) (by simp))
  have R3 : Hid (Row (((w.alloc (.cells #[.int .u64 M.last] 29)).alloc (.cells #[.int .i64 0] 3)).alloc (.cells #[.pointer (some ⟨p, 0, none⟩)] 25)) (w.heap.size + 1 + 1) #[.pointer (some ⟨p, 0, none⟩)] 25) := Lib.hid (by
    have h := Row.made ((w.alloc (.cells #[.int .u64 M.last] 29)).alloc (.cells #[.int .i64 0] 3)) #[.pointer (some ⟨p, 0, none⟩)] 25
    rw [hw2] at h
    exact h)
  have K0 : Hid (Only [] w (((w.alloc (.cells #[.int .u64 M.last] 29)).alloc (.cells #[.int .i64 0] 3)).alloc (.cells #[.pointer (some ⟨p, 0, none⟩)] 25))) := Lib.hid ((((Only.refl [] w).alloc _).alloc _).alloc _)
  have Z0 : Hid ((((w.alloc (.cells #[.int .u64 M.last] 29)).alloc (.cells #[.int .i64 0] 3)).alloc (.cells #[.pointer (some ⟨p, 0, none⟩)] 25)).heap.size = w.heap.size + 3) := Lib.hid (by simp)
  clear hw2 c2 N1
  generalize ((w.alloc (.cells #[.int .u64 M.last] 29)).alloc (.cells #[.int .i64 0] 3)).alloc (.cells #[.pointer (some ⟨p, 0, none⟩)] 25) = w0 at *
  have H0 := Lib.hid (H.out.only K0.out (by simp))
  have NB : Hid (∀ b ∈ M.blocks p bo bw dv, b < w.heap.size) := Lib.hid H.out.lt
  have NP : Hid (p < w.heap.size ∧ bo < w.heap.size ∧ bw < w.heap.size) := Lib.hid ⟨H.out.lt p (by simp [Mg.blocks]), H.out.lt bo (by simp [Mg.blocks]), H.out.lt bw (by simp [Mg.blocks])⟩
  obtain ⟨bl, hbl⟩ : ∃ bl, w.heap.size = bl := ⟨_, rfl⟩
  obtain ⟨bn, hbn⟩ : ∃ bn, w.heap.size + 1 = bn := ⟨_, rfl⟩
  obtain ⟨Bm, hBm⟩ : ∃ Bm, w.heap.size + 1 + 1 = Bm := ⟨_, rfl⟩
  have EQ : Hid (w.heap.size = bl ∧ bn = bl + 1 ∧ Bm = bl + 2 ∧ w0.heap.size = bl + 3) := Lib.hid (by have := Z0.out; omega)
  rw [hBm, hbn, hbl]
  rw [hbl] at R1
  rw [hbn] at R2
  rw [hBm] at R3
  clear hbl hbn hBm Z0
  refine wpIn_rangeFunc_ownF hro (by omega) (gf := 46) (lb := #[.pointer (some ⟨Bm, 0, none⟩)]) rfl trivial (enters_of Try.func46 (by kernel_rfl) rfl)
    (all_stops 4 (by omega) Bm B p bo bw dv M [bl, bn] w0 R3.out H0.out HL.out (by intro b hb; simp at hb; have := EQ.out; have := NP.out; omega)) KeepC.trans KeepC.put (Below.refl _ _) (fun _ => rfl)
    (fun pre W => FgInv M w0 W bl bn pre)
    (fun _ _ _ => False)
    (FgInv.own M w0 bl bn (by have := EQ.out; omega) (by have := EQ.out; omega))
    (fun _ _ _ _ _ hs _ _ => hs)
    ⟨R1.out, R2.out, Only.refl _ _⟩
    (fun x => { tmps := #[.pointer (some ⟨p, 0, none⟩), undef, .int .i64 0, .pointer (some ⟨bl, 0, none⟩), .pointer (some ⟨bn, 0, none⟩), undef, .pointer (some ⟨x.1.bt, 0, none⟩), undef, undef, .pointer (some ⟨p, 0, none⟩), .bool false, .pointer (some ⟨p, 0, none⟩), .pointer (some ⟨p, 0, none⟩), .pointer (some ⟨p, 2, none⟩), .int .u64 M.last, .pointer (some ⟨p, 0, none⟩), .func (.func 46) #[] #[.pointer (some ⟨Bm, 0, none⟩)], .int .u64 x.1.n, .pointer (some ⟨x.1.bt, 0, none⟩), undef, undef, undef, undef, undef, undef, undef, undef, undef, undef, undef, undef, undef, undef, undef, undef, undef, undef, undef, undef, undef, undef, undef, undef, undef, undef, undef, undef, undef, undef, undef, undef, undef], defers := [] }) ?assign ?body ?done ?stop
  case assign =>
    intro l x W K hK
    simp only [encT]
    gi_wp2
    exact hK
  case body =>
    rintro l pre x W hI hlt
    have HI := Lib.hid hI
    have SB : Hid (IntKind.i64.wrap (sumT (txsT pre) + ((setL x.1.keys).length : Int)) = sumT (txsT (pre ++ [x]))) := Lib.hid (by
      rw [txsT_snoc, sumT_snoc]
      have h1 := sumT_le HK.out pre
      have h2 := HK.out x.1 x.2
      have h3 := HL.out
      have e : (setL x.1.keys).length = x.1.keys.length := by simp [setL]
      rw [e]
      exact IntWalk.i64_in _ (by omega))
    clear hI hlt
    have MW : Hid (MgAt W B p bo bw dv M) := Lib.hid (H0.out.only HI.out.only (by intro b hb hm; simp at hb; have := NB.out b hm; have := EQ.out; omega))
    have c1 : W.cell? ⟨bl, 0, none⟩ = some (.int .u64 (minT M.last (txsT pre))) := HI.out.least.cell 0
    have c2 : W.cell? ⟨x.1.bt, 0, none⟩ = some (.int .u64 x.1.start) := (one_cells (MW.out.oa x.1 x.2).1).1
    have f1 := HI.out.least.free 0
    gi_wp2_with fail
    gi_region
    all_goals
      have em : (if x.1.start < minT M.last (txsT pre) then x.1.start else minT M.last (txsT pre)) = minT M.last (txsT (pre ++ [x])) := by rw [txsT_snoc, minT_snoc]; split <;> omega
      rw [em]
      have KA : Only [bl, bn] w0 (W.setCell ⟨bl, 0, none⟩ (.int .u64 (minT M.last (txsT (pre ++ [x]))))).drew := ((HI.out.only.trans ((Only.refl [bl] W).setCell (.inl (by simp)) _) (by simp))).drew
      have KW : Hid (Only [bl] W (W.setCell ⟨bl, 0, none⟩ (.int .u64 (minT M.last (txsT (pre ++ [x]))))).drew) := Lib.hid ((Only.refl [bl] W).setCell (.inl (by simp)) _).drew
      have RA : Hid (Row (W.setCell ⟨bl, 0, none⟩ (.int .u64 (minT M.last (txsT (pre ++ [x]))))).drew bl #[.int .u64 (minT M.last (txsT (pre ++ [x])))] 29) := Lib.hid (by
        have h := HI.out.least.set 0 (.int .u64 (minT M.last (txsT (pre ++ [x]))))
        simpa using h.only (Only.refl [] _).drew (by simp))
      have RB : Hid (Row (W.setCell ⟨bl, 0, none⟩ (.int .u64 (minT M.last (txsT (pre ++ [x]))))).drew bn #[.int .i64 (sumT (txsT pre))] 3) := Lib.hid (HI.out.num.only KW.out (by have := EQ.out; simp; omega))
      have KAH := Lib.hid KA
      have KO : Hid (KeepsOthers W (W.setCell ⟨bl, 0, none⟩ (.int .u64 (minT M.last (txsT (pre ++ [x]))))).drew) := Lib.hid ((KeepsOthers.setCell W ⟨bl, 0, none⟩ (.int .u64 (minT M.last (txsT (pre ++ [x]))))).trans (KeepsOthers.drew _))
      clear KA em c1 c2 f1
      generalize (W.setCell ⟨bl, 0, none⟩ (.int .u64 (minT M.last (txsT (pre ++ [x]))))).drew = W2 at *
      have MW2 : Hid (MgAt W2 B p bo bw dv M) := Lib.hid (H0.out.only KAH.out (by intro b hb hm; simp at hb; have := NB.out b hm; have := EQ.out; omega))
      have c1 : W2.cell? ⟨bn, 0, none⟩ = some (.int .i64 (sumT (txsT pre))) := RB.out.cell 0
      have c2 : W2.cell? ⟨x.1.bt, 1, none⟩ = some (.map (some x.1.bk)) := (one_cells (MW2.out.oa x.1 x.2).1).2
      have f1 := RB.out.free 0
      have ln := run_len_map Try.underlying73 ((MW2.out.oa x.1 x.2).2.only ((Only.refl [] W2).drew) (by simp))
      gi_wp2_with fail
      gi_region
      all_goals
        rw [SB.out]
        have FIN : Hid ((KeepsOthers W (W2.setCell ⟨bn, 0, none⟩ (.int .i64 (sumT (txsT (pre ++ [x]))))).drew) ∧ KeepC [bl, bn] W (W2.setCell ⟨bn, 0, none⟩ (.int .i64 (sumT (txsT (pre ++ [x]))))).drew ∧ FgInv M w0 (W2.setCell ⟨bn, 0, none⟩ (.int .i64 (sumT (txsT (pre ++ [x]))))).drew bl bn (pre ++ [x])) := Lib.hid (by
          have k1 : Only [bl, bn] W2 (W2.setCell ⟨bn, 0, none⟩ (.int .i64 (sumT (txsT (pre ++ [x]))))).drew := ((Only.refl [bl, bn] W2).setCell (.inl (by simp)) _).drew
          have k2 : Only [bn] W2 (W2.setCell ⟨bn, 0, none⟩ (.int .i64 (sumT (txsT (pre ++ [x]))))).drew := ((Only.refl [bn] W2).setCell (.inl (by simp)) _).drew
          refine ⟨KO.out.trans ((KeepsOthers.setCell W2 _ _).trans (KeepsOthers.drew _)), KeepC.of_only ((KW.out.mono (by simp)).trans k1 (by simp)), RA.out.only k2 (by have := EQ.out; simp; omega), ?_, KAH.out.trans k1 (by simp)⟩
          have h := RB.out.set 0 (.int .i64 (sumT (txsT (pre ++ [x]))))
          simpa using h.only (Only.refl [] _).drew (by simp))
        clear ln c1 c2 f1
        gi_wp2_with fail
        exact FIN.out
  case done =>
    rintro D ys W hD hS hI hK
    have TP := Lib.hid (txsT_perm H.out.os_nodup hS.1)
    have HI := Lib.hid hI
    have HKD := Lib.hid hK
    have HD := Lib.hid hD
    have MW : Hid (MgAt W B p bo bw dv M) := Lib.hid (H0.out.only HI.out.only (by intro b hb hm; simp at hb; have := NB.out b hm; have := EQ.out; omega))
    have e1 : minT M.last (txsT ys) = minT M.last M.os := minT_perm TP.out
    have e2 : sumT (txsT ys) = sumT M.os := sumT_perm TP.out
    have RA : Hid (Row W bl #[.int .u64 (minT M.last M.os)] 29) := Lib.hid (by rw [← e1]; exact HI.out.least)
    have RB : Hid (Row W bn #[.int .i64 (sumT M.os)] 3) := Lib.hid (by rw [← e2]; exact HI.out.num)
    have c5 : W.cell? ⟨p, 5, none⟩ = some (.map (some bw)) := MW.out.c5
    have DF := Lib.hid (deleteFunc_at bw bl (minT M.last M.os) (wsL M.ws) W MW.out.wm (RA.out.cell 0) RA.out.lt (by have := NP.out; have := EQ.out; omega))
    unfold DelTo at DF
    clear hI hK hS e1 e2 hD
    gi_wp2_with fail
    refine ⟨trivial, (callsIn_wide.2 DF.out).mono ?_⟩
    rintro _ W3 ⟨rfl, hm3, k3⟩
    have e3 : ((wsL M.ws).filter fun p => decide (minT M.last M.os < p.1)) = wsL (forgetM M).ws := by
      unfold wsL forgetM thinM
      rw [List.filter_map]
      rfl
    rw [e3] at hm3
    have TH := Lib.hid (MW.out.thin (List.Sublist.refl M.os) (List.filter_sublist (l := M.ws) (p := fun x : Wr => decide (minT M.last M.os < x.st))) k3 (by simp) (MW.out.om.only k3 (by have := (head_apart MW.out.nd).2.2.1; simpa using this)) hm3)
    have RB3 : Hid (Row W3 bn #[.int .i64 (sumT M.os)] 3) := Lib.hid (RB.out.only k3 (by have := NP.out; have := EQ.out; simp; omega))
    have K3 := Lib.hid k3
    have D3 : Hid (W3.heap[D]? = some (.deferred (some []))) := Lib.hid ((k3.block D (Array.getElem?_eq_some_iff.1 HKD.out).1 (by have := HD.out; have := NP.out; have := EQ.out; simp; omega)).trans HKD.out)
    clear e3 hm3 k3 DF c5
    have MM : Hid (MgAt W3 B p bo bw dv (forgetM M)) := Lib.hid TH.out.1
    have c5 : W3.cell? ⟨p, 5, none⟩ = some (.map (some bw)) := MM.out.c5
    gi_wp2_with (gi_at_range; refine wpListIn_range_at _ rfl (.tmp 41) 65 rfl 29 73 .u64 Try.underlying65 bw (wsL (forgetM M).ws) rfl MM.out.wm ?_; intro w4 r4 o4 s4)
    have O4 := Lib.hid (o4.mono (G := [W3.heap.size, bn]) (by simp))
    have I0 : Hid (SumInv (forgetM M) W3 w4 bw bn W3.heap.size (sumT M.os + sumK (forgetM M).ws ((forgetM M).ws.map (·.st))) (wsL (forgetM M).ws)) := Lib.hid ⟨r4, o4.mono (by simp), MM.out.wm.nodup, (by
      have e : (wsL (forgetM M).ws).map (·.1) = (forgetM M).ws.map (·.st) := by simp [wsL]
      have h := RB3.out.only o4 (by simp)
      rw [e, Int.add_sub_cancel]
      exact h)⟩
    have NW : Hid (bw < W3.heap.size ∧ bn < W3.heap.size ∧ bw ≠ bn) := Lib.hid ⟨MM.out.wm.lt, RB3.out.lt, by have := NP.out; have := EQ.out; omega⟩
    have HWF : Hid (∀ x ∈ (forgetM M).ws, x.keys.length ≤ 1000000) := Lib.hid fun x hx => HW.out x (List.mem_filter.1 hx).1
    have HWN : Hid ((forgetM M).ws.length ≤ 1000000) := Lib.hid (Nat.le_trans (List.length_filter_le _ _) HWL.out)
    have ST : Hid (0 ≤ sumT M.os ∧ sumT M.os ≤ 12000000) := Lib.hid (by
      have h := sumT_fold M.os 0 HK.out
      have := HL.out
      unfold sumT
      omega)
    have SK : Hid (0 ≤ sumK (forgetM M).ws ((forgetM M).ws.map (·.st)) ∧ sumK (forgetM M).ws ((forgetM M).ws.map (·.st)) ≤ 1000000000000) := Lib.hid (by
      have h := sumK_le HWF.out ((forgetM M).ws.map (·.st))
      have := HWN.out
      rw [List.length_map] at h
      omega)
    clear r4 o4 s4 c5
    simp only [Act.put, List.setIfInBounds_toArray, List.set_cons_zero, List.set_cons_succ]
    gi_loopw [8] (fun u wr => Hid (∃ left, SumInv (forgetM M) W3 wr bw bn W3.heap.size (sumT M.os + sumK (forgetM M).ws ((forgetM M).ws.map (·.st))) left)) (fun u wr => wr.rangeLeft bw W3.heap.size)
    case atStart => exact Lib.hid ⟨_, I0.out⟩
    case round =>
      obtain ⟨left, hi⟩ := hrel.out
      have HI2 := Lib.hid hi
      have RG := Lib.hid hi.rng
      clear hi hrel
      gi_wp2_with (gi_at_next; refine wpListIn_next_at _ rfl (.tmp 42) rfl bw W3.heap.size .u64 (wsL (forgetM M).ws) left rfl RG.out ?_ ?_)
      · intro hnil
        have HN := Lib.hid hnil
        have c1 : wr.cell? ⟨bn, 0, none⟩ = some (.int .i64 (sumT M.os + sumK (forgetM M).ws ((forgetM M).ws.map (·.st)))) := by
          have h := HI2.out.num.cell 0
          rw [HN.out] at h
          simpa [sumK] using h
        clear hnil
        gi_wp2_with fail
        have KF : Only (M.blocks p bo bw dv) w wr := by
          have g1 : Only (M.blocks p bo bw dv) w W := (K0.out.mono (by simp)).trans HI.out.only (by intro i hi; simp at hi; have := EQ.out; omega)
          have g2 := g1.trans K3.out (by intro i hi; simp at hi; subst hi; exact .inl (by simp [Mg.blocks]))
          refine g2.trans HI2.out.only (by
            intro i hi
            simp at hi
            have := EQ.out
            have h1 := g2.size
            omega)
        have DH : wr.heap[D]? = some (.deferred (some [])) := by
          have hlt := (Array.getElem?_eq_some_iff.1 D3.out).1
          exact (HI2.out.only.block D hlt (by have := HD.out; have := EQ.out; simp; omega)).trans D3.out
        refine ⟨by simp, .inl ⟨_, _, rfl, run_takeDeferred DH, ?_⟩⟩
        have kd : Only [D] wr (wr.putObj D (.deferred none)) := by
          have hg := grownBy_putObj' wr D (.deferred none)
          exact ⟨hg.os, hg.tape, hg.output, hg.size, fun i hi hn => hg.block i hi (by simp at hn; simpa using hn)⟩
        have KF2 : Only (M.blocks p bo bw dv) w (wr.putObj D (.deferred none)) := KF.trans kd (by intro i hi; simp at hi; subst hi; have := HD.out; have := EQ.out; exact .inr (by omega))
        have MF : MgAt (wr.putObj D (.deferred none)) B p bo bw dv (forgetM M) := by
          have ko : Only [W3.heap.size, bn, D] W3 (wr.putObj D (.deferred none)) := (HI2.out.only.mono (by intro i hi; simp at hi; rcases hi with rfl | rfl; exact .inl (by simp); exact .inl (by simp))).trans kd (by intro i hi; simp at hi; subst hi; exact .inl (by simp))
          exact MM.out.only ko (by
            intro b hb hm
            have h1 := NB.out b (TH.out.2 b hm)
            have h2 := MM.out.lt b hm
            have := EQ.out
            have := HD.out
            simp at hb
            omega)
        exact ⟨_, results_tmp rfl _ _ _, _, by rw [← sumK_all MM.out.ws_nodup]; rfl, ⟨bo, bw, dv, MF, rfl⟩, KF2, fun b hb => .inl (TH.out.2 b hb)⟩
      · intro k v w5 hmem hr2 ho2 hs2 hen
        obtain ⟨x, hx, hxe⟩ := List.mem_map.1 (RG.out.sub _ hmem)
        simp only [Prod.mk.injEq] at hxe
        obtain ⟨rfl, rfl⟩ := hxe
        have PN := perm_rm HI2.out.nd hmem
        have hsk : sumK (forgetM M).ws (left.map (·.1)) = (x.keys.length : Int) + sumK (forgetM M).ws ((rm x.st left).map (·.1)) := by
          rw [sumK_perm PN, sumK_cons, lenK_at MM.out.ws_nodup hx]
        have SKH := Lib.hid hsk
        have O5 : Hid (Only [W3.heap.size, bn] W3 w5) := Lib.hid (HI2.out.only.trans ho2 (by simp))
        have M5 : Hid (MapAt w5 x.bk .u64 (setL x.keys)) := Lib.hid ((MM.out.wa x hx).only O5.out (by
          have hm : x.bk ∈ (forgetM M).blocks p bo bw dv := by simp [Mg.blocks, mem_wsB hx]
          have h1 := NB.out _ (TH.out.2 _ hm)
          have h2 := MM.out.lt _ hm
          have := EQ.out
          simp
          omega))
        have ND5 : Hid (((rm x.st left).map (·.1)).Nodup) := Lib.hid (((List.filter_sublist (l := left)).map _).nodup HI2.out.nd)
        have RN : Hid (Row w5 bn #[.int .i64 (sumT M.os + sumK (forgetM M).ws ((forgetM M).ws.map (·.st)) - sumK (forgetM M).ws (left.map (·.1)))] 3) := Lib.hid (HI2.out.num.only ho2 (by have := NW.out; simp; omega))
        have HMM := Lib.hid hmem
        have R5 := Lib.hid hr2
        have SL : Hid (0 ≤ sumK (forgetM M).ws ((rm x.st left).map (·.1)) ∧ sumK (forgetM M).ws (left.map (·.1)) ≤ sumK (forgetM M).ws ((forgetM M).ws.map (·.st)) + 1000000000000) := Lib.hid (by
          have h1 := sumK_le HWF.out ((rm x.st left).map (·.1))
          have h2 := sumK_le HWF.out (left.map (·.1))
          have h3 : left.length ≤ (wsL (forgetM M).ws).length := by
            exact RG.out.left_le
          have h5 : (wsL (forgetM M).ws).length = (forgetM M).ws.length := by simp [wsL]
          have := HWN.out
          have := SK.out
          rw [List.length_map] at h1 h2
          omega)
        obtain ⟨num, hnum⟩ : ∃ num, sumT M.os + sumK (forgetM M).ws ((forgetM M).ws.map (·.st)) - sumK (forgetM M).ws (left.map (·.1)) = num := ⟨_, rfl⟩
        have HNUM := Lib.hid hnum
        rw [hnum] at RN
        have c1 : w5.cell? ⟨bn, 0, none⟩ = some (.int .i64 num) := RN.out.cell 0
        have f1 := RN.out.free 0
        have ew : IntKind.i64.wrap (num + ((setL x.keys).length : Int)) = sumT M.os + sumK (forgetM M).ws ((forgetM M).ws.map (·.st)) - sumK (forgetM M).ws ((rm x.st left).map (·.1)) := by
          have e : (setL x.keys).length = x.keys.length := by simp [setL]
          have h1 := SKH.out
          have h2 := SL.out
          have h3 := SK.out
          have h4 := ST.out
          have h5 := HNUM.out
          rw [e, IntWalk.i64_in _ (by omega)]
          omega
        clear hmem hr2 ho2 hs2 PN hsk hx hnum
        obtain ⟨num2, hnum2⟩ : ∃ num2, sumT M.os + sumK (forgetM M).ws ((forgetM M).ws.map (·.st)) - sumK (forgetM M).ws ((rm x.st left).map (·.1)) = num2 := ⟨_, rfl⟩
        rw [hnum2] at ew
        have N6 : Hid (SumInv (forgetM M) W3 (w5.setCell ⟨bn, 0, none⟩ (.int .i64 num2)) bw bn W3.heap.size (sumT M.os + sumK (forgetM M).ws ((forgetM M).ws.map (·.st))) (rm x.st left)) := Lib.hid (by
          have k6 : Only [bn] w5 (w5.setCell ⟨bn, 0, none⟩ (.int .i64 num2)) := (Only.refl [bn] w5).setCell (.inl (by simp)) _
          refine ⟨R5.out.only k6 (by have := NW.out; simp; omega) (by have := NW.out; simp; omega), O5.out.trans k6 (by simp), ND5.out, ?_⟩
          rw [hnum2]
          simpa using RN.out.set 0 (.int .i64 num2))
        clear hnum2
        gi_wp2_with (gi_at_len; refine wpListIn_len_at _ rfl (.tmp 48) 73 rfl 29 93 .u64 Try.underlying73 x.bk (setL x.keys) rfl M5.out ?_)
        go_roundw
        case rel => exact Lib.hid ⟨_, N6.out⟩
        case measure =>
          rw [N6.out.rng.left_eq, RG.out.left_eq]
          exact rm_lt HMM.out
  case stop =>
    rintro D c pre W _ _ h _
    exact h.elim
end Go.Proofs.Ytodkflnpcfepfaa
