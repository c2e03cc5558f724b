/- Plain: a version behind a full row. -/
import Derived.Test.YtmbmkfhdiljalaaGreatMg13
import Derived.ArgAppend
import Derived.Laws.IdiomRangeMap
namespace Go.Proofs.YtmbmkfhdiljalaaGreat
open Go.RowKit Go.Shelf Go.ChangeShapes Go.WideShapes Go.ChangeAt
set_option linter.unusedVariables false
set_option linter.unusedSimpArgs false
def cut1 (V : Vs) : Value := .slice V.a V.vs.length V.vs.length
theorem clip_on {w : World} {V : Vs} (h : VsAt w V) (hl : V.vs.length ≤ 1000000) : Calls Tryz.prog 43 #[V.v] w fun e w' => e = .returned (cut1 V) ∧ w' = w := by
  have hc := h.cap
  have hs := h.src
  unfold Vs.v cut1 at *
  obtain ⟨m, hm⟩ : ∃ m, V.vs.length = m := ⟨_, rfl⟩
  rw [hm] at hc hl hs ⊢
  have HS := Lib.hid hs
  have HM := Lib.hid hm
  clear hs hm
  cases ha : V.a with
  | none =>
    go_enter Tryz.func43, Tryz.ntmps43
    go_wp2_with fail
    go_ret
    exact ⟨rfl, rfl⟩
  | some ad =>
    go_enter Tryz.func43, Tryz.ntmps43
    go_wp2_with fail
    go_ret
    exact ⟨rfl, rfl⟩
theorem Vs.of_own {w : World} {B n : Nat} {v : Value} {vs : List Ver} (h : w.ownsRow B tVr 5 v n (verL vs)) (hn : vs.length = n) (he : ∀ u ∈ vs, VerAt w u) : ∃ V : Vs, v = V.v ∧ V.vs = vs ∧ VsAt w V ∧ ∀ ad, V.a = some ad → B ≤ ad.block := by
  have hlt := h.lt
  rcases h.2 with ⟨rfl, h0⟩ | ⟨g, cap, cur, rfl, hb, hg, hnc, hcm, hcs, htake⟩
  · have hx : vs = [] := List.length_eq_zero_iff.1 (by omega)
    subst hx
    exact ⟨Vs.no, rfl, rfl, VsAt.no w, by simp [Vs.no]⟩
  · have hcell : ∀ j u, (verL vs)[j]? = some u → w.cell? ⟨g, 0 + j, none⟩ = some u := fun j u hj => by
      have hj' := (List.getElem?_eq_some_iff.1 hj).1
      rw [verL_len] at hj'
      rw [Nat.zero_add, h.cellAt j (by omega), hj]
    refine ⟨⟨some ⟨g, 0, none⟩, cap, vs⟩, by simp [Vs.v, hn], rfl, ⟨.inr ⟨⟨g, 0, none⟩, cap, rfl, by rw [verL_len], fun j u hj => by rw [add_plain]; exact hcell j u hj⟩, fun ad ha => ?_, he, ⟨by simp; omega, hcm⟩, fun ad ha => by cases ha; rfl⟩, fun ad ha => ?_⟩
    · cases ha; exact (hlt _ rfl).2
    · cases ha; exact (hlt _ rfl).1
theorem infoVer : (Tryz.prog.info? tVr).map (fun i => (i.zero, i.size, i.bytes)) = some (some (.agg #[.int .u64 0, .bool false, .int .u64 0, .slice none 0 0, .slice none 0 0]), 5, 72) := by kernel_rfl
theorem vs_append {w : World} {V : Vs} {u : Ver} {b : Nat} (h : VsAt w V) (hl : V.vs.length ≤ 1000000) (hu : VerAt w u) (hb : Row w b u.cells.toArray tVr) :
    ∃ (V' : Vs) (w' : World), (Builtin.append_ #[tVrs, tVrs] tVrs #[cut1 V, .slice (some ⟨b, 0, none⟩) 1 1]).run Tryz.prog w = .ok V'.v w' ∧ V'.vs = V.vs ++ [u] ∧ VsAt w' V' ∧ (∀ ad, V'.a = some ad → w.heap.size ≤ ad.block) ∧ Only [] w w' := by
  obtain ⟨i0, hi, hz0, hz1, hz2⟩ := info_parts infoVer
  have hnews : ∀ j x, u.cells[j]? = some x → w.cell? ((⟨b, 0, none⟩ : Addr).add j) = some x := fun j x hj => by
    rw [add_plain, Nat.zero_add, hb.cell j]
    simpa using hj
  have hnl : u.cells.length = 1 * 5 := by simp [Ver.cells]
  have fin : ∀ (v' : Value) (w' : World), w'.ownsRow w.heap.size tVr 5 v' (V.vs.length + 1) (verL V.vs ++ u.cells) → Only [] w w' → ∃ V' : Vs, v' = V'.v ∧ V'.vs = V.vs ++ [u] ∧ VsAt w' V' ∧ ∀ ad, V'.a = some ad → w.heap.size ≤ ad.block := fun v' w' ho k => by
    have e : verL V.vs ++ u.cells = verL (V.vs ++ [u]) := by rw [verL_append]; simp [verL]
    rw [e] at ho
    refine Vs.of_own ho (by simp) fun x hx => ?_
    rcases List.mem_append.1 hx with hx | hx
    · exact (h.each x hx).only k (by simp)
    · simp only [List.mem_singleton] at hx
      subst hx
      exact hu.only k (by simp)
  rcases h.src with h1 | ⟨ad, c, e, hlen, hc⟩
  · have hv : cut1 V = .slice none 0 0 := by
      obtain ⟨h1, h2, _⟩ := h1
      unfold Vs.v at h1
      unfold cut1
      simp only [Value.slice.injEq] at h1
      rw [h1.1, h1.2.1]
    have hvs : V.vs = [] := List.length_eq_zero_iff.1 (by have := h1.2.1; omega)
    obtain ⟨v', w', hrun, ho, hg, _⟩ := append_own_at (P := Tryz.prog) w w.heap.size tVrs tVrs tVr i0 _ 5 72 Tryz.underlying76 hi hz0 hz1 hz2 (by decide) (by omega) (.slice none 0 0) 0 [] (World.ownsRow_nil _ _ _ _) ⟨b, 0, none⟩ 1 1 u.cells hnl hnews (by simp [Ver.cells, Sl.v, Value.oneCell']) (by unfold maxLen; omega) (by omega) (Nat.le_refl _)
    have k : Only [] w w' := ⟨hg.os, hg.tape, hg.output, hg.size, fun i hi hn => hg.block i hi (by simp [Value.ownBlock])⟩
    obtain ⟨V', rfl, a1, a2, a3⟩ := fin v' w' (by rw [hvs]; exact ho) k
    exact ⟨V', w', by rw [hv]; exact hrun, a1, a2, a3, k⟩
  · have hv : cut1 V = .slice (some ad) V.vs.length V.vs.length := by
      unfold Vs.v at e
      unfold cut1
      simp only [Value.slice.injEq] at e
      rw [e.1]
    obtain ⟨v', w', hrun, ho, hg⟩ := run_append_arg_grows (P := Tryz.prog) w tVrs tVrs tVr i0 _ 5 72 Tryz.underlying76 hi hz0 hz1 hz2 (by decide) (by omega) ad V.vs.length V.vs.length (verL V.vs) (verL_len _) hc ⟨b, 0, none⟩ 1 1 u.cells hnl hnews (by omega) (by unfold maxLen; omega) (by omega)
    have k : Only [] w w' := ⟨hg.os, hg.tape, hg.output, hg.size, fun i hi hn => hg.block i hi (by simp)⟩
    obtain ⟨V', rfl, a1, a2, a3⟩ := fin v' w' ho k
    exact ⟨V', w', by rw [hv]; exact hrun, a1, a2, a3, k⟩
end Go.Proofs.YtmbmkfhdiljalaaGreat

/- Plain: Commit's words. -/
namespace Go.Proofs.YtmbmkfhdiljalaaGreat
open Go.RowKit Go.Shelf Go.ChangeShapes Go.WideShapes Go.ChangeAt
set_option linter.unusedVariables false
set_option linter.unusedSimpArgs false

theorem mem_rm {k : Int} {L : List (Int × Value)} {p : Int × Value} : p ∈ rm k L ↔ p ∈ L ∧ p.1 ≠ k := by simp [rm]
theorem rm_lt {k : Int} {v : Value} : ∀ {L : List (Int × Value)}, (k, v) ∈ L → (rm k L).length < L.length := by
  intro L h
  unfold rm
  have h1 : (k, v) ∉ L.filter fun p => !decide (p.1 = k) := by simp
  rcases Nat.lt_or_ge (L.filter fun p => !decide (p.1 = k)).length L.length with g | g
  · exact g
  · have := List.filter_eq_self.1 ((List.filter_sublist (l := L) (p := fun p => !decide (p.1 = k))).eq_of_length_le g) (k, v) h
    simp at this
def ClashAt (V : Vs) (start : Int) : Prop := ∃ v, V.vs.getLast? = some v ∧ start < v.at_
def ClashP (D : PDB) (o : PTx) : Prop := ∃ y ∈ o.wr, ClashAt (vsOf D.all y.1) o.start
def ClearYet (D : PDB) (o : PTx) (left : List (Int × Value)) : Prop := ∀ y ∈ o.wr, (∀ q ∈ left, q.1 ≠ y.1) → ¬ ClashAt (vsOf D.all y.1) o.start
def newV (D : PDB) (v : Ver) : Ver := { v with at_ := D.last + 1 }
def laidL (D : PDB) (o : PTx) (left : List (Int × Value)) (j : Int) : List Ver := match lkV o.wr j with
  | some v => if left.any (fun q => decide (q.1 = j)) then [] else [newV D v]
  | none => []
/-- Which keys there are, how many, and that none is without a version. -/
structure KeysOf (D : PDB) (o : PTx) (all' : List (Int × Vs)) (n : Nat) : Prop where
  mem : ∀ y ∈ all', y.1 ∈ D.all.map (·.1) ∨ y.1 ∈ o.wr.map (·.1)
  len : all'.length + n ≤ D.all.length + o.wr.length
  ne : (∀ x ∈ D.all, x.2.vs ≠ []) → ∀ y ∈ all', y.2.vs ≠ []
theorem upS_len (k : Int) (V : Vs) (l : List (Int × Vs)) : (upS k V l).length ≤ l.length + 1 := by
  induction l with
  | nil => simp [upS]
  | cons x l ih =>
    unfold upS
    split <;> simp <;> omega
structure CmInv (w : World) (B p ba bo r : Nat) (D : PDB) (o : PTx) (left : List (Int × Value)) (all' : List (Int × Vs)) (wr : World) : Prop where
  rng : Rng wr o.bm r .u64 (wrL o.wr) left
  db : DbAt wr B p ba bo { shutP D o.n with last := D.last + 1, all := all' }
  at_ : ∀ j, (vsOf all' j).vs = (vsOf D.all j).vs ++ laidL D o left j
  only : Only [p, ba, bo] w wr
  kept : Kept D.reads ({ shutP D o.n with last := D.last + 1, all := all' } : PDB).reads w
  nr : r ∉ ({ shutP D o.n with last := D.last + 1, all := all' } : PDB).reads
  keys : KeysOf D o all' left.length
def CommitTo (B p : Nat) (D : PDB) (o : PTx) (F H : List Nat) (w : World) (e : Ending) (w' : World) : Prop := ∃ F' H', Only F w w' ∧ Kept F F' w ∧ Kept H H' w ∧
  ((ClashP D o ∧ e = .returned (.int .i64 11) ∧ DbF w' B p (shutP D o.n) F' H') ∨
  (¬ ClashP D o ∧ e = .returned (.int .i64 0) ∧ ∃ all', DbF w' B p { shutP D o.n with last := D.last + 1, all := all' } F' H' ∧ KeysOf D o all' 0 ∧ ∀ j, (vsOf all' j).vs = (vsOf D.all j).vs ++ (match lkV o.wr j with
    | some v => [{ v with at_ := D.last + 1 }]
    | none => [])))
theorem lkV_of_mem {l : List (Int × Ver)} {x : Int × Ver} (hn : (l.map (·.1)).Nodup) (hx : x ∈ l) : lkV l x.1 = some x.2 := by
  unfold lkV
  cases hf : l.find? fun y => decide (y.1 = x.1) with
  | none =>
    have := List.find?_eq_none.1 hf x hx
    simp at this
  | some y =>
    have hy := List.mem_of_find?_eq_some hf
    have hj : y.1 = x.1 := by simpa using List.find?_some hf
    have := eq_of_map hn hy hx hj
    simp [this]
theorem wr_nodup {w : World} {b : Nat} {l : List (Int × Ver)} (h : MapAt w b .u64 (wrL l)) : (l.map (·.1)).Nodup := by
  have := h.nodup
  unfold wrL at this
  rw [List.map_map] at this
  exact this
theorem laidL_still {D : PDB} {o : PTx} {left : List (Int × Value)} {k : Int} {u : Value} (h : (k, u) ∈ left) : laidL D o left k = [] := by
  unfold laidL
  cases lkV o.wr k with
  | none => rfl
  | some v =>
    have : left.any (fun q => decide (q.1 = k)) = true := List.any_eq_true.2 ⟨_, h, by simp⟩
    simp [this]
theorem laidL_step {D : PDB} {o : PTx} {left : List (Int × Value)} {x : Int × Ver} (hn : (o.wr.map (·.1)).Nodup) (hx : x ∈ o.wr) (j : Int) : laidL D o (rm x.1 left) j = if j = x.1 then [newV D x.2] else laidL D o left j := by
  by_cases hj : j = x.1
  · subst hj
    unfold laidL
    rw [lkV_of_mem hn hx]
    have : (rm x.1 left).any (fun q => decide (q.1 = x.1)) = false := by
      rw [Bool.eq_false_iff]
      intro h
      obtain ⟨q, hq, he⟩ := List.any_eq_true.1 h
      simp [rm] at hq
      simp at he
      exact hq.2 he
    simp [this]
  · rw [if_neg hj]
    unfold laidL
    have : (rm x.1 left).any (fun q => decide (q.1 = j)) = left.any (fun q => decide (q.1 = j)) := by
      rw [Bool.eq_iff_iff]
      simp only [List.any_eq_true, decide_eq_true_eq, rm, List.mem_filter, Bool.not_eq_true', decide_eq_false_iff_not]
      exact ⟨fun ⟨q, h, e⟩ => ⟨q, h.1, e⟩, fun ⟨q, h, e⟩ => ⟨q, ⟨h, fun e' => hj (e.symm.trans e')⟩, e⟩⟩
    rw [this]
theorem laidL_done (D : PDB) (o : PTx) (j : Int) : laidL D o [] j = match lkV o.wr j with
    | some v => [{ v with at_ := D.last + 1 }]
    | none => [] := by
  unfold laidL
  cases lkV o.wr j with
  | none => rfl
  | some v => simp [newV]
end Go.Proofs.YtmbmkfhdiljalaaGreat

/- Plain: a round of Commit. -/
namespace Go.Proofs.YtmbmkfhdiljalaaGreat
open Go.RowKit Go.Shelf Go.ChangeShapes Go.WideShapes Go.ChangeAt
set_option linter.unusedVariables false
set_option linter.unusedSimpArgs false
theorem CmInv.step {w wr w8 wf : World} {B p ba bo r : Nat} {D : PDB} {o : PTx} {left : List (Int × Value)} {all' : List (Int × Vs)} {x : Int × Ver} {V' : Vs} (h0 : DbAt w B p ba bo D) (hB : B ≤ w.heap.size) (ho : o ∈ D.op) (hx : x ∈ o.wr) (hr : w.heap.size ≤ r)
    (h : CmInv w B p ba bo r D o left all' wr) (hm : (x.1, x.2.val) ∈ left) (k8 : Only [r] wr w8) (hR : Rng w8 o.bm r .u64 (wrL o.wr) (rm x.1 left))
    (hV : V'.vs = (vsOf all' x.1).vs ++ [newV D x.2]) (hVa : VsAt w8 V') (hVb : ∀ ad, V'.a = some ad → r < ad.block) (kf : Only [ba] w8 wf) (hS : MapAt wf ba .u64 (up x.1 V'.v (vsL all'))) :
    CmInv w B p ba bo r D o (rm x.1 left) (upS x.1 V' all') wf := by
  have hown : ∀ b, (b = p ∨ b = ba ∨ b = bo) → b ∈ D.own p ba bo := by rintro b (rfl | rfl | rfl) <;> simp [PDB.own]
  have hltr := h0.lt
  have hbs : ∀ b ∈ V'.bs, r < b ∨ b ∈ ({ shutP D o.n with last := D.last + 1, all := all' } : PDB).reads ∨ b ∈ x.2.bs := by
    intro b hb
    rcases List.mem_append.1 hb with hb | hb
    · cases ha : V'.a with
      | none => rw [ha] at hb; simp at hb
      | some ad => rw [ha] at hb; simp at hb; subst hb; exact .inl (hVb ad ha)
    · obtain ⟨v, hv, hb⟩ := List.mem_flatMap.1 hb
      rw [hV] at hv
      rcases List.mem_append.1 hv with hv | hv
      · refine .inr (.inl ?_)
        unfold vsOf at hv
        cases hf : all'.find? fun y => decide (y.1 = x.1) with
        | none => rw [hf] at hv; simp [Vs.no] at hv
        | some y =>
          rw [hf] at hv
          exact List.mem_append_left _ (List.mem_flatMap.2 ⟨y, List.mem_of_find?_eq_some hf, List.mem_append_right _ (List.mem_flatMap.2 ⟨v, hv, hb⟩)⟩)
      · simp only [List.mem_singleton] at hv
        subst hv
        exact .inr (.inr hb)
  have hxr : ∀ b ∈ x.2.bs, b ∈ D.reads := fun b hb => mem_reads2 ho hx hb
  have hro : r ∉ D.own p ba bo := fun hh => by have := hltr r hh; omega
  have hsub : ∀ b, b ∈ ({ shutP D o.n with last := D.last + 1, all := all' } : PDB).own p ba bo → b ∈ D.own p ba bo := by
    intro b hb
    simp only [PDB.own, List.mem_cons] at hb ⊢
    rcases hb with hb | hb | hb | hb
    · exact .inl hb
    · exact .inr (.inl hb)
    · exact .inr (.inr (.inl hb))
    · refine .inr (.inr (.inr ?_))
      obtain ⟨y, hy, hb⟩ := List.mem_flatMap.1 hb
      exact List.mem_flatMap.2 ⟨y, (List.mem_filter.1 hy).1, hb⟩
  have hap : ∀ b ∈ V'.bs, b ∉ D.own p ba bo ∧ B ≤ b ∧ b ≠ r ∧ (b ∈ D.reads ∨ w.heap.size ≤ b) := by
    intro b hb
    rcases hbs b hb with hb | hb | hb
    · exact ⟨fun hh => by have := hltr b hh; omega, by omega, by omega, .inr (by omega)⟩
    · refine ⟨fun hh => ?_, h.db.gr b hb, fun e => h.nr (e ▸ hb), h.kept b hb⟩
      rcases h.kept b hb with h1 | h1
      · exact h0.ap b hh h1
      · have := hltr b hh; omega
    · have h1 := hxr b hb
      exact ⟨fun hh => h0.ap b hh h1, h0.gr b h1, fun e => by have := h0.ltr b h1; omega, .inl h1⟩
  have d8 := h.db.only k8 (by intro b hb; simp at hb; subst hb; exact ⟨fun hh => hro (hsub _ hh), h.nr⟩)
  have hba := hown ba (.inr (.inl rfl))
  obtain ⟨l1, l2⟩ := d8.laid (key := x.1) (V := V') kf hS (hVa.only kf (by intro b hb; simp; rintro rfl; exact (hap b hb).1 hba)) (fun b hb => (hap b hb).2.1) (fun b hb hh => (hap b hb).1 (hsub _ hh))
  have obm : o.bm ≠ ba := ((own_apart h0.nd).2.2.2 _ (mem_pxB ho).2).2.1
  have wn : (o.wr.map (·.1)).Nodup := wr_nodup (h0.oa o ho).2
  refine ⟨hR.only kf (by simpa using obm) (by simp; rintro rfl; exact hro hba), l1, fun j => ?_, (h.only.trans k8 (by intro i hi; simp at hi; subst hi; exact .inr hr)).trans kf (by intro i hi; simp at hi; subst hi; exact .inl (by simp)), fun b hb => ?_, fun hb => ?_, ⟨fun y hy => ?_, ?_, fun hne y hy => ?_⟩⟩
  · rw [vsOf_up, laidL_step wn hx]
    by_cases hj : j = x.1
    · subst hj
      rw [if_pos rfl, if_pos rfl, hV, h.at_, laidL_still hm]; simp
    · rw [if_neg hj, if_neg hj, h.at_]
  · rcases l2 b hb with hb | hb
    · exact h.kept b hb
    · exact (hap b hb).2.2.2
  · rcases l2 r hb with hb | hb
    · exact h.nr hb
    · exact (hap r hb).2.2.1 rfl
  · rcases mem_upS hy with rfl | hy
    · exact .inr (List.mem_map.2 ⟨x, hx, rfl⟩)
    · exact h.keys.mem y hy
  · have h1 := h.keys.len
    have h2 := upS_len x.1 V' all'
    have h3 := rm_lt hm
    omega
  · rcases mem_upS hy with rfl | hy
    · rw [hV]; simp
    · exact h.keys.ne hne y hy
end Go.Proofs.YtmbmkfhdiljalaaGreat

/- Plain: ranges over maps: what is left. -/
namespace Go.Proofs.YtmbmkfhdiljalaaGreat
open Go.RowKit Go.Shelf Go.ChangeShapes Go.WideShapes Go.ChangeAt
set_option linter.unusedVariables false
set_option linter.unusedSimpArgs false

theorem wpList_look_to {P : Program} {w : World} {ops : Array Oper} {rest : List Oper} {o : Oper} {a : Act} {Q : Exit → Act → World → Prop} (hg : o.guard = none) (m x : Operand) (t : TypeId) (hop : o.op = Op.lookup t m x false) (kt et : TypeId) (q : IntKind) (ht : P.underlying t = some (.map kt et)) (hk : P.underlying kt = some (.int q)) (z : Value) (hz : ∀ w, (zeroValue et).run P w = .ok z w)
    (b : Nat) (L : List (Int × Value)) (hm : a.eval m = .map (some b)) (hown : MapAt w b q L) (key : Int) (hx : a.eval x = .int q key) (val : Value) (hv : (lk key L).getD z = val)
    (hK : wpList P ops Q rest (a.put o.dst val) w) : wpList P ops Q (o :: rest) a w :=
  wpList_look_at w hg m x t false hop kt et q ht hk z hz b L hm hown key hx (by rw [if_neg (by simp), hv]; exact hK)
theorem Rng.left_eq {w : World} {b r : Nat} {q : IntKind} {L left : List (Int × Value)} (h : Rng w b r q L left) : w.rangeLeft b r = left.length := by
  obtain ⟨es, clock, since, seen, c0, hb, _, _, hr, _, _, _, hl⟩ := h
  simp only [World.rangeLeft, hb, hr]
  have := congrArg List.length hl
  simpa using this
end Go.Proofs.YtmbmkfhdiljalaaGreat

/- Plain: maps.Keys over the three maps of a DB, as iterators (printed by gen_keys.py). -/
namespace Go.Proofs.YtmbmkfhdiljalaaGreat
open Go.RowKit Go.Shelf
set_option linter.unusedVariables false
set_option linter.unusedSimpArgs false
attribute [local go_sem] Oper.semAt_some

theorem Only.grownBy {w w' : World} {r : Nat} (k : Only [r] w w') : w.grownBy w' (some r) := ⟨k.os, k.tape, k.output, k.size, fun i hi hn => k.block i hi (by simp; exact fun e => hn (by rw [e]))⟩
theorem Only.grownNone {w w' : World} (k : Only [] w w') : w.grownBy w' none := ⟨k.os, k.tape, k.output, k.size, fun i hi _ => k.block i hi (by simp)⟩
theorem Rng.walks {w w' : World} {b r : Nat} {q : IntKind} {L left : List (Int × Value)} (h : Rng w b r q L left) (k : KeepsWalks w w') : Rng w' b r q L left := by
  obtain ⟨es, clock, since, seen, c0, h1, h2, h3, h4, h5⟩ := h
  exact ⟨es, clock, since, seen, c0, k.same _ _ h1 rfl, h2, h3, k.same _ _ h4 rfl, h5⟩
theorem Rng.isWalk {w : World} {b r : Nat} {q : IntKind} {L left : List (Int × Value)} (h : Rng w b r q L left) : ∃ o : Obj, w.heap[r]? = some o ∧ o.isWalk = true := by
  obtain ⟨es, clock, since, seen, c0, h1, h2, h3, h4, h5⟩ := h
  exact ⟨_, h4, rfl⟩
/-- What has come, and what is left. -/
structure KeysInv (J : List Int → World → Prop) (L : List (Int × Value)) (b r B : Nat) (pre : List Int) (left : List (Int × Value)) (wr : World) : Prop where
  rng : Rng wr b r .u64 L left
  j : J pre wr
  perm : (pre ++ left.map (·.1)).Perm (L.map (·.1))
  r0 : B ≤ r
theorem perm_rm {k : Int} {v : Value} {left : List (Int × Value)} (hn : (left.map (·.1)).Nodup) (h : (k, v) ∈ left) : (left.map (·.1)).Perm (k :: (rm k left).map (·.1)) := by
  induction left with
  | nil => simp at h
  | cons p left ih =>
    simp only [List.map_cons, List.nodup_cons] at hn
    by_cases e : p.1 = k
    · have e1 : rm k (p :: left) = left := by
        simp only [rm, List.filter_cons, e, decide_true, Bool.not_true, Bool.false_eq_true, if_false]
        exact List.filter_eq_self.2 fun x hx => by simpa using fun hk : x.1 = k => hn.1 (e ▸ hk ▸ List.mem_map.2 ⟨x, hx, rfl⟩)
      rw [e1, List.map_cons, e]
    · have h' : (k, v) ∈ left := by
        rcases List.mem_cons.1 h with rfl | h
        · exact absurd rfl e
        · exact h
      have e1 : rm k (p :: left) = p :: rm k left := by simp [rm, List.filter_cons, e]
      rw [e1, List.map_cons, List.map_cons]
      exact ((ih hn.2 h').cons _).trans (List.Perm.swap _ _ _)
theorem Rng.nodup {w : World} {b r : Nat} {q : IntKind} {L left : List (Int × Value)} (h : Rng w b r q L left) (hp : ∃ pre : List Int, (pre ++ left.map (·.1)).Perm (L.map (·.1))) : (left.map (·.1)).Nodup := by
  obtain ⟨pre, hp⟩ := hp
  have := hp.nodup_iff.2 h.mapAt.nodup
  exact (List.nodup_append.1 this).2.1
/-- A map: nil, or a block. -/
def MapV (w : World) (v : Value) (q : IntKind) (L : List (Int × Value)) : Prop := (v = .map none ∧ L = []) ∨ ∃ b, v = .map (some b) ∧ MapAt w b q L
theorem MapV.only {G : List Nat} {w w' : World} {v : Value} {q : IntKind} {L : List (Int × Value)} (h : MapV w v q L) (k : Only G w w') (hG : ∀ b, v = .map (some b) → b ∉ G) : MapV w' v q L := by
  rcases h with h | ⟨b, rfl, h⟩
  · exact .inl h
  · exact .inr ⟨b, rfl, h.only k (hG b rfl)⟩
theorem MapV.shape {w : World} {v : Value} {q : IntKind} {L : List (Int × Value)} (h : MapV w v q L) : ∃ m, v = .map m := by
  rcases h with ⟨rfl, _⟩ | ⟨b, rfl, _⟩
  · exact ⟨_, rfl⟩
  · exact ⟨_, rfl⟩
theorem MapV.no (w : World) (q : IntKind) : MapV w (.map none) q [] := .inl ⟨rfl, rfl⟩

set_option maxRecDepth 100000 in
set_option maxHeartbeats 2000000 in
theorem keys1_px (n : Nat) (hn : 1 ≤ n) (l Bm b : Nat) (L : List (Int × Value)) (J Jx : List Int → World → Prop) (W : World) (hJ : AbidesFrom W.heap.size J)
    (hY : ∀ pre x W1, J pre W1 → pre.length < L.length → YieldAt Fence.wide (n - 1) Tryz.prog l #[.int .u64 x] W1 fun e W' =>
      (e = .returned (.bool true) ∧ J (pre ++ [x]) W' ∧ KeepsWalks W1 W') ∨ (e = .returned (.bool false) ∧ Jx (pre ++ [x]) W'))
    (hm : W.cell? ⟨Bm, 0, none⟩ = some (.map (some b))) (hM : MapAt W b .u64 L) (h0 : J [] W) :
    CallsIn Fence.wide n Tryz.prog 77 #[.func (.yield l) #[] #[], .pointer (some ⟨Bm, 0, none⟩)] W fun e W' => (∃ v, e = .returned v) ∧
      ((∃ ys, ys.Perm (L.map (·.1)) ∧ J ys W') ∨ (∃ pre, True ∧ Jx pre W')) := by
  have hro : Fence.wide.round = none := rfl
  refine callsIn_of_wp Tryz.func77 rfl trivial ?_ hro
  simp only [Tryz.ntmps77, List.size_toArray, List.length_cons, List.length_nil, Nat.reduceAdd, Nat.reduceSub, Array.replicate_succ, Array.replicate_zero, List.push_toArray, List.append_toArray, List.nil_append, List.cons_append]
  gi_wp2_with (gi_at_range; refine wpListIn_range_at _ rfl (.tmp 4) 62 rfl 30 81 .u64 Tryz.underlying62 b L rfl hM ?_; intro w1 hr1 ho1 hs1)
  have S1 := Lib.hid hs1
  have I0 : Hid (KeysInv J L b W.heap.size W.heap.size [] L w1) := Lib.hid ⟨hr1, hJ [] W w1 none h0 ho1.grownNone (fun r e => by cases e), by simp, Nat.le_refl _⟩
  clear hr1 ho1 hs1 h0 hm hM
  simp only [Act.put, List.setIfInBounds_toArray, List.set_cons_zero, List.set_cons_succ]
  gi_loopw [3] (fun u wr => Hid (∃ pre left, KeysInv J L b W.heap.size W.heap.size pre left wr)) (fun u wr => wr.rangeLeft b W.heap.size)
  case atStart => exact Lib.hid ⟨_, _, I0.out⟩
  case round =>
    obtain ⟨pre, left, hi⟩ := hrel.out
    have HI := Lib.hid hi
    have RG := Lib.hid hi.rng
    clear hi hrel
    gi_wp2_with (gi_at_next; refine wpListIn_next_at _ rfl (.tmp 5) rfl b W.heap.size .u64 L left rfl RG.out ?_ ?_)
    · intro hnil
      have HN := Lib.hid hnil
      clear hnil
      gi_wp2_with fail
      go_end0
      refine ⟨⟨_, rfl⟩, .inl ⟨pre, ?_, HI.out.j⟩⟩
      have h := HI.out.perm
      rw [HN.out] at h
      simpa using h
    · intro k v w2 hmem hr2 ho2 hs2 hen
      have PN := Lib.hid (perm_rm (RG.out.nodup ⟨pre, HI.out.perm⟩) hmem)
      have J2 : J pre w2 := hJ pre _ w2 (some W.heap.size) HI.out.j ho2.grownBy (fun r e => by cases e; exact ⟨Nat.le_refl _, RG.out.isWalk⟩)
      have hlen : pre.length < L.length := by
        have h1 := HI.out.perm.length_eq
        simp only [List.length_append, List.length_map] at h1
        have h2 : 0 < left.length := List.length_pos_of_mem hmem
        omega
      have HM := Lib.hid hmem
      have R2 := Lib.hid hr2
      obtain ⟨fn, tmps, assign, body, hy, hR⟩ := hY pre k w2 J2 hlen
      clear hmem hr2 ho2 hs2 J2 hlen
      gi_wp2_with fail
      refine hR.mono ?_
      rintro e W3 (⟨rfl, hJ3, hk3⟩ | ⟨rfl, hJx3⟩)
      · have N3 : Hid (KeysInv J L b W.heap.size W.heap.size (pre ++ [k]) (rm k left) W3) := Lib.hid ⟨R2.out.walks hk3, hJ3, by
          have h := HI.out.perm
          refine List.Perm.trans ?_ h
          rw [List.append_assoc]
          exact List.Perm.append_left _ PN.out.symm, Nat.le_refl _⟩
        clear hJ3 hk3 hR hy hen
        gi_wp2_with fail
        go_roundw
        case rel => exact Lib.hid ⟨_, _, N3.out⟩
        case measure =>
          rw [N3.out.rng.left_eq, RG.out.left_eq]
          exact rm_lt HM.out
      · gi_wp2_with fail
        refine bodyPost_ret (results_none rfl _ _ _) rfl ?_
        exact ⟨⟨_, rfl⟩, .inr ⟨_, trivial, hJx3⟩⟩
set_option maxRecDepth 100000 in
set_option maxHeartbeats 2000000 in
theorem keys1_px_nil (n : Nat) (l Bm : Nat) (J : List Int → World → Prop) (W : World) (hJ : AbidesFrom W.heap.size J)
    (hm : W.cell? ⟨Bm, 0, none⟩ = some (.map none)) (h0 : J [] W) :
    CallsIn Fence.wide n Tryz.prog 77 #[.func (.yield l) #[] #[], .pointer (some ⟨Bm, 0, none⟩)] W fun e W' => (∃ v, e = .returned v) ∧ J [] W' := by
  have hro : Fence.wide.round = none := rfl
  refine callsIn_of_wp Tryz.func77 rfl trivial ?_ hro
  simp only [Tryz.ntmps77, List.size_toArray, List.length_cons, List.length_nil, Nat.reduceAdd, Nat.reduceSub, Array.replicate_succ, Array.replicate_zero, List.push_toArray, List.append_toArray, List.nil_append, List.cons_append]
  have hrg := run_range_nilMap (P := Tryz.prog) W 62 30 81 Tryz.underlying62
  have hnx : ∀ ty, (Instr.next (.pointer (some ⟨W.heap.size, 0, none⟩)) false ty).run Tryz.prog (W.alloc (.mapIter none 0 #[] 0)) = _ := fun ty => run_next_nilMap _ ty 0 0 #[]
  gi_wp2
  refine wpIn_loop_rounds 1 ?_
  rw [roundsIn_succ]
  gi_wp2
  go_end0
  exact ⟨⟨_, rfl⟩, hJ [] W _ none h0 (World.grownBy_alloc W _ none) (fun r e => by cases e)⟩
theorem keys_stops_px (n : Nat) (hn : 1 ≤ n) (Bm : Nat) (v : Value) (L : List (Int × Value)) (w : World) (hBm : Bm < w.heap.size) (hm : w.cell? ⟨Bm, 0, none⟩ = some v) (hM : MapV w v .u64 L) :
    SeqStopsK Fence.wide n Tryz.prog 77 #[.pointer (some ⟨Bm, 0, none⟩)] (fun x : Int => #[Value.int .u64 x]) KeepsWalks (fun ys => ys.Perm (L.map (·.1))) (fun _ => True) L.length w := fun l J Jx W hW hJ _ hY h0 => by
  rcases hM with ⟨rfl, rfl⟩ | ⟨b, rfl, hM⟩
  · refine (keys1_px_nil n l Bm J W hJ ((hW.cell (p := ⟨Bm, 0, none⟩) hBm).trans hm) h0).mono ?_
    rintro e W' ⟨he, hj⟩
    exact ⟨he, .inl ⟨[], List.Perm.refl _, hj⟩⟩
  · exact keys1_px n hn l Bm b L J Jx W hJ hY ((hW.cell (p := ⟨Bm, 0, none⟩) hBm).trans hm) (hM.of_block (hW.block b hM.lt)) h0
/-- maps.Keys: the box, and the function over it. -/
theorem keys_px_any (m : Option Nat) (w : World) : Calls Tryz.prog 48 #[.map m] w fun e w' => e = .returned (.func (.func 77) #[] #[.pointer (some ⟨w.heap.size, 0, none⟩)]) ∧ w' = w.alloc (.cells #[.map m] 62) := by
  go_enter Tryz.func48, Tryz.ntmps48
  go_wp2
  go_ret
  exact ⟨rfl, rfl⟩
theorem keys_px_enters : ∀ args w, (callFunc 77 args).run Tryz.prog w = .ok (.enter 77 args) w := enters_of Tryz.func77 (by kernel_rfl) rfl

set_option maxRecDepth 100000 in
set_option maxHeartbeats 2000000 in
theorem keys1_vs (n : Nat) (hn : 1 ≤ n) (l Bm b : Nat) (L : List (Int × Value)) (J Jx : List Int → World → Prop) (W : World) (hJ : AbidesFrom W.heap.size J)
    (hY : ∀ pre x W1, J pre W1 → pre.length < L.length → YieldAt Fence.wide (n - 1) Tryz.prog l #[.int .u64 x] W1 fun e W' =>
      (e = .returned (.bool true) ∧ J (pre ++ [x]) W' ∧ KeepsWalks W1 W') ∨ (e = .returned (.bool false) ∧ Jx (pre ++ [x]) W'))
    (hm : W.cell? ⟨Bm, 0, none⟩ = some (.map (some b))) (hM : MapAt W b .u64 L) (h0 : J [] W) :
    CallsIn Fence.wide n Tryz.prog 85 #[.func (.yield l) #[] #[], .pointer (some ⟨Bm, 0, none⟩)] W fun e W' => (∃ v, e = .returned v) ∧
      ((∃ ys, ys.Perm (L.map (·.1)) ∧ J ys W') ∨ (∃ pre, True ∧ Jx pre W')) := by
  have hro : Fence.wide.round = none := rfl
  refine callsIn_of_wp Tryz.func85 rfl trivial ?_ hro
  simp only [Tryz.ntmps85, List.size_toArray, List.length_cons, List.length_nil, Nat.reduceAdd, Nat.reduceSub, Array.replicate_succ, Array.replicate_zero, List.push_toArray, List.append_toArray, List.nil_append, List.cons_append]
  gi_wp2_with (gi_at_range; refine wpListIn_range_at _ rfl (.tmp 4) 61 rfl 30 76 .u64 Tryz.underlying61 b L rfl hM ?_; intro w1 hr1 ho1 hs1)
  have S1 := Lib.hid hs1
  have I0 : Hid (KeysInv J L b W.heap.size W.heap.size [] L w1) := Lib.hid ⟨hr1, hJ [] W w1 none h0 ho1.grownNone (fun r e => by cases e), by simp, Nat.le_refl _⟩
  clear hr1 ho1 hs1 h0 hm hM
  simp only [Act.put, List.setIfInBounds_toArray, List.set_cons_zero, List.set_cons_succ]
  gi_loopw [3] (fun u wr => Hid (∃ pre left, KeysInv J L b W.heap.size W.heap.size pre left wr)) (fun u wr => wr.rangeLeft b W.heap.size)
  case atStart => exact Lib.hid ⟨_, _, I0.out⟩
  case round =>
    obtain ⟨pre, left, hi⟩ := hrel.out
    have HI := Lib.hid hi
    have RG := Lib.hid hi.rng
    clear hi hrel
    gi_wp2_with (gi_at_next; refine wpListIn_next_at _ rfl (.tmp 5) rfl b W.heap.size .u64 L left rfl RG.out ?_ ?_)
    · intro hnil
      have HN := Lib.hid hnil
      clear hnil
      gi_wp2_with fail
      go_end0
      refine ⟨⟨_, rfl⟩, .inl ⟨pre, ?_, HI.out.j⟩⟩
      have h := HI.out.perm
      rw [HN.out] at h
      simpa using h
    · intro k v w2 hmem hr2 ho2 hs2 hen
      have PN := Lib.hid (perm_rm (RG.out.nodup ⟨pre, HI.out.perm⟩) hmem)
      have J2 : J pre w2 := hJ pre _ w2 (some W.heap.size) HI.out.j ho2.grownBy (fun r e => by cases e; exact ⟨Nat.le_refl _, RG.out.isWalk⟩)
      have hlen : pre.length < L.length := by
        have h1 := HI.out.perm.length_eq
        simp only [List.length_append, List.length_map] at h1
        have h2 : 0 < left.length := List.length_pos_of_mem hmem
        omega
      have HM := Lib.hid hmem
      have R2 := Lib.hid hr2
      obtain ⟨fn, tmps, assign, body, hy, hR⟩ := hY pre k w2 J2 hlen
      clear hmem hr2 ho2 hs2 J2 hlen
      gi_wp2_with fail
      refine hR.mono ?_
      rintro e W3 (⟨rfl, hJ3, hk3⟩ | ⟨rfl, hJx3⟩)
      · have N3 : Hid (KeysInv J L b W.heap.size W.heap.size (pre ++ [k]) (rm k left) W3) := Lib.hid ⟨R2.out.walks hk3, hJ3, by
          have h := HI.out.perm
          refine List.Perm.trans ?_ h
          rw [List.append_assoc]
          exact List.Perm.append_left _ PN.out.symm, Nat.le_refl _⟩
        clear hJ3 hk3 hR hy hen
        gi_wp2_with fail
        go_roundw
        case rel => exact Lib.hid ⟨_, _, N3.out⟩
        case measure =>
          rw [N3.out.rng.left_eq, RG.out.left_eq]
          exact rm_lt HM.out
      · gi_wp2_with fail
        refine bodyPost_ret (results_none rfl _ _ _) rfl ?_
        exact ⟨⟨_, rfl⟩, .inr ⟨_, trivial, hJx3⟩⟩
set_option maxRecDepth 100000 in
set_option maxHeartbeats 2000000 in
theorem keys1_vs_nil (n : Nat) (l Bm : Nat) (J : List Int → World → Prop) (W : World) (hJ : AbidesFrom W.heap.size J)
    (hm : W.cell? ⟨Bm, 0, none⟩ = some (.map none)) (h0 : J [] W) :
    CallsIn Fence.wide n Tryz.prog 85 #[.func (.yield l) #[] #[], .pointer (some ⟨Bm, 0, none⟩)] W fun e W' => (∃ v, e = .returned v) ∧ J [] W' := by
  have hro : Fence.wide.round = none := rfl
  refine callsIn_of_wp Tryz.func85 rfl trivial ?_ hro
  simp only [Tryz.ntmps85, List.size_toArray, List.length_cons, List.length_nil, Nat.reduceAdd, Nat.reduceSub, Array.replicate_succ, Array.replicate_zero, List.push_toArray, List.append_toArray, List.nil_append, List.cons_append]
  have hrg := run_range_nilMap (P := Tryz.prog) W 61 30 76 Tryz.underlying61
  have hnx : ∀ ty, (Instr.next (.pointer (some ⟨W.heap.size, 0, none⟩)) false ty).run Tryz.prog (W.alloc (.mapIter none 0 #[] 0)) = _ := fun ty => run_next_nilMap _ ty 0 0 #[]
  gi_wp2
  refine wpIn_loop_rounds 1 ?_
  rw [roundsIn_succ]
  gi_wp2
  go_end0
  exact ⟨⟨_, rfl⟩, hJ [] W _ none h0 (World.grownBy_alloc W _ none) (fun r e => by cases e)⟩
theorem keys_stops_vs (n : Nat) (hn : 1 ≤ n) (Bm : Nat) (v : Value) (L : List (Int × Value)) (w : World) (hBm : Bm < w.heap.size) (hm : w.cell? ⟨Bm, 0, none⟩ = some v) (hM : MapV w v .u64 L) :
    SeqStopsK Fence.wide n Tryz.prog 85 #[.pointer (some ⟨Bm, 0, none⟩)] (fun x : Int => #[Value.int .u64 x]) KeepsWalks (fun ys => ys.Perm (L.map (·.1))) (fun _ => True) L.length w := fun l J Jx W hW hJ _ hY h0 => by
  rcases hM with ⟨rfl, rfl⟩ | ⟨b, rfl, hM⟩
  · refine (keys1_vs_nil n l Bm J W hJ ((hW.cell (p := ⟨Bm, 0, none⟩) hBm).trans hm) h0).mono ?_
    rintro e W' ⟨he, hj⟩
    exact ⟨he, .inl ⟨[], List.Perm.refl _, hj⟩⟩
  · exact keys1_vs n hn l Bm b L J Jx W hJ hY ((hW.cell (p := ⟨Bm, 0, none⟩) hBm).trans hm) (hM.of_block (hW.block b hM.lt)) h0
/-- maps.Keys: the box, and the function over it. -/
theorem keys_vs_any (m : Option Nat) (w : World) : Calls Tryz.prog 71 #[.map m] w fun e w' => e = .returned (.func (.func 85) #[] #[.pointer (some ⟨w.heap.size, 0, none⟩)]) ∧ w' = w.alloc (.cells #[.map m] 61) := by
  go_enter Tryz.func71, Tryz.ntmps71
  go_wp2
  go_ret
  exact ⟨rfl, rfl⟩
theorem keys_vs_enters : ∀ args w, (callFunc 85 args).run Tryz.prog w = .ok (.enter 85 args) w := enters_of Tryz.func85 (by kernel_rfl) rfl

set_option maxRecDepth 100000 in
set_option maxHeartbeats 2000000 in
theorem keys1_vr (n : Nat) (hn : 1 ≤ n) (l Bm b : Nat) (L : List (Int × Value)) (J Jx : List Int → World → Prop) (W : World) (hJ : AbidesFrom W.heap.size J)
    (hY : ∀ pre x W1, J pre W1 → pre.length < L.length → YieldAt Fence.wide (n - 1) Tryz.prog l #[.int .u64 x] W1 fun e W' =>
      (e = .returned (.bool true) ∧ J (pre ++ [x]) W' ∧ KeepsWalks W1 W') ∨ (e = .returned (.bool false) ∧ Jx (pre ++ [x]) W'))
    (hm : W.cell? ⟨Bm, 0, none⟩ = some (.map (some b))) (hM : MapAt W b .u64 L) (h0 : J [] W) :
    CallsIn Fence.wide n Tryz.prog 86 #[.func (.yield l) #[] #[], .pointer (some ⟨Bm, 0, none⟩)] W fun e W' => (∃ v, e = .returned v) ∧
      ((∃ ys, ys.Perm (L.map (·.1)) ∧ J ys W') ∨ (∃ pre, True ∧ Jx pre W')) := by
  have hro : Fence.wide.round = none := rfl
  refine callsIn_of_wp Tryz.func86 rfl trivial ?_ hro
  simp only [Tryz.ntmps86, List.size_toArray, List.length_cons, List.length_nil, Nat.reduceAdd, Nat.reduceSub, Array.replicate_succ, Array.replicate_zero, List.push_toArray, List.append_toArray, List.nil_append, List.cons_append]
  gi_wp2_with (gi_at_range; refine wpListIn_range_at _ rfl (.tmp 4) 82 rfl 30 79 .u64 Tryz.underlying82 b L rfl hM ?_; intro w1 hr1 ho1 hs1)
  have S1 := Lib.hid hs1
  have I0 : Hid (KeysInv J L b W.heap.size W.heap.size [] L w1) := Lib.hid ⟨hr1, hJ [] W w1 none h0 ho1.grownNone (fun r e => by cases e), by simp, Nat.le_refl _⟩
  clear hr1 ho1 hs1 h0 hm hM
  simp only [Act.put, List.setIfInBounds_toArray, List.set_cons_zero, List.set_cons_succ]
  gi_loopw [3] (fun u wr => Hid (∃ pre left, KeysInv J L b W.heap.size W.heap.size pre left wr)) (fun u wr => wr.rangeLeft b W.heap.size)
  case atStart => exact Lib.hid ⟨_, _, I0.out⟩
  case round =>
    obtain ⟨pre, left, hi⟩ := hrel.out
    have HI := Lib.hid hi
    have RG := Lib.hid hi.rng
    clear hi hrel
    gi_wp2_with (gi_at_next; refine wpListIn_next_at _ rfl (.tmp 5) rfl b W.heap.size .u64 L left rfl RG.out ?_ ?_)
    · intro hnil
      have HN := Lib.hid hnil
      clear hnil
      gi_wp2_with fail
      go_end0
      refine ⟨⟨_, rfl⟩, .inl ⟨pre, ?_, HI.out.j⟩⟩
      have h := HI.out.perm
      rw [HN.out] at h
      simpa using h
    · intro k v w2 hmem hr2 ho2 hs2 hen
      have PN := Lib.hid (perm_rm (RG.out.nodup ⟨pre, HI.out.perm⟩) hmem)
      have J2 : J pre w2 := hJ pre _ w2 (some W.heap.size) HI.out.j ho2.grownBy (fun r e => by cases e; exact ⟨Nat.le_refl _, RG.out.isWalk⟩)
      have hlen : pre.length < L.length := by
        have h1 := HI.out.perm.length_eq
        simp only [List.length_append, List.length_map] at h1
        have h2 : 0 < left.length := List.length_pos_of_mem hmem
        omega
      have HM := Lib.hid hmem
      have R2 := Lib.hid hr2
      obtain ⟨fn, tmps, assign, body, hy, hR⟩ := hY pre k w2 J2 hlen
      clear hmem hr2 ho2 hs2 J2 hlen
      gi_wp2_with fail
      refine hR.mono ?_
      rintro e W3 (⟨rfl, hJ3, hk3⟩ | ⟨rfl, hJx3⟩)
      · have N3 : Hid (KeysInv J L b W.heap.size W.heap.size (pre ++ [k]) (rm k left) W3) := Lib.hid ⟨R2.out.walks hk3, hJ3, by
          have h := HI.out.perm
          refine List.Perm.trans ?_ h
          rw [List.append_assoc]
          exact List.Perm.append_left _ PN.out.symm, Nat.le_refl _⟩
        clear hJ3 hk3 hR hy hen
        gi_wp2_with fail
        go_roundw
        case rel => exact Lib.hid ⟨_, _, N3.out⟩
        case measure =>
          rw [N3.out.rng.left_eq, RG.out.left_eq]
          exact rm_lt HM.out
      · gi_wp2_with fail
        refine bodyPost_ret (results_none rfl _ _ _) rfl ?_
        exact ⟨⟨_, rfl⟩, .inr ⟨_, trivial, hJx3⟩⟩
set_option maxRecDepth 100000 in
set_option maxHeartbeats 2000000 in
theorem keys1_vr_nil (n : Nat) (l Bm : Nat) (J : List Int → World → Prop) (W : World) (hJ : AbidesFrom W.heap.size J)
    (hm : W.cell? ⟨Bm, 0, none⟩ = some (.map none)) (h0 : J [] W) :
    CallsIn Fence.wide n Tryz.prog 86 #[.func (.yield l) #[] #[], .pointer (some ⟨Bm, 0, none⟩)] W fun e W' => (∃ v, e = .returned v) ∧ J [] W' := by
  have hro : Fence.wide.round = none := rfl
  refine callsIn_of_wp Tryz.func86 rfl trivial ?_ hro
  simp only [Tryz.ntmps86, List.size_toArray, List.length_cons, List.length_nil, Nat.reduceAdd, Nat.reduceSub, Array.replicate_succ, Array.replicate_zero, List.push_toArray, List.append_toArray, List.nil_append, List.cons_append]
  have hrg := run_range_nilMap (P := Tryz.prog) W 82 30 79 Tryz.underlying82
  have hnx : ∀ ty, (Instr.next (.pointer (some ⟨W.heap.size, 0, none⟩)) false ty).run Tryz.prog (W.alloc (.mapIter none 0 #[] 0)) = _ := fun ty => run_next_nilMap _ ty 0 0 #[]
  gi_wp2
  refine wpIn_loop_rounds 1 ?_
  rw [roundsIn_succ]
  gi_wp2
  go_end0
  exact ⟨⟨_, rfl⟩, hJ [] W _ none h0 (World.grownBy_alloc W _ none) (fun r e => by cases e)⟩
theorem keys_stops_vr (n : Nat) (hn : 1 ≤ n) (Bm : Nat) (v : Value) (L : List (Int × Value)) (w : World) (hBm : Bm < w.heap.size) (hm : w.cell? ⟨Bm, 0, none⟩ = some v) (hM : MapV w v .u64 L) :
    SeqStopsK Fence.wide n Tryz.prog 86 #[.pointer (some ⟨Bm, 0, none⟩)] (fun x : Int => #[Value.int .u64 x]) KeepsWalks (fun ys => ys.Perm (L.map (·.1))) (fun _ => True) L.length w := fun l J Jx W hW hJ _ hY h0 => by
  rcases hM with ⟨rfl, rfl⟩ | ⟨b, rfl, hM⟩
  · refine (keys1_vr_nil n l Bm J W hJ ((hW.cell (p := ⟨Bm, 0, none⟩) hBm).trans hm) h0).mono ?_
    rintro e W' ⟨he, hj⟩
    exact ⟨he, .inl ⟨[], List.Perm.refl _, hj⟩⟩
  · exact keys1_vr n hn l Bm b L J Jx W hJ hY ((hW.cell (p := ⟨Bm, 0, none⟩) hBm).trans hm) (hM.of_block (hW.block b hM.lt)) h0
/-- maps.Keys: the box, and the function over it. -/
theorem keys_vr_any (m : Option Nat) (w : World) : Calls Tryz.prog 73 #[.map m] w fun e w' => e = .returned (.func (.func 86) #[] #[.pointer (some ⟨w.heap.size, 0, none⟩)]) ∧ w' = w.alloc (.cells #[.map m] 82) := by
  go_enter Tryz.func73, Tryz.ntmps73
  go_wp2
  go_ret
  exact ⟨rfl, rfl⟩
theorem keys_vr_enters : ∀ args w, (callFunc 86 args).run Tryz.prog w = .ok (.enter 86 args) w := enters_of Tryz.func86 (by kernel_rfl) rfl
end Go.Proofs.YtmbmkfhdiljalaaGreat

/- Plain: slices.AppendSeq, Collect at uint64, over whatever iterator; behind a row of the call's own. -/
namespace Go.Proofs.YtmbmkfhdiljalaaGreat
open Go.RowKit Go.Shelf
set_option linter.unusedVariables false
set_option linter.unusedSimpArgs false
attribute [local go_sem] Oper.semAt_some

abbrev tU : TypeId := 30
theorem infoU64 : (Tryz.prog.info? 30).map (fun i => (i.zero, i.size, i.bytes)) = some (some (.int .u64 0), 1, 8) := by kernel_rfl
/-- A row of numbers, grown by what the iterator gives. -/
def AppTo (S : List Int → Prop) (B : Nat) (xs : List Int) (v0 : Value) (w : World) (e : Ending) (w' : World) : Prop := ∃ ys v, S ys ∧ e = .returned v ∧ w'.ownsRow B tU 1 v (xs.length + ys.length) ((xs ++ ys).map (Value.int .u64)) ∧ (ys = [] → v = v0) ∧ Below B w w'
set_option maxRecDepth 100000 in
set_option maxHeartbeats 2000000 in
theorem appendSeq_in {gf : Nat} {lb : Array Value} {S Sp : List Int → Prop} {N : Nat} (n : Nat) (hn : 3 ≤ n) (B : Nat) (xs : List Int) (p0 : Option Addr) (n0 c0 : Nat) (w : World) (hB : B ≤ w.heap.size) (hv : w.ownsRow B tU 1 (.slice p0 n0 c0) xs.length (xs.map (Value.int .u64))) (hseq : SeqStopsK Fence.wide (n - 1) Tryz.prog gf lb (fun x : Int => #[Value.int .u64 x]) KeepsWalks S Sp N w) (eg : ∀ args w, (callFunc gf args).run Tryz.prog w = .ok (.enter gf args) w) (hN : xs.length + N ≤ 1000000) :
    CallsIn Fence.wide n Tryz.prog 72 #[.slice p0 n0 c0, .func (.func gf) #[] lb] w (AppTo S B xs (.slice p0 n0 c0) w) := by
  have hro : Fence.wide.round = none := rfl
  have h1 : 1 ≤ n := by omega
  obtain ⟨i0, hi, hz0, hz1, hz2⟩ := info_parts infoU64
  refine callsIn_of_wp_marks Tryz.func72 rfl trivial ?_ hro
  simp only [Tryz.ntmps72, List.size_toArray, List.length_cons, List.length_nil, Nat.reduceAdd, Nat.reduceSub, Array.replicate_succ, Array.replicate_zero, List.push_toArray, List.append_toArray, List.nil_append, List.cons_append]
  gi_wp2_with fail
  have bO := Boxed.new w 54 (.slice p0 n0 c0)
  have hB0 : Below w.heap.size w (w.alloc (.cells #[.slice p0 n0 c0] 54)) := (Below.refl _ w).alloc (Nat.le_refl _) _
  refine wpIn_rangeFunc_ownG hro h1 (gf := gf) (lb := lb) rfl trivial eg hseq walksK_t walksK_b hB0 (fun _ => rfl)
    (fun pre W => (∃ v, Boxed W w.heap.size 54 v ∧ W.ownsRow B tU 1 v (xs.length + pre.length) ((xs ++ pre).map (Value.int .u64)) ∧ (pre = [] → v = .slice p0 n0 c0)) ∧ Below B w W)
    (fun _ _ _ => False)
    (OwnFrom.and (Own.from (holdsRow_own B w.heap.size 54 tU 1 (fun pre : List Int => xs.length + pre.length) (fun pre : List Int => (xs ++ pre).map (Value.int .u64)) (fun pre v => pre = [] → v = .slice p0 n0 c0)) _) (ownFrom_below hB (by simp; omega)))
    (fun _ _ _ _ _ hs _ _ => hs)
    ⟨⟨_, bO, by simpa using hv.alloc _, fun _ => rfl⟩, hB0.mono hB⟩
    (fun x => { tmps := #[.slice p0 n0 c0, .func (.func gf) #[] lb, .pointer (some ⟨w.heap.size, 0, none⟩), undef, .slice none 0 0, .int .u64 x, .func (.func gf) #[] lb, .int .u64 x, undef, undef, undef, undef, undef], defers := [] }) ?assign ?body ?done ?stop
  case assign =>
    intro l x W K hK
    gi_wp2
    exact hK
  case body =>
    rintro l pre x W ⟨⟨v, hv, hrow, hnil⟩, hBw⟩ hlt
    have hc := hv.cell
    have hBW : B ≤ W.heap.size := Nat.le_trans hB hBw.size
    gi_wp2_with (gi_at_builtin; refine wpListIn_append_own _ rfl _ _ 54 rfl B 30 i0 (.int .u64 0) 1 8 Tryz.underlying54 hi hz0 hz1 hz2 rfl (by decide) _ _ _ rfl (hrow.alloc _) ⟨W.heap.size, 0, none⟩ 1 1 [.int .u64 x] rfl rfl (cell_one_new _ _ _) (by simp [Value.oneCell']) (by unfold maxLen; omega) (by omega) (by simp; omega) ?_; intro v' w1 hown' hgrow _; obtain ⟨g', cap', rfl⟩ := ownsRow_succ hown'; obtain ⟨hv1, hv2, hr2, hk2, hb2⟩ := hv.appended (by decide) hrow hBW hB hown' hgrow; have hc1 := hv1.cell; have hf1 := hv1.frozen)
    exact ⟨hk2.from _, ⟨hk2.size, fun k o h hw => hk2.same k o h (Obj.not_cells_of_walk hw)⟩, ⟨_, hv2, by simpa [Nat.add_assoc] using hr2, fun e => by simp at e⟩, hBw.trans hb2⟩
  case done =>
    rintro D ys W hD hS ⟨⟨v, hv, hrow, hnil⟩, hBw⟩ hK
    have hc := hv.cell
    gi_wp2
    refine ⟨by simp, .inl ⟨_, _, rfl, run_takeDeferred hK, ?_⟩⟩
    exact ⟨_, results_tmp rfl _ _ _, ys, v, hS, rfl, ownsRow_putObj hrow _ hK rfl, hnil, hBw.trans (belowK_b (w := w) (by simpa using hB) W D _ _ (by simp at hD; omega) hK rfl rfl)⟩
  case stop =>
    rintro D c pre W _ _ h _
    exact h.elim
set_option maxHeartbeats 1000000 in
theorem collect_any {gf : Nat} {lb : Array Value} {S Sp : List Int → Prop} {N : Nat} (w : World) (hseq : SeqStopsK Fence.wide 3 Tryz.prog gf lb (fun x : Int => #[Value.int .u64 x]) KeepsWalks S Sp N w) (eg : ∀ args w, (callFunc gf args).run Tryz.prog w = .ok (.enter gf args) w) (hN : N ≤ 1000000) :
    Calls Tryz.prog 70 #[.func (.func gf) #[] lb] w (AppTo S w.heap.size [] (.slice none 0 0) w) := by
  have C := Lib.hid (callsIn_wide.1 (appendSeq_in 4 (by omega) w.heap.size [] none 0 0 w (Nat.le_refl _) (World.ownsRow_nil _ _ _ _) hseq eg (by simpa using hN)))
  clear hseq eg
  unfold AppTo at C
  go_enter Tryz.func70, Tryz.ntmps70
  go_wp2_with fail
  refine C.out.mono ?_
  rintro _ w1 ⟨xs, v, hs, rfl, ho, hn, hb⟩
  have P : Hid (S xs ∧ w1.ownsRow w.heap.size 30 1 v ([].length + xs.length) (([] ++ xs).map (Value.int .u64)) ∧ (xs = [] → v = .slice none 0 0) ∧ Below w.heap.size w w1) := Lib.hid ⟨hs, ho, hn, hb⟩
  clear hs ho hb hn C
  go_wp2_with fail
  go_ret
  exact ⟨xs, v, P.out.1, rfl, P.out.2⟩
end Go.Proofs.YtmbmkfhdiljalaaGreat
