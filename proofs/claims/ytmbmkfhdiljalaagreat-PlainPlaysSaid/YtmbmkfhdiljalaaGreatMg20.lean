/- Plain: Crash, Delete. -/
import Derived.Test.YtmbmkfhdiljalaaGreatMg19
import Derived.Test.YtmbmkfhdiljalaaGreatMg14
namespace Go.Proofs.YtmbmkfhdiljalaaGreat
open Go.RowKit Go.ChangeShapes Go.WideShapes Go.ChangeAt
open Go.ChangeMaps (setBlock)
set_option linter.unusedVariables false
set_option linter.unusedSimpArgs false

theorem run_clear_map {P : Program} {w : World} {t kt et ty : TypeId} {b : Nat} {es : Array MapEntry} {clock : Nat} (ht : P.underlying t = some (.map kt et)) (hb : w.heap[b]? = some (.map es clock)) :
    (Builtin.clear_ #[t] ty #[.map (some b)]).run P w = .ok (.tuple #[]) (setBlock w b (.map #[] clock)) := by
  simp [Builtin.clear_, run_underlying ht, MapKept.run_getObj_map hb, MapKept.run_setObj_map _ hb, Result.andThen, setBlock]
theorem MapAt.cleared {w : World} {b : Nat} {q : IntKind} {L : List (Int × Value)} {P : Program} {t kt et ty : TypeId} (h : MapAt w b q L) (ht : P.underlying t = some (.map kt et)) :
    ∃ w', (Builtin.clear_ #[t] ty #[.map (some b)]).run P w = .ok (.tuple #[]) w' ∧ MapAt w' b q [] ∧ Only [b] w w' := by
  obtain ⟨es, clock, hb, hs, hL⟩ := h
  refine ⟨_, run_clear_map ht hb, ⟨#[], clock, ?_, MapKept.stamped_empty clock, rfl⟩, setBlock_only⟩
  simp only [setBlock]
  rw [Array.getElem?_setIfInBounds_self_of_lt (Array.getElem?_eq_some_iff.1 hb).1]
def crashP (D : PDB) : PDB := { D with op := [] }
theorem DbAt.crashed {w w' : World} {B p ba bo : Nat} {D : PDB} (h : DbAt w B p ba bo D) (k : Only [bo] w w') (hm : MapAt w' bo .u64 []) : DbAt w' B p ba bo (crashP D) := by
  obtain ⟨a1, a2, a3, a4⟩ := own_apart h.nd
  have hbo : bo ∈ D.own p ba bo := by simp [PDB.own]
  have hsub : ∀ b ∈ (crashP D).own p ba bo, b ∈ D.own p ba bo := fun b hb => by simp [PDB.own, crashP, pxB] at hb ⊢; rcases hb with h | h | h <;> simp [h]
  have hrd : ∀ b ∈ (crashP D).reads, b ∈ D.reads := fun b hb => by simp [PDB.reads, crashP] at hb; exact List.mem_append_left _ (by simpa using hb)
  refine ⟨h.row.only k (by simp; exact a2), h.am.only k (by simp; exact a3), hm, by simp [crashP], fun x hx => (h.vsd x hx).only k fun b hb => by simp; rintro rfl; exact h.ap _ hbo (mem_reads1 (D := D) hx hb), by simp [crashP], ?_, fun b hb => h.ge b (hsub b hb), fun b hb => h.gr b (hrd b hb), fun b hb hr => h.ap b (hsub b hb) (hrd b hr), ⟨h.fine.dim, h.fine.begun, h.fine.last, by simp [crashP]⟩⟩
  simp [PDB.own, crashP, pxB]
  exact ⟨⟨a1, a2⟩, a3⟩
theorem crash_on {w : World} {B p : Nat} {D : PDB} {F H : List Nat} (h : DbF w B p D F H) :
    Calls Tryz.prog 11 #[.pointer (some ⟨p, 0, none⟩)] w (DbTo (.int .i64 0) B p (crashP D) F H w) := by
  obtain ⟨ba, bo, h, rfl, rfl⟩ := h
  have TH := Lib.hid (there_on h.row)
  have c4 : w.cell? ⟨p, 4, none⟩ = some (.map (some bo)) := h.row.cell 4
  have HH := Lib.hid h
  obtain ⟨es, clock, hb0, hs0, hL0⟩ := h.om
  have hcl : ∀ ty, (Builtin.clear_ #[tMpx] ty #[.map (some bo)]).run Tryz.prog w = .ok (.tuple #[]) (setBlock w bo (.map #[] clock)) := fun ty => run_clear_map Tryz.underlying62 hb0
  have N : Hid (DbAt (setBlock w bo (.map #[] clock)) B p ba bo (crashP D) ∧ Only [bo] w (setBlock w bo (.map #[] clock))) := Lib.hid ⟨h.crashed setBlock_only ⟨#[], clock, by
    simp only [setBlock]
    rw [Array.getElem?_setIfInBounds_self_of_lt (Array.getElem?_eq_some_iff.1 hb0).1], MapKept.stamped_empty clock, rfl⟩, setBlock_only⟩
  generalize setBlock w bo (.map #[] clock) = w2 at *
  clear h hb0 hs0 hL0
  go_enter Tryz.func11, Tryz.ntmps11
  go_wp2_with fail
  refine TH.out.mono ?_
  rintro _ w1 ⟨rfl, hw⟩
  subst w1
  go_wp2_with fail
  go_ret
  refine ⟨_, _, rfl, ⟨ba, bo, N.out.1, rfl, rfl⟩, N.out.2.mono (by intro i hi; simp at hi; subst hi; exact .inl (by simp [PDB.own])), fun b hb => ?_, fun b hb => ?_⟩
  · simp [PDB.own, crashP, pxB] at hb ⊢
    rcases hb with h | h | h <;> simp [h]
  · simp [PDB.reads, crashP] at hb
    exact .inl (List.mem_append_left _ (by simpa using hb))
def goneV : Ver := ⟨0, true, 0, Sl.no, Sl.no⟩
set_option maxRecDepth 100000 in
set_option maxHeartbeats 4000000 in
theorem delete_no_key {w : World} {B p ba bo : Nat} {D : PDB} (h : DbAt w B p ba bo D) (hs : Small D) {n key : Int} {o : PTx} (ho : findP n D.op = some o) (hv : visC (seesR D o key) = none) :
    Calls Tryz.prog 24 #[.pointer (some ⟨p, 0, none⟩), .int .u64 n, .int .u64 key] w (RefTo (.int .i64 7) w) := by
  obtain ⟨hom, rfl⟩ := findP_some ho
  have FI := Lib.hid (find_yes h ho)
  have SE := Lib.hid (sees_on h hom key (by have := hs.vers key; omega))
  unfold AsOfTo at SE
  obtain ⟨q, b1, m1, d1, b2, m2, d2, hit⟩ := itemV_shape (seesR D o key)
  rw [visC_none hv, hit] at SE
  clear h hs ho hom hv hit
  go_enter Tryz.func24, Tryz.ntmps24
  go_wp2_with fail
  refine FI.out.mono ?_
  rintro _ w1 ⟨rfl, hw⟩
  subst w1
  go_wp2_with fail
  refine SE.out.mono ?_
  rintro _ w1 ⟨rfl, hb⟩
  have B1 := Lib.hid hb
  clear hb SE FI
  go_wp2_with fail
  go_ret
  exact ⟨rfl, B1.out.alloc B1.out.size _⟩
set_option maxRecDepth 100000 in
set_option maxHeartbeats 4000000 in
theorem delete_key {w : World} {B p : Nat} {D : PDB} {F H : List Nat} (h : DbF w B p D F H) (hB : B ≤ w.heap.size) (hs : Small D) {n key : Int} {o : PTx} (ho : findP n D.op = some o) {c : Rc} (hv : visC (seesR D o key) = some c) :
    Calls Tryz.prog 24 #[.pointer (some ⟨p, 0, none⟩), .int .u64 n, .int .u64 key] w (DbTo (.int .i64 0) B p (wroteP D n key goneV) F H w) := by
  obtain ⟨ba, bo, h, rfl, rfl⟩ := h
  obtain ⟨hom, rfl⟩ := findP_some ho
  have FI := Lib.hid (find_yes h ho)
  have SE := Lib.hid (sees_on h hom key (by have := hs.vers key; omega))
  unfold AsOfTo at SE
  obtain ⟨v, hrv, hg, _⟩ := visC_some hv
  rw [show itemV (seesR D o key) = #[.int .u64 v.key, v.vec.v, v.tag.v] by rw [hrv]; rfl, show okV (seesR D o key) = true by rw [hrv]; simp [okV, hg]] at SE
  have HH := Lib.hid h
  have HM := Lib.hid hom
  have HBB := Lib.hid hB
  clear h hs ho hom hv hrv hg hB
  unfold Sl.v at SE
  go_enter Tryz.func24, Tryz.ntmps24
  go_wp2_with fail
  refine FI.out.mono ?_
  rintro _ w1 ⟨rfl, hw⟩
  subst w1
  go_wp2_with fail
  refine SE.out.mono ?_
  rintro _ w1 ⟨rfl, hb⟩
  have K1 : Hid (Only [] w (w1.alloc (.cells #[.int .u64 v.key, .slice v.vec.a v.vec.xs.length v.vec.c, .slice v.tag.a v.tag.xs.length v.tag.c] tIt))) := Lib.hid (((Only.refl [] w).below hb).alloc _)
  clear hb SE FI
  go_upto_region 7 with fail
  generalize w1.alloc (.cells #[.int .u64 v.key, .slice v.vec.a v.vec.xs.length v.vec.c, .slice v.tag.a v.tag.xs.length v.tag.c] tIt) = w2 at *
  have t1 : w2.cell? ⟨o.bt, 1, none⟩ = some (.map (some o.bm)) := ((HH.out.oa o HM.out).1.only K1.out (by simp)).cell 1
  have OM := Lib.hid ((HH.out.oa o HM.out).2.only K1.out (by simp))
  go_wp2_with (at_mapUpdate; refine wpList_update_at _ rfl (.tmp 32) (.tmp 33) (.tmp 34) tMvr rfl 30 tVr .u64 Tryz.underlying82 Tryz.underlying30 o.bm (wrL o.wr) rfl OM.out key (.agg #[.int .u64 0, .bool true, .int .u64 0, .slice none 0 0, .slice none 0 0]) rfl rfl ?_; intro w3 hm3 ho3 hs3)
  have M3 := Lib.hid hm3
  have O3 := Lib.hid ho3
  clear hm3 ho3 hs3 t1
  go_wp2_with fail
  go_ret
  have hm := M3.out
  have ev : (Value.agg #[.int .u64 0, .bool true, .int .u64 0, .slice none 0 0, .slice none 0 0]) = goneV.val := rfl
  rw [ev, up_wrL] at hm
  obtain ⟨r1, r2⟩ := (HH.out.only K1.out (by simp)).wrote (k := key) (v := goneV) HM.out O3.out hm ⟨SlAt.no _ _, SlAt.no _ _⟩ (fun b hb => by simp [Ver.bs, goneV, Sl.bs, Sl.no] at hb) (fun b hb => by simp [Ver.bs, goneV, Sl.bs, Sl.no] at hb)
  refine ⟨_, _, rfl, ⟨ba, bo, r1, rfl, rfl⟩, (K1.out.mono (by simp)).trans O3.out (by intro b hb; simp at hb; subst hb; exact .inl (by simp [PDB.own, (mem_pxB HM.out).2])), fun b hb => .inl (by rw [wroteP_own] at hb; exact hb), fun b hb => ?_⟩
  rcases r2 b hb with hb | hb
  · exact .inl hb
  · simp [Ver.bs, goneV, Sl.bs, Sl.no] at hb
end Go.Proofs.YtmbmkfhdiljalaaGreat

/- Plain: Vacuum. -/
namespace Go.Proofs.YtmbmkfhdiljalaaGreat
open Go.RowKit Go.ChangeShapes Go.WideShapes Go.ChangeAt
open Go.ChangeMaps (setBlock)
open Go.MapKept (Stamped)
set_option linter.unusedVariables false
set_option linter.unusedSimpArgs false

theorem modify_filter {α : Type} (p : α → Bool) (f : α → α) : ∀ (l : List α) (i : Nat), (∀ e, l[i]? = some e → p e = false ∧ p (f e) = false) → (l.modify i f).filter p = l.filter p
  | [], i, h => by simp
  | a :: l, 0, h => by
    obtain ⟨h1, h2⟩ := h a rfl
    simp [h1, h2]
  | a :: l, i + 1, h => by
    simp only [List.modify_succ_cons, List.filter_cons, modify_filter p f l i (fun e he => h e (by simpa using he))]
/-- A range goes on over a map in which the element at a key that has come was laid anew. -/
theorem Rng.updated {w : World} {b r : Nat} {q : IntKind} {L left : List (Int × Value)} {es : Array MapEntry} {clock : Nat} (h : Rng w b r q L left) (hb : w.heap[b]? = some (.map es clock)) (hs : Stamped es clock) (hL : KVs q es L) {k : Int} (v : Value) (hk : ∃ u, (k, u) ∈ L) (hl : ∀ x ∈ left, x.1 ≠ k) (hne : r ≠ b) :
    Rng (setBlock w b (upObj es clock q k v L)) b r q (up k v L) left := by
  obtain ⟨es0, clock0, since, seen, c0, h1, h2, h3, h4, h5, h6, h7, h8⟩ := h
  rw [hb] at h1
  cases h1
  cases hi : ix k L 0 with
  | none =>
    obtain ⟨u, hu⟩ := hk
    exact absurd rfl ((ix_none hi).2 _ hu)
  | some pr =>
    obtain ⟨i, u⟩ := pr
    obtain ⟨es', clock', ho, hs', hL'⟩ := upd_facts (es := es) (clock := clock) (q := q) (L := L) hs hL k v
    have ho2 : upObj es clock q k v L = .map (es.modify i fun e => { e with key := .int q k, val := v }) clock := by unfold upObj; rw [hi]
    rw [ho2] at ho
    cases ho
    have hlt : b < w.heap.size := (Array.getElem?_eq_some_iff.1 hb).1
    have hij := (ix_some hi).2.1
    rw [Nat.sub_zero] at hij
    obtain ⟨e0, he0, hk0, hv0⟩ := kvs_get hL hij
    have hseen : seen.contains e0.born = true := by
      cases hc : seen.contains e0.born with
      | true => rfl
      | false =>
        have hm : e0 ∈ (leftOf es seen).toList := by
          simp [leftOf]
          exact ⟨Array.mem_of_getElem? he0, by simpa using hc⟩
        have hm2 : (e0.key, e0.val) ∈ (leftOf es seen).toList.map (fun e => (e.key, e.val)) := List.mem_map.2 ⟨e0, hm, rfl⟩
        rw [h8] at hm2
        obtain ⟨x, hx, hxe⟩ := List.mem_map.1 hm2
        simp only [Prod.mk.injEq] at hxe
        rw [hk0] at hxe
        have := hl x hx
        simp at hxe
        exact absurd hxe.1 this
    have hfil : (leftOf (es.modify i fun e => { e with key := .int q k, val := v }) seen).toList = (leftOf es seen).toList := by
      simp only [leftOf, Array.toList_filter, Array.toList_modify]
      refine modify_filter _ _ _ _ fun e he => ?_
      have : e = e0 := by rw [Array.getElem?_toList, he0] at he; cases he; rfl
      subst this
      simp only [hseen, Bool.not_true, and_self]
    refine ⟨_, clock, since, seen, c0, ?_, hs', hL', ?_, ?_, h6, h7, by rw [hfil]; exact h8⟩
    · rw [ho2]
      simp only [setBlock]
      rw [Array.getElem?_setIfInBounds_self_of_lt hlt]
    · rw [turned_only.1 r hne]
      exact h4
    · intro x hx
      rw [Array.toList_modify] at hx
      obtain ⟨j, hj⟩ := List.mem_iff_getElem?.1 hx
      rw [List.getElem?_modify] at hj
      cases hy : es.toList[j]? with
      | none => rw [hy] at hj; simp at hj
      | some y =>
        rw [hy] at hj
        have hyb := h5 y (List.mem_of_getElem? hy)
        simp only [Option.map_eq_map, Option.map_some, Option.some.injEq] at hj
        subst hj
        split
        · exact hyb
        · exact hyb
/-- A copy of a row of versions. -/
def CloneVTo (vs : List Ver) (w : World) (e : Ending) (w' : World) : Prop := ∃ V2 : Vs, e = .returned V2.v ∧ V2.vs = vs ∧ VsAt w' V2 ∧ (∀ ad, V2.a = some ad → w.heap.size ≤ ad.block) ∧ Below w.heap.size w w'
set_option maxHeartbeats 2000000 in
theorem clone_vs {V : Vs} {w : World} (h : VsAt w V) (hl : V.vs.length ≤ 1000000) : Calls Tryz.prog 37 #[V.v] w (CloneVTo V.vs w) := by
  rcases h.src with ⟨hv, h0, hx⟩ | ⟨ad, c, hv, hlen, hc⟩
  · have hvs : V.vs = [] := List.length_eq_zero_iff.1 h0
    rw [hv, hvs]
    clear h hv h0 hx
    have qT : ∀ w : World, (binOp .eql tVrs (.slice none 0 0) (.slice none 0 0)).run Tryz.prog w = .ok (.bool true) w := fun w => by kernel_rfl
    go_enter Tryz.func37, Tryz.ntmps37
    go_wp2_with fail
    go_ret
    exact ⟨Vs.no, rfl, rfl, VsAt.no _, by simp [Vs.no], Below.refl _ _⟩
  · obtain ⟨i0, hi, hz0, hz1, hz2⟩ := info_parts infoVer
    have hs := Lib.hid h.src
    have HE := Lib.hid h.each
    have HL := Lib.hid hl
    rw [hv] at hs ⊢
    generalize V.vs = vs at *
    clear h hv hc
    obtain ⟨m, hm⟩ : ∃ m, vs.length = m := ⟨_, rfl⟩
    have HM := Lib.hid hm
    rw [hm] at hs ⊢
    clear hm hlen hl
    have qT : ∀ w : World, (binOp .eql tVrs (.slice (some ad) m c) (.slice none 0 0)).run Tryz.prog w = .ok (.bool false) w := fun w => by kernel_rfl
    have EM : Hid (World.ownsRow (w.alloc (.cells #[] tVr)) w.heap.size tVr 5 (.slice (some ⟨w.heap.size, 0, none⟩) 0 0) 0 []) := Lib.hid (World.ownsRow_lit w #[] 0 (Nat.le_refl _) (by simp) rfl)
    go_enter Tryz.func37, Tryz.ntmps37
    go_wp2_with (at_builtin; refine wpList_append_src rfl (.tmp 5) (.tmp 6) tVrs rfl w.heap.size tVr i0 _ 5 72 Tryz.underlying76 hi hz0 hz1 hz2 rfl (by decide) _ 0 [] rfl EM.out _ m (verL vs) rfl (hs.out.below ((Below.refl _ _).alloc (Nat.le_refl _) _)) (by intro u hu; obtain ⟨x, hx, hu⟩ := List.mem_flatMap.1 hu; simp [Ver.cells] at hu; rcases hu with rfl | rfl | rfl | rfl | rfl <;> simp [Value.oneCell', Sl.v]) (by have := HM.out; have := HL.out; unfold maxLen; omega) (by have := HM.out; have := HL.out; omega) (by simp) ?_; intro v' w1 hown' hgrow)
    have BB : Hid (Below w.heap.size w w1) := Lib.hid (((Below.refl _ _).alloc (Nat.le_refl _) _).grown hgrow (by simp) (fun k hk => by simp [Act.eval, Value.ownBlock] at hk; omega))
    rw [Nat.zero_add, List.nil_append] at hown'
    obtain ⟨V2, e1, e2, e3, e4⟩ := Vs.of_own hown' HM.out (fun u hu => (HE.out u hu).only ((Only.refl [] w).below BB.out) (by simp))
    have N : Hid (CloneVTo vs w (.returned v') w1) := Lib.hid ⟨V2, by rw [e1], e2, e3, e4, BB.out⟩
    clear hown' hgrow e1 e2 e3 e4
    obtain ⟨pa, pn, pc, rfl⟩ : ∃ a n c, v' = .slice a n c := by obtain ⟨V3, he, _⟩ := N.out; exact ⟨_, _, _, by simp only [Ending.returned.injEq] at he; exact he⟩
    go_wp2_with fail
    go_ret
    exact N.out
end Go.Proofs.YtmbmkfhdiljalaaGreat

/- Plain: Vacuum, the walk. -/
namespace Go.Proofs.YtmbmkfhdiljalaaGreat
open Go.RowKit Go.ChangeShapes Go.WideShapes Go.ChangeAt
open Go.ChangeMaps (setBlock)
set_option linter.unusedVariables false
set_option linter.unusedSimpArgs false

def lastL (vs : List Ver) : List Ver := vs.drop (vs.length - 1)
def vacL (D : PDB) (left : List (Int × Value)) (j : Int) : List Ver := if left.any (fun q => decide (q.1 = j)) then (vsOf D.all j).vs else lastL (vsOf D.all j).vs
structure VcInv (w : World) (B p ba bo r : Nat) (D : PDB) (left : List (Int × Value)) (all' : List (Int × Vs)) (wr : World) : Prop where
  rng : Rng wr ba r .u64 (vsL all') left
  db : DbAt wr B p ba bo { D with all := all' }
  at_ : ∀ j, (vsOf all' j).vs = vacL D left j
  keys : all'.map (·.1) = D.all.map (·.1)
  only : Only [ba] w wr
  kept : Kept D.reads ({ D with all := all' } : PDB).reads w
  nr : r ∉ ({ D with all := all' } : PDB).reads
theorem vsOf_of_mem {l : List (Int × Vs)} {x : Int × Vs} (hn : (l.map (·.1)).Nodup) (hx : x ∈ l) : vsOf l x.1 = x.2 := by
  unfold vsOf
  cases hf : l.find? fun y => decide (y.1 = x.1) with
  | none =>
    have := List.find?_eq_none.1 hf x hx
    simp at this
  | some y =>
    have hy := List.mem_of_find?_eq_some hf
    have hj : y.1 = x.1 := by simpa using List.find?_some hf
    have := eq_of_map hn hy hx hj
    simp [this]
theorem all_nodup {w : World} {b : Nat} {l : List (Int × Vs)} (h : MapAt w b .u64 (vsL l)) : (l.map (·.1)).Nodup := by
  have := h.nodup
  unfold vsL at this
  rw [List.map_map] at this
  exact this
theorem upS_keys {k : Int} {V : Vs} : ∀ {l : List (Int × Vs)}, k ∈ l.map (·.1) → (upS k V l).map (·.1) = l.map (·.1)
  | [], h => by simp at h
  | x :: l, h => by
    unfold upS
    by_cases e : k = x.1
    · rw [if_pos e]; simp [e]
    · rw [if_neg e]
      have h2 : k ∈ l.map (·.1) := by
        rcases List.mem_cons.1 (by simpa using h : k ∈ x.1 :: l.map (·.1)) with h | h
        · exact absurd h e
        · exact h
      simp [upS_keys h2]
theorem vacL_step {D : PDB} {left : List (Int × Value)} {k : Int} {u : Value} (h : (k, u) ∈ left) (j : Int) : vacL D (rm k left) j = if j = k then lastL (vsOf D.all k).vs else vacL D left j := by
  unfold vacL
  by_cases e : j = k
  · subst e
    have : (rm j left).any (fun q => decide (q.1 = j)) = false := by
      rw [Bool.eq_false_iff]
      intro hh
      obtain ⟨q, hq, he⟩ := List.any_eq_true.1 hh
      simp [rm] at hq
      simp at he
      exact hq.2 he
    rw [this, if_pos rfl]
    simp
  · rw [if_neg e]
    have : (rm k left).any (fun q => decide (q.1 = j)) = left.any (fun q => decide (q.1 = j)) := by
      rw [Bool.eq_iff_iff, List.any_eq_true, List.any_eq_true]
      constructor
      · rintro ⟨q, hq, he⟩; exact ⟨q, (mem_rm.1 hq).1, he⟩
      · rintro ⟨q, hq, he⟩
        refine ⟨q, mem_rm.2 ⟨hq, ?_⟩, he⟩
        simp at he
        rw [he]; exact e
    rw [this]
theorem vacL_still {D : PDB} {left : List (Int × Value)} {k : Int} {u : Value} (h : (k, u) ∈ left) : vacL D left k = (vsOf D.all k).vs := by
  unfold vacL
  have : left.any (fun q => decide (q.1 = k)) = true := List.any_eq_true.2 ⟨_, h, by simp⟩
  rw [this]; simp
theorem VcInv.step {w wr y wf : World} {B p ba bo r : Nat} {D : PDB} {left : List (Int × Value)} {all' : List (Int × Vs)} {x : Int × Vs} {V2 : Vs} {u : Ver} (h0 : DbAt w B p ba bo D) (hB : B ≤ w.heap.size) (hr : w.heap.size ≤ r)
    (h : VcInv w B p ba bo r D left all' wr) (hx : x ∈ all') (hm : (x.1, x.2.v) ∈ left) (k8 : Only [r] wr y) (hR : Rng wf ba r .u64 (up x.1 V2.v (vsL all')) (rm x.1 left))
    (hu : x.2.vs[x.2.vs.length - 1]? = some u) (hV : V2.vs = [u]) (hVa : VsAt y V2) (hVb : ∀ ad, V2.a = some ad → r < ad.block) (kf : Only [ba] y wf) :
    VcInv w B p ba bo r D (rm x.1 left) (upS x.1 V2 all') wf := by
  have hown : ∀ b ∈ D.own p ba bo, b < w.heap.size := h0.lt
  have hrr : r ∉ D.own p ba bo := fun hh => by have := hown r hh; omega
  have hba : ba ∈ D.own p ba bo := by simp [PDB.own]
  have D8 : DbAt y B p ba bo { D with all := all' } := h.db.only k8 (by intro b hb; simp at hb; subst hb; exact ⟨hrr, h.nr⟩)
  have humem : u ∈ x.2.vs := List.mem_of_getElem? hu
  have hub : ∀ b ∈ u.bs, b ∈ ({ D with all := all' } : PDB).reads := fun b hb => mem_reads1 (D := { D with all := all' }) hx (List.mem_append_right _ (List.mem_flatMap.2 ⟨u, humem, hb⟩))
  have hV2 : ∀ b ∈ V2.bs, (r < b ∧ w.heap.size ≤ b) ∨ b ∈ ({ D with all := all' } : PDB).reads := fun b hb => by
    rcases List.mem_append.1 hb with hb | hb
    · simp only [Option.mem_toList, Option.map_eq_some_iff] at hb
      obtain ⟨ad, ha, rfl⟩ := hb
      have := hVb ad ha
      exact .inl ⟨this, by omega⟩
    · rw [hV] at hb
      simp at hb
      exact .inr (hub b hb)
  have hVf : VsAt wf V2 := hVa.only kf fun b hb => by
    simp
    rintro rfl
    rcases hV2 b hb with h1 | h1
    · have := hown _ hba; omega
    · exact h.db.ap _ hba h1
  obtain ⟨d1, d2⟩ := D8.laid (key := x.1) (V := V2) kf hR.mapAt hVf (fun b hb => by
    rcases hV2 b hb with h1 | h1
    · omega
    · exact h.db.gr b h1) (fun b hb hh => by
    rcases hV2 b hb with h1 | h1
    · have := hown b hh; omega
    · exact h.db.ap b hh h1)
  have hkeys : x.1 ∈ all'.map (·.1) := List.mem_map.2 ⟨x, hx, rfl⟩
  have hxv : vsOf all' x.1 = x.2 := vsOf_of_mem (all_nodup h.db.am) hx
  refine ⟨by rw [← up_vsL]; exact hR, d1, fun j => ?_, by rw [upS_keys hkeys, h.keys], (h.only.trans k8 (by simp; omega)).trans kf (by simp), fun b hb => ?_, fun hh => ?_⟩
  · rw [vsOf_up, vacL_step hm]
    by_cases e : j = x.1
    · rw [if_pos e, if_pos e, hV]
      have h3 := h.at_ x.1
      rw [vacL_still hm, hxv] at h3
      rw [← h3]
      unfold lastL
      have hlen := (List.getElem?_eq_some_iff.1 hu).1
      have h4 : (x.2.vs.drop (x.2.vs.length - 1)).length = 1 := by simp; omega
      obtain ⟨z, hz⟩ := List.length_eq_one_iff.1 h4
      have h5 : (x.2.vs.drop (x.2.vs.length - 1))[0]? = some u := by rw [List.getElem?_drop]; simpa using hu
      rw [hz] at h5 ⊢
      simp at h5
      rw [h5]
    · rw [if_neg e, if_neg e]
      exact h.at_ j
  · rcases d2 b hb with h1 | h1
    · exact h.kept b h1
    · rcases hV2 b h1 with h2 | h2
      · exact .inr h2.2
      · exact h.kept b h2
  · rcases d2 r hh with h1 | h1
    · exact h.nr h1
    · rcases hV2 r h1 with h2 | h2
      · omega
      · exact h.nr h2
def VacTo (B p : Nat) (D : PDB) (F H : List Nat) (w : World) (e : Ending) (w' : World) : Prop := ∃ all', (all'.map (·.1) = D.all.map (·.1)) ∧ (∀ j, (vsOf all' j).vs = lastL (vsOf D.all j).vs) ∧ DbTo (.int .i64 0) B p { D with all := all' } F H w e w'
theorem vacuum_busy {w : World} {B p ba bo : Nat} {D : PDB} (h : DbAt w B p ba bo D) (hl : 0 < D.op.length) : Calls Tryz.prog 10 #[.pointer (some ⟨p, 0, none⟩)] w fun e w' => e = .returned (.int .i64 0) ∧ w' = w := by
  have c4 : w.cell? ⟨p, 4, none⟩ = some (.map (some bo)) := h.row.cell 4
  have TH := Lib.hid (there_on h.row)
  have HH := Lib.hid h.om
  have hlen : (0 : Int) < ((pxL D.op).length : Int) := by simp [pxL]; omega
  clear h
  go_enter Tryz.func10, Tryz.ntmps10
  go_wp2_with fail
  refine TH.out.mono ?_
  rintro _ w1 ⟨rfl, hw⟩
  subst w1
  go_wp2_with (at_len; refine wpList_len_at _ rfl (.tmp 14) tMpx rfl 30 81 .u64 Tryz.underlying62 bo (pxL D.op) rfl HH.out ?_)
  go_ret
  exact ⟨rfl, rfl⟩
set_option maxRecDepth 100000 in
set_option maxHeartbeats 8000000 in
theorem vacuum_on {w : World} {B p : Nat} {D : PDB} {F H : List Nat} (h : DbF w B p D F H) (hB : B ≤ w.heap.size) (hop : D.op = []) (hne : ∀ x ∈ D.all, x.2.vs ≠ []) :
    Calls Tryz.prog 10 #[.pointer (some ⟨p, 0, none⟩)] w (VacTo B p D F H w) := by
  obtain ⟨ba, bo, h, rfl, rfl⟩ := h
  have c4 : w.cell? ⟨p, 4, none⟩ = some (.map (some bo)) := h.row.cell 4
  have c3 : w.cell? ⟨p, 3, none⟩ = some (.map (some ba)) := h.row.cell 3
  have TH := Lib.hid (there_on h.row)
  have HH := Lib.hid h
  have HBB := Lib.hid hB
  have HNE := Lib.hid hne
  have hlen : ((pxL D.op).length : Int) = 0 := by simp [pxL, hop]
  clear h hB hop hne
  go_enter Tryz.func10, Tryz.ntmps10
  go_wp2_with fail
  refine TH.out.mono ?_
  rintro _ w1 ⟨rfl, hw⟩
  subst w1
  go_wp2_with (first | (at_len; refine wpList_len_at _ rfl (.tmp 14) tMpx rfl 30 81 .u64 Tryz.underlying62 bo (pxL D.op) rfl HH.out.om ?_) | (at_range; refine wpList_range_at _ rfl (.tmp 20) tMvs rfl 30 tVrs .u64 Tryz.underlying61 ba (vsL D.all) rfl HH.out.am ?_; intro w5 r5 o5 s5))
  have I5 : Hid (VcInv w B p ba bo w.heap.size D (vsL D.all) D.all w5) := Lib.hid ⟨r5, HH.out.only o5 (by simp), fun j => by
    unfold vacL vsOf
    cases hf : D.all.find? fun x => decide (x.1 = j) with
    | none => simp [lastL, Vs.no]
    | some y =>
      have hy := List.mem_of_find?_eq_some hf
      have hj : y.1 = j := by simpa using List.find?_some hf
      have : (vsL D.all).any (fun q => decide (q.1 = j)) = true := List.any_eq_true.2 ⟨(y.1, y.2.v), List.mem_map.2 ⟨y, hy, rfl⟩, by simp [hj]⟩
      simp [this], rfl, o5.mono (by simp), fun b hb => .inl hb, fun hr => by have := HH.out.ltr _ hr; omega⟩
  clear r5 o5 s5 c3 c4
  go_wp2_with fail
  simp only [Act.put, List.setIfInBounds_toArray, List.set_cons_zero, List.set_cons_succ]
  go_loopw [4, 5] (fun u v wr => Hid (∃ left all', VcInv w B p ba bo w.heap.size D left all' wr)) (fun u v wr => wr.rangeLeft ba w.heap.size)
  case atStart => exact Lib.hid ⟨_, _, I5.out⟩
  case round =>
    obtain ⟨left, all', hI⟩ := hrel.out
    have HI := Lib.hid hI
    clear hI hrel
    go_wp2_with (at_next; refine wpList_next_at _ rfl (.tmp 21) rfl ba w.heap.size .u64 (vsL all') left rfl HI.out.rng ?_ ?_)
    · intro hnil
      have HN := Lib.hid hnil
      clear hnil
      go_wp2_with fail
      go_ret
      exact ⟨all', HI.out.keys, fun j => by rw [HI.out.at_ j, HN.out]; simp [vacL], _, _, rfl, ⟨ba, bo, HI.out.db, rfl, rfl⟩, HI.out.only.mono (by intro i hi; simp at hi; subst hi; exact .inl (by simp [PDB.own])), fun b hb => .inl hb, HI.out.kept⟩
    · intro k v w6 hmem hr6 ho6 hs6 hen
      obtain ⟨x, hx, hkv⟩ := List.mem_map.1 (HI.out.rng.sub _ hmem)
      simp only [Prod.mk.injEq] at hkv
      obtain ⟨rfl, rfl⟩ := hkv
      have HX := Lib.hid hx
      have HM := Lib.hid hmem
      have R6 := Lib.hid hr6
      have O6 := Lib.hid ho6
      have hnr : w.heap.size ∉ D.own p ba bo := fun hh => by have := HH.out.lt _ hh; omega
      have D6 := Lib.hid (HI.out.db.only ho6 (by intro b hb; simp at hb; subst hb; exact ⟨hnr, HI.out.nr⟩))
      have VX := Lib.hid (D6.out.vsd x hx)
      have hxne : x.2.vs ≠ [] := by
        have h3 := HI.out.at_ x.1
        rw [vacL_still hmem, vsOf_of_mem (all_nodup HI.out.db.am) hx] at h3
        rw [h3]
        have hk : x.1 ∈ D.all.map (·.1) := by rw [← HI.out.keys]; exact List.mem_map.2 ⟨x, hx, rfl⟩
        obtain ⟨z, hz, hzk⟩ := List.mem_map.1 hk
        rw [← hzk, vsOf_of_mem (all_nodup HH.out.am) hz]
        exact HNE.out z hz
      obtain ⟨n, hn⟩ : ∃ n, x.2.vs.length = n := ⟨_, rfl⟩
      have hn1 : 1 ≤ n := by rw [← hn]; exact List.length_pos_iff.2 hxne
      obtain ⟨m, hm⟩ : ∃ m, n - 1 = m := ⟨_, rfl⟩
      obtain ⟨u, hu⟩ : ∃ u, x.2.vs[m]? = some u := ⟨_, List.getElem?_eq_getElem (by omega)⟩
      obtain ⟨b, f, ha, hc⟩ := Vs.at_ VX.out hu
      have hcap := VX.out.cap
      have HU := Lib.hid hu
      have HNM : Hid (x.2.vs.length = n ∧ n - 1 = m ∧ 1 ≤ n) := Lib.hid ⟨hn, hm, hn1⟩
      have V1 : Hid (VsAt w6 ⟨some ⟨b, f + m * 5, none⟩, x.2.c - m, [u]⟩) := Lib.hid (by
        refine ⟨.inr ⟨⟨b, f + m * 5, none⟩, x.2.c - m, rfl, rfl, fun j z hj => ?_⟩, fun ad had => ?_, fun z hz => ?_, ?_, fun ad had => ?_⟩
        · have hj5 : j < 5 := by have := (List.getElem?_eq_some_iff.1 hj).1; simpa [verL, Ver.cells] using this
          rw [add_plain]
          have hcj := hc j hj5
          rw [show f + m * 5 + j = f + (m * 5 + j) by omega, hcj]
          simpa [verL] using hj
        · simp only [Option.some.injEq] at had
          subst had
          exact VX.out.lt ⟨b, f, none⟩ ha
        · simp only [List.mem_singleton] at hz
          subst hz
          exact VX.out.each _ (List.mem_of_getElem? hu)
        · simp; omega
        · simp only [Option.some.injEq] at had
          subst had; rfl)
      have ev : x.2.v = .slice (some ⟨b, f, none⟩) n x.2.c := by unfold Vs.v; rw [ha, hn]
      have DA : ∀ y, Only [] w6 y → y.cell? ⟨p, 3, none⟩ = some (.map (some ba)) := fun y hy => (D6.out.row.only hy (by simp)).cell 3
      have HDA := Lib.hid DA
      have g1 : IntKind.i64.wrap ((n : Int) - 1) = (m : Int) := by rw [IntWalk.i64_in _ (by unfold maxLen at hcap; omega)]; omega
      have g2 : n - m = 1 := by omega
      have g3 : ¬ x.2.c = m := by omega
      have g4 : m ≤ n := by omega
      have EV := Lib.hid ev
      rw [ev] at hen HM
      rw [ev]
      generalize x.2.c = c9 at *
      clear hmem hr6 ho6 hs6 hx hnr DA hxne hn hm hn1 hu ha hc hcap ev
      have CL : Hid (∀ y, Only [] w6 y → Calls Tryz.prog 37 #[.slice (some ⟨b, f + m * 5, none⟩) 1 (c9 - m)] y (CloneVTo [u] y)) := Lib.hid fun y hy => clone_vs (V1.out.only hy (by simp)) (by simp)
      go_upto_region 9 with fail
      go_region_held3 (fun y => y.cell? ⟨p, 3, none⟩ = some (.map (some ba)))
        (first
          | exact ((D6.out.row.only X4.out (by simp)).only setBlock_only (by simpa using (own_apart HH.out.nd).1)).cell 3
          | exact HDA.out _ X4.out
          | exact HDA.out _ ((Only.refl [] w6).drew.mono (by simp)))
        (first | ((with_reducible refine (CL.out w6.drew ((Only.refl [] w6).drew)).mono ?_); rintro _ w4 ⟨V2, rfl, e2, e3, e4, hb⟩; have X4 : Hid (Only [] w6 w4) := Lib.hid ((Only.refl [] w6).drew.below hb); have N2 := Lib.hid (And.intro e2 (And.intro e3 e4)); have R4 := Lib.hid (R6.out.only X4.out (by simp) (by simp)); obtain ⟨es, clock, hb0, hs0, hL0⟩ : MapAt w4 ba .u64 (vsL all') := R4.out.mapAt; have hup := run_update (P := Tryz.prog) (w := w4) hb0 hL0 Tryz.underlying61 Tryz.underlying30 x.1 (Value.slice V2.a V2.vs.length V2.c); have RU := Lib.hid (R4.out.updated hb0 hs0 hL0 (k := x.1) (Value.slice V2.a V2.vs.length V2.c) ⟨_, List.mem_map.2 ⟨x, HX.out, rfl⟩⟩ (fun q hq => (mem_rm.1 hq).2) (by have := HH.out.am.lt; omega)); generalize upObj es clock .u64 x.1 (Value.slice V2.a V2.vs.length V2.c) (vsL all') = ob at hup RU; clear e2 e3 e4 hb hb0 hs0 hL0; unfold Vs.v))
      all_goals
        have NX : Hid (VcInv w B p ba bo w.heap.size D (rm x.1 left) (upS x.1 V2 all') (setBlock w4 ba ob)) := Lib.hid (VcInv.step (u := u) HH.out HBB.out (Nat.le_refl _) HI.out HX.out (by rw [EV.out]; exact HM.out) (O6.out.trans X4.out (by simp)) RU.out (by rw [HNM.out.1, HNM.out.2.1]; exact HU.out) N2.out.1 N2.out.2.1 (fun ad had => by have h1 := N2.out.2.2 ad had; have h2 := R6.out.lt; simp at h1; omega) setBlock_only)
        clear hup
        generalize setBlock w4 ba ob = w9 at *
        go_wp2_with fail
        go_roundw
        case rel => exact Lib.hid ⟨_, _, NX.out⟩
        case measure =>
          rw [NX.out.rng.left_eq, HI.out.rng.left_eq]
          exact rm_lt HM.out
end Go.Proofs.YtmbmkfhdiljalaaGreat
