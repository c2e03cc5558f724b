/- Plain, the document's side: MayCommit. -/
import Derived.Test.YtmbmkfhdiljalaaGreatMg37
namespace Go.Proofs.YtmbmkfhdiljalaaGreat
open Go.RowKit Go.ChangeShapes Go.WideShapes Go.ChangeAt
set_option linter.unusedVariables false
set_option linter.unusedSimpArgs false

theorem RdbAt.wr_at {w : World} {B p s : Nat} {D : RDB} (h : RdbAt w B p s D) {o : RTx} (ho : o ∈ D.op) {j : Nat} {z : Int} (hz : o.wr[j]? = some z) : ∃ g, o.wa = some ⟨g, 0, none⟩ ∧ w.cell? ⟨g, j, none⟩ = some (.int .u64 z) ∧ o.wr.length ≤ o.wc := by
  have hj := (List.getElem?_eq_some_iff.1 hz).1
  have hw := h.wown o ho
  rcases hw.2 with ⟨_, h0⟩ | ⟨g, cap, cur, e, _, _, hc, _⟩
  · omega
  · have e2 := e
    unfold RTx.wv at e2
    simp only [Value.slice.injEq] at e2
    rw [e] at hw
    refine ⟨g, e2.1, ?_, by omega⟩
    rw [hw.cellAt j (by omega)]
    simp [hz]
theorem maycommit_no {w : World} {B p s : Nat} {D : RDB} (h : RdbAt w B p s D) {t : Int} (hf : findR D.op t = none) : Calls Tryz.prog 55 #[.pointer (some ⟨s, 0, none⟩), .int .u64 t] w (RefTo (.int .i64 12) w) := by
  have TH := Lib.hid (find_ref (t := t) h)
  rw [findV_none hf] at TH
  clear h hf
  go_enter Tryz.func55, Tryz.ntmps55
  go_wp2_with fail
  refine TH.out.mono ?_
  rintro _ w2 ⟨rfl, hw⟩
  subst w2
  go_wp2_with fail
  go_ret
  exact ⟨rfl, Below.refl _ _⟩
def clashB (o : RTx) : Bool := o.wr.any fun k => decide (k ∈ o.since.xs)
def clashV (o : RTx) : Int := if clashB o then 11 else 0
set_option maxRecDepth 100000 in
set_option maxHeartbeats 4000000 in
theorem maycommit_at {w : World} {B p s : Nat} {D : RDB} (h : RdbAt w B p s D) {t : Int} {i : Nat} {o : RTx} (hf : findR D.op t = some i) (ho : D.op[i]? = some o) :
    Calls Tryz.prog 55 #[.pointer (some ⟨s, 0, none⟩), .int .u64 t] w (RefTo (.int .i64 (clashV o)) w) := by
  have TH := Lib.hid (find_ref (t := t) h)
  rw [findV_some hf] at TH
  have H := Lib.hid h
  have OM : Hid (o ∈ D.op) := Lib.hid (List.mem_of_getElem? ho)
  have HO := Lib.hid ho
  have HF := h.fine.ops o OM.out
  have WL : Hid (o.wr.length ≤ 100000) := Lib.hid HF.2.2.1
  have HN := h.fine.len
  obtain ⟨g, eg, hcap, hc⟩ := h.at_ ho
  have EG := Lib.hid eg
  have il : i < D.op.length := (List.getElem?_eq_some_iff.1 ho).1
  obtain ⟨m, hm⟩ : ∃ m, D.op.length = m := ⟨_, rfl⟩
  have HM := Lib.hid hm
  obtain ⟨oc, hoc⟩ : ∃ oc, D.oc = oc := ⟨_, rfl⟩
  have HOC := Lib.hid hoc
  obtain ⟨q, hq⟩ : ∃ q, o.wr.length = q := ⟨_, rfl⟩
  have HQ := Lib.hid hq
  obtain ⟨wa, hwa⟩ : ∃ wa, o.wa = wa := ⟨_, rfl⟩
  have HWA := Lib.hid hwa
  obtain ⟨wc, hwc⟩ : ∃ wc, o.wc = wc := ⟨_, rfl⟩
  have HWC := Lib.hid hwc
  rw [hq] at WL
  rw [hm] at il hcap HN
  have i1 : ((i : Int) < 0) = False := by simp
  have i2 : decide ((i : Int) < 0) = false := decide_eq_false (by omega)
  have i3 : (i : Int) < (m : Int) := by omega
  have CS : Hid (∀ y, Below w.heap.size w y → y.cell? ⟨s, 2, none⟩ = some (.slice (some ⟨g, 0, none⟩) m oc) ∧ y.cell? ⟨g, i * 4 + 2, none⟩ = some (.slice wa q wc) ∧ y.cell? ⟨g, i * 4 + 3, none⟩ = some (.slice o.since.a o.since.xs.length o.since.c)) := Lib.hid fun y hb => by
    have h := H.out.below hb
    obtain ⟨g2, eg, _, hc⟩ := h.at_ HO.out
    rw [EG.out] at eg
    cases eg
    refine ⟨?_, ?_, hc 3 (by omega)⟩
    · have := h.srow.cell 2
      unfold RDB.ov at this
      rw [EG.out, HM.out, HOC.out] at this
      exact this
    · rw [← HWA.out, ← HQ.out, ← HWC.out]
      exact hc 2 (by omega)
  have HAS : Hid (∀ y k, Below w.heap.size w y → Calls Tryz.prog 80 #[.slice o.since.a o.since.xs.length o.since.c, .int .u64 k] y fun e w' => e = .returned (.bool (decide (k ∈ o.since.xs))) ∧ w' = y) := Lib.hid fun y k hb => has_on ((H.out.below hb).since o OM.out)
  have ONE : Hid (∀ j z, j < q → o.wr[j]? = some z → z ∈ o.since.xs → clashB o = true) := Lib.hid fun j z _ hz hi => List.any_eq_true.2 ⟨z, List.mem_of_getElem? hz, by simpa using hi⟩
  have NONE : Hid ((∀ j z, j < q → o.wr[j]? = some z → z ∉ o.since.xs) → clashB o = false) := Lib.hid fun hn => by
    rw [Bool.eq_false_iff]
    intro hc
    obtain ⟨z, hz, hi⟩ := List.any_eq_true.1 hc
    obtain ⟨j, hj⟩ := List.mem_iff_getElem?.1 hz
    exact hn j z (by have := (List.getElem?_eq_some_iff.1 hj).1; rw [← HQ.out]; exact this) hj (by simpa using hi)
  clear h hf ho HF eg hm hoc hq hwa hwc hc
  go_enter Tryz.func55, Tryz.ntmps55
  go_wp2_with fail
  refine TH.out.mono ?_
  rintro _ w2 ⟨rfl, hw⟩
  subst w2
  go_wp2_with fail
  go_loopw [6] (fun u wr => ∃ j : Nat, u = .int .i64 (j : Int) ∧ Hid (j ≤ q) ∧ Hid (Below w.heap.size w wr) ∧ Hid (∀ k z, k < j → o.wr[k]? = some z → z ∉ o.since.xs)) (fun u _ => q - (intOf u).toNat)
  case atStart => exact ⟨0, rfl, Lib.hid (Nat.zero_le _), Lib.hid (Below.refl _ _), Lib.hid (fun k z hk => by omega)⟩
  case round =>
    obtain ⟨j, rfl, HK, HBW, HFR⟩ := hrel
    rename World => w3
    obtain ⟨d2, d3, d4⟩ := CS.out w3 HBW.out
    have e1 : IntKind.i64.wrap ((j : Int) + 1) = ((j + 1 : Nat) : Int) := w_inc _ (by have := WL.out; have := HK.out; omega)
    by_cases hlt : j < q
    · have d1 : decide ((j : Int) < (q : Int)) = true := decide_eq_true (by omega)
      have d1' : decide (j < q) = true := decide_eq_true hlt
      have j3 : (j : Int) < (q : Int) := by omega
      obtain ⟨z, hz⟩ : ∃ z, o.wr[j]? = some z := ⟨_, List.getElem?_eq_getElem (by rw [HQ.out]; exact hlt)⟩
      obtain ⟨g2, eg2, hc2, _⟩ := (H.out.below HBW.out).wr_at OM.out hz
      rw [HWA.out] at eg2
      subst eg2
      have HZ := Lib.hid hz
      have JQ := Lib.hid hlt
      clear hz
      by_cases hk : z ∈ o.since.xs
      · have HS : Hid (∀ n, Calls Tryz.prog 80 #[.slice o.since.a o.since.xs.length o.since.c, .int .u64 z] (w3.drewN n) fun e w' => e = .returned (.bool true) ∧ w' = w3.drewN n) := Lib.hid fun n => by
          have := HAS.out (w3.drewN n) z (below_drewN HBW.out n)
          rw [decide_eq_true hk] at this
          exact this
        have HE : Hid (clashB o = true) := Lib.hid (ONE.out j z JQ.out HZ.out hk)
        clear hk
        go_wp2_with fail
        go_quiet ((go_at_call 80; exact Calls.quiet_of_same (HS.out _)))
        go_wp2_with fail
        go_ret
        exact ⟨by unfold clashV; rw [HE.out]; rfl, below_drewN HBW.out _⟩
      · have HS : Hid (∀ n, Calls Tryz.prog 80 #[.slice o.since.a o.since.xs.length o.since.c, .int .u64 z] (w3.drewN n) fun e w' => e = .returned (.bool false) ∧ w' = w3.drewN n) := Lib.hid fun n => by
          have := HAS.out (w3.drewN n) z (below_drewN HBW.out n)
          rw [decide_eq_false hk] at this
          exact this
        have NE := Lib.hid hk
        clear hk
        go_wp2_with fail
        go_quiet ((go_at_call 80; exact Calls.quiet_of_same (HS.out _)))
        go_wp2_with fail
        go_roundw
        case rel => exact ⟨j + 1, by go_num, Lib.hid (by have := JQ.out; omega), Lib.hid (below_drewN HBW.out _), Lib.hid (fun k y hk hy => by
          by_cases e : k < j
          · exact HFR.out k y e hy
          · obtain rfl : k = j := by omega
            rw [HZ.out] at hy
            cases hy
            exact NE.out)⟩
        case measure => have := JQ.out; simp [intOf]; omega
    · have d1 : decide ((j : Int) < (q : Int)) = false := decide_eq_false (by omega)
      have d1' : decide (j < q) = false := decide_eq_false hlt
      have HE : Hid (clashB o = false) := Lib.hid (NONE.out fun k z hk hz => HFR.out k z (by omega) hz)
      clear hlt
      go_wp2_with fail
      go_ret
      exact ⟨by unfold clashV; rw [HE.out]; rfl, HBW.out⟩
end Go.Proofs.YtmbmkfhdiljalaaGreat

/- Plain, the document's side: Commit's words (printed by gen_rcommit.py). -/
namespace Go.Proofs.YtmbmkfhdiljalaaGreat
open Go.RowKit Go.ChangeShapes Go.WideShapes Go.ChangeAt
set_option linter.unusedVariables false
set_option linter.unusedSimpArgs false

theorem RdbAt.setDone {w y : World} {B p s : Nat} {D : RDB} (h : RdbAt w B p s D) (hB : B ≤ w.heap.size) {I : Its} (k : Only [] w y) (hI : RsAt y I) (hb : ∀ b ∈ I.bs, b ∈ D.reads ∨ w.heap.size ≤ b) (hl : I.l.length ≤ 100000) :
    RStep w B p s D { D with done := I } (y.setCell ⟨s, 1, none⟩ I.v) := by
  have hnd := h.nd
  have hsl := h.srow.lt
  have hps : p ≠ s := fun e => by simp [RDB.own, e] at hnd
  have k2 : Only [s] y (y.setCell ⟨s, 1, none⟩ I.v) := (Only.refl [s] y).setCell (.inl (by simp)) _
  have kall : Only [s] w (y.setCell ⟨s, 1, none⟩ I.v) := (k.mono (by simp)).trans k2 (fun b hb => .inl hb)
  have rs : ∀ b ∈ D.reads, b ∉ [s] := fun b hb hm => by
    simp at hm
    subst hm
    exact h.ap _ (by simp [RDB.own]) hb
  have is : ∀ b ∈ I.bs, b ∉ [s] := fun b hm hs => by
    simp at hs
    subst hs
    rcases hb _ hm with h1 | h1
    · exact rs _ h1 (by simp)
    · omega
  refine h.renew hB (h.row.only kall (by simpa using hps)) ?_ ?_ ?_ (hI.only k2 is) ?_ ?_ hnd (Kept.refl _ _) ?_ ?_ ?_ (kall.mono fun b hb => .inl (by simp at hb; simp [RDB.own, hb]))
  · have := (h.srow.only k (by simp)).set 1 I.v
    simpa [RDB.ov] using this
  · exact own_keep h.oown fun g hg => kall.block g (h.oown.lt g hg).2 (by simp; rintro rfl; have hg' : D.ov.ownBlock = some g := hg; simp [RDB.own, hg'] at hnd)
  · exact fun z hz => own_keep (h.wown z hz) fun b hb => kall.block b ((h.wown z hz).lt b hb).2 (by simp; rintro rfl; simp [RDB.own, mem_wrB2 hz hb] at hnd)
  · exact fun z hz => (h.sees z hz).only kall fun b hb => rs b (List.mem_append_right _ (mem_opR hz (.inl hb)))
  · exact fun z hz => (h.since z hz).only kall fun b hb => rs b (List.mem_append_right _ (mem_opR hz (.inr hb)))
  · intro b hm
    rcases List.mem_append.1 hm with hm | hm
    · exact hb b hm
    · exact .inl (List.mem_append_right _ hm)
  · intro b hb2 hge
    have := h.lt b hb2
    omega
  · have hf := h.fine
    exact ⟨hf.dim, hf.begun, hf.len, hl, hf.ops⟩
/-- What Commit does for a key. -/
def comC (sees done : List Rc) (key : Int) : List Rc := match sees[placeC sees key]? with
  | some x => if x.1 = key then withC (withoutC done key) x else withoutC done key
  | none => withoutC done key
def comL (sees done : List Rc) (keys : List Int) : List Rc := keys.foldl (comC sees) done
theorem comL_snoc (sees done : List Rc) (l : List Int) {k : Nat} {z : Int} (h : l[k]? = some z) : comL sees done (l.take (k + 1)) = comC sees (comL sees done (l.take k)) z := by
  have e : l.take (k + 1) = l.take k ++ [z] := by rw [List.take_add_one, h]; rfl
  unfold comL
  rw [e, List.foldl_append]
  rfl
theorem comC_len (sees done : List Rc) (key : Int) : (comC sees done key).length ≤ done.length + 1 := by
  have h1 := withoutC_len done key
  unfold comC
  split
  · split
    · rename_i x _ _
      have h2 := withC_len (withoutC done key) x
      omega
    · omega
  · omega
/-- The others, behind a commit, as far as they have been told. -/
structure OpsTo (ks : List Int) (l l' : List RTx) (k : Nat) : Prop where
  len : l'.length = l.length
  at_ : ∀ j x, l[j]? = some x → ∃ x', l'[j]? = some x' ∧ x'.n = x.n ∧ x'.sees = x.sees ∧ x'.wr = x.wr ∧ x'.wa = x.wa ∧ x'.wc = x.wc ∧ x'.since.xs = if j < k then x.since.xs ++ ks else x.since.xs
theorem OpsTo.start (ks : List Int) (l : List RTx) : OpsTo ks l l 0 := ⟨rfl, fun j x hx => ⟨x, hx, rfl, rfl, rfl, rfl, rfl, by rw [if_neg (by omega)]⟩⟩
theorem OpsTo.step {ks : List Int} {l l' : List RTx} {k : Nat} (h : OpsTo ks l l' k) {x' : RTx} (hx : l'[k]? = some x') {si : Sl} (hs : ∀ x, l[k]? = some x → si.xs = x.since.xs ++ ks) : OpsTo ks l (l'.set k { x' with since := si }) (k + 1) := by
  refine ⟨by simp [h.len], fun j x hj => ?_⟩
  obtain ⟨y, h1, h2, h3, h4, h5, h6, h7⟩ := h.at_ j x hj
  by_cases e : j = k
  · subst e
    rw [hx] at h1
    cases h1
    refine ⟨{ x' with since := si }, ?_, h2, h3, h4, h5, h6, ?_⟩
    · rw [List.getElem?_set_self (List.getElem?_eq_some_iff.1 hx).1]
    · rw [if_pos (by omega)]; exact hs x hj
  · refine ⟨y, by rw [List.getElem?_set_ne (fun h => e h.symm)]; exact h1, h2, h3, h4, h5, h6, ?_⟩
    rw [h7]
    by_cases hlt : j < k
    · rw [if_pos hlt, if_pos (by omega)]
    · rw [if_neg hlt, if_neg (by omega)]
/-- What Commit leaves. -/
def CommitRTo (B p s : Nat) (D : RDB) (i : Nat) (o : RTx) (w : World) (e : Ending) (w' : World) : Prop := e = .returned (.tuple #[]) ∧ ∃ D', RStep w B p s D D' w' ∧ D'.dim = D.dim ∧ D'.begun = D.begun ∧ D'.done.cs = comL o.sees.cs D.done.cs o.wr ∧ OpsTo o.wr (D.op.take i ++ D.op.drop (i + 1)) D'.op (D.op.take i ++ D.op.drop (i + 1)).length
theorem own_src {w : World} {B : Nat} {o : RTx} (h : w.ownsRow B tU 1 o.wv o.wr.length (o.wr.map (Value.int .u64))) : SrcOf w (.slice o.wa o.wr.length o.wc) o.wr.length 1 (o.wr.map (Value.int .u64)) := src_of_own (by decide) h
end Go.Proofs.YtmbmkfhdiljalaaGreat
