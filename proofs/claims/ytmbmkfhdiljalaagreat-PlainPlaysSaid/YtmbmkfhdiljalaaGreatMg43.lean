/- Plain: the code's DB and the document's, alike (plain Lean): Begin, writes, Abort. -/
import Derived.Test.YtmbmkfhdiljalaaGreatMg42
import Derived.Test.YtmbmkfhdiljalaaGreatMg21
import Derived.Deep.Fields
import Derived.Deep.Slices
import Derived.OpenShut
namespace Go.Proofs.YtmbmkfhdiljalaaGreat
open Go.RowKit Go.ChangeShapes Go.WideShapes Go.ChangeAt
set_option linter.unusedVariables false
set_option linter.unusedSimpArgs false

def doneF (D : PDB) (k : Int) : Option Rc := visC (lastR D k)
def seesF (D : PDB) (o : PTx) (k : Int) : Option Rc := visC (seesR D o k)
def VerOk (dim key : Int) (v : Ver) : Prop := v.gone = false → v.key = key ∧ (v.vec.xs.length : Int) = dim ∧ vc.In32 v.vec.xs
/-- An open transaction, both ways. -/
structure OpRel (t : Nat) (D : PDB) (o : PTx) (x : RTx) : Prop where
  sees : Shows x.sees.cs (seesF D o)
  wrote : ∀ k, k ∈ x.wr ↔ lkV o.wr k ≠ none
  since : ∀ k, k ∈ x.since.xs ↔ ClashAt (vsOf D.all k) o.start
  len : x.wr.length ≤ t
  slen : x.since.xs.length ≤ t * 150
/-- The two DBs are alike, behind t calls. -/
structure Rel (t : Nat) (D : PDB) (R : RDB) : Prop where
  dim : R.dim = D.dim
  begun : R.begun = D.begun
  done : Shows R.done.cs (doneF D)
  perm : (R.op.map (·.n)).Perm (D.op.map (·.n))
  up : R.op.Pairwise fun a b => a.n < b.n
  each : ∀ o ∈ D.op, ∀ x ∈ R.op, x.n = o.n → OpRel t D o x
  vers : ∀ k, ∀ v ∈ (vsOf D.all k).vs, VerOk D.dim k v ∧ v.at_ ≤ D.last
  wvers : ∀ o ∈ D.op, ∀ y ∈ o.wr, VerOk D.dim y.1 y.2
  op : ∀ o ∈ D.op, 0 < o.n ∧ o.n ≤ D.begun ∧ 0 ≤ o.start ∧ o.start ≤ D.last
  ne : ∀ x ∈ D.all, x.2.vs ≠ []
  keys : ∃ K : List Int, K.length ≤ t ∧ (∀ x ∈ D.all, x.1 ∈ K) ∧ ∀ o ∈ D.op, ∀ y ∈ o.wr, y.1 ∈ K
  vlen : ∀ k, (vsOf D.all k).vs.length ≤ t
  nums : D.begun ≤ t ∧ D.last ≤ t ∧ 0 ≤ D.begun ∧ 0 ≤ D.last
theorem visC_ok {dim key : Int} {v : Ver} {c : Rc} (h : VerOk dim key v) (hc : visC (some v) = some c) : c.1 = key ∧ (c.2.1.length : Int) = dim ∧ vc.In32 c.2.1 := by
  obtain ⟨u, hu, hg, rfl⟩ := visC_some hc
  cases hu
  exact h hg
theorem lkV_some {l : List (Int × Ver)} {k : Int} {v : Ver} (h : lkV l k = some v) : (k, v) ∈ l := by
  unfold lkV at h
  rw [Option.map_eq_some_iff] at h
  obtain ⟨y, hy, rfl⟩ := h
  have h1 := List.mem_of_find?_eq_some hy
  have h2 : y.1 = k := by simpa using List.find?_some hy
  rw [← h2]
  exact h1
theorem lkV_none {l : List (Int × Ver)} {k : Int} (h : lkV l k = none) : ∀ y ∈ l, y.1 ≠ k := by
  unfold lkV at h
  rw [Option.map_eq_none_iff] at h
  intro y hy
  simpa using List.find?_eq_none.1 h y hy
theorem vsOf_keys {l : List (Int × Vs)} {k : Int} {v : Ver} (h : v ∈ (vsOf l k).vs) : ∃ x ∈ l, x.1 = k ∧ vsOf l k = x.2 := by
  unfold vsOf at h ⊢
  cases hf : l.find? fun x => decide (x.1 = k) with
  | none => rw [hf] at h; simp [Vs.no] at h
  | some x => exact ⟨x, List.mem_of_find?_eq_some hf, by simpa using List.find?_some hf, by simp⟩
section
variable {t : Nat} {D : PDB} {R : RDB}
theorem Rel.seesOk (h : Rel t D R) {o : PTx} (ho : o ∈ D.op) {k : Int} {c : Rc} (hc : seesF D o k = some c) : c.1 = k ∧ (c.2.1.length : Int) = D.dim ∧ vc.In32 c.2.1 := by
  unfold seesF seesR at hc
  cases hl : lkV o.wr k with
  | some v => rw [hl] at hc; exact visC_ok (h.wvers o ho (k, v) (lkV_some hl)) hc
  | none =>
    rw [hl] at hc
    obtain ⟨v, hv, _⟩ := visC_some hc
    have hc' : visC (asofL (vsOf D.all k).vs o.start) = some c := hc
    have hv' : asofL (vsOf D.all k).vs o.start = some v := hv
    rw [hv'] at hc'
    exact visC_ok (h.vers k v (asofL_mem hv')).1 hc'
theorem Rel.doneOk (h : Rel t D R) {k : Int} {c : Rc} (hc : doneF D k = some c) : c.1 = k ∧ (c.2.1.length : Int) = D.dim ∧ vc.In32 c.2.1 := by
  obtain ⟨v, hv, _⟩ := visC_some hc
  unfold doneF at hc
  rw [hv] at hc
  exact visC_ok (h.vers k v (asofL_mem hv)).1 hc
theorem Rel.seesKey (h : Rel t D R) {o : PTx} {k : Int} (hc : seesF D o k ≠ none) : k ∈ D.all.map (·.1) ∨ k ∈ o.wr.map (·.1) := by
  unfold seesF seesR at hc
  cases hl : lkV o.wr k with
  | some v => exact .inr (List.mem_map.2 ⟨(k, v), lkV_some hl, rfl⟩)
  | none =>
    rw [hl] at hc
    obtain ⟨c, hc⟩ := Option.ne_none_iff_exists'.1 hc
    obtain ⟨v, hv, _⟩ := visC_some hc
    obtain ⟨x, hx, he, _⟩ := vsOf_keys (asofL_mem hv)
    exact .inl (List.mem_map.2 ⟨x, hx, he⟩)
theorem Rel.doneKey (h : Rel t D R) {k : Int} (hc : doneF D k ≠ none) : k ∈ D.all.map (·.1) := by
  obtain ⟨c, hc⟩ := Option.ne_none_iff_exists'.1 hc
  obtain ⟨v, hv, _⟩ := visC_some hc
  obtain ⟨x, hx, he, _⟩ := vsOf_keys (asofL_mem hv)
  exact List.mem_map.2 ⟨x, hx, he⟩
theorem Rel.mate (h : Rel t D R) {x : RTx} (hx : x ∈ R.op) : ∃ o ∈ D.op, o.n = x.n := by
  have := h.perm.mem_iff.1 (List.mem_map.2 ⟨x, hx, rfl⟩)
  obtain ⟨o, ho, e⟩ := List.mem_map.1 this
  exact ⟨o, ho, e⟩
theorem Rel.mate' (h : Rel t D R) {o : PTx} (ho : o ∈ D.op) : ∃ (i : Nat) (x : RTx), R.op[i]? = some x ∧ x.n = o.n := by
  have := h.perm.mem_iff.2 (List.mem_map.2 ⟨o, ho, rfl⟩)
  obtain ⟨x, hx, e⟩ := List.mem_map.1 this
  obtain ⟨i, hi⟩ := List.mem_iff_getElem?.1 hx
  exact ⟨i, x, hi, e⟩
theorem Rel.nodup (h : Rel t D R) : (R.op.map (·.n)).Nodup := by
  unfold List.Nodup
  rw [List.pairwise_map]
  exact h.up.imp fun hab e => by rw [e] at hab; omega
theorem Rel.nodup' (h : Rel t D R) : (D.op.map (·.n)).Nodup := h.perm.nodup_iff.1 h.nodup
theorem Rel.rfind (h : Rel t D R) {i : Nat} {x : RTx} (hx : R.op[i]? = some x) : findR R.op x.n = some i := by
  refine findR_some hx rfl fun j y hj hy e => ?_
  have hi := (List.getElem?_eq_some_iff.1 hx)
  have hj' := (List.getElem?_eq_some_iff.1 hy)
  have := List.pairwise_iff_getElem.1 h.up j i hj'.1 hi.1 hj
  rw [hi.2, hj'.2] at this
  omega
theorem Rel.found (h : Rel t D R) {n : Int} {o : PTx} (ho : findP n D.op = some o) : ∃ (i : Nat) (x : RTx), R.op[i]? = some x ∧ findR R.op n = some i ∧ x.n = n ∧ o ∈ D.op ∧ o.n = n ∧ OpRel t D o x := by
  obtain ⟨h1, h2⟩ := findP_some ho
  obtain ⟨i, x, hx, e⟩ := h.mate' h1
  refine ⟨i, x, hx, ?_, by omega, h1, h2, h.each o h1 x (List.mem_of_getElem? hx) e⟩
  have := h.rfind hx
  rwa [show x.n = n by omega] at this
theorem Rel.lost (h : Rel t D R) {n : Int} (ho : findP n D.op = none) : findR R.op n = none := by
  refine findR_none fun i y hy e => ?_
  obtain ⟨o, h1, h2⟩ := h.mate (List.mem_of_getElem? hy)
  unfold findP at ho
  have := List.find?_eq_none.1 ho o h1
  simp at this
  omega
theorem Rel.size (h : Rel t D R) : R.op.length = D.op.length := by
  have := h.perm.length_eq
  simpa using this
theorem Rel.clash (h : Rel t D R) {o : PTx} {x : RTx} (r : OpRel t D o x) : clashB x = true ↔ ClashP D o := by
  unfold clashB ClashP
  rw [List.any_eq_true]
  constructor
  · rintro ⟨k, hk, hs⟩
    have hs' : k ∈ x.since.xs := by simpa using hs
    obtain ⟨v, hv⟩ := Option.ne_none_iff_exists'.1 ((r.wrote k).1 hk)
    exact ⟨(k, v), lkV_some hv, (r.since k).1 hs'⟩
  · rintro ⟨y, hy, hc⟩
    refine ⟨y.1, (r.wrote y.1).2 fun e => lkV_none e y hy rfl, by simpa using (r.since y.1).2 hc⟩
theorem OpRel.mono {o : PTx} {x : RTx} (h : OpRel t D o x) : OpRel (t + 1) D o x := ⟨h.sees, h.wrote, h.since, by have := h.len; omega, by have := h.slen; omega⟩
theorem Rel.mono (h : Rel t D R) : Rel (t + 1) D R := by
  obtain ⟨K, k1, k2, k3⟩ := h.keys
  exact ⟨h.dim, h.begun, h.done, h.perm, h.up, fun o ho x hx e => (h.each o ho x hx e).mono, h.vers, h.wvers, h.op, h.ne, ⟨K, by omega, k2, k3⟩, fun k => by have := h.vlen k; omega, by have := h.nums; omega⟩
theorem rel_new (dim : Int) : Rel 0 (newP dim) (newR dim) := by
  refine ⟨rfl, rfl, Shows.nil.congr fun k => rfl, by simp [newR, newP], List.Pairwise.nil, by simp [newP], ?_, by simp [newP], by simp [newP], by simp [newP], ⟨[], by simp [newP]⟩, ?_, by simp [newP]⟩
  · intro k v hv
    simp [newP, vsOf, Vs.no] at hv
  · intro k
    simp [newP, vsOf, Vs.no]
theorem Rel.begin_ (h : Rel t D R) {bt bm : Nat} {I : Its} {a : Option Addr} {c : Nat} (hI : I.cs = R.done.cs) : Rel (t + 1) (beginP D bt bm) (begR { R with begun := R.begun + 1 } (R.begun + 1) I a c) := by
  obtain ⟨K, k1, k2, k3⟩ := h.keys
  have lt : ∀ x ∈ R.op, x.n ≤ D.begun := fun x hx => by
    obtain ⟨o, ho, e⟩ := h.mate hx
    have := (h.op o ho).2.1
    omega
  have hb := h.begun
  refine ⟨h.dim, by show R.begun + 1 = D.begun + 1; omega, h.done, ?_, ?_, ?_, h.vers, ?_, ?_, h.ne, ⟨K, by omega, k2, ?_⟩, fun k => by have := h.vlen k; show (vsOf D.all k).vs.length ≤ _; omega, ?_⟩
  · show ((R.op ++ _).map _).Perm ((D.op ++ _).map _)
    rw [List.map_append, List.map_append]
    have := h.perm.append_right [R.begun + 1]
    simpa [hb] using this
  · show (R.op ++ _).Pairwise _
    rw [List.pairwise_append]
    refine ⟨h.up, by simp, fun x hx y hy => ?_⟩
    simp at hy
    subst hy
    have := lt x hx
    show x.n < R.begun + 1
    omega
  · intro o ho x hx e
    rcases List.mem_append.1 (show o ∈ D.op ++ _ from ho) with ho | ho
    · rcases List.mem_append.1 (show x ∈ R.op ++ _ from hx) with hx | hx
      · have r := (h.each o ho x hx e).mono
        exact ⟨r.sees, r.wrote, r.since, r.len, r.slen⟩
      · simp at hx
        subst hx
        have := (h.op o ho).2.1
        have e' : R.begun + 1 = o.n := e
        omega
    · rcases List.mem_append.1 (show x ∈ R.op ++ _ from hx) with hx | hx
      · simp at ho
        subst ho
        have := lt x hx
        have e' : x.n = D.begun + 1 := e
        omega
      · simp at ho hx
        subst ho hx
        refine ⟨?_, fun k => by simp [lkV], fun k => ?_, by simp, by simp [Sl.no]⟩
        · rw [hI]
          exact h.done.congr fun k => by simp [doneF, lastR, seesF, seesR, lkV, beginP]
        · simp only [Sl.no, List.not_mem_nil, false_iff]
          rintro ⟨v, hv, hlt⟩
          have := (h.vers k v (List.mem_of_getLast? hv)).2
          have hlt' : D.last < v.at_ := hlt
          omega
  · intro o ho y hy
    rcases List.mem_append.1 (show o ∈ D.op ++ _ from ho) with ho | ho
    · exact h.wvers o ho y hy
    · simp at ho
      subst ho
      simp at hy
  · intro o ho
    rcases List.mem_append.1 (show o ∈ D.op ++ _ from ho) with ho | ho
    · have := h.op o ho
      exact ⟨this.1, by show o.n ≤ D.begun + 1; omega, this.2.2⟩
    · simp at ho
      subst ho
      have := h.nums
      exact ⟨by show 0 < D.begun + 1; omega, Int.le_refl _, this.2.2.2, Int.le_refl _⟩
  · intro o ho y hy
    rcases List.mem_append.1 (show o ∈ D.op ++ _ from ho) with ho | ho
    · exact k3 o ho y hy
    · simp at ho
      subst ho
      simp at hy
  · have := h.nums
    refine ⟨by show D.begun + 1 ≤ _; omega, by show D.last ≤ _; omega, by show 0 ≤ D.begun + 1; omega, this.2.2.2⟩
theorem lkV_up (k : Int) (v : Ver) (j : Int) : ∀ l, lkV (upV k v l) j = if j = k then some v else lkV l j
  | [] => by
    unfold upV lkV
    by_cases h : j = k
    · simp [h]
    · simp [h, Ne.symm h]
  | x :: l => by
    have ih := lkV_up k v j l
    unfold upV
    by_cases h : k = x.1
    · rw [if_pos h]
      by_cases hj : j = k
      · unfold lkV; simp [hj]
      · rw [if_neg hj]
        unfold lkV
        have h1 : x.1 ≠ j := fun e => hj (by omega)
        simp [h1, Ne.symm hj]
    · rw [if_neg h]
      by_cases hx : x.1 = j
      · have hj : j ≠ k := fun e => h (by omega)
        rw [if_neg hj]
        unfold lkV
        simp [hx]
      · have e1 : ∀ l, lkV (x :: l) j = lkV l j := fun l => by unfold lkV; simp [hx]
        rw [e1, e1, ih]
theorem Rel.wrote (h : Rel t D R) {o : PTx} {i : Nat} {x : RTx} (ho : o ∈ D.op) (hx : R.op[i]? = some x) (hn : x.n = o.n) {key : Int} {v : Ver} (hv : VerOk D.dim key v) {I : Its} {a : Option Addr} {c : Nat}
    (hI : Shows I.cs fun k => if k = key then visC (some v) else seesF D o k) : Rel (t + 1) (wroteP D o.n key v) (setR R i { x with sees := I, wa := a, wc := c, wr := x.wr ++ [key] }) := by
  obtain ⟨K, k1, k2, k3⟩ := h.keys
  have hxm := List.mem_of_getElem? hx
  obtain ⟨A, C, hl, hset, hA⟩ := set_split hx { x with sees := I, wa := a, wc := c, wr := x.wr ++ [key] }
  have hop : (setR R i { x with sees := I, wa := a, wc := c, wr := x.wr ++ [key] }).op = A ++ { x with sees := I, wa := a, wc := c, wr := x.wr ++ [key] } :: C := hset
  have hns : ((setR R i { x with sees := I, wa := a, wc := c, wr := x.wr ++ [key] }).op.map (·.n)) = R.op.map (·.n) := by
    rw [hop, hl]; simp
  have hnd : ((wroteP D o.n key v).op.map (·.n)) = D.op.map (·.n) := by
    unfold wroteP
    rw [List.map_map]
    refine List.map_congr_left fun y _ => ?_
    show (if y.n = o.n then { y with wr := upV key v y.wr } else y).n = y.n
    split <;> rfl
  have uniq : ∀ y ∈ D.op, y.n = o.n → y = o := fun y hy e => eq_of_map h.nodup' hy ho e
  have mem : ∀ y ∈ (wroteP D o.n key v).op, (y = { o with wr := upV key v o.wr }) ∨ (y ∈ D.op ∧ y.n ≠ o.n) := fun y hy => by
    obtain ⟨z, hz, rfl⟩ := List.mem_map.1 (show y ∈ D.op.map _ from hy)
    by_cases e : z.n = o.n
    · rw [if_pos e, uniq z hz e]; exact .inl rfl
    · rw [if_neg e]; exact .inr ⟨hz, e⟩
  have uniqR : ∀ y ∈ A ++ C, y.n ≠ x.n := fun y hy e => by
    have hnd := h.nodup
    rw [hl, List.map_append, List.map_cons] at hnd
    have h9 := List.perm_middle.nodup_iff.1 hnd
    rw [List.nodup_cons] at h9
    refine h9.1 ?_
    rw [← List.map_append]
    exact List.mem_map.2 ⟨y, hy, e⟩
  have sees0 : ∀ (z : PTx) k, seesF (wroteP D o.n key v) z k = seesF D z k := fun z k => rfl
  refine ⟨h.dim, h.begun, h.done, by rw [hns, hnd]; exact h.perm, ?_, ?_, h.vers, ?_, ?_, h.ne, ⟨key :: K, by simp; omega, fun y hy => List.mem_cons_of_mem _ (k2 y hy), ?_⟩, fun k => by have := h.vlen k; show (vsOf D.all k).vs.length ≤ _; omega, ?_⟩
  · have h1 : ((setR R i { x with sees := I, wa := a, wc := c, wr := x.wr ++ [key] }).op.map (·.n)).Pairwise (· < ·) := by
      rw [hns, List.pairwise_map]; exact h.up
    rwa [List.pairwise_map] at h1
  · intro y hy z hz e
    rw [hop] at hz
    rcases mem y hy with rfl | ⟨hy1, hy2⟩
    · have hzx : z = { x with sees := I, wa := a, wc := c, wr := x.wr ++ [key] } := by
        have e' : z.n = x.n := by rw [hn]; exact e
        rcases List.mem_append.1 hz with hz | hz
        · exact absurd e' (uniqR z (List.mem_append_left _ hz))
        · rcases List.mem_cons.1 hz with hz | hz
          · exact hz
          · exact absurd e' (uniqR z (List.mem_append_right _ hz))
      subst hzx
      have r := h.each o ho x hxm hn
      refine ⟨?_, fun k => ?_, r.since, by have := r.len; simp; omega, by have := r.slen; show x.since.xs.length ≤ _; omega⟩
      · refine hI.congr fun k => ?_
        unfold seesF seesR
        show _ = visC (match lkV (upV key v o.wr) k with | some v => some v | none => asofL (vsOf D.all k).vs o.start)
        rw [lkV_up]
        by_cases hk : k = key
        · rw [if_pos hk, if_pos hk]
        · rw [if_neg hk, if_neg hk]; rfl
      · show k ∈ x.wr ++ [key] ↔ lkV (upV key v o.wr) k ≠ none
        rw [lkV_up, List.mem_append, List.mem_singleton]
        by_cases hk : k = key
        · rw [if_pos hk]; simp [hk]
        · rw [if_neg hk]; exact ⟨fun h => (r.wrote k).1 (h.resolve_right hk), fun h => .inl ((r.wrote k).2 h)⟩
    · have hzR : z ∈ R.op := by
        rw [hl]
        rcases List.mem_append.1 hz with hz | hz
        · exact List.mem_append_left _ hz
        · rcases List.mem_cons.1 hz with hz | hz
          · subst hz; exact absurd (show y.n = o.n by rw [← hn]; exact e.symm) hy2
          · exact List.mem_append_right _ (List.mem_cons_of_mem _ hz)
      have r := (h.each y hy1 z hzR e).mono
      exact ⟨r.sees.congr fun k => (sees0 y k).symm, r.wrote, r.since, r.len, r.slen⟩
  · intro y hy u hu
    rcases mem y hy with rfl | ⟨hy1, _⟩
    · rcases mem_upV hu with rfl | hu
      · exact hv
      · exact h.wvers o ho u hu
    · exact h.wvers y hy1 u hu
  · intro y hy
    rcases mem y hy with rfl | ⟨hy1, _⟩
    · exact h.op o ho
    · exact h.op y hy1
  · intro y hy u hu
    rcases mem y hy with rfl | ⟨hy1, _⟩
    · rcases mem_upV hu with rfl | hu
      · simp
      · exact List.mem_cons_of_mem _ (k3 o ho u hu)
    · exact List.mem_cons_of_mem _ (k3 y hy1 u hu)
  · have := h.nums
    exact ⟨by show D.begun ≤ _; omega, by show D.last ≤ _; omega, this.2.2⟩
theorem Rel.shut_ops (h : Rel t D R) {o : PTx} {i : Nat} {x : RTx} (ho : o ∈ D.op) (hx : R.op[i]? = some x) (hn : x.n = o.n) :
    ((R.op.take i ++ R.op.drop (i + 1)).map (·.n)).Perm ((D.op.filter fun y => !decide (y.n = o.n)).map (·.n)) ∧ (R.op.take i ++ R.op.drop (i + 1)).Pairwise (fun a b => a.n < b.n) ∧ ∀ z ∈ R.op.take i ++ R.op.drop (i + 1), z ∈ R.op ∧ z.n ≠ o.n := by
  obtain ⟨A, C, hl, _, hA⟩ := set_split hx x
  subst hA
  have e1 : R.op.take A.length = A := by rw [hl]; simp
  have e2 : R.op.drop (A.length + 1) = C := by rw [hl, ← List.drop_drop]; simp
  rw [e1, e2]
  have uniqR : ∀ y ∈ A ++ C, y.n ≠ x.n := fun y hy e => by
    have hnd := h.nodup
    rw [hl, List.map_append, List.map_cons] at hnd
    have h9 := List.perm_middle.nodup_iff.1 hnd
    rw [List.nodup_cons] at h9
    refine h9.1 ?_
    rw [← List.map_append]
    exact List.mem_map.2 ⟨y, hy, e⟩
  refine ⟨?_, ?_, fun z hz => ⟨?_, fun e => uniqR z hz (by omega)⟩⟩
  · have h1 := h.perm.filter (fun n => !decide (n = o.n))
    rw [List.filter_map, List.filter_map] at h1
    have e3 : (R.op.filter ((fun n => !decide (n = o.n)) ∘ fun y : RTx => y.n)) = A ++ C := by
      rw [hl, List.filter_append, List.filter_cons_of_neg (by simp [hn]), ← List.filter_append, List.filter_eq_self]
      intro y hy
      have := uniqR y hy
      simp; omega
    rw [e3] at h1
    exact h1
  · have := h.up
    rw [hl] at this
    exact this.sublist (List.Sublist.append_left (List.sublist_cons_self _ _) _)
  · rw [hl]
    rcases List.mem_append.1 hz with hz | hz
    · exact List.mem_append_left _ hz
    · exact List.mem_append_right _ (List.mem_cons_of_mem _ hz)
theorem Rel.shut (h : Rel t D R) {o : PTx} {i : Nat} {x : RTx} (ho : o ∈ D.op) (hx : R.op[i]? = some x) (hn : x.n = o.n) (a : Option Addr) (c : Nat) : Rel (t + 1) (shutP D o.n) (shutR R i a c) := by
  obtain ⟨K, k1, k2, k3⟩ := h.keys
  obtain ⟨s1, s2, s3⟩ := h.shut_ops ho hx hn
  have mem : ∀ y ∈ (shutP D o.n).op, y ∈ D.op := fun y hy => (List.mem_filter.1 hy).1
  have hnum := h.nums
  exact ⟨h.dim, h.begun, h.done, s1, s2, fun y hy z hz e => by
      have r := (h.each y (mem y hy) z (s3 z hz).1 e).mono
      exact ⟨r.sees, r.wrote, r.since, r.len, r.slen⟩, h.vers, fun y hy => h.wvers y (mem y hy), fun y hy => h.op y (mem y hy), h.ne, ⟨K, by omega, k2, fun y hy => k3 y (mem y hy)⟩, fun k => by have := h.vlen k; show (vsOf D.all k).vs.length ≤ _; omega, ⟨by show D.begun ≤ _; omega, by show D.last ≤ _; omega, hnum.2.2⟩⟩
theorem Rel.crash (h : Rel t D R) : Rel (t + 1) (crashP D) { R with op := [], oa := none, oc := 0 } := by
  obtain ⟨K, k1, k2, k3⟩ := h.keys
  have hnum := h.nums
  exact ⟨h.dim, h.begun, h.done, by simp [crashP], List.Pairwise.nil, by simp [crashP], h.vers, by simp [crashP], by simp [crashP], h.ne, ⟨K, by omega, k2, by simp [crashP]⟩, fun k => by have := h.vlen k; show (vsOf D.all k).vs.length ≤ _; omega, ⟨by show D.begun ≤ _; omega, by show D.last ≤ _; omega, hnum.2.2⟩⟩
end
end Go.Proofs.YtmbmkfhdiljalaaGreat

/- Plain: the code's DB and the document's, alike (plain Lean): Commit, Vacuum, copies, sizes. -/
namespace Go.Proofs.YtmbmkfhdiljalaaGreat
open Go.RowKit Go.ChangeShapes Go.WideShapes Go.ChangeAt
set_option linter.unusedVariables false
set_option linter.unusedSimpArgs false

section
variable {t : Nat} {D : PDB} {R : RDB}
theorem asofL_all {vs : List Ver} {a : Int} (h : ∀ v ∈ vs, v.at_ ≤ a) : asofL vs a = vs.getLast? := by
  unfold asofL
  rw [← List.head?_reverse]
  cases hr : vs.reverse with
  | nil => rfl
  | cons v l =>
    have : v ∈ vs := by rw [← List.mem_reverse, hr]; simp
    simp [h v this]
theorem asofL_snoc (vs : List Ver) (v : Ver) (a : Int) : asofL (vs ++ [v]) a = if v.at_ ≤ a then some v else asofL vs a := by
  unfold asofL
  rw [List.reverse_append]
  simp only [List.reverse_cons, List.reverse_nil, List.nil_append, List.singleton_append, List.find?_cons]
  by_cases h : v.at_ ≤ a
  · simp [h]
  · simp [h]
theorem Rel.lastIs (h : Rel t D R) (k : Int) : lastR D k = (vsOf D.all k).vs.getLast? := asofL_all fun v hv => (h.vers k v hv).2
theorem Rel.commit (h : Rel t D R) (ht : t < 150) {o : PTx} {i : Nat} {x : RTx} (ho : o ∈ D.op) (hx : R.op[i]? = some x) (hn : x.n = o.n) {all' : List (Int × Vs)} {R' : RDB}
    (hall : ∀ j, (vsOf all' j).vs = (vsOf D.all j).vs ++ (match lkV o.wr j with
      | some v => [{ v with at_ := D.last + 1 }]
      | none => [])) (hk : KeysOf D o all' 0) (h1 : R'.dim = R.dim) (h2 : R'.begun = R.begun) (h3 : R'.done.cs = comL x.sees.cs R.done.cs x.wr)
    (h4 : OpsTo x.wr (R.op.take i ++ R.op.drop (i + 1)) R'.op (R.op.take i ++ R.op.drop (i + 1)).length) :
    Rel (t + 1) { shutP D o.n with last := D.last + 1, all := all' } R' := by
  obtain ⟨K, k1, k2, k3⟩ := h.keys
  obtain ⟨s1, s2, s3⟩ := h.shut_ops ho hx hn
  have r := h.each o ho x (List.mem_of_getElem? hx) hn
  have hnum := h.nums
  have mem : ∀ y ∈ (shutP D o.n).op, y ∈ D.op := fun y hy => (List.mem_filter.1 hy).1
  have hns : R'.op.map (·.n) = (R.op.take i ++ R.op.drop (i + 1)).map (·.n) := by
    refine List.ext_getElem? fun j => ?_
    rw [List.getElem?_map, List.getElem?_map]
    cases hj : (R.op.take i ++ R.op.drop (i + 1))[j]? with
    | some y =>
      obtain ⟨y', e1, e2, _⟩ := h4.at_ j y hj
      rw [e1]; simp [e2]
    | none =>
      have : R'.op[j]? = none := by
        rw [List.getElem?_eq_none_iff] at hj ⊢
        rw [h4.len]; exact hj
      rw [this]
  have back : ∀ z ∈ R'.op, ∃ y ∈ R.op, y.n ≠ o.n ∧ z.n = y.n ∧ z.sees = y.sees ∧ z.wr = y.wr ∧ z.since.xs = y.since.xs ++ x.wr := fun z hz => by
    obtain ⟨j, hj⟩ := List.mem_iff_getElem?.1 hz
    have hlt : j < (R.op.take i ++ R.op.drop (i + 1)).length := by rw [← h4.len]; exact (List.getElem?_eq_some_iff.1 hj).1
    obtain ⟨y', e1, e2, e3, e4, _, _, e5⟩ := h4.at_ j _ (List.getElem?_eq_getElem hlt)
    rw [hj] at e1
    cases e1
    rw [if_pos hlt] at e5
    have := s3 _ (List.getElem_mem hlt)
    exact ⟨_, this.1, this.2, e2, e3, e4, e5⟩
  have hbase : ∀ (y : PTx) k, y ∈ D.op → seesF { shutP D o.n with last := D.last + 1, all := all' } y k = seesF D y k := fun y k hy => by
    unfold seesF seesR
    show visC (match lkV y.wr k with | some v => some v | none => asofL (vsOf all' k).vs y.start) = _
    cases lkV y.wr k with
    | some v => rfl
    | none =>
      show visC (asofL (vsOf all' k).vs y.start) = visC (asofL (vsOf D.all k).vs y.start)
      rw [hall k]
      cases lkV o.wr k with
      | none => simp
      | some v =>
        have := (h.op y hy).2.2.2
        show visC (asofL ((vsOf D.all k).vs ++ [_]) y.start) = _
        rw [asofL_snoc, if_neg (by show ¬ D.last + 1 ≤ y.start; omega)]
  refine ⟨by rw [h1]; exact h.dim, by rw [h2]; exact h.begun, ?_, by rw [hns]; exact s1, ?_, ?_, ?_, fun y hy => h.wvers y (mem y hy), fun y hy => ?_, ?_, ⟨K, by omega, ?_, fun y hy => k3 y (mem y hy)⟩, ?_, ⟨by show D.begun ≤ _; omega, by show D.last + 1 ≤ _; omega, hnum.2.2.1, by show 0 ≤ D.last + 1; omega⟩⟩
  · rw [h3]
    refine (r.sees.coms x.wr h.done).congr fun k => ?_
    show _ = visC (asofL (vsOf all' k).vs (D.last + 1))
    rw [hall k]
    by_cases hw : k ∈ x.wr
    · rw [if_pos hw]
      obtain ⟨v, hv⟩ := Option.ne_none_iff_exists'.1 ((r.wrote k).1 hw)
      unfold seesF seesR
      rw [hv]
      show visC (some v) = visC (asofL ((vsOf D.all k).vs ++ [_]) (D.last + 1))
      rw [asofL_snoc, if_pos (Int.le_refl _)]
      rfl
    · rw [if_neg hw]
      have hv : lkV o.wr k = none := by
        cases hv : lkV o.wr k with
        | none => rfl
        | some v => exact absurd ((r.wrote k).2 (by rw [hv]; simp)) hw
      rw [hv]
      show visC (lastR D k) = visC (asofL ((vsOf D.all k).vs ++ []) (D.last + 1))
      rw [List.append_nil, h.lastIs k, asofL_all fun v hv => by have := (h.vers k v hv).2; omega]
  · have e : (R'.op.map (·.n)).Pairwise (· < ·) := by rw [hns, List.pairwise_map]; exact s2
    rwa [List.pairwise_map] at e
  · intro y hy z hz e
    obtain ⟨z0, g1, g2, g3, g4, g5, g6⟩ := back z hz
    have ry := h.each y (mem y hy) z0 g1 (by rw [← g3]; exact e)
    refine ⟨by rw [g4]; exact ry.sees.congr fun k => (hbase y k (mem y hy)).symm, by rw [g5]; exact ry.wrote, fun k => ?_, by rw [g5]; have := ry.len; omega, ?_⟩
    · rw [g6, List.mem_append]
      show _ ↔ ∃ v, (vsOf all' k).vs.getLast? = some v ∧ y.start < v.at_
      rw [hall k]
      have hst := (h.op y (mem y hy)).2.2.2
      cases hv : lkV o.wr k with
      | some v =>
        have hw : k ∈ x.wr := (r.wrote k).2 (by rw [hv]; simp)
        refine ⟨fun _ => ⟨{ v with at_ := D.last + 1 }, by simp, by show y.start < D.last + 1; omega⟩, fun _ => .inr hw⟩
      | none =>
        have hw : k ∉ x.wr := fun hw => (r.wrote k).1 hw hv
        rw [show (match (none : Option Ver) with | some v => [{ v with at_ := D.last + 1 }] | none => []) = [] from rfl, List.append_nil]
        exact ⟨fun h9 => (ry.since k).1 (h9.resolve_right hw), fun h9 => .inl ((ry.since k).2 h9)⟩
    · have e1 := ry.slen
      have e2 := r.len
      rw [g6, List.length_append]
      omega
  · intro k v hv
    have hv' : v ∈ (vsOf all' k).vs := hv
    rw [hall k] at hv'
    rcases List.mem_append.1 hv' with hv' | hv'
    · have := h.vers k v hv'
      exact ⟨this.1, by show v.at_ ≤ D.last + 1; omega⟩
    · cases hl : lkV o.wr k with
      | none => rw [hl] at hv'; simp at hv'
      | some u =>
        rw [hl] at hv'
        simp at hv'
        subst hv'
        exact ⟨h.wvers o ho (k, u) (lkV_some hl), Int.le_refl _⟩
  · have := h.op y (mem y hy)
    exact ⟨this.1, this.2.1, this.2.2.1, by show y.start ≤ D.last + 1; omega⟩
  · exact hk.ne h.ne
  · intro y hy
    rcases hk.mem y hy with h9 | h9
    · obtain ⟨z, hz, e⟩ := List.mem_map.1 h9
      rw [← e]; exact k2 z hz
    · obtain ⟨z, hz, e⟩ := List.mem_map.1 h9
      rw [← e]; exact k3 o ho z hz
  · intro k
    show (vsOf all' k).vs.length ≤ _
    rw [hall k, List.length_append]
    have := h.vlen k
    cases lkV o.wr k <;> simp <;> omega
theorem Rel.vacuum (h : Rel t D R) (hop : D.op = []) (hn : (D.all.map (·.1)).Nodup) {all' : List (Int × Vs)} (he : all'.map (·.1) = D.all.map (·.1)) (hv : ∀ j, (vsOf all' j).vs = lastL (vsOf D.all j).vs) : Rel (t + 1) { D with all := all' } R := by
  obtain ⟨K, k1, k2, k3⟩ := h.keys
  have hnum := h.nums
  have lastlast : ∀ vs : List Ver, (lastL vs).getLast? = vs.getLast? := fun vs => by
    unfold lastL
    cases hl : vs.getLast? with
    | none =>
      have : vs = [] := List.getLast?_eq_none_iff.1 hl
      subst this; rfl
    | some v =>
      have hne : vs ≠ [] := fun e => by subst e; simp at hl
      rw [← hl]
      have := List.length_pos_iff.2 hne
      rw [List.getLast?_drop, if_neg (by omega)]
  have sub : ∀ vs : List Ver, ∀ v ∈ lastL vs, v ∈ vs := fun vs v hm => List.mem_of_mem_drop hm
  have vers' : ∀ k, ∀ v ∈ (vsOf all' k).vs, VerOk D.dim k v ∧ v.at_ ≤ D.last := fun k v hm => by
    rw [hv k] at hm
    exact h.vers k v (sub _ v hm)
  have hr : R.op = [] := by
    have := h.perm.length_eq
    rw [hop] at this
    simpa using this
  refine ⟨h.dim, h.begun, ?_, h.perm, h.up, by rw [hr]; simp, vers', h.wvers, h.op, ?_, ⟨K, by omega, ?_, k3⟩, ?_, ⟨by show D.begun ≤ _; omega, by show D.last ≤ _; omega, hnum.2.2⟩⟩
  · refine h.done.congr fun k => ?_
    show visC (lastR D k) = visC (asofL (vsOf all' k).vs D.last)
    rw [h.lastIs k, asofL_all fun v hm => (vers' k v hm).2, hv k, lastlast]
  · intro x hx e
    have hx1 : x.1 ∈ D.all.map (·.1) := by rw [← he]; exact List.mem_map.2 ⟨x, hx, rfl⟩
    obtain ⟨y, hy, hyx⟩ := List.mem_map.1 hx1
    have e1 : vsOf all' x.1 = x.2 := vsOf_of_mem (by rw [he]; exact hn) hx
    have e2 : vsOf D.all y.1 = y.2 := vsOf_of_mem hn hy
    have h3 := hv x.1
    rw [e1, e, ← hyx, e2] at h3
    have h4 := h.ne y hy
    have h5 := congrArg List.length h3
    unfold lastL at h5
    have := List.length_pos_iff.2 h4
    simp at h5
    omega
  · intro x hx
    have hx1 : x.1 ∈ D.all.map (·.1) := by rw [← he]; exact List.mem_map.2 ⟨x, hx, rfl⟩
    obtain ⟨y, hy, hyx⟩ := List.mem_map.1 hx1
    rw [← hyx]
    exact k2 y hy
  · intro k
    show (vsOf all' k).vs.length ≤ _
    rw [hv k]
    have := h.vlen k
    unfold lastL
    simp
    omega
theorem Rel.copy (h : Rel t D R) {D' : PDB} (h1 : D'.dim = D.dim) (h2 : D'.begun = D.begun) (h3 : D'.last = D.last) (h4 : D'.all = D.all) (h5 : (D'.op.map k3).Perm (D.op.map k3)) : Rel t D' R := by
  obtain ⟨K, q1, q2, q3⟩ := h.keys
  have twin : ∀ y ∈ D'.op, ∃ z ∈ D.op, z.n = y.n ∧ z.start = y.start ∧ z.wr = y.wr := fun y hy => by
    obtain ⟨z, hz, e⟩ := List.mem_map.1 (h5.mem_iff.1 (List.mem_map.2 ⟨y, hy, rfl⟩))
    unfold k3 at e
    simp only [Prod.mk.injEq] at e
    exact ⟨z, hz, e.1, e.2.1, e.2.2⟩
  have hns : (D'.op.map (·.n)).Perm (D.op.map (·.n)) := by
    have := h5.map (·.1)
    rw [List.map_map, List.map_map] at this
    exact this
  have hl : ∀ k, lastR D' k = lastR D k := fun k => by unfold lastR; rw [h3, h4]
  refine ⟨by rw [h1]; exact h.dim, by rw [h2]; exact h.begun, h.done.congr fun k => by unfold doneF; rw [hl], h.perm.trans hns.symm, h.up, fun y hy x hx e => ?_, by rw [h1, h3, h4]; exact h.vers, fun y hy => ?_, fun y hy => ?_, by rw [h4]; exact h.ne, ⟨K, q1, by rw [h4]; exact q2, fun y hy => ?_⟩, by rw [h4]; exact h.vlen, by rw [h2, h3]; exact h.nums⟩
  · obtain ⟨z, hz, e1, e2, e3⟩ := twin y hy
    have r := h.each z hz x hx (by omega)
    exact ⟨r.sees.congr fun k => by unfold seesF seesR; rw [e2, e3, h4], by rw [← e3]; exact r.wrote, by rw [← e2, h4]; exact r.since, r.len, r.slen⟩
  · obtain ⟨z, hz, e1, e2, e3⟩ := twin y hy
    rw [h1, ← e3]; exact h.wvers z hz
  · obtain ⟨z, hz, e1, e2, e3⟩ := twin y hy
    rw [h2, h3, ← e1, ← e2]; exact h.op z hz
  · obtain ⟨z, hz, e1, e2, e3⟩ := twin y hy
    rw [← e3]; exact q3 z hz
/-- The sizes. -/
theorem Rel.small {w : World} {B p ba bo : Nat} (h : Rel t D R) (ht : t ≤ 150) (hD : DbAt w B p ba bo D) (hl : R.op.length ≤ 8) : Small D := by
  obtain ⟨K, k1, k2, k3⟩ := h.keys
  have h1 := nodup_len (D.all.map (·.1)) K (all_nodup hD.am) fun x hx => by
    obtain ⟨y, hy, rfl⟩ := List.mem_map.1 hx
    exact k2 y hy
  refine ⟨by simp at h1; omega, fun k => by have := h.vlen k; omega, fun o ho => ?_, by have := h.size; omega⟩
  have h2 := nodup_len (o.wr.map (·.1)) K (wr_nodup (hD.oa o ho).2) fun x hx => by
    obtain ⟨y, hy, rfl⟩ := List.mem_map.1 hx
    exact k3 o ho y hy
  simp at h2
  omega
theorem Its.cs_len (I : Its) : I.cs.length = I.l.length := by simp [Its.cs]
theorem Rel.doneLen (h : Rel t D R) : R.done.l.length ≤ t := by
  obtain ⟨K, k1, k2, k3⟩ := h.keys
  have := h.done.len (K := K) fun k hk => by
    obtain ⟨y, hy, rfl⟩ := List.mem_map.1 (h.doneKey hk)
    exact k2 y hy
  rw [Its.cs_len] at this
  omega
theorem Rel.seesLen (h : Rel t D R) {o : PTx} {x : RTx} (ho : o ∈ D.op) (r : OpRel t D o x) : x.sees.l.length ≤ t := by
  obtain ⟨K, k1, k2, k3⟩ := h.keys
  have := r.sees.len (K := K) fun k hk => by
    rcases h.seesKey hk with h1 | h1
    · obtain ⟨y, hy, rfl⟩ := List.mem_map.1 h1
      exact k2 y hy
    · obtain ⟨y, hy, rfl⟩ := List.mem_map.1 h1
      exact k3 o ho y hy
  rw [Its.cs_len] at this
  omega
theorem Rel.sinceLen (h : Rel t D R) (ht : t ≤ 150) : ∀ x ∈ R.op, x.since.xs.length < 40000 := fun x hx => by
  obtain ⟨o, ho, e⟩ := h.mate hx
  have := (h.each o ho x hx e.symm).slen
  omega
/-- What the code's lists are. -/
theorem Rel.seenList (h : Rel t D R) {o : PTx} {x : RTx} (ho : o ∈ D.op) (r : OpRel t D o x) {zs : List Int} (hz : zs.Pairwise (· < ·)) (hm : ∀ x, x ∈ zs ↔ x ∈ D.all.map (·.1) ∨ x ∈ o.wr.map (·.1)) : zs.filterMap (fun k => visC (seesR D o k)) = x.sees.cs :=
  (shows_list (f := seesF D o) hz (fun k c hc => (h.seesOk ho hc).1) (fun k hk => (hm k).2 (h.seesKey hk))).unique r.sees
theorem Rel.doneList (h : Rel t D R) {zs : List Int} (hz : zs.Pairwise (· < ·)) (hm : ∀ x, x ∈ zs ↔ x ∈ D.all.map (·.1) ∨ x ∈ ([] : List Int)) : zs.filterMap (fun k => visC (lastR D k)) = R.done.cs :=
  (shows_list (f := doneF D) hz (fun k c hc => (h.doneOk hc).1) (fun k hk => (hm k).2 (.inl (h.doneKey hk)))).unique h.done
theorem Rel.numList (h : Rel t D R) {ys : List Int} (hp : ys.Perm (D.op.map (·.n))) (hs : ys.Pairwise (· ≤ ·)) : ys = R.op.map (·.n) := by
  have h1 : (R.op.map (·.n)).Pairwise (· ≤ ·) := by
    rw [List.pairwise_map]
    exact h.up.imp fun hab => by omega
  exact (hp.trans h.perm.symm).eq_of_pairwise (fun a b _ _ h1 h2 => by omega) hs h1
end
end Go.Proofs.YtmbmkfhdiljalaaGreat

/- PlainPlays: the calls that came in. -/
namespace Go.Proofs.YtmbmkfhdiljalaaGreat
open Go.RowKit Go.ChangeShapes Go.WideShapes Go.ChangeAt Go.Deep Go.Joins
set_option linter.unusedVariables false
set_option linter.unusedSimpArgs false

abbrev tOp : TypeId := 36
/-- A call. -/
structure OpS where
  kind : Int
  n : Int
  t : Int
  key : Int
  hi : Int
  it : It
  q : Sl
instance OpS.inh : Inhabited OpS := ⟨⟨0, 0, 0, 0, 0, ⟨0, Sl.no, Sl.no⟩, Sl.no⟩⟩
def OpS.cells (x : OpS) : List Value := [.int .i64 x.kind, .int .i64 x.n, .int .u64 x.t, .int .u64 x.key, .int .u64 x.hi, .int .u64 x.it.key, x.it.vec.v, x.it.tag.v, x.q.v]
def OpS.val (x : OpS) : Value := .agg #[.int .i64 x.kind, .int .i64 x.n, .int .u64 x.t, .int .u64 x.key, .int .u64 x.hi, .int .u64 x.it.key, x.it.vec.v, x.it.tag.v, x.q.v]
/-- A slice that came in. -/
structure CameIn (q : IntKind) (w : World) (s : Sl) : Prop where
  row : ∃ zs, IsRow q w s.a s.xs.length s.c zs ∧ s.xs = zs.take s.xs.length
  wf : ∀ n ∈ s.xs, (Lit.int q n).wf = true
structure OpIn (w : World) (x : OpS) : Prop where
  vec : CameIn .i32 w x.it.vec
  tag : CameIn .u8 w x.it.tag
  q : CameIn .i32 w x.q
  n : -9223372036854775808 ≤ x.n ∧ x.n ≤ 9223372036854775807
theorem CameIn.rd {q : IntKind} {w : World} {s : Sl} (h : CameIn q w s) (hl : s.xs.length ≤ 1000000) : SlRd q w s := by
  obtain ⟨zs, hr, hx⟩ := h.row
  refine ⟨?_, fun hne b hb => ?_, fun ha => ?_, hl⟩
  · have := hr.ints
    rw [← hx] at this
    exact this
  · rcases hr with ⟨h1, h2, h3, h4⟩ | ⟨x, h1, h2, h3, h4, h5, _⟩
    · exact absurd (List.length_eq_zero_iff.1 h2) hne
    · rw [Sl.bs, h1] at hb
      simp at hb
      subst hb
      have := List.length_pos_iff.2 hne
      have h6 := h5 0 (by omega)
      have := World.block_lt_of_cell? w _ h6
      simpa [Addr.add] using this
  · rcases hr with ⟨h1, h2, h3, h4⟩ | ⟨x, h1, _⟩
    · exact ⟨List.length_eq_zero_iff.1 h2, h3⟩
    · rw [h1] at ha; cases ha
theorem CameIn.in32 {w : World} {s : Sl} (h : CameIn .i32 w s) : vc.In32 s.xs := vc.in32_of_wf h.wf
theorem CameIn.len {q : IntKind} {w : World} {s : Sl} (h : CameIn q w s) : s.xs.length ≤ 9223372036854775807 := by
  obtain ⟨zs, hr, hx⟩ := h.row
  have := hr.le
  unfold maxLen at this
  omega
def OpsIn (w : World) (a : Option Addr) (n c : Nat) (os : List OpS) : Prop := os.length = n ∧ n ≤ 9223372036854775807 ∧ (n = 0 ∨ ∃ b off, a = some ⟨b, off, none⟩ ∧ ∀ i x, os[i]? = some x → OpIn w x ∧ ∀ j v, x.cells[j]? = some v → w.cell? ⟨b, off + i * 9 + j, none⟩ = some v)
section
variable {H : Type} {enc : TypeId × Value → H} {W : World}
theorem open_in {q : IntKind} {t e : TypeId} {fuel : Nat} {v : Value} {x : DataW H × List MemPlace} (ht : Tryz.prog.underlying t = some (.slice e)) (he : Tryz.prog.underlying e = some (.int q)) (hc : Tryz.prog.cellsOf e = 1)
    (h : DataW.trod enc Tryz.prog W 0 (fun _ => true) true fuel t [v] = some x) : ∃ s : Sl, v = s.v ∧ CameIn q W s := by
  rcases open_ints ht he hc h with ⟨hcs, _⟩ | ⟨a, l, c, zs, hcs, _, hl, hm, hz, _, hcell, hwz⟩
  · simp only [List.cons.injEq, and_true] at hcs
    exact ⟨Sl.no, hcs, ⟨[], .inl ⟨rfl, rfl, rfl, rfl⟩, rfl⟩, by simp [Sl.no]⟩
  · simp only [List.cons.injEq, and_true] at hcs
    have hz' : zs.length = c := by simpa using hz
    have hlen : (zs.take l).length = l := by simp; omega
    refine ⟨⟨some a, c, zs.take l⟩, by rw [hcs]; simp [Sl.v, hlen], ⟨zs, .inr ⟨a, rfl, by simp only [hlen]; exact hl, hm, hz', hcell, hwz⟩, by simp only [hlen]⟩, fun n hn => hwz n (List.mem_of_mem_take hn)⟩
theorem ops_in {fuel : Nat} {a : Option Addr} {n c : Nat} {x : DataW H × List MemPlace} (h : DataW.trod enc Tryz.prog W 0 (fun _ => true) true fuel 22 [.slice a n c] = some x) :
    ∃ os, OpsIn W a n c os := by
  have ce : Tryz.prog.cellsOf tOp = 9 := by kernel_rfl
  have c1 : Tryz.prog.cellsOf 3 = 1 := by kernel_rfl
  have c2 : Tryz.prog.cellsOf 30 = 1 := by kernel_rfl
  have c3 : Tryz.prog.cellsOf tIt = 3 := by kernel_rfl
  have c4 : Tryz.prog.cellsOf 31 = 1 := by kernel_rfl
  have c5 : Tryz.prog.cellsOf 32 = 1 := by kernel_rfl
  rcases open_slice Tryz.underlying22 h with ⟨hcs, _⟩ | ⟨ad, len, cap, m, k, D, Pl, hcs, _, hl, hm, hmm, _, hx⟩
  · simp at hcs
    obtain ⟨rfl, rfl, rfl⟩ := hcs
    exact ⟨[], rfl, by omega, .inl rfl⟩
  · simp at hcs
    obtain ⟨rfl, rfl, rfl⟩ := hcs
    simp only [if_true] at hmm
    subst hmm
    unfold maxLen at hm
    by_cases h0 : n = 0
    · exact ⟨[], h0 ▸ rfl, by omega, .inl h0⟩
    have each : ∀ i, i < m → ∃ x : OpS, OpIn W x ∧ ∀ j v, x.cells[j]? = some v → W.cell? (ad.add (i * 9 + j)) = some v := by
      intro i hi
      obtain ⟨cs', h1, h2⟩ := hx i hi
      rw [ce] at h1
      obtain ⟨_, hlen, hcell⟩ := World.cells?_some h1
      obtain ⟨xs, k2, _, _, _, hxl, hf⟩ := DataW.trod_struct Tryz.underlying36 h2
      have hxl' : xs.length = 7 := hxl
      obtain ⟨v0, v1, v2, v3, v4, v5, v6, v7, v8, rfl⟩ : ∃ v0 v1 v2 v3 v4 v5 v6 v7 v8, cs' = [v0, v1, v2, v3, v4, v5, v6, v7, v8] := by
        rcases cs' with _ | ⟨v0, _ | ⟨v1, _ | ⟨v2, _ | ⟨v3, _ | ⟨v4, _ | ⟨v5, _ | ⟨v6, _ | ⟨v7, _ | ⟨v8, _ | ⟨v9, r⟩⟩⟩⟩⟩⟩⟩⟩⟩⟩ <;> simp at hlen
        exact ⟨v0, v1, v2, v3, v4, v5, v6, v7, v8, rfl⟩
      have t0 : DataW.trod enc Tryz.prog W 0 (fun _ => true) true k2 3 (([v0, v1, v2, v3, v4, v5, v6, v7, v8].drop 0).take (Tryz.prog.cellsOf 3)) = xs[0]? := hf 0 _ rfl
      have t1 : DataW.trod enc Tryz.prog W 0 (fun _ => true) true k2 3 (([v0, v1, v2, v3, v4, v5, v6, v7, v8].drop 1).take (Tryz.prog.cellsOf 3)) = xs[1]? := hf 1 _ rfl
      have t2 : DataW.trod enc Tryz.prog W 0 (fun _ => true) true k2 30 (([v0, v1, v2, v3, v4, v5, v6, v7, v8].drop 2).take (Tryz.prog.cellsOf 30)) = xs[2]? := hf 2 _ rfl
      have t3 : DataW.trod enc Tryz.prog W 0 (fun _ => true) true k2 30 (([v0, v1, v2, v3, v4, v5, v6, v7, v8].drop 3).take (Tryz.prog.cellsOf 30)) = xs[3]? := hf 3 _ rfl
      have t4 : DataW.trod enc Tryz.prog W 0 (fun _ => true) true k2 30 (([v0, v1, v2, v3, v4, v5, v6, v7, v8].drop 4).take (Tryz.prog.cellsOf 30)) = xs[4]? := hf 4 _ rfl
      have t5 : DataW.trod enc Tryz.prog W 0 (fun _ => true) true k2 tIt (([v0, v1, v2, v3, v4, v5, v6, v7, v8].drop 5).take (Tryz.prog.cellsOf tIt)) = xs[5]? := hf 5 _ rfl
      have t6 : DataW.trod enc Tryz.prog W 0 (fun _ => true) true k2 31 (([v0, v1, v2, v3, v4, v5, v6, v7, v8].drop 8).take (Tryz.prog.cellsOf 31)) = xs[6]? := hf 6 _ rfl
      rw [List.getElem?_eq_getElem (by omega)] at t0 t1 t2 t3 t4 t5 t6
      simp only [c1, c2, c3, c4, List.drop_succ_cons, List.drop_zero, List.take_succ_cons, List.take_zero] at t0 t1 t2 t3 t4 t5 t6
      obtain ⟨p0, r0, _, f0⟩ := DataW.trod_int Tryz.underlying3 t0
      obtain ⟨p1, r1, _, f1⟩ := DataW.trod_int Tryz.underlying3 t1
      obtain ⟨p2, r2, _, f2⟩ := DataW.trod_int Tryz.underlying30 t2
      obtain ⟨p3, r3, _, f3⟩ := DataW.trod_int Tryz.underlying30 t3
      obtain ⟨p4, r4, _, f4⟩ := DataW.trod_int Tryz.underlying30 t4
      obtain ⟨ys, k3, _, _, _, hyl, hg⟩ := DataW.trod_struct Tryz.underlying34 t5
      have hyl' : ys.length = 3 := hyl
      have u0 : DataW.trod enc Tryz.prog W 0 (fun _ => true) true k3 30 (([v5, v6, v7].drop 0).take (Tryz.prog.cellsOf 30)) = ys[0]? := hg 0 _ rfl
      have u1 : DataW.trod enc Tryz.prog W 0 (fun _ => true) true k3 31 (([v5, v6, v7].drop 1).take (Tryz.prog.cellsOf 31)) = ys[1]? := hg 1 _ rfl
      have u2 : DataW.trod enc Tryz.prog W 0 (fun _ => true) true k3 32 (([v5, v6, v7].drop 2).take (Tryz.prog.cellsOf 32)) = ys[2]? := hg 2 _ rfl
      rw [List.getElem?_eq_getElem (by omega)] at u0 u1 u2
      simp only [c2, c4, c5, List.drop_succ_cons, List.drop_zero, List.take_succ_cons, List.take_zero] at u0 u1 u2
      obtain ⟨p5, r5, _, f5⟩ := DataW.trod_int Tryz.underlying30 u0
      obtain ⟨s1, e1, g1⟩ := open_in Tryz.underlying31 Tryz.underlying21 (by kernel_rfl) u1
      obtain ⟨s2, e2, g2⟩ := open_in Tryz.underlying32 Tryz.underlying5 (by kernel_rfl) u2
      obtain ⟨s3, e3, g3⟩ := open_in Tryz.underlying31 Tryz.underlying21 (by kernel_rfl) t6
      simp only [List.cons.injEq, and_true] at r0 r1 r2 r3 r4 r5
      refine ⟨⟨p0, p1, p2, p3, p4, ⟨p5, s1, s2⟩, s3⟩, ⟨g1, g2, g3, by simpa [Lit.wf, IntKind.min, IntKind.max, IntKind.signed, IntKind.bits] using f1⟩, fun j v hj => ?_⟩
      have hj' := (List.getElem?_eq_some_iff.1 hj).1
      have hj9 : j < 9 := by simpa [OpS.cells] using hj'
      have e := hcell j hj9
      rw [add_add] at e
      rw [e, ← hj]
      unfold OpS.cells
      rw [r0, r1, r2, r3, r4, r5, e1, e2, e3]
    obtain ⟨f, hf⟩ := choose_lt each
    obtain ⟨b, off, path⟩ := ad
    have hp : path = none := by
      have := World.cell?_spot ((hf 0 (by omega)).2 0 _ rfl)
      simpa [Addr.add] using this
    subst hp
    refine ⟨(List.range n).map f, by simp, by omega, .inr ⟨b, off, rfl, fun i x hx => ?_⟩⟩
    have hi : i < n := by have := (List.getElem?_eq_some_iff.1 hx).1; simpa using this
    rw [List.getElem?_map, List.getElem?_range hi] at hx
    simp only [Option.map_some, Option.some.injEq] at hx
    subst hx
    obtain ⟨h1, h2⟩ := hf i (by omega)
    refine ⟨h1, fun j v hj => ?_⟩
    have := h2 j v hj
    rw [add_plain] at this
    rw [show off + i * 9 + j = off + (i * 9 + j) by omega]
    exact this
end
theorem CameIn.below {q : IntKind} {w w' : World} {s : Sl} (h : CameIn q w s) (k : Below w.heap.size w w') : CameIn q w' s := by
  refine ⟨?_, h.wf⟩
  rcases h.row with ⟨zs, hr, hx⟩
  refine ⟨zs, ?_, hx⟩
  rcases hr with h1 | ⟨a, h1, h2, h3, h4, h5, h6⟩
  · exact .inl h1
  · refine .inr ⟨a, h1, h2, h3, h4, fun i hi => ?_, h6⟩
    have h7 := h5 i hi
    have h8 := World.block_lt_of_cell? w _ h7
    rw [k.cell h8]
    exact h7
theorem OpIn.only {w w' : World} {x : OpS} (h : OpIn w x) (k : Below w.heap.size w w') : OpIn w' x := ⟨h.vec.below k, h.tag.below k, h.q.below k, h.n⟩
/-- It is small enough to be looked at. -/
def tameB (x : OpS) : Bool := decide (x.it.vec.xs.length ≤ 5000) && decide (x.it.tag.xs.length ≤ 2000) && decide (x.q.xs.length ≤ 5000)
theorem tame_on (x : OpS) (w : World) (h1 : x.it.vec.xs.length ≤ 9223372036854775807) (h2 : x.it.tag.xs.length ≤ 9223372036854775807) (h3 : x.q.xs.length ≤ 9223372036854775807) :
    Calls Tryz.prog 7 #[x.val] w fun e w' => e = .returned (.bool (tameB x)) ∧ Below w.heap.size w w' := by
  have N : Hid (Below w.heap.size w (w.alloc (.cells #[.int .i64 x.kind, .int .i64 x.n, .int .u64 x.t, .int .u64 x.key, .int .u64 x.hi, .int .u64 x.it.key, x.it.vec.v, x.it.tag.v, x.q.v] tOp))) := Lib.hid ((Below.refl _ _).alloc (Nat.le_refl _) _)
  unfold OpS.val
  unfold Sl.v at N ⊢
  unfold tameB
  generalize x.it.vec.xs.length = n1 at *
  generalize x.it.tag.xs.length = n2 at *
  generalize x.q.xs.length = n3 at *
  by_cases g1 : n1 ≤ 5000
  · have d1 : decide ((n1 : Int) ≤ 5000) = true := decide_eq_true (by omega)
    rw [decide_eq_true g1]
    by_cases g2 : n2 ≤ 2000
    · have d2 : decide ((n2 : Int) ≤ 2000) = true := decide_eq_true (by omega)
      rw [decide_eq_true g2]
      by_cases g3 : n3 ≤ 5000
      · have d3 : decide ((n3 : Int) ≤ 5000) = true := decide_eq_true (by omega)
        rw [decide_eq_true g3]
        clear g1 g2 g3
        go_enter Tryz.func7, Tryz.ntmps7
        go_wp2_with fail
        go_ret
        exact ⟨rfl, N.out⟩
      · have d3 : decide ((n3 : Int) ≤ 5000) = false := decide_eq_false (by omega)
        rw [decide_eq_false g3]
        clear g1 g2 g3
        go_enter Tryz.func7, Tryz.ntmps7
        go_wp2_with fail
        go_ret
        exact ⟨rfl, N.out⟩
    · have d2 : decide ((n2 : Int) ≤ 2000) = false := decide_eq_false (by omega)
      rw [decide_eq_false g2]
      clear g1 g2
      go_enter Tryz.func7, Tryz.ntmps7
      go_wp2_with fail
      go_ret
      exact ⟨rfl, N.out⟩
  · have d1 : decide ((n1 : Int) ≤ 5000) = false := decide_eq_false (by omega)
    rw [decide_eq_false g1]
    clear g1
    go_enter Tryz.func7, Tryz.ntmps7
    go_wp2_with fail
    go_ret
    exact ⟨rfl, N.out⟩
end Go.Proofs.YtmbmkfhdiljalaaGreat

/- PlainPlays: the two DBs in memory; write: Begin, Delete, Commit, Abort. -/
namespace Go.Proofs.YtmbmkfhdiljalaaGreat
open Go.RowKit Go.ChangeShapes Go.WideShapes Go.ChangeAt
set_option linter.unusedVariables false
set_option linter.unusedSimpArgs false

/-- THE TWO DBs in memory, alike. -/
structure TwoAt (t : Nat) (w : World) (B p q s : Nat) (D : PDB) (F H : List Nat) (R : RDB) : Prop where
  code : DbF w B p D F H
  doc : RdbAt w B q s R
  rel : Rel t D R
  apart : ∀ b, b ∈ F ∨ b ∈ H → b ∉ R.own q s ∧ b ∉ R.reads
  base : B ≤ w.heap.size
def Two (t : Nat) (w : World) (B p q s : Nat) (dim : Int) : Prop := ∃ D F H R, TwoAt t w B p q s D F H R ∧ D.dim = dim
section
variable {t : Nat} {w : World} {B p q s : Nat} {D : PDB} {F H : List Nat} {R : RDB}
theorem TwoAt.only {G : List Nat} {w' : World} (h : TwoAt t w B p q s D F H R) (k : Only G w w') (hG : ∀ b ∈ G, b ∉ F ∧ b ∉ H ∧ b ∉ R.own q s ∧ b ∉ R.reads) : TwoAt t w' B p q s D F H R :=
  ⟨h.code.only k fun b hb => ⟨(hG b hb).1, (hG b hb).2.1⟩, h.doc.only k fun b hb => (hG b hb).2.2, h.rel, h.apart, Nat.le_trans h.base k.size⟩
theorem TwoAt.below {w' : World} (h : TwoAt t w B p q s D F H R) (k : Below w.heap.size w w') : TwoAt t w' B p q s D F H R := h.only ((Only.refl [] w).below k) (by simp)
/-- Behind the code's call. -/
theorem TwoAt.mid {w1 : World} (h : TwoAt t w B p q s D F H R) (co : Only F w w1) : RdbAt w1 B q s R := h.doc.only co fun b hb => h.apart b (.inl hb)
theorem TwoAt.step {w1 w2 w3 : World} (h : TwoAt t w B p q s D F H R) {D' : PDB} {F' H' G : List Nat} {R' : RDB} (c : DbF w1 B p D' F' H') (co : Only F w w1) (kF : Kept F F' w) (kH : Kept H H' w)
    (hm : Only G w1 w2) (hG : ∀ b ∈ G, b ∉ F' ∧ b ∉ H') (r : RStep w2 B q s R R' w3) (rel' : Rel (t + 1) D' R') : TwoAt (t + 1) w3 B p q s D' F' H' R' := by
  have hlt := h.doc.lt
  have hltr := h.doc.ltr
  have old : ∀ b, b ∈ F' ∨ b ∈ H' → (b ∈ F ∨ b ∈ H) ∨ w.heap.size ≤ b := fun b hb => by
    rcases hb with hb | hb
    · exact (kF b hb).imp .inl id
    · exact (kH b hb).imp .inr id
  have ap : ∀ b, b ∈ F' ∨ b ∈ H' → b ∉ R.own q s ∧ b ∉ R.reads := fun b hb => by
    rcases old b hb with h1 | h1
    · exact h.apart b h1
    · exact ⟨fun hh => by have := hlt b hh; omega, fun hh => by have := hltr b hh; omega⟩
  have c2 := c.only hm hG
  have c3 := c2.only r.only fun b hb => ⟨fun hf => (ap b (.inl hf)).1 hb, fun hf => (ap b (.inr hf)).1 hb⟩
  refine ⟨c3, r.db, rel', fun b hb => ?_, Nat.le_trans h.base (Nat.le_trans co.size (Nat.le_trans hm.size r.only.size))⟩
  have hb2 : b < w2.heap.size := by
    rcases hb with hb | hb
    · exact c2.lt.1 b hb
    · exact c2.lt.2 b hb
  refine ⟨fun hh => ?_, fun hh => ?_⟩
  · rcases r.own b hh with h1 | h1
    · exact (ap b hb).1 h1
    · omega
  · rcases r.reads b hh with h1 | h1
    · exact (ap b hb).2 h1
    · omega
theorem TwoAt.next {w' : World} (h : TwoAt t w B p q s D F H R) (k : Below w.heap.size w w') : TwoAt (t + 1) w' B p q s D F H R :=
  let g := h.below k
  ⟨g.code, g.doc, g.rel.mono, g.apart, g.base⟩
theorem TwoAt.bCode {w1 : World} (h : TwoAt t w B p q s D F H R) (co : Only F w w1) : Below B w w1 := co.toBelow h.base h.code.ge.1
theorem TwoAt.bDoc {w1 w2 : World} {R' : RDB} (h : TwoAt t w B p q s D F H R) (hb : B ≤ w1.heap.size) (r : RStep w1 B q s R R' w2) : Below B w1 w2 := r.only.toBelow hb h.doc.ge
theorem TwoAt.bNext {w' : World} (h : TwoAt t w B p q s D F H R) (k : Below w.heap.size w w') : Below B w w' := k.mono h.base
end
/-- What write leaves. -/
def WrTo (t : Nat) (B p q s : Nat) (dim : Int) (w : World) (e : Ending) (w' : World) : Prop := e = .returned (.bool true) ∧ Two (t + 1) w' B p q s dim ∧ Below B w w'
theorem opBox (x : OpS) (w : World) : Hid (Below w.heap.size w (w.alloc (.cells x.cells.toArray tOp))) := Lib.hid ((Below.refl _ _).alloc (Nat.le_refl _) _)
set_option maxRecDepth 100000 in
set_option maxHeartbeats 4000000 in
theorem write_begin {t : Nat} {w : World} {B p q s : Nat} {D : PDB} {F H : List Nat} {R : RDB} (h : TwoAt t w B p q s D F H R) (ht : t < 150) (x : OpS) (hk : x.kind = 0) :
    Calls Tryz.prog 8 #[.pointer (some ⟨p, 0, none⟩), .pointer (some ⟨q, 0, none⟩), x.val] w (WrTo t B p q s D.dim w) := by
  have BX := opBox x w
  have HH := Lib.hid (h.below BX.out)
  have TB := Lib.hid ht
  have BB := Lib.hid h.base
  unfold OpS.val
  unfold OpS.cells at BX HH
  rw [hk] at BX HH ⊢
  unfold Sl.v at BX HH ⊢
  clear h ht hk
  by_cases hf : D.op.length < 8
  · have HF := Lib.hid hf
    clear hf
    go_enter Tryz.func8, Tryz.ntmps8
    go_wp2_with fail
    generalize w.alloc (.cells #[.int .i64 0, .int .i64 x.n, .int .u64 x.t, .int .u64 x.key, .int .u64 x.hi, .int .u64 x.it.key, .slice x.it.vec.a x.it.vec.xs.length x.it.vec.c, .slice x.it.tag.a x.it.tag.xs.length x.it.tag.c, .slice x.q.a x.q.xs.length x.q.c] 36) = w0 at *
    have hn := HH.out.rel.nums
    refine (begin_on HH.out.code HH.out.base HF.out (by have := TB.out; omega)).mono ?_
    rintro _ w1 ⟨bt, bm, F', rfl, hd, ho, hk⟩
    have hm := HH.out.mid ho
    have hR := HH.out.rel
    have C2 : Hid (Calls Tryz.prog 21 #[.pointer (some ⟨q, 0, none⟩)] w1 fun e w2 => e = .returned (.tuple #[.int .u64 (D.begun + 1), .int .i64 0]) ∧ Hid (∃ I a c, I.cs = R.done.cs ∧ RStep w1 B q s R (begR { R with begun := R.begun + 1 } (R.begun + 1) I a c) w2)) := Lib.hid ((begin_r20 hm (Nat.le_trans HH.out.base ho.size) (by rw [hR.size]; exact HF.out) (by rw [hR.begun]; have := TB.out; omega)).mono fun e w2 hk => by
      obtain ⟨I, a, c, he, h1, h2⟩ := hk
      exact ⟨by rw [he, hR.begun], Lib.hid ⟨I, a, c, h1, h2⟩⟩)
    have C1 := Lib.hid (And.intro hd (And.intro ho hk))
    clear hd ho hk hm hR hn
    go_wp2_with fail
    refine C2.out.mono ?_
    rintro _ w2 ⟨rfl, hx⟩
    have N : Hid (WrTo t B p q s D.dim w (.returned (.bool true)) w2) := Lib.hid (by
      obtain ⟨I, a, c, hI, hst'⟩ := hx.out
      have h9 := HH.out.step C1.out.1 C1.out.2.1 C1.out.2.2 (Kept.refl _ _) (Only.refl [] w1) (by simp) hst' (HH.out.rel.begin_ (bt := bt) (bm := bm) hI)
      exact ⟨rfl, ⟨_, _, _, _, h9, rfl⟩, (BX.out.mono BB.out).trans ((HH.out.bCode C1.out.2.1).trans (HH.out.bDoc (Nat.le_trans HH.out.base C1.out.2.1.size) hst'))⟩)
    clear hx
    go_wp2_with fail
    go_ret
    exact N.out
  · have HF : Hid (8 ≤ D.op.length) := Lib.hid (by omega)
    clear hf
    go_enter Tryz.func8, Tryz.ntmps8
    go_wp2_with fail
    generalize w.alloc (.cells #[.int .i64 0, .int .i64 x.n, .int .u64 x.t, .int .u64 x.key, .int .u64 x.hi, .int .u64 x.it.key, .slice x.it.vec.a x.it.vec.xs.length x.it.vec.c, .slice x.it.tag.a x.it.tag.xs.length x.it.tag.c, .slice x.q.a x.q.xs.length x.q.c] 36) = w0 at *
    obtain ⟨ba, bo, hD, _, _⟩ := HH.out.code
    have C1 := Lib.hid (begin_full hD HF.out (by have := HH.out.rel.size; have := HH.out.doc.fine.len; omega))
    clear hD
    refine C1.out.mono ?_
    rintro _ w1 ⟨rfl, hw⟩
    subst w1
    have C2 := Lib.hid (begin_r20_full HH.out.doc (by rw [HH.out.rel.size]; exact HF.out))
    go_wp2_with fail
    refine C2.out.mono ?_
    rintro _ w2 ⟨rfl, hw⟩
    subst w2
    go_wp2_with fail
    go_ret
    exact ⟨rfl, ⟨_, _, _, _, HH.out.next (Below.refl _ _), rfl⟩, BX.out.mono BB.out⟩
end Go.Proofs.YtmbmkfhdiljalaaGreat
