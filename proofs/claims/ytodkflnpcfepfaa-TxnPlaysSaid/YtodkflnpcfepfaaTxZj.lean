/- The manager and the document's: the relation, and what each call makes of it. -/
import Derived.Test.YtodkflnpcfepfaaTxZi
import Derived.Test.YtodkflnpcfepfaaTxZc
namespace Go.Proofs.Ytodkflnpcfepfaa
open Go.RowKit Go.ChangeShapes Go.WideShapes Go.ChangeAt
set_option linter.unusedVariables false
set_option linter.unusedSimpArgs false

def okey (o : Tx) : Int × Int × List Int := (o.n, o.start, o.keys)
def rkey (x : RT) : Int × Int × List Int := (x.n, x.start, x.keys)
structure Rel (M : Mg) (R : Rf) : Prop where
  base : M.base = R.base
  ns : ∀ (j : Nat) x, R.all[j]? = some x → x.n = R.base + (j : Int) + 1
  begun : M.begun = (R.all.length : Int)
  last : M.last = R.last
  last0 : 0 ≤ R.last
  os : M.os.map okey = (R.all.filter fun x => x.op).map rkey
  st0 : ∀ x ∈ R.all, 0 ≤ x.start
  at0 : ∀ x ∈ R.all, x.op = true → x.at_ = 0
  atl : ∀ x ∈ R.all, x.at_ ≤ R.last
  ds : M.ds = doneL R
  ws : ∃ lvl : Int, 0 ≤ lvl ∧ lvl ≤ R.last ∧ (∀ x ∈ R.all, x.op = true → lvl ≤ x.start) ∧ (M.ws.map fun y => (y.st, y.keys)).Perm ((R.all.filter fun x => decide (lvl < x.at_)).map fun x => (x.at_, x.keys))
theorem Rel.split {M : Mg} {R : Rf} (h : Rel M R) {i : Nat} {x : RT} (hx : R.all[i]? = some x) : ∃ a b, R.all = a ++ x :: b ∧ (∀ y, R.all.set i y = a ++ y :: b) ∧ (∀ y ∈ a, y.n ≠ x.n) ∧ (∀ y ∈ b, y.n ≠ x.n) := by
  obtain ⟨a, b, h1, h2, h3⟩ := split_at hx
  have hxn := h.ns i x hx
  refine ⟨a, b, h1, h3, fun y hy e => ?_, fun y hy e => ?_⟩
  · obtain ⟨j, hj, rfl⟩ := List.getElem_of_mem hy
    have := h.ns j a[j] (by rw [h1, List.getElem?_append_left hj, List.getElem?_eq_getElem hj])
    omega
  · obtain ⟨j, hj, rfl⟩ := List.getElem_of_mem hy
    have := h.ns (a.length + 1 + j) b[j] (by rw [h1, List.getElem?_append_right (by omega), show a.length + 1 + j - a.length = j + 1 by omega, List.getElem?_cons_succ, List.getElem?_eq_getElem hj])
    omega
theorem Rel.find {M : Mg} {R : Rf} (h : Rel M R) (n : Int) : (∃ i x o, FoundAt R n i ∧ R.all[i]? = some x ∧ x.n = n ∧ x.op = true ∧ findT n M.os = some o ∧ o.n = n ∧ o.start = x.start ∧ o.keys = x.keys) ∨ (NotFound R n ∧ findT n M.os = none) := by
  have e1 : (M.os.map okey).find? (fun t => decide (t.1 = n)) = (findT n M.os).map okey := by rw [List.find?_map]; rfl
  have e2 : ((R.all.filter fun x => x.op).map rkey).find? (fun t => decide (t.1 = n)) = (R.all.find? fun x => x.op && decide (x.n = n)).map rkey := by
    rw [List.find?_map, List.find?_filter]
    refine congrArg (fun p => (List.find? p R.all).map rkey) (funext fun a => ?_)
    show decide (a.op = true ∧ decide (a.n = n) = true) = _
    cases a.op <;> simp
  rw [h.os, e2] at e1
  cases hf : R.all.find? fun x => x.op && decide (x.n = n) with
  | none =>
    right
    rw [hf] at e1
    rw [List.find?_eq_none] at hf
    refine ⟨fun j y hy hh => ?_, ?_⟩
    · have := hf y (List.mem_of_getElem? hy)
      simp [hh.1, hh.2] at this
    · cases ho : findT n M.os with
      | none => rfl
      | some o => rw [ho] at e1; simp at e1
  | some x =>
    left
    rw [hf] at e1
    rw [List.find?_eq_some_iff_getElem] at hf
    obtain ⟨h1, i, hi, h2, h3⟩ := hf
    simp only [Bool.and_eq_true, decide_eq_true_eq] at h1
    have hx : R.all[i]? = some x := by rw [List.getElem?_eq_getElem hi, h2]
    cases ho : findT n M.os with
    | none => rw [ho] at e1; simp at e1
    | some o =>
      rw [ho] at e1
      simp only [Option.map_some, Option.some.injEq, okey, rkey, Prod.mk.injEq] at e1
      refine ⟨i, x, o, ⟨⟨x, hx, h1.2, h1.1⟩, fun j y hj hy hh => ?_⟩, hx, h1.2, h1.1, rfl, (findT_some ho).2, e1.2.1.symm, e1.2.2.symm⟩
      have h4 := h3 j hj
      rw [List.getElem?_eq_getElem (by omega), Option.some.injEq] at hy
      rw [hy] at h4
      simp [hh.1, hh.2] at h4
theorem Rel.clash {M : Mg} {R : Rf} (h : Rel M R) {x : RT} {o : Tx} (hx : x ∈ R.all) (hop : x.op = true) (hs : o.start = x.start) (hk : o.keys = x.keys) : Clash M o ↔ ClashR R x := by
  obtain ⟨lvl, l0, l1, l2, hp⟩ := h.ws
  have hl := l2 x hx hop
  constructor
  · rintro ⟨y, hy, h1, k, hk1, hk2⟩
    have hm := hp.subset (List.mem_map.2 ⟨y, hy, rfl⟩)
    obtain ⟨z, hz, e⟩ := List.mem_map.1 hm
    simp only [Prod.mk.injEq] at e
    exact ⟨z, (List.mem_filter.1 hz).1, by omega, k, by rw [← hk]; exact hk1, by rw [e.2]; exact hk2⟩
  · rintro ⟨z, hz, h1, k, hk1, hk2⟩
    have hm := hp.symm.subset (List.mem_map.2 ⟨z, List.mem_filter.2 ⟨hz, by simp; omega⟩, rfl⟩)
    obtain ⟨y, hy, e⟩ := List.mem_map.1 hm
    simp only [Prod.mk.injEq] at e
    exact ⟨y, hy, by omega, k, by rw [hk]; exact hk1, by rw [e.2]; exact hk2⟩
theorem doneAt_app (a b : List RT) (t : Int) : doneAt (a ++ b) t = doneAt a t ++ doneAt b t := by simp [doneAt, List.filter_append]
theorem doneAt_cons (x : RT) (b : List RT) (t : Int) : doneAt (x :: b) t = (if x.at_ = t then [(x.n, t)] else []) ++ doneAt b t := by
  unfold doneAt
  rw [List.filter_cons]
  by_cases h : x.at_ = t
  · simp [h]
  · simp [h]
theorem doneTo_congr {l l' : List RT} : ∀ k : Nat, (∀ t : Int, 1 ≤ t → t ≤ k → doneAt l t = doneAt l' t) → doneTo l k = doneTo l' k
  | 0, _ => rfl
  | k + 1, h => by
    simp only [doneTo]
    rw [doneTo_congr k (fun t h1 h2 => h t h1 (by omega)), h _ (by omega) (by omega)]
theorem Rel.fresh {M : Mg} {R : Rf} (h : Rel M R) (bt bk : Nat) : Rel (beginM M bt bk) (beginR R) := by
  obtain ⟨lvl, l0, l1, l2, hp⟩ := h.ws
  have hmem : ∀ {p : RT → Prop}, (∀ x ∈ R.all, p x) → p (freshT R) → ∀ x ∈ R.all ++ [freshT R], p x := fun h1 h2 x hx => by
    rcases List.mem_append.1 hx with hx | hx
    · exact h1 x hx
    · simp only [List.mem_singleton] at hx
      subst hx
      exact h2
  refine ⟨h.base, fun j x hj => ?_, ?_, h.last, h.last0, ?_, hmem h.st0 h.last0, hmem h.at0 (fun _ => rfl), hmem h.atl h.last0, ?_, lvl, l0, l1, hmem l2 (fun _ => l1), ?_⟩
  · by_cases hj2 : j < R.all.length
    · have : (beginR R).all[j]? = R.all[j]? := List.getElem?_append_left hj2
      rw [this] at hj
      exact h.ns j x hj
    · have hj' : (R.all ++ [freshT R])[j]? = some x := hj
      rw [List.getElem?_append_right (by omega)] at hj'
      have hj3 : j - R.all.length = 0 := by
        have := (List.getElem?_eq_some_iff.1 hj').1
        simp at this
        omega
      rw [hj3] at hj'
      simp at hj'
      subst hj'
      show R.base + ((R.all.length + 1 : Nat) : Int) = R.base + (j : Int) + 1
      omega
  · show M.begun + 1 = ((R.all ++ [freshT R]).length : Int)
    rw [h.begun]
    simp
  · show (M.os ++ [_]).map okey = ((R.all ++ [freshT R]).filter fun x => x.op).map rkey
    rw [List.map_append, List.filter_append, List.map_append, h.os]
    congr 1
    have e : M.base + (M.begun + 1) = (freshT R).n := by
      show _ = R.base + ((R.all.length + 1 : Nat) : Int)
      rw [h.base, h.begun]
      omega
    have e2 : M.last = (freshT R).start := h.last
    show [(M.base + (M.begun + 1), M.last, ([] : List Int))] = [((freshT R).n, (freshT R).start, ([] : List Int))]
    rw [e, e2]
  · show M.ds = doneTo (R.all ++ [freshT R]) R.last.toNat
    rw [h.ds]
    refine doneTo_congr _ fun t h1 h2 => ?_
    rw [doneAt_app, doneAt_cons, if_neg (by show ¬ (0 : Int) = t; omega)]
    simp [doneAt]
  · show (M.ws.map _).Perm (((R.all ++ [freshT R]).filter fun x => decide (lvl < x.at_)).map _)
    rw [List.filter_append]
    have : ([freshT R].filter fun x => decide (lvl < x.at_)) = [] := by
      rw [List.filter_cons, if_neg (show ¬ (decide (lvl < (freshT R).at_) = true) from (show ¬ (decide (lvl < (0 : Int)) = true) by simpa using l0))]
      rfl
    rw [this, List.append_nil]
    exact hp
theorem Rel.swap {M M' : Mg} {R : Rf} {i : Nat} {x x' : RT} (h : Rel M R) (hx : R.all[i]? = some x) (e0 : x'.n = x.n) (e1 : x'.start = x.start) (e2 : x'.at_ = x.at_) (hop : x.op = true) (hb : M'.base = M.base) (hg : M'.begun = M.begun) (hl : M'.last = M.last) (hd : M'.ds = M.ds) (hw : M'.ws = M.ws)
    (ho : ∀ a b : List RT, (∀ y ∈ a, y.n ≠ x.n) → (∀ y ∈ b, y.n ≠ x.n) → M.os.map okey = (a.filter fun x => x.op).map rkey ++ rkey x :: (b.filter fun x => x.op).map rkey → M'.os.map okey = (a.filter fun x => x.op).map rkey ++ ((if x'.op then [rkey x'] else []) ++ (b.filter fun x => x.op).map rkey)) :
    Rel M' { R with all := R.all.set i x' } := by
  obtain ⟨lvl, l0, l1, l2, hp⟩ := h.ws
  obtain ⟨a, b, hab, hset, na, nb⟩ := h.split hx
  have hil := (List.getElem?_eq_some_iff.1 hx).1
  have hxm := List.mem_of_getElem? hx
  have hmem : ∀ {p : RT → Prop}, (∀ x ∈ R.all, p x) → p x' → ∀ y ∈ R.all.set i x', p y := fun h1 h2 y hy => by
    rcases mem_set_of hy with rfl | hy
    · exact h2
    · exact h1 y hy
  have at0 := h.at0 x hxm hop
  refine ⟨by rw [hb, h.base]; rfl, fun j y hj => ?_, by rw [hg, h.begun]; simp, by rw [hl, h.last], h.last0, ?_, hmem h.st0 (by rw [e1]; exact h.st0 x hxm), hmem h.at0 (fun _ => by rw [e2, at0]), hmem h.atl (by rw [e2]; exact h.atl x hxm), ?_, lvl, l0, l1, hmem l2 (fun _ => by rw [e1]; exact l2 x hxm hop), ?_⟩
  · have hj' : (R.all.set i x')[j]? = some y := hj
    by_cases e : i = j
    · subst e
      rw [List.getElem?_set_self (by omega)] at hj'
      simp only [Option.some.injEq] at hj'
      subst hj'
      rw [e0]
      exact h.ns i x hx
    · rw [List.getElem?_set_ne e] at hj'
      exact h.ns j y hj'
  · show M'.os.map okey = ((R.all.set i x').filter fun x => x.op).map rkey
    rw [hset, ho a b na nb (by rw [h.os, hab, List.filter_append, List.filter_cons, if_pos hop, List.map_append]; rfl), List.filter_append, List.map_append, List.filter_cons]
    cases hq : x'.op <;> simp [hq]
  · show M'.ds = doneTo (R.all.set i x') R.last.toNat
    rw [hd, h.ds]
    unfold doneL
    rw [hset, hab]
    refine doneTo_congr _ fun t h1 h2 => ?_
    rw [doneAt_app, doneAt_app, doneAt_cons, doneAt_cons, if_neg (by omega), if_neg (by omega)]
  · show (M'.ws.map _).Perm (((R.all.set i x').filter fun x => decide (lvl < x.at_)).map _)
    rw [hw, hset]
    rw [hab] at hp
    rw [List.filter_append, List.filter_cons, if_neg (by simp; omega)] at hp ⊢
    exact hp
theorem Rel.abort {M : Mg} {R : Rf} {i : Nat} {x : RT} (h : Rel M R) (hx : R.all[i]? = some x) (hop : x.op = true) : Rel (abortM M x.n) (abortR R i x) := by
  refine h.swap hx rfl rfl rfl hop rfl rfl rfl rfl rfl fun a b na nb e => ?_
  have e1 : (M.os.filter fun y => !decide (y.n = x.n)).map okey = (M.os.map okey).filter (fun t => !decide (t.1 = x.n)) := by rw [List.filter_map]; rfl
  show (M.os.filter fun y => !decide (y.n = x.n)).map okey = _
  have fa : ∀ l : List RT, (∀ y ∈ l, y.n ≠ x.n) → (((l.filter fun x => x.op).map rkey).filter fun t => !decide (t.1 = x.n)) = (l.filter fun x => x.op).map rkey := fun l hl => List.filter_eq_self.2 fun t ht => by
    obtain ⟨y, hy, rfl⟩ := List.mem_map.1 ht
    show (!decide (y.n = x.n)) = true
    rw [decide_eq_false (hl y (List.mem_filter.1 hy).1)]
    rfl
  rw [e1, e, List.filter_append, List.filter_cons, if_neg (by simp [rkey]), fa a na, fa b nb]
  simp [shutT]
theorem okey_wrote (M : Mg) (n k : Int) : (wroteM M n k).os.map okey = (M.os.map okey).map fun t => if t.1 = n then (t.1, t.2.1, addK k t.2.2) else t := by
  show (M.os.map _).map okey = _
  rw [List.map_map, List.map_map]
  refine List.map_congr_left fun o ho => ?_
  show okey (if o.n = n then { o with keys := addK k o.keys } else o) = (if o.n = n then (o.n, o.start, addK k o.keys) else okey o)
  by_cases e : o.n = n
  · rw [if_pos e, if_pos e]; rfl
  · rw [if_neg e, if_neg e]
theorem wrote_id {l : List RT} {n k : Int} (h : ∀ y ∈ l, y.n = n → k ∈ y.keys) : (((l.filter fun x => x.op).map rkey).map fun t => if t.1 = n then (t.1, t.2.1, addK k t.2.2) else t) = (l.filter fun x => x.op).map rkey := by
  rw [List.map_map]
  refine List.map_congr_left fun y hy => ?_
  show (if y.n = n then (y.n, y.start, addK k y.keys) else rkey y) = rkey y
  by_cases e : y.n = n
  · rw [if_pos e, addK, if_pos (h y (List.mem_filter.1 hy).1 e)]; rfl
  · rw [if_neg e]
theorem Rel.wroteOld {M : Mg} {R : Rf} {i : Nat} {x : RT} {k : Int} (h : Rel M R) (hx : R.all[i]? = some x) (hk : k ∈ x.keys) : Rel (wroteM M x.n k) R := by
  obtain ⟨a, b, hab, hset, na, nb⟩ := h.split hx
  refine ⟨h.base, h.ns, h.begun, h.last, h.last0, ?_, h.st0, h.at0, h.atl, h.ds, h.ws⟩
  rw [okey_wrote, h.os]
  refine wrote_id fun y hy e => ?_
  rw [hab] at hy
  rcases List.mem_append.1 hy with hy | hy
  · exact absurd e (na y hy)
  · rcases List.mem_cons.1 hy with rfl | hy
    · exact hk
    · exact absurd e (nb y hy)
theorem Rel.wroteNew {M : Mg} {R : Rf} {i : Nat} {x : RT} {k : Int} (h : Rel M R) (hx : R.all[i]? = some x) (hop : x.op = true) (hk : k ∉ x.keys) (a' : Option Addr) (c' : Nat) : Rel (wroteM M x.n k) (wroteR R i x k a' c') := by
  refine h.swap hx rfl rfl rfl hop rfl rfl rfl rfl rfl fun a b na nb e => ?_
  rw [okey_wrote, e, List.map_append, List.map_cons, wrote_id (fun y hy e => absurd e (na y hy)), wrote_id (fun y hy e => absurd e (nb y hy))]
  simp [rkey, wroteT, hop, addK, hk]
theorem Rel.commit {M : Mg} {R : Rf} {i : Nat} {x : RT} {o : Tx} (h : Rel M R) (hx : R.all[i]? = some x) (hop : x.op = true) (hn : o.n = x.n) (hk : o.keys = x.keys) : Rel (commitM M o) (commitR R i x) := by
  obtain ⟨lvl, l0, l1, l2, hp⟩ := h.ws
  obtain ⟨a, b, hab, hset, na, nb⟩ := h.split hx
  have hil := (List.getElem?_eq_some_iff.1 hx).1
  have hxm := List.mem_of_getElem? hx
  have at0 := h.at0 x hxm hop
  have hmem : ∀ {p : RT → Prop}, (∀ x ∈ R.all, p x) → p (doneT x (R.last + 1)) → ∀ y ∈ R.all.set i (doneT x (R.last + 1)), p y := fun h1 h2 y hy => by
    rcases mem_set_of hy with rfl | hy
    · exact h2
    · exact h1 y hy
  have ll := h.last0
  refine ⟨h.base, fun j y hj => ?_, by show M.begun = _; rw [h.begun]; simp [commitR], by show M.last + 1 = R.last + 1; rw [h.last], by show 0 ≤ R.last + 1; omega, ?_, hmem h.st0 (h.st0 x hxm), hmem h.at0 (fun e => by simp [doneT] at e), hmem (fun y hy => by have := h.atl y hy; show y.at_ ≤ R.last + 1; omega) (Int.le_refl _), ?_, lvl, l0, by show lvl ≤ R.last + 1; omega, hmem l2 (fun e => by simp [doneT] at e), ?_⟩
  · have hj' : (R.all.set i (doneT x (R.last + 1)))[j]? = some y := hj
    by_cases e : i = j
    · subst e
      rw [List.getElem?_set_self (by omega)] at hj'
      simp only [Option.some.injEq] at hj'
      subst hj'
      exact h.ns i x hx
    · rw [List.getElem?_set_ne e] at hj'
      exact h.ns j y hj'
  · have e1 : (M.os.filter fun y => !decide (y.n = o.n)).map okey = (M.os.map okey).filter (fun t => !decide (t.1 = o.n)) := by rw [List.filter_map]; rfl
    show (M.os.filter fun y => !decide (y.n = o.n)).map okey = ((R.all.set i (doneT x (R.last + 1))).filter fun x => x.op).map rkey
    have fa : ∀ l : List RT, (∀ y ∈ l, y.n ≠ x.n) → (((l.filter fun x => x.op).map rkey).filter fun t => !decide (t.1 = o.n)) = (l.filter fun x => x.op).map rkey := fun l hl => List.filter_eq_self.2 fun t ht => by
      obtain ⟨y, hy, rfl⟩ := List.mem_map.1 ht
      show (!decide (y.n = o.n)) = true
      rw [hn, decide_eq_false (hl y (List.mem_filter.1 hy).1)]
      rfl
    rw [e1, h.os, hab, List.filter_append, List.filter_cons, if_pos hop, List.map_append, List.map_cons, List.filter_append, List.filter_cons, if_neg (by simp [rkey, hn]), fa a na, fa b nb, ← hab, hset, List.filter_append, List.filter_cons, if_neg (by simp [doneT]), List.map_append]
  · show M.ds ++ [(o.n, M.last + 1)] = doneTo (R.all.set i (doneT x (R.last + 1))) (R.last + 1).toNat
    obtain ⟨q, hq⟩ : ∃ q : Nat, R.last = (q : Int) := ⟨R.last.toNat, by omega⟩
    rw [show (R.last + 1).toNat = q + 1 by omega, hset]
    simp only [doneTo]
    rw [h.ds, hn, h.last]
    unfold doneL
    rw [show R.last.toNat = q by omega]
    have hd0 : ∀ l : List RT, (∀ y ∈ l, y ∈ R.all) → doneAt l ((q : Int) + 1) = [] := fun l hl => by
      unfold doneAt
      rw [List.filter_eq_nil_iff.2, List.map_nil]
      intro y hy
      have := h.atl y (hl y hy)
      simp
      omega
    congr 1
    · rw [hab]
      refine doneTo_congr _ fun t h1 h2 => ?_
      rw [doneAt_app, doneAt_app, doneAt_cons, doneAt_cons, if_neg (by omega), if_neg (by show ¬ R.last + 1 = t; omega)]
    · rw [doneAt_app, doneAt_cons, if_pos (by show R.last + 1 = _; omega), hd0 a (fun y hy => by rw [hab]; exact List.mem_append_left _ hy), hd0 b (fun y hy => by rw [hab]; exact List.mem_append_right _ (List.mem_cons_of_mem _ hy))]
      simp [doneT, hq]
  · show ((M.ws ++ [(⟨M.last + 1, o.keys, o.bk⟩ : Wr)]).map _).Perm (((R.all.set i (doneT x (R.last + 1))).filter fun x => decide (lvl < x.at_)).map _)
    rw [hset, List.map_append]
    rw [hab, List.filter_append, List.filter_cons, if_neg (show ¬ (decide (lvl < x.at_) = true) by rw [at0]; simpa using l0)] at hp
    rw [List.filter_append, List.filter_cons, if_pos (show decide (lvl < (doneT x (R.last + 1)).at_) = true from (show decide (lvl < R.last + 1) = true by rw [decide_eq_true_eq]; omega)), List.map_append, List.map_cons]
    have h2 := (hp.append_right [((R.last + 1 : Int), x.keys)])
    rw [List.map_append] at h2
    simp only [List.map_cons, List.map_nil, h.last, hk]
    refine h2.trans ?_
    rw [List.append_assoc]
    refine List.Perm.append_left _ ?_
    exact List.perm_append_comm
/-! ### Forget -/
theorem minL_filter (last : Int) : ∀ (l : List RT) (m : Int), l.foldl (fun m x => if x.op then min m x.start else m) m = (l.filter fun x => x.op).foldl (fun m x => min m x.start) m
  | [], m => rfl
  | x :: l, m => by
    rw [List.foldl_cons, List.filter_cons]
    cases h : x.op <;> simp [minL_filter last l]
theorem foldl_okey (f : Int → Int × Int × List Int → Int) (l : List Tx) (m : Int) : l.foldl (fun m o => f m (okey o)) m = (l.map okey).foldl f m := by rw [List.foldl_map]
theorem foldl_rkey (f : Int → Int × Int × List Int → Int) (l : List RT) (m : Int) : l.foldl (fun m o => f m (rkey o)) m = (l.map rkey).foldl f m := by rw [List.foldl_map]
theorem Rel.least {M : Mg} {R : Rf} (h : Rel M R) : minT M.last M.os = minL R.last R.all := by
  unfold minT minL
  rw [minL_filter R.last, h.last]
  have e1 := foldl_okey (fun m t => min m t.2.1) M.os R.last
  have e2 := foldl_rkey (fun m t => min m t.2.1) (R.all.filter fun x => x.op) R.last
  simp only [okey, rkey] at e1 e2
  rw [e1, e2, ← show M.os.map okey = _ from h.os]
theorem foldmin_le (l : List RT) : ∀ m : Int, l.foldl (fun m x => min m x.start) m ≤ m ∧ (∀ x ∈ l, l.foldl (fun m x => min m x.start) m ≤ x.start) ∧ ∀ k : Int, k ≤ m → (∀ x ∈ l, k ≤ x.start) → k ≤ l.foldl (fun m x => min m x.start) m := by
  induction l with
  | nil => intro m; exact ⟨Int.le_refl _, by simp, fun k h _ => h⟩
  | cons x l ih =>
    intro m
    obtain ⟨h1, h2, h3⟩ := ih (min m x.start)
    simp only [List.foldl_cons]
    refine ⟨by omega, fun y hy => ?_, fun k hk hl => h3 k (by have := hl x (by simp); omega) (fun y hy => hl y (List.mem_cons_of_mem _ hy))⟩
    rcases List.mem_cons.1 hy with rfl | hy
    · omega
    · exact h2 y hy
theorem Rel.forget {M : Mg} {R : Rf} (h : Rel M R) : Rel (forgetM M) R := by
  obtain ⟨lvl, l0, l1, l2, hp⟩ := h.ws
  have hle := h.least
  have hm := foldmin_le (R.all.filter fun x => x.op) R.last
  unfold minL at hle
  rw [minL_filter R.last] at hle
  rw [← hle] at hm
  obtain ⟨m1, m2, m3⟩ := hm
  have hlv : lvl ≤ minT M.last M.os := m3 lvl l1 (fun x hx => by
    rw [List.mem_filter] at hx
    exact l2 x hx.1 hx.2)
  refine ⟨h.base, h.ns, h.begun, h.last, h.last0, h.os, h.st0, h.at0, h.atl, h.ds, minT M.last M.os, by omega, m1, fun x hx ho => m2 x (List.mem_filter.2 ⟨hx, ho⟩), ?_⟩
  have h1 := hp.filter (fun t => decide (minT M.last M.os < t.1))
  have e1 : (M.ws.map fun y => (y.st, y.keys)).filter (fun t => decide (minT M.last M.os < t.1)) = (forgetM M).ws.map fun y => (y.st, y.keys) := by
    rw [List.filter_map]; rfl
  have e2 : (((R.all.filter fun x => decide (lvl < x.at_)).map fun x => (x.at_, x.keys)).filter fun t => decide (minT M.last M.os < t.1)) = (R.all.filter fun x => decide (minT M.last M.os < x.at_)).map fun x => (x.at_, x.keys) := by
    rw [List.filter_map, List.filter_filter]
    congr 1
    refine List.filter_congr fun x _ => ?_
    simp only [Function.comp_apply]
    by_cases hh : minT M.last M.os < x.at_
    · simp [hh]; omega
    · simp [hh]
  rw [e1, e2] at h1
  exact h1
theorem cntL_split (least : Int) (l : List RT) (h : ∀ x ∈ l, x.op = true → ¬ least < x.at_) : ∀ m : Int, l.foldl (fun n x => if kept least x then n + (x.keys.length : Int) else n) m = m + ((l.filter fun x => x.op).map fun x => (x.keys.length : Int)).sum + ((l.filter fun x => decide (least < x.at_)).map fun x => (x.keys.length : Int)).sum := by
  induction l with
  | nil => intro m; simp
  | cons x l ih =>
    intro m
    have ih2 := ih (fun y hy => h y (List.mem_cons_of_mem _ hy))
    have hx := h x (by simp)
    rw [List.foldl_cons, List.filter_cons, List.filter_cons, ih2]
    cases ho : x.op with
    | true =>
      have := hx ho
      simp [kept, ho, this]
      omega
    | false =>
      by_cases hh : least < x.at_
      · simp [kept, ho, hh]
        omega
      · simp [kept, ho, hh]
theorem foldl_sum {α : Type} (f : α → Int) : ∀ (l : List α) (m : Int), l.foldl (fun n x => n + f x) m = m + (l.map f).sum
  | [], m => by simp
  | x :: l, m => by
    rw [List.foldl_cons, foldl_sum f l, List.map_cons, List.sum_cons]
    omega
theorem perm_sum {a b : List Int} (h : a.Perm b) : a.sum = b.sum := by
  induction h with
  | nil => rfl
  | cons x _ ih => simp [ih]
  | swap x y l => simp; omega
  | trans _ _ h1 h2 => rw [h1, h2]
theorem Rel.count {M : Mg} {R : Rf} (h : Rel M R) : sumT M.os + sumW (forgetM M).ws = forgetL R := by
  have hf := h.forget
  have hle := h.least
  have hm := foldmin_le (R.all.filter fun x => x.op) R.last
  have hle2 := hle
  unfold minL at hle2
  rw [minL_filter R.last] at hle2
  rw [← hle2] at hm
  obtain ⟨m1, m2, m3⟩ := hm
  have m0 : 0 ≤ minT M.last M.os := m3 0 h.last0 (fun x hx => h.st0 x (List.mem_filter.1 hx).1)
  unfold forgetL cntL
  rw [← hle, cntL_split _ _ (fun x hx ho => by rw [h.at0 x hx ho]; omega)]
  unfold sumT sumW
  rw [foldl_sum (fun o : Tx => (o.keys.length : Int)), foldl_sum (fun o : Wr => (o.keys.length : Int))]
  have e1 : M.os.map (fun o => (o.keys.length : Int)) = (R.all.filter fun x => x.op).map fun x => (x.keys.length : Int) := by
    have := congrArg (List.map fun t : Int × Int × List Int => (t.2.2.length : Int)) h.os
    rw [List.map_map, List.map_map] at this
    exact this
  have e2 : ((forgetM M).ws.map fun y => (y.keys.length : Int)).sum = ((R.all.filter fun x => decide (minT M.last M.os < x.at_)).map fun x => (x.keys.length : Int)).sum := by
    obtain ⟨lvl, l0, l1, l2, hp⟩ := h.ws
    have hlv : lvl ≤ minT M.last M.os := m3 lvl l1 (fun x hx => by
      rw [List.mem_filter] at hx
      exact l2 x hx.1 hx.2)
    have h1 := (hp.filter (fun t => decide (minT M.last M.os < t.1))).map (fun t : Int × List Int => (t.2.length : Int))
    have h2 := perm_sum h1
    rw [List.filter_map, List.map_map, List.filter_map, List.map_map, List.filter_filter] at h2
    have e3 : (R.all.filter fun a => (decide (minT M.last M.os < a.at_)) && decide (lvl < a.at_)) = R.all.filter fun x => decide (minT M.last M.os < x.at_) := by
      refine List.filter_congr fun x _ => ?_
      by_cases hh : minT M.last M.os < x.at_
      · simp [hh]; omega
      · simp [hh]
    have h3 : ((forgetM M).ws.map fun y => (y.keys.length : Int)).sum = ((R.all.filter fun a => (decide (minT M.last M.os < a.at_)) && decide (lvl < a.at_)).map fun x => (x.keys.length : Int)).sum := h2
    rw [h3, e3]
  rw [e1, e2]
  omega
theorem Rel.opens {M : Mg} {R : Rf} (h : Rel M R) : M.os.map (·.n) = openR R.all := by
  have := congrArg (List.map fun t : Int × Int × List Int => t.1) h.os
  rw [List.map_map, List.map_map] at this
  exact this
theorem Rel.new {ep : Int} (h : 0 ≤ ep) : Rel (newM ep) ⟨ep, 0, []⟩ :=
  ⟨rfl, fun j x hj => by simp at hj, rfl, rfl, Int.le_refl _, rfl, by simp, by simp, by simp, rfl, 0, Int.le_refl _, Int.le_refl _, by simp, by simp [newM]⟩
end Go.Proofs.Ytodkflnpcfepfaa
