/- Plain: what a manager holds while transactions write, and while they commit. -/
import Derived.Test.YtodkflnpcfepfaaTxH
namespace Go.Proofs.Ytodkflnpcfepfaa
set_option linter.unusedVariables false

def rowL (ks : List (List Int)) (j : Nat) : List Int := ks[j]?.getD []
def SameKeys (a b : List Int) : Prop := ∀ k, k ∈ a ↔ k ∈ b
/-- i transactions were begun, with all their keys; the last one has t of them. -/
structure Writing (b : Int) (ks : List (List Int)) (i t : Nat) (M : Mg) : Prop where
  base : M.base = b
  begun : M.begun = i
  last : M.last = 0
  ws : M.ws = []
  ds : M.ds = []
  len : M.os.length = i
  each : ∀ (j : Nat) (o : Tx), M.os[j]? = some o → o.n = b + (j : Int) + 1 ∧ o.start = 0 ∧ SameKeys o.keys ((rowL ks j).take (if j + 1 = i then t else 30))
theorem findT_at {b : Int} {os : List Tx} (h : ∀ (j : Nat) (o : Tx), os[j]? = some o → o.n = b + (j : Int) + 1) {j : Nat} {o : Tx} (ho : os[j]? = some o) : findT (b + (j : Int) + 1) os = some o := by
  have hj := (List.getElem?_eq_some_iff.1 ho).1
  have hn := h j o ho
  unfold findT
  rw [List.find?_eq_some_iff_getElem]
  refine ⟨by simpa using hn, j, hj, (List.getElem?_eq_some_iff.1 ho).2, fun k hk => ?_⟩
  have := h k _ (List.getElem?_eq_getElem (by omega))
  simp only [Bool.not_eq_eq_eq_not, Bool.not_true, decide_eq_false_iff_not]
  omega
theorem writing_new (ks : List (List Int)) (ep : Int) : Writing (ep * 4294967296) ks 0 30 (newM ep) :=
  ⟨rfl, rfl, rfl, rfl, rfl, rfl, fun j o h => by simp [newM] at h⟩
theorem Writing.begins {b : Int} {ks : List (List Int)} {i : Nat} {M : Mg} (h : Writing b ks i 30 M) (bt bk : Nat) : Writing b ks (i + 1) 0 (beginM M bt bk) := by
  refine ⟨h.base, by simp [beginM, h.begun], h.last, h.ws, h.ds, by simp [beginM, h.len], fun j o ho => ?_⟩
  simp only [beginM] at ho
  by_cases hj : j < M.os.length
  · rw [List.getElem?_append_left hj] at ho
    obtain ⟨h1, h2, h3⟩ := h.each j o ho
    refine ⟨h1, h2, ?_⟩
    rw [if_neg (by rw [h.len] at hj; omega)]
    have : (if j + 1 = i then 30 else 30) = 30 := by split <;> rfl
    rw [this] at h3
    exact h3
  · have hj2 : j = M.os.length := by
      have := (List.getElem?_eq_some_iff.1 ho).1
      simp at this; omega
    subst hj2
    rw [List.getElem?_append_right (Nat.le_refl _), Nat.sub_self] at ho
    simp only [List.getElem?_cons_zero, Option.some.injEq] at ho
    subst ho
    refine ⟨by show M.base + (M.begun + 1) = _; rw [h.base, h.begun, h.len]; omega, h.last, ?_⟩
    rw [if_pos (by rw [h.len])]
    intro k; simp
theorem Writing.now {b : Int} {ks : List (List Int)} {i t : Nat} {M : Mg} (h : Writing b ks (i + 1) t M) : ∃ o, findT (b + (i : Int) + 1) M.os = some o := by
  obtain ⟨o, ho⟩ : ∃ o, M.os[i]? = some o := ⟨_, List.getElem?_eq_getElem (by rw [h.len]; omega)⟩
  exact ⟨o, findT_at (fun j o hj => (h.each j o hj).1) ho⟩
theorem Writing.wrote {b : Int} {ks : List (List Int)} {i t : Nat} {M : Mg} (h : Writing b ks (i + 1) t M) (ht : t < (rowL ks i).length) : Writing b ks (i + 1) (t + 1) (wroteM M (b + (i : Int) + 1) ((rowL ks i)[t]?.getD 0)) := by
  refine ⟨h.base, h.begun, h.last, h.ws, h.ds, by simp [wroteM, h.len], fun j o ho => ?_⟩
  simp only [wroteM, List.getElem?_map, Option.map_eq_some_iff] at ho
  obtain ⟨x, hx, rfl⟩ := ho
  obtain ⟨h1, h2, h3⟩ := h.each j x hx
  have hj := (List.getElem?_eq_some_iff.1 hx).1
  rw [h.len] at hj
  by_cases e : j = i
  · subst e
    rw [if_pos h1]
    refine ⟨h1, h2, ?_⟩
    rw [if_pos rfl] at h3 ⊢
    intro k
    rw [mem_addK, h3 k, List.take_succ_eq_append_getElem ht, List.getElem?_eq_getElem ht, List.mem_append, List.mem_singleton]
    exact or_comm
  · rw [if_neg (by rw [h1]; omega)]
    refine ⟨h1, h2, ?_⟩
    rw [if_neg (by omega)] at h3 ⊢
    exact h3
theorem Writing.full {b : Int} {ks : List (List Int)} {i t : Nat} {M : Mg} (h : Writing b ks (i + 1) t M) (ht : (rowL ks i).length ≤ t ∨ t = 30) (h30 : t ≤ 30) : Writing b ks (i + 1) 30 M := by
  refine ⟨h.base, h.begun, h.last, h.ws, h.ds, h.len, fun j o ho => ?_⟩
  obtain ⟨h1, h2, h3⟩ := h.each j o ho
  refine ⟨h1, h2, ?_⟩
  by_cases e : j + 1 = i + 1
  · rw [if_pos e] at h3 ⊢
    have : j = i := by omega
    subst this
    rcases ht with ht | ht
    · rw [List.take_of_length_le ht] at h3
      rw [List.take_of_length_le (by omega)]
      exact h3
    · rw [ht] at h3; exact h3
  · rw [if_neg e] at h3 ⊢; exact h3

/-- Those of D are committed. -/
structure Going (b : Int) (ks : List (List Int)) (D : List Bool) (c : Nat) (M : Mg) : Prop where
  base : M.base = b
  last0 : 0 ≤ M.last
  last1 : M.last ≤ c
  dl : M.ds.length ≤ c
  len : D.length = ks.length
  op : ∀ (j : Nat), D[j]? = some false → ∃ o, findT (b + (j : Int) + 1) M.os = some o ∧ o.start = 0 ∧ SameKeys o.keys ((rowL ks j).take 30)
  dn : ∀ (j : Nat), D[j]? = some true → ∃ x ∈ M.ws, 0 < x.st ∧ SameKeys x.keys ((rowL ks j).take 30)
  cv : ∀ x ∈ M.ws, ∃ (j : Nat), D[j]? = some true ∧ SameKeys x.keys ((rowL ks j).take 30)
theorem Writing.going {b : Int} {ks : List (List Int)} {M : Mg} (h : Writing b ks ks.length 30 M) : Going b ks (List.replicate ks.length false) 0 M := by
  refine ⟨h.base, by rw [h.last]; omega, by rw [h.last]; omega, by rw [h.ds]; simp, by simp, fun j hj => ?_, fun j hj => ?_, fun x hx => ?_⟩
  · have hlt : j < ks.length := by have := (List.getElem?_eq_some_iff.1 hj).1; simpa using this
    obtain ⟨o, ho⟩ : ∃ o, M.os[j]? = some o := ⟨_, List.getElem?_eq_getElem (by rw [h.len]; omega)⟩
    obtain ⟨h1, h2, h3⟩ := h.each j o ho
    refine ⟨o, findT_at (fun j o hj => (h.each j o hj).1) ho, h2, ?_⟩
    have : (if j + 1 = ks.length then 30 else 30) = 30 := by split <;> rfl
    rw [this] at h3
    exact h3
  · rw [List.getElem?_replicate] at hj
    split at hj <;> simp at hj
  · rw [h.ws] at hx; simp at hx
/-- Has one that is committed a key in common with that of j? -/
def Clashes (ks : List (List Int)) (D : List Bool) (j : Nat) : Prop := ∃ k, D[k]? = some true ∧ MeetL (rowL ks j) (rowL ks k)
theorem meets_iff {a a' c c' : List Int} (h : SameKeys a (a'.take 30)) (k : SameKeys c (c'.take 30)) : Meets a c ↔ MeetL a' c' := by
  constructor
  · rintro ⟨x, h1, h2⟩; exact ⟨x, (h x).1 h1, (k x).1 h2⟩
  · rintro ⟨x, h1, h2⟩; exact ⟨x, (h x).2 h1, (k x).2 h2⟩
theorem Going.clash {b : Int} {ks : List (List Int)} {D : List Bool} {c j : Nat} {M : Mg} {o : Tx} (h : Going b ks D c M) (hf : ∀ x ∈ M.ws, 0 < x.st) (hs : o.start = 0) (hk : SameKeys o.keys ((rowL ks j).take 30)) : Clash M o ↔ Clashes ks D j := by
  constructor
  · rintro ⟨x, hx, h1, h2⟩
    obtain ⟨k, hk1, hk2⟩ := h.cv x hx
    exact ⟨k, hk1, (meets_iff hk hk2).1 h2⟩
  · rintro ⟨k, hk1, h2⟩
    obtain ⟨x, hx, h3, h4⟩ := h.dn k hk1
    exact ⟨x, hx, by rw [hs]; exact h3, (meets_iff hk h4).2 h2⟩
theorem findT_filter {n m : Int} {os : List Tx} (h : n ≠ m) : findT n (os.filter fun x => !decide (x.n = m)) = findT n os := by
  unfold findT
  rw [List.find?_filter]
  congr 1
  funext x
  by_cases e : x.n = n
  · have : ¬ x.n = m := fun e' => h (e.symm.trans e')
    simp [e, this]
    exact fun e' => h e'
  · simp [e]
theorem Going.commits {b : Int} {ks : List (List Int)} {D : List Bool} {c j : Nat} {M : Mg} {o : Tx} (h : Going b ks D c M) (hj : D[j]? = some false) (ho : findT (b + (j : Int) + 1) M.os = some o) (hk : SameKeys o.keys ((rowL ks j).take 30)) : Going b ks (D.set j true) (c + 1) (commitM M o) := by
  have hn := (findT_some ho).2
  have hlt := (List.getElem?_eq_some_iff.1 hj).1
  refine ⟨h.base, by have := h.last0; simp [commitM]; omega, by have := h.last1; simp [commitM]; omega, by have := h.dl; simp [commitM]; omega, by simp [h.len], fun i hi => ?_, fun i hi => ?_, fun x hx => ?_⟩
  · have hne : i ≠ j := by
      rintro rfl
      rw [List.getElem?_set_self hlt] at hi
      cases hi
    rw [List.getElem?_set_ne (Ne.symm hne)] at hi
    obtain ⟨o', h1, h2, h3⟩ := h.op i hi
    refine ⟨o', ?_, h2, h3⟩
    simp only [commitM]
    rw [findT_filter (by rw [hn]; omega)]
    exact h1
  · by_cases e : i = j
    · subst e
      exact ⟨⟨M.last + 1, o.keys, o.bk⟩, by simp [commitM], by have := h.last0; show 0 < M.last + 1; omega, hk⟩
    · rw [List.getElem?_set_ne (Ne.symm e)] at hi
      obtain ⟨x, h1, h2, h3⟩ := h.dn i hi
      exact ⟨x, by simp [commitM, h1], h2, h3⟩
  · simp only [commitM, List.mem_append, List.mem_singleton] at hx
    rcases hx with hx | rfl
    · obtain ⟨i, h1, h2⟩ := h.cv x hx
      refine ⟨i, ?_, h2⟩
      rw [List.getElem?_set_ne (by rintro rfl; rw [hj] at h1; cases h1)]
      exact h1
    · exact ⟨j, List.getElem?_set_self hlt, hk⟩
theorem Going.more {b : Int} {ks : List (List Int)} {D : List Bool} {c c' : Nat} {M : Mg} (h : Going b ks D c M) (hc : c ≤ c') : Going b ks D c' M :=
  ⟨h.base, h.last0, by have := h.last1; omega, by have := h.dl; omega, h.len, h.op, h.dn, h.cv⟩
theorem set_false {D : List Bool} {j : Nat} (h : D[j]? = some false) : D.set j false = D := by
  obtain ⟨h1, h2⟩ := List.getElem?_eq_some_iff.1 h
  conv => lhs; rw [← h2]
  exact List.set_getElem_self h1
end Go.Proofs.Ytodkflnpcfepfaa
