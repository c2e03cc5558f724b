/- A REGION THAT DRAWS ITS ORDER, BY AN INVARIANT: each operation is walked once, in a state of which only what has come up is known. -/
import Derived.Test.YtmbmkfhdiljalaaGreatGen
namespace Go.Proofs.YtmbmkfhdiljalaaGreat
open Go.RowKit Go.ChangeShapes Go.WideShapes Go.ChangeAt
set_option linter.unusedVariables false
set_option linter.unusedSimpArgs false

def QP (K : Act → World → Prop) : Exit → Act → World → Prop := fun e a w => e = .normal ∧ K a w
theorem wpOp_of_list {P : Program} {ops : Array Oper} {Q : Exit → Act → World → Prop} {i : Nat} {o : Oper} {K : Act → World → Prop} {a : Act} {w : World} (ho : ops[i]? = some o) (h : wpList P ops (QP K) [o] a w) : wpOp P ops Q i K a w := by
  unfold wpList at h
  unfold wpOp
  simp only [ho]
  split at h
  · rename_i hw
    rw [if_pos hw]
    rcases h with h | ⟨_, a', w', h, _⟩
    · refine .inl ?_
      unfold Oper.wp at *
      generalize (execOp a.eval o).run P w = r at *
      cases r with
      | ok n w' =>
        cases n <;> simp only [Oper.upon] at h ⊢
        case value u => exact h.2
        case skip => exact h.2
        case defer d => exact h.2
        case enter f args =>
          refine Calls.mono h fun e w'' he => ?_
          cases e with
          | returned u => exact he.2
          | panicked c => exact absurd he.1 (by simp)
          | outgrown => obtain ⟨a', w', h, _⟩ := he; cases h
        case row row args => exact Rows.mono h fun u w'' he => he.2
      | halt x w' => cases x <;> simp only [Oper.upon] at h ⊢; exact absurd h.1 (by simp)
    · cases h
  · rename_i hw
    rw [if_neg hw]
    exact h.2
theorem left_set : ∀ (l : List Bool) (i : Nat), l[i]? = some false → ((l.set i true).filter (!·)).length + 1 = (l.filter (!·)).length := by
  intro l
  induction l with
  | nil => intro i h; simp at h
  | cons b l ih =>
    intro i h
    cases i with
    | zero => simp at h; subst h; simp
    | succ i =>
      have := ih i (by simpa using h)
      simp only [List.set_cons_succ]
      cases b <;> simp at * <;> omega
section
variable {P : Program} {ops : Array Oper} {Q : Exit → Act → World → Prop}
theorem all_of_ready {listed : Array Bool} (hs : listed.size = ops.size) (hdag : ∀ (i : Nat) (o : Oper), ops[i]? = some o → ∀ e ∈ o.after, e.on < i) (h : Region.ready .any ops listed = []) : ∀ n i, i < n → i < ops.size → listed.getD i false = true := by
  intro n
  induction n with
  | zero => intro i hi; omega
  | succ n ih =>
    intro i hi hn
    cases hb : listed.getD i false with
    | true => rfl
    | false =>
      exfalso
      have hm : i ∈ Region.ready .any ops listed := mem_ready.2 ⟨by
        have hlt : i < listed.size := by omega
        simp [hlt] at hb ⊢
        exact hb, ops[i], Array.getElem?_eq_getElem hn, fun e he _ => by
        have h1 := hdag i ops[i] (Array.getElem?_eq_getElem hn) e he
        exact ih e.on (by omega) (by omega)⟩
      rw [h] at hm
      cases hm
theorem wpAny_inv (I : Array Bool → Act → World → Prop) (hdag : ∀ (i : Nat) (o : Oper), ops[i]? = some o → ∀ e ∈ o.after, e.on < i) (hsz : ∀ listed a w, I listed a w → listed.size = ops.size)
    (hstep : ∀ i listed a w, i ∈ Region.ready .any ops listed → I listed a w → wpOp P ops Q i (I (listed.setIfInBounds i true)) a w)
    (hend : ∀ listed a w, (∀ i, i < ops.size → listed.getD i false = true) → I listed a w → Q .normal a w) :
    ∀ (fuel : Nat) (listed : Array Bool) (a : Act) (w : World), (listed.toList.filter (!·)).length ≤ fuel → I listed a w → wpAny P .any ops Q fuel listed a w := by
  intro fuel
  induction fuel with
  | zero =>
    intro listed a w hf hI
    have hr : Region.ready .any ops listed = [] := by
      cases hr : Region.ready .any ops listed with
      | nil => rfl
      | cons i rs =>
        exfalso
        obtain ⟨h1, o, h2, _⟩ := mem_ready.1 (show i ∈ Region.ready .any ops listed by rw [hr]; simp)
        have hlt : i < listed.size := by rw [hsz _ _ _ hI]; exact (Array.getElem?_eq_some_iff.1 h2).1
        have hm : listed[i] ∈ listed.toList.filter (!·) := by
          rw [List.mem_filter]
          simp [hlt] at h1
          exact ⟨Array.mem_toList_iff.2 (Array.getElem_mem hlt), by rw [h1]; rfl⟩
        have := List.length_pos_of_mem hm
        omega
    exact ⟨hr, hend _ _ _ (fun i hi => all_of_ready (hsz _ _ _ hI) hdag hr (i + 1) i (by omega) hi) hI⟩
  | succ fuel ih =>
    intro listed a w hf hI
    refine ⟨fun hr => hend _ _ _ (fun i hi => all_of_ready (hsz _ _ _ hI) hdag hr (i + 1) i (by omega) hi) hI, fun i hi => ?_⟩
    refine wpOp_mono (fun a' w' h => ih _ a' w' ?_ h) (hstep i listed a w hi hI)
    obtain ⟨h1, o, h2, _⟩ := mem_ready.1 hi
    have hlt : i < listed.size := by rw [hsz _ _ _ hI]; exact (Array.getElem?_eq_some_iff.1 h2).1
    have := left_set listed.toList i (by simp [hlt] at h1; simp [hlt, h1])
    simp only [Array.toList_setIfInBounds]
    omega
/-- What operation i left. -/
def valOf (ops : Array Oper) (u : Nat → Value) (i : Nat) : Value := match (ops[i]?).bind (·.dst) with
  | some d => u d
  | none => undef
def upd (u : Nat → Value) (d : Nat) (v : Value) : Nat → Value := fun k => if k = d then v else u k
theorem valOf_upd {u : Nat → Value} {i j : Nat} {o : Oper} {d : Nat} {v : Value} (hinj : ∀ (i j : Nat) (oi oj : Oper) (d : Nat), ops[i]? = some oi → ops[j]? = some oj → oi.dst = some d → oj.dst = some d → i = j) (ho : ops[i]? = some o) (hd : o.dst = some d) :
    valOf ops (upd u d v) j = if j = i then v else valOf ops u j := by
  unfold valOf
  by_cases e : j = i
  · subst e
    rw [if_pos rfl, ho]
    simp [hd, upd]
  · rw [if_neg e]
    cases hj : ops[j]? with
    | none => simp
    | some oj =>
      simp only [Option.bind_some]
      cases hdj : oj.dst with
      | none => rfl
      | some dj =>
        simp only [upd]
        rw [if_neg]
        rintro rfl
        exact e (hinj j i oj o dj hj ho hdj hd)
/-- Operation j stands behind operation i. -/
def behindB (ops : Array Oper) : Nat → Nat → Nat → Bool
  | 0, _, _ => false
  | n + 1, j, i => match ops[j]? with
    | some o => o.after.toList.any fun e => Region.binds .any e && (e.on == i || behindB ops n e.on i)
    | none => false
/-- Operation i waits for operation j, and what j left is not used up (p.2, by p.1) by one that may come ahead of i. -/
def asksB (ops : Array Oper) (n : Nat) (kl : List (Nat × Nat)) (i j : Nat) : Bool := match ops[i]? with
  | some o => (o.after.any fun e => e.on == j && Region.binds .any e) && kl.all fun p => !(p.2 == j) || p.1 == i || behindB ops n p.1 i
  | none => false
/-- The form of a region: edges go back; no temporary twice. -/
def formB (ops : Array Oper) : Bool :=
  (List.range ops.size).all fun i => match ops[i]? with
    | some o => (o.after.toList.all fun e => decide (e.on < i)) &&
      (List.range ops.size).all fun j => match ops[j]? with
        | some oj => i == j || o.dst.isNone || !(o.dst == oj.dst)
        | none => true
    | none => true
theorem form_dag (h : formB ops = true) : ∀ (i : Nat) (o : Oper), ops[i]? = some o → ∀ e ∈ o.after, e.on < i := by
  intro i o ho e he
  unfold formB at h
  have hi := (Array.getElem?_eq_some_iff.1 ho).1
  have h1 := List.all_eq_true.1 h i (List.mem_range.2 hi)
  simp only [ho, Bool.and_eq_true] at h1
  simpa using List.all_eq_true.1 h1.1 e (by simpa using he)
theorem form_inj (h : formB ops = true) : ∀ (i j : Nat) (oi oj : Oper) (d : Nat), ops[i]? = some oi → ops[j]? = some oj → oi.dst = some d → oj.dst = some d → i = j := by
  intro i j oi oj d hi hj hdi hdj
  unfold formB at h
  have hi' := (Array.getElem?_eq_some_iff.1 hi).1
  have hj' := (Array.getElem?_eq_some_iff.1 hj).1
  have h1 := List.all_eq_true.1 h i (List.mem_range.2 hi')
  simp only [hi, Bool.and_eq_true] at h1
  have h2 := List.all_eq_true.1 h1.2 j (List.mem_range.2 hj')
  simp only [hj, hdi, hdj] at h2
  simpa using h2
/-- What is listed has all that it waits for listed. -/
def Closed (ops : Array Oper) (listed : Array Bool) : Prop := ∀ (k : Nat) (o : Oper), ops[k]? = some o → listed.getD k false = true → ∀ e ∈ o.after, Region.binds .any e = true → listed.getD e.on false = true
theorem closed_behind {listed : Array Bool} (hc : Closed ops listed) : ∀ (n j i : Nat), behindB ops n j i = true → listed.getD j false = true → listed.getD i false = true := by
  intro n
  induction n with
  | zero => intro j i h; cases h
  | succ n ih =>
    intro j i h hl
    unfold behindB at h
    split at h
    · rename_i o ho
      obtain ⟨e, he, hb⟩ := List.any_eq_true.1 h
      simp only [Bool.and_eq_true, Bool.or_eq_true, beq_iff_eq] at hb
      have h1 := hc j o ho hl e (by simpa using he) hb.1
      rcases hb.2 with rfl | h2
      · exact h1
      · exact ih _ _ h2 h1
    · cases h
/-- **THE LAW**: S is held throughout; R i tells what operation i leaves, till one uses it up (kl); T i is how operation i may turn the world. -/
theorem region_inv {id : Nat} {a : Act} {w : World} (hm : P.follows .mixedOrders = true) (n : Nat) (kl : List (Nat × Nat)) (fr : (Nat → Value) → Act) (S : World → Prop) (R : Nat → Value → World → Prop) (T : Nat → World → World → Prop)
    (hform : formB ops = true)
    (hfr : ∀ (i : Nat) (o : Oper) (d : Nat) (u : Nat → Value) (v : Value), ops[i]? = some o → o.dst = some d → (fr u).put (some d) v = fr (upd u d v))
    (hT : ∀ i j u w w', (i, j) ∉ kl → j ≠ i → behindB ops n j i = false → T i w w' → R j u w → R j u w') (u0 : Nat → Value) (h0 : a = fr u0) (hS : S w.drew)
    (hstep : ∀ (i : Nat) (o : Oper), ops[i]? = some o → ∀ (u : Nat → Value) (w : World), S w → (∀ j, asksB ops n kl i j = true → R j (valOf ops u j) w) → wpList P ops (QP fun a' w' => ∃ v, a' = (fr u).put o.dst v ∧ S w' ∧ T i w w' ∧ R i (if o.dst.isSome then v else undef) w') [o] (fr u) w)
    (hend : ∀ u w, S w → (∀ i, i < ops.size → (∀ p ∈ kl, p.2 ≠ i) → R i (valOf ops u i) w) → Q .normal (fr u) w) : (Code.region id ops true).wp P Q a w := by
  have hdag := form_dag hform
  have hinj := form_inj hform
  refine wp_region_any hm ?_
  let I : Array Bool → Act → World → Prop := fun listed a w => listed.size = ops.size ∧ Closed ops listed ∧ ∃ u, a = fr u ∧ S w ∧ ∀ i, listed.getD i false = true → (∀ p ∈ kl, p.2 = i → listed.getD p.1 false = false) → R i (valOf ops u i) w
  refine wpAny_inv I hdag (fun _ _ _ h => h.1) ?_ ?_ _ _ _ _ ?_ ?_
  · rintro i listed a w hi ⟨hs, hcl, u, rfl, hSw, hR⟩
    obtain ⟨h1, o, ho, hall⟩ := mem_ready.1 hi
    have hni : listed.getD i false = false := by
      have hlt : i < listed.size := by rw [hs]; exact (Array.getElem?_eq_some_iff.1 ho).1
      simp [hlt] at h1 ⊢
      exact h1
    refine wpOp_mono ?_ (wpOp_of_list ho (hstep i o ho u w hSw fun j hj => ?_))
    · rintro a' w' ⟨v, rfl, hS', hTw, hRi⟩
      have old : ∀ j, j ≠ i → (listed.setIfInBounds i true).getD j false = listed.getD j false := fun j hj => by
        simp [Array.getD_eq_getD_getElem?, Array.getElem?_setIfInBounds, Ne.symm hj]
      have new : (listed.setIfInBounds i true).getD i false = true := by
        have hlt : i < listed.size := by rw [hs]; exact (Array.getElem?_eq_some_iff.1 ho).1
        simp [Array.getD_eq_getD_getElem?, hlt]
      have more : ∀ j, listed.getD j false = true → (listed.setIfInBounds i true).getD j false = true := fun j hj => by
        by_cases e : j = i
        · rw [e]; exact new
        · rw [old j e]; exact hj
      refine ⟨by simpa using hs, fun k ok hk hl e he hb => ?_, ?_⟩
      · by_cases ek : k = i
        · subst ek
          rw [ho] at hk
          cases hk
          exact more _ (hall e he hb)
        · rw [old k ek] at hl
          exact more _ (hcl k ok hk hl e he hb)
      have keep : ∀ j, j ≠ i → (listed.setIfInBounds i true).getD j false = true → (∀ p ∈ kl, p.2 = j → (listed.setIfInBounds i true).getD p.1 false = false) → R j (valOf ops u j) w' := fun j hj hl hp => by
        rw [old j hj] at hl
        refine hT i j _ _ _ (fun hm => ?_) hj ?_ hTw (hR j hl fun p hpm hpj => ?_)
        · have := hp _ hm rfl
          rw [new] at this
          cases this
        · cases hbh : behindB ops n j i with
          | false => rfl
          | true =>
            have := closed_behind hcl n j i hbh hl
            rw [hni] at this
            cases this
        · have h2 := hp p hpm hpj
          by_cases e : p.1 = i
          · rw [e]; exact hni
          · rw [old _ e] at h2; exact h2
      cases hd : o.dst with
      | none =>
        refine ⟨u, by simp [Act.put], hS', fun j hj hp => ?_⟩
        by_cases e : j = i
        · subst e
          rw [hd] at hRi
          have : valOf ops u j = undef := by unfold valOf; rw [ho]; simp [hd]
          rw [this]
          exact hRi
        · exact keep j e hj hp
      | some d =>
        refine ⟨upd u d v, hfr i o d u v ho hd, hS', fun j hj hp => ?_⟩
        rw [valOf_upd hinj ho hd]
        by_cases e : j = i
        · subst e
          rw [if_pos rfl]
          rw [hd] at hRi
          exact hRi
        · rw [if_neg e]
          exact keep j e hj hp
    · unfold asksB at hj
      simp only [ho, Bool.and_eq_true] at hj
      obtain ⟨e, he, hb⟩ := Array.any_eq_true'.1 hj.1
      simp only [Bool.and_eq_true, beq_iff_eq] at hb
      obtain ⟨rfl, hb⟩ := hb
      refine hR _ (hall e he hb) fun p hp hpe => ?_
      have h3 := List.all_eq_true.1 hj.2 p hp
      simp only [hpe, beq_self_eq_true, Bool.not_true, Bool.false_or, Bool.or_eq_true, beq_iff_eq] at h3
      rcases h3 with h | h
      · rw [h]
        exact hni
      · cases hl : listed.getD p.1 false with
        | false => rfl
        | true =>
          have := closed_behind hcl n _ _ h hl
          rw [hni] at this
          cases this
  · rintro listed a w hall ⟨hs, _, u, rfl, hSw, hR⟩
    exact hend u w hSw fun i hi hk => hR i (hall i hi) fun p hp hpi => absurd hpi (hk p hp)
  · have : ∀ n, ((List.replicate n false).filter (!·)).length = n := fun n => by induction n with
      | zero => rfl
      | succ n ih => simp
    simp
  · have no : ∀ i, (Array.replicate ops.size false).getD i false = true → False := fun i hi => by
      simp [Array.getD_eq_getD_getElem?, Array.getElem?_replicate] at hi
      split at hi <;> simp at hi
    exact ⟨by simp, fun k o _ hl => absurd hl fun h => no _ h, u0, h0, hS, fun i hi => absurd hi fun h => no _ h⟩
/-- THE LAW WITH A TURN: S false is held till operation L comes, S true from then on. -/
theorem region_inv_at {id : Nat} {a : Act} {w : World} (hm : P.follows .mixedOrders = true) (n : Nat) (kl : List (Nat × Nat)) (fr : (Nat → Value) → Act) (S : Bool → World → Prop) (R : Nat → Value → World → Prop) (T : Nat → World → World → Prop)
    (hform : formB ops = true) (L : Nat) (hLs : L < ops.size)
    (hfr : ∀ (i : Nat) (o : Oper) (d : Nat) (u : Nat → Value) (v : Value), ops[i]? = some o → o.dst = some d → (fr u).put (some d) v = fr (upd u d v))
    (hT : ∀ i j u w w', (i, j) ∉ kl → j ≠ i → behindB ops n j i = false → T i w w' → R j u w → R j u w') (u0 : Nat → Value) (h0 : a = fr u0) (hS : S false w.drew)
    (hstep : ∀ (i : Nat) (o : Oper), ops[i]? = some o → ∀ (b : Bool) (u : Nat → Value) (w : World), (b = true → behindB ops n L i = false ∧ i ≠ L) → ((o.after.any fun e => e.on == L && Region.binds .any e) = true → b = true) → S b w → (∀ j, asksB ops n kl i j = true → R j (valOf ops u j) w) → wpList P ops (QP fun a' w' => ∃ v, a' = (fr u).put o.dst v ∧ S (b || i == L) w' ∧ T i w w' ∧ R i (if o.dst.isSome then v else undef) w') [o] (fr u) w)
    (hend : ∀ u w, S true w → (∀ i, i < ops.size → (∀ p ∈ kl, p.2 ≠ i) → R i (valOf ops u i) w) → Q .normal (fr u) w) : (Code.region id ops true).wp P Q a w := by
  have hdag := form_dag hform
  have hinj := form_inj hform
  refine wp_region_any hm ?_
  let I : Array Bool → Act → World → Prop := fun listed a w => listed.size = ops.size ∧ Closed ops listed ∧ ∃ u, a = fr u ∧ S (listed.getD L false) w ∧ ∀ i, listed.getD i false = true → (∀ p ∈ kl, p.2 = i → listed.getD p.1 false = false) → R i (valOf ops u i) w
  refine wpAny_inv I hdag (fun _ _ _ h => h.1) ?_ ?_ _ _ _ _ ?_ ?_
  · rintro i listed a w hi ⟨hs, hcl, u, rfl, hSw, hR⟩
    obtain ⟨h1, o, ho, hall⟩ := mem_ready.1 hi
    have hni : listed.getD i false = false := by
      have hlt : i < listed.size := by rw [hs]; exact (Array.getElem?_eq_some_iff.1 ho).1
      simp [hlt] at h1 ⊢
      exact h1
    have hbL : listed.getD L false = true → behindB ops n L i = false ∧ i ≠ L := fun hl => by
      constructor
      · cases hb : behindB ops n L i with
        | false => rfl
        | true =>
          have := closed_behind hcl n L i hb hl
          rw [hni] at this
          cases this
      · rintro rfl
        rw [hni] at hl
        cases hl
    have hbT : (o.after.any fun e => e.on == L && Region.binds .any e) = true → listed.getD L false = true := fun hx => by
      obtain ⟨e, he, hb⟩ := Array.any_eq_true'.1 hx
      simp only [Bool.and_eq_true, beq_iff_eq] at hb
      obtain ⟨rfl, hb⟩ := hb
      exact hall e he hb
    refine wpOp_mono ?_ (wpOp_of_list ho (hstep i o ho _ u w hbL hbT hSw fun j hj => ?_))
    · rintro a' w' ⟨v, rfl, hS', hTw, hRi⟩
      have old : ∀ j, j ≠ i → (listed.setIfInBounds i true).getD j false = listed.getD j false := fun j hj => by
        simp [Array.getD_eq_getD_getElem?, Array.getElem?_setIfInBounds, Ne.symm hj]
      have new : (listed.setIfInBounds i true).getD i false = true := by
        have hlt : i < listed.size := by rw [hs]; exact (Array.getElem?_eq_some_iff.1 ho).1
        simp [Array.getD_eq_getD_getElem?, hlt]
      have hS' : S ((listed.setIfInBounds i true).getD L false) w' := by
        by_cases e : i = L
        · rw [← e, new]
          simpa [e] using hS'
        · rw [old L (fun h => e h.symm)]
          rw [beq_false_of_ne e, Bool.or_false] at hS'
          exact hS'
      have more : ∀ j, listed.getD j false = true → (listed.setIfInBounds i true).getD j false = true := fun j hj => by
        by_cases e : j = i
        · rw [e]; exact new
        · rw [old j e]; exact hj
      refine ⟨by simpa using hs, fun k ok hk hl e he hb => ?_, ?_⟩
      · by_cases ek : k = i
        · subst ek
          rw [ho] at hk
          cases hk
          exact more _ (hall e he hb)
        · rw [old k ek] at hl
          exact more _ (hcl k ok hk hl e he hb)
      have keep : ∀ j, j ≠ i → (listed.setIfInBounds i true).getD j false = true → (∀ p ∈ kl, p.2 = j → (listed.setIfInBounds i true).getD p.1 false = false) → R j (valOf ops u j) w' := fun j hj hl hp => by
        rw [old j hj] at hl
        refine hT i j _ _ _ (fun hm => ?_) hj ?_ hTw (hR j hl fun p hpm hpj => ?_)
        · have := hp _ hm rfl
          rw [new] at this
          cases this
        · cases hbh : behindB ops n j i with
          | false => rfl
          | true =>
            have := closed_behind hcl n j i hbh hl
            rw [hni] at this
            cases this
        · have h2 := hp p hpm hpj
          by_cases e : p.1 = i
          · rw [e]; exact hni
          · rw [old _ e] at h2; exact h2
      cases hd : o.dst with
      | none =>
        refine ⟨u, by simp [Act.put], hS', fun j hj hp => ?_⟩
        by_cases e : j = i
        · subst e
          rw [hd] at hRi
          have : valOf ops u j = undef := by unfold valOf; rw [ho]; simp [hd]
          rw [this]
          exact hRi
        · exact keep j e hj hp
      | some d =>
        refine ⟨upd u d v, hfr i o d u v ho hd, hS', fun j hj hp => ?_⟩
        rw [valOf_upd hinj ho hd]
        by_cases e : j = i
        · subst e
          rw [if_pos rfl]
          rw [hd] at hRi
          exact hRi
        · rw [if_neg e]
          exact keep j e hj hp
    · unfold asksB at hj
      simp only [ho, Bool.and_eq_true] at hj
      obtain ⟨e, he, hb⟩ := Array.any_eq_true'.1 hj.1
      simp only [Bool.and_eq_true, beq_iff_eq] at hb
      obtain ⟨rfl, hb⟩ := hb
      refine hR _ (hall e he hb) fun p hp hpe => ?_
      have h3 := List.all_eq_true.1 hj.2 p hp
      simp only [hpe, beq_self_eq_true, Bool.not_true, Bool.false_or, Bool.or_eq_true, beq_iff_eq] at h3
      rcases h3 with h | h
      · rw [h]
        exact hni
      · cases hl : listed.getD p.1 false with
        | false => rfl
        | true =>
          have := closed_behind hcl n _ _ h hl
          rw [hni] at this
          cases this
  · rintro listed a w hall ⟨hs, _, u, rfl, hSw, hR⟩
    rw [hall L hLs] at hSw
    exact hend u w hSw fun i hi hk => hR i (hall i hi) fun p hp hpi => absurd hpi (hk p hp)
  · have : ∀ n, ((List.replicate n false).filter (!·)).length = n := fun n => by induction n with
      | zero => rfl
      | succ n ih => simp
    simp
  · have no : ∀ i, (Array.replicate ops.size false).getD i false = true → False := fun i hi => by
      simp [Array.getD_eq_getD_getElem?, Array.getElem?_replicate] at hi
      split at hi <;> simp at hi
    exact ⟨by simp, fun k o _ hl => absurd hl fun h => no _ h, u0, h0, by
      cases hb : (Array.replicate ops.size false).getD L false with
      | false => exact hS
      | true => exact absurd hb fun h => no _ h, fun i hi => absurd hi fun h => no _ h⟩
end
def AllFrom (M : Nat → Oper → Prop) : Nat → List Oper → Prop
  | _, [] => True
  | k, o :: l => M k o ∧ AllFrom M (k + 1) l
theorem AllFrom.at {M : Nat → Oper → Prop} : ∀ (l : List Oper) (k : Nat), AllFrom M k l → ∀ (i : Nat) (o : Oper), l[i]? = some o → M (k + i) o := by
  intro l
  induction l with
  | nil => intro k _ i o h; simp at h
  | cons x l ih =>
    intro k h i o hi
    cases i with
    | zero => simp at hi; subst hi; exact h.1
    | succ i =>
      have := ih (k + 1) h.2 i o (by simpa using hi)
      rw [show k + (i + 1) = k + 1 + i by omega]
      exact this
theorem each_op {M : Nat → Oper → Prop} {l : List Oper} (h : AllFrom M 0 l) : ∀ (i : Nat) (o : Oper), l.toArray[i]? = some o → M i o := fun i o hi => by
  have := AllFrom.at l 0 h i o (by simpa using hi)
  rwa [Nat.zero_add] at this
end Go.Proofs.YtmbmkfhdiljalaaGreat
