/- A region that draws its order and ends in one operation behind all others: the invariant law for it. -/
import Derived.Test.YtmbmkfhdiljalaaGreatInv
namespace Go.Proofs.YtmbmkfhdiljalaaGreat
open Go.RowKit Go.ChangeShapes Go.WideShapes Go.ChangeAt
set_option linter.unusedVariables false
set_option linter.unusedSimpArgs false

def FinQ (L i : Nat) (A B : Prop) : Prop := (i = L → A) ∧ (i ≠ L → B)
theorem fin_no {L i : Nat} {A B : Prop} (h : i ≠ L) (b : B) : FinQ L i A B := ⟨fun e => absurd e h, fun _ => b⟩
theorem fin_yes {L i : Nat} {A B : Prop} (h : i = L) (a : A) : FinQ L i A B := ⟨fun _ => a, fun n => absurd h n⟩
section
variable {P : Program} {ops : Array Oper} {Q : Exit → Act → World → Prop}
/-- One operation of the region: what it waits for is given. -/
def FinM (P : Program) (ops : Array Oper) (n : Nat) (kl : List (Nat × Nat)) (fr : (Nat → Value) → Act) (S : Bool → World → Prop) (R : Nat → Value → World → Prop) (T : Nat → World → World → Prop) (L M : Nat) (E : World → Prop) (i : Nat) (o : Oper) : Prop :=
  ∀ (b : Bool) (u : Nat → Value) (w : World), (b = true → behindB ops n M i = false ∧ i ≠ M) → ((o.after.any fun e => e.on == M && Region.binds .any e) = true → b = true) → S b w → (∀ j, asksB ops n kl i j = true → R j (valOf ops u j) w) → wpList P ops (QP fun a' w' => ∃ v, a' = (fr u).put o.dst v ∧ FinQ L i (E w') (S (b || i == M) w' ∧ T i w w' ∧ R i (if o.dst.isSome then v else undef) w')) [o] (fr u) w
theorem region_fin {id : Nat} {a : Act} {w : World} (hm : P.follows .mixedOrders = true) (n : Nat) (kl : List (Nat × Nat)) (fr : (Nat → Value) → Act) (S : Bool → World → Prop) (R : Nat → Value → World → Prop) (T : Nat → World → World → Prop)
    (hform : formB ops = true) (L M : Nat) (hLs : L < ops.size) (hall : ((List.range ops.size).all fun i => i == L || behindB ops n L i) = true) (E : World → Prop)
    (hfr : ∀ (i : Nat) (o : Oper) (d : Nat) (u : Nat → Value) (v : Value), ops[i]? = some o → o.dst = some d → (fr u).put (some d) v = fr (upd u d v))
    (hT : ∀ i j u w w', (i, j) ∉ kl → j ≠ i → behindB ops n j i = false → T i w w' → R j u w → R j u w') (u0 : Nat → Value) (h0 : a = fr u0) (hS : S false w.drew)
    (hstep : ∀ (i : Nat) (o : Oper), ops[i]? = some o → FinM P ops n kl fr S R T L M E i o)
    (hend : ∀ u w, E w → Q .normal (fr u) w) : (Code.region id ops true).wp P Q a w := by
  have hdag := form_dag hform
  have hinj := form_inj hform
  refine wp_region_any hm ?_
  let I : Array Bool → Act → World → Prop := fun listed a w => listed.size = ops.size ∧ Closed ops listed ∧ ∃ u, a = fr u ∧ (listed.getD L false = true → E w) ∧ (listed.getD L false = false → S (listed.getD M false) w ∧ ∀ i, listed.getD i false = true → (∀ p ∈ kl, p.2 = i → listed.getD p.1 false = false) → R i (valOf ops u i) w)
  refine wpAny_inv I hdag (fun _ _ _ h => h.1) ?_ ?_ _ _ _ _ ?_ ?_
  · rintro i listed a w hi ⟨hs, hcl, u, rfl, hE, hR0⟩
    obtain ⟨h1, o, ho, hall2⟩ := mem_ready.1 hi
    have hio := (Array.getElem?_eq_some_iff.1 ho).1
    have hni : listed.getD i false = false := by
      have hlt : i < listed.size := by rw [hs]; exact hio
      simp [hlt] at h1 ⊢
      exact h1
    have hnL : listed.getD L false = false := by
      cases hl : listed.getD L false with
      | false => rfl
      | true =>
        have h2 := List.all_eq_true.1 hall i (List.mem_range.2 hio)
        simp only [Bool.or_eq_true, beq_iff_eq] at h2
        rcases h2 with rfl | h2
        · rw [hni] at hl; cases hl
        · have := closed_behind hcl n L i h2 hl
          rw [hni] at this
          cases this
    obtain ⟨hSw, hR⟩ := hR0 hnL
    refine wpOp_mono ?_ (wpOp_of_list ho (hstep i o ho (listed.getD M false) u w ?_ ?_ hSw fun j hj => ?_))
    · rintro a' w' ⟨v, rfl, hfin⟩
      have old : ∀ j, j ≠ i → (listed.setIfInBounds i true).getD j false = listed.getD j false := fun j hj => by
        simp [Array.getD_eq_getD_getElem?, Array.getElem?_setIfInBounds, Ne.symm hj]
      have new : (listed.setIfInBounds i true).getD i false = true := by
        have hlt : i < listed.size := by rw [hs]; exact (Array.getElem?_eq_some_iff.1 ho).1
        simp [Array.getD_eq_getD_getElem?, hlt]
      have more : ∀ j, listed.getD j false = true → (listed.setIfInBounds i true).getD j false = true := fun j hj => by
        by_cases e : j = i
        · rw [e]; exact new
        · rw [old j e]; exact hj
      have hcl' : Closed ops (listed.setIfInBounds i true) := fun k ok hk hl e he hb => by
        by_cases ek : k = i
        · subst ek
          rw [ho] at hk
          cases hk
          exact more _ (hall2 e he hb)
        · rw [old k ek] at hl
          exact more _ (hcl k ok hk hl e he hb)
      refine ⟨by simpa using hs, hcl', ?_⟩
      by_cases hiL : i = L
      · have hEw := hfin.1 hiL
        have hLt : (listed.setIfInBounds i true).getD L false = true := by rw [← hiL]; exact new
        cases hd : o.dst with
        | none => exact ⟨u, by simp [Act.put], fun _ => hEw, fun h => (by rw [hLt] at h; cases h)⟩
        | some d => exact ⟨upd u d v, hfr i o d u v ho hd, fun _ => hEw, fun h => (by rw [hLt] at h; cases h)⟩
      · obtain ⟨hS', hTw, hRi⟩ := hfin.2 hiL
        have hLf : (listed.setIfInBounds i true).getD L false = false := by rw [old L (fun e => hiL e.symm)]; exact hnL
        have hS' : S ((listed.setIfInBounds i true).getD M false) w' := by
          by_cases e : i = M
          · rw [← e, new]
            simpa [e] using hS'
          · rw [old M (fun h => e h.symm)]
            rw [beq_false_of_ne e, Bool.or_false] at hS'
            exact hS'
        have keep : ∀ j, j ≠ i → (listed.setIfInBounds i true).getD j false = true → (∀ p ∈ kl, p.2 = j → (listed.setIfInBounds i true).getD p.1 false = false) → R j (valOf ops u j) w' := fun j hj hl hp => by
          rw [old j hj] at hl
          refine hT i j _ _ _ (fun hm => ?_) hj ?_ hTw (hR j hl fun p hpm hpj => ?_)
          · have := hp _ hm rfl
            rw [new] at this
            cases this
          · cases hbh : behindB ops n j i with
            | false => rfl
            | true =>
              have := closed_behind hcl n j i hbh hl
              rw [hni] at this
              cases this
          · have h2 := hp p hpm hpj
            by_cases e : p.1 = i
            · rw [e]; exact hni
            · rw [old _ e] at h2; exact h2
        cases hd : o.dst with
        | none =>
          refine ⟨u, by simp [Act.put], fun h => (by rw [hLf] at h; cases h), fun _ => ⟨hS', fun j hj hp => ?_⟩⟩
          by_cases e : j = i
          · subst e
            rw [hd] at hRi
            have : valOf ops u j = undef := by unfold valOf; rw [ho]; simp [hd]
            rw [this]
            exact hRi
          · exact keep j e hj hp
        | some d =>
          refine ⟨upd u d v, hfr i o d u v ho hd, fun h => (by rw [hLf] at h; cases h), fun _ => ⟨hS', fun j hj hp => ?_⟩⟩
          rw [valOf_upd hinj ho hd]
          by_cases e : j = i
          · subst e
            rw [if_pos rfl]
            rw [hd] at hRi
            exact hRi
          · rw [if_neg e]
            exact keep j e hj hp
    · intro hb
      refine ⟨?_, fun e => by rw [e, hb] at hni; cases hni⟩
      cases hbh : behindB ops n M i with
      | false => rfl
      | true =>
        have := closed_behind hcl n M i hbh hb
        rw [hni] at this
        cases this
    · intro h
      obtain ⟨e, he, hb⟩ := Array.any_eq_true'.1 h
      simp only [Bool.and_eq_true, beq_iff_eq] at hb
      obtain ⟨rfl, hb⟩ := hb
      exact hall2 e he hb
    · unfold asksB at hj
      simp only [ho, Bool.and_eq_true] at hj
      obtain ⟨e, he, hb⟩ := Array.any_eq_true'.1 hj.1
      simp only [Bool.and_eq_true, beq_iff_eq] at hb
      obtain ⟨rfl, hb⟩ := hb
      refine hR _ (hall2 e he hb) fun p hp hpe => ?_
      have h3 := List.all_eq_true.1 hj.2 p hp
      simp only [hpe, beq_self_eq_true, Bool.not_true, Bool.false_or, Bool.or_eq_true, beq_iff_eq] at h3
      rcases h3 with h | h
      · rw [h]
        exact hni
      · cases hl : listed.getD p.1 false with
        | false => rfl
        | true =>
          have := closed_behind hcl n _ _ h hl
          rw [hni] at this
          cases this
  · rintro listed a w hall3 ⟨hs, _, u, rfl, hE, _⟩
    exact hend u w (hE (hall3 L hLs))
  · simp
  · have no : ∀ i, (Array.replicate ops.size false).getD i false = true → False := fun i hi => by
      simp [Array.getD_eq_getD_getElem?, Array.getElem?_replicate] at hi
      split at hi <;> simp at hi
    exact ⟨by simp, fun k o _ hl => absurd hl fun h => no _ h, u0, h0, fun h => absurd h fun h => no _ h, fun _ => ⟨by
      cases hb : (Array.replicate ops.size false).getD M false with
      | false => exact hS
      | true => exact absurd hb fun h => no _ h, fun i hi => absurd hi fun h => no _ h⟩⟩
theorem region_fin_at {id : Nat} {a : Act} {w : World} (hm : P.follows .mixedOrders = true) (n : Nat) (kl : List (Nat × Nat)) (fr : (Nat → Value) → Act) (S : Bool → World → Prop) (R : Nat → Value → World → Prop) (T : Nat → World → World → Prop)
    (hform : formB ops = true) (L M : Nat) (hLs : L < ops.size) (hall : ((List.range ops.size).all fun i => i == L || behindB ops n L i) = true) (E : World → Prop)
    (hfr : ∀ (i : Nat) (o : Oper) (d : Nat) (u : Nat → Value) (v : Value), ops[i]? = some o → o.dst = some d → (fr u).put (some d) v = fr (upd u d v))
    (hT : ∀ i j u w w', (i, j) ∉ kl → j ≠ i → behindB ops n j i = false → T i w w' → R j u w → R j u w') (h0 : a = fr (fun k => a.tmps.getD k undef)) (hS : S false w.drew)
    (hstep : ∀ (i : Nat) (o : Oper), ops[i]? = some o → FinM P ops n kl fr S R T L M E i o)
    (hend : ∀ u w, E w → Q .normal (fr u) w) : (Code.region id ops true).wp P Q a w :=
  region_fin hm n kl fr S R T hform L M hLs hall E hfr hT _ h0 hS hstep hend
end
end Go.Proofs.YtmbmkfhdiljalaaGreat
