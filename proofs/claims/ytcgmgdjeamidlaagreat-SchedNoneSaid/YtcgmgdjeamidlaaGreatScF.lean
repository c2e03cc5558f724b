/- Sched: begin over a DB as what serves; Txn; known. -/
import Derived.Test.YtcgmgdjeamidlaaGreatScE
namespace Go.Proofs.YtcgmgdjeamidlaaGreat
open Go.RowKit Go.Shelf Go.ChangeShapes Go.WideShapes Go.ChangeAt
set_option linter.unusedVariables false
set_option linter.unusedSimpArgs false

theorem sctxn_on {w : World} {g l n m ss : Nat} {cs : Array Value} {b d : Value} {t : Int} (hg : Row w g #[.slice (some ⟨l, 0, none⟩) n n, d] tSc) (hl : Row w l cs tLn) (hm : m < n) (hc0 : cs[m * 3]? = some (.pointer (some ⟨ss, 0, none⟩))) (hr : Row w ss #[b, .int .u64 t] tSs) :
    Calls Tryz.prog 31 #[.pointer (some ⟨g, 0, none⟩), .int .i64 (m : Int)] w fun e w' => e = .returned (.int .u64 t) ∧ w' = w := by
  have SN := Lib.hid (sessions_on hg)
  have TX := Lib.hid (txn_on hr)
  have c0 : w.cell? ⟨g, 0, none⟩ = some (.slice (some ⟨l, 0, none⟩) n n) := hg.cell 0
  have c1 : w.cell? ⟨l, m * 3, none⟩ = some (.pointer (some ⟨ss, 0, none⟩)) := (hl.cell _).trans hc0
  have d1 : decide ((m : Int) < 0) = false := decide_eq_false (by omega)
  have d2 : decide ((n : Int) ≤ (m : Int)) = false := decide_eq_false (by omega)
  have d2' : decide (n ≤ m) = false := decide_eq_false (by omega)
  have d3 : (m : Int) < (n : Int) := by omega
  clear hg hl hc0 hr
  go_enter Tryz.func31, Tryz.ntmps31
  go_wp2_with fail
  refine SN.out.mono ?_
  rintro _ w2 ⟨rfl, hw⟩
  subst w2
  go_wp2_with fail
  refine TX.out.mono ?_
  rintro _ w2 ⟨rfl, hw⟩
  subst w2
  go_wp2_with fail
  go_ret
  exact ⟨rfl, rfl⟩
/-- A DB that is asked to begin. -/
def BegS (B p ss s2 : Nat) : Serve (PDB × Int) where
  I := fun x F w => ∃ F1 H1, DbF w B p x.1 F1 H1 ∧ B ≤ w.heap.size ∧ Row w ss #[baseV p, .int .u64 x.2] tSs ∧ Row w s2 #[baseV p, .int .u64 0] tSs ∧ (ss ∉ F1 ∧ ss ∉ H1) ∧ (s2 ∉ F1 ∧ s2 ∉ H1) ∧ ss ≠ s2 ∧ F = ss :: s2 :: (F1 ++ H1)
  can := fun x q => x.2 = 0 ∧ x.1.op.length < 8 ∧ x.1.begun < 1000000 ∧ q = [1]
  step := fun x _ x' zs => x'.2 = x.1.begun + 1 ∧ zs = [1, 0]
theorem DbF.tag {F H : List Nat} {w : World} {B p : Nat} {D : PDB} (h : DbF w B p D F H) : ∀ b ∈ F, ∀ cs, w.heap[b]? ≠ some (.cells cs 5 (0, 0)) := by
  obtain ⟨ba, bo, h, rfl, rfl⟩ := h
  intro b hb cs hc
  simp only [PDB.own, List.mem_cons] at hb
  rcases hb with rfl | rfl | rfl | hb
  · have h1 : w.heap[b]? = _ := h.row
    rw [h1] at hc
    simp at hc
    exact absurd hc.2 (by decide)
  · obtain ⟨es, ck, h1, _⟩ := h.am
    rw [h1] at hc
    cases hc
  · obtain ⟨es, ck, h1, _⟩ := h.om
    rw [h1] at hc
    cases hc
  · obtain ⟨o, ho, hb⟩ := List.mem_flatMap.1 hb
    simp at hb
    rcases hb with rfl | rfl
    · have h1 : w.heap[o.bt]? = _ := (h.oa o ho).1
      rw [h1] at hc
      simp at hc
      exact absurd hc.2 (by decide)
    · obtain ⟨es, ck, h1, _⟩ := (h.oa o ho).2
      rw [h1] at hc
      cases hc
theorem own_tag {w : World} {B n : Nat} {e : TypeId} {v : Value} {xs : List Value} (h : w.ownsRow B e 1 v n xs) {b : Nat} (hb : v.ownBlock = some b) : ∃ cs, w.heap[b]? = some (.cells cs e (0, 0)) := by
  rcases h.2 with ⟨rfl, _⟩ | ⟨g, c, cur, rfl, _, hg, _⟩
  · simp [Value.ownBlock] at hb
  · simp [Value.ownBlock] at hb
    subst hb
    exact ⟨_, hg⟩
theorem begS_ok (B p ss s2 : Nat) : (BegS B p ss s2).Ok ss where
  only := by
    rintro s F w w' G ⟨F1, H1, h1, h2, h3, h4, h5, h6, h7, rfl⟩ k hF
    exact ⟨F1, H1, h1.only k fun b hb => ⟨fun hm => hF b (by simp [hm]) hb, fun hm => hF b (by simp [hm]) hb⟩, Nat.le_trans h2 k.size, h3.only k (hF _ (by simp)), h4.only k (hF _ (by simp)), h5, h6, h7, rfl⟩
  lt := by
    rintro s F w ⟨F1, H1, h1, h2, h3, h4, h5, h6, h7, rfl⟩ b hb
    simp at hb
    rcases hb with rfl | rfl | hb | hb
    · exact h3.lt
    · exact h4.lt
    · exact h1.lt.1 b hb
    · exact h1.lt.2 b hb
  does := by
    rintro s F w q ⟨F1, H1, h1, h2, h3, h4, h5, h6, h7, rfl⟩ hq _ _ ⟨c1, c2, c3, c4⟩
    rw [c1] at h3
    refine (do_begin h1 h2 c2 c3 h3 h5 hq c4).mono ?_
    rintro e w' ⟨⟨v, rfl, ho⟩, hr, bt, bm, F', hd, hO, hk⟩
    have hlt := h1.lt
    have l3 := h3.lt
    have l4 := h4.lt
    refine ⟨(beginP s.1 bt bm, s.1.begun + 1), ss :: s2 :: (F' ++ H1), [1, 0], v, ⟨rfl, rfl⟩, rfl, ho, ⟨F', H1, hd, Nat.le_trans h2 hO.size, hr, h4.only hO (by simp; exact ⟨fun e => h7 e.symm, h6.1⟩), ⟨fun hm => (hk _ hm).elim h5.1 fun h => by omega, h5.2⟩, ⟨fun hm => (hk _ hm).elim h6.1 fun h => by omega, h6.2⟩, h7, rfl⟩, hO.mono (by intro i hi; left; simp at hi ⊢; rcases hi with hi | hi <;> simp [hi]), fun b hb => ?_, fun b hb hm => ?_⟩
    · simp at hb
      rcases hb with rfl | rfl | hb | hb
      · exact .inl (by simp)
      · exact .inl (by simp)
      · exact (hk b hb).imp (fun h => by simp [h]) id
      · exact .inl (by simp [hb])
    · obtain ⟨cs, hcs⟩ := own_tag ho hb
      have hge := (ho.lt b hb).1
      simp at hm
      rcases hm with rfl | rfl | hm | hm
      · omega
      · omega
      · exact hd.tag b hm cs hcs
      · have := hlt.2 b hm; omega
  tells := by
    rintro s q s' zs ⟨_, rfl⟩
    refine ⟨by intro x hx; simp at hx; omega, by simp, fun w sl hr hx => ?_⟩
    refine (readtell_done 0 (by omega) (by omega) hr hx).mono ?_
    rintro e w' ⟨rfl, hb⟩
    exact ⟨1, 0, 0, 0, 0, none, none, none, none, 0, 0, 0, 0, 0, 0, 0, 0, rfl, by omega, hb⟩
theorem runs_stop {σ : Type} {S : Serve σ} {s s' : σ} {xs ys o : List Int} {d : Int} (h : Runs S s xs s' ys o d) (hz : sizeF xs = (0, 7)) : s' = s ∧ ys = xs ∧ o = [] ∧ d = 7 := by
  cases h with
  | stop => exact ⟨rfl, rfl, rfl, rfl⟩
  | long _ _ h => rw [hz] at h; simp at h
  | step _ _ k _ _ _ _ _ _ h => rw [hz] at h; simp at h
theorem runs_step {σ : Type} {S : Serve σ} {s s' : σ} {xs ys o : List Int} {d : Int} (h : Runs S s xs s' ys o d) {k : Nat} (hz : sizeF xs = ((k : Int), 0)) : ∃ s1 zs o1, S.step s ((xs.drop 4).take k) s1 zs ∧ Runs S s1 (xs.drop (4 + k)) s' ys o1 d ∧ o = leB (zs.length : Int) 4 ++ zs ++ o1 := by
  cases h with
  | stop _ _ h => rw [hz] at h; simp at h
  | long _ _ h => rw [hz] at h; simp at h
  | step _ _ k' s1 zs _ _ o1 _ h hs hr =>
    rw [hz] at h
    simp only [Prod.mk.injEq, and_true] at h
    have h' : k = k' := by omega
    subst h'
    exact ⟨s1, zs, o1, hs, hr, rfl⟩
end Go.Proofs.YtcgmgdjeamidlaaGreat
