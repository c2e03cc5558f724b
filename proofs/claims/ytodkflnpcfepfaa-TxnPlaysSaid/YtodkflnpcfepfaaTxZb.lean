/- The document's manager: Begin. -/
import Derived.Test.YtodkflnpcfepfaaTxZa
namespace Go.Proofs.Ytodkflnpcfepfaa
open Go.RowKit Go.ChangeShapes Go.WideShapes Go.ChangeAt
set_option linter.unusedVariables false
set_option linter.unusedSimpArgs false

theorem infoTxn : (Try.prog.info? tRt).map (fun i => (i.zero, i.size, i.bytes)) = some (some (.agg #[.int .u64 0, .int .u64 0, .int .u64 0, .bool false, .slice none 0 0, .bool false]), 6, 64) := by kernel_rfl
theorem keyB_append (a b : List RT) : keyB (a ++ b) = keyB a ++ keyB b := by simp [keyB]
theorem RfAt.appended {w w2 : World} {B p : Nat} {av v' : Value} {R : Rf} {x : RT} (h : RfAt w B p av R) (ho : w2.ownsRow B tRt 6 v' (R.all.length + 1) (allL R.all ++ x.cells)) (k : Only av.ownBlock.toList w w2)
    (hf : v'.ownBlock = av.ownBlock ∨ ∀ g, v'.ownBlock = some g → w.heap.size ≤ g) (hka : x.ka = none) (hkc : x.kc = 0) (hks : x.keys = []) (hl : R.all.length < 1000)
    (fx : (0 ≤ x.n ∧ x.n < 18446744073709551616) ∧ (0 ≤ x.start ∧ x.start ≤ 1000) ∧ (0 ≤ x.at_ ∧ x.at_ ≤ R.last)) :
    RfAt (w2.setCell ⟨p, 1, none⟩ v') B p v' { R with all := R.all ++ [x] } ∧ Only (p :: av.ownBlock.toList) w (w2.setCell ⟨p, 1, none⟩ v') ∧ ∀ b ∈ ({ R with all := R.all ++ [x] } : Rf).blocks p v', b ∈ R.blocks p av ∨ w.heap.size ≤ b := by
  have hkv : x.kv = .slice none 0 0 := by simp [RT.kv, hka, hkc, hks]
  have hkb : keyB (R.all ++ [x]) = keyB R.all := by rw [keyB_append]; simp [keyB, hkv, Value.ownBlock]
  have hnd := h.nd
  simp only [Rf.blocks, List.nodup_cons, List.mem_append, not_or] at hnd
  obtain ⟨⟨n1, n2⟩, n3⟩ := hnd
  obtain ⟨m1, m2, m3⟩ := List.nodup_append.1 n3
  have hlt := h.lt
  have hp : p < w.heap.size := hlt p (by simp [Rf.blocks])
  have hkl : ∀ b ∈ keyB R.all, b < w.heap.size := fun b hb => hlt b (by simp [Rf.blocks, hb])
  have pv : ∀ g, v'.ownBlock = some g → g ≠ p ∧ g ∉ keyB R.all := fun g hg => by
    rcases hf with e | e
    · rw [e] at hg
      refine ⟨?_, fun hk => ?_⟩
      · rintro rfl
        exact n1 (by simp [hg])
      · exact m3 g (by simp [hg]) g hk rfl
    · have := e g hg
      refine ⟨by omega, fun hk => ?_⟩
      have := hkl g hk
      omega
  have ks : Only [p] w2 (w2.setCell ⟨p, 1, none⟩ v') := (Only.refl _ _).setCell (by simp) _
  have hbl : ∀ b ∈ ({ R with all := R.all ++ [x] } : Rf).blocks p v', b ∈ R.blocks p av ∨ w.heap.size ≤ b := by
    intro b hb
    simp only [Rf.blocks, hkb, List.mem_cons, List.mem_append] at hb
    rcases hb with rfl | hb | hb
    · exact .inl (by simp [Rf.blocks])
    · have hb' : v'.ownBlock = some b := by simpa using hb
      rcases hf with e | e
      · exact .inl (by simp [Rf.blocks, ← e, hb'])
      · exact .inr (e b hb')
    · exact .inl (by simp [Rf.blocks, hb])
  have kk : Only (p :: av.ownBlock.toList) w (w2.setCell ⟨p, 1, none⟩ v') := (k.mono (by intro i hi; exact .inl (List.mem_cons_of_mem _ hi))).trans ks (by simp)
  refine ⟨⟨?_, ?_, ?_, ?_, ?_, ?_⟩, kk, hbl⟩
  · have := (h.row.only k n1).set 1 v'
    simpa using this
  · have e : allL (R.all ++ [x]) = allL R.all ++ x.cells := by rw [allL_append]; simp [allL]
    simp only [e, List.length_append, List.length_cons, List.length_nil]
    exact own_keep ho fun g hg => ks.block g (ho.lt g hg).2 (by simp; exact (pv g hg).1)
  · intro y hy
    rcases List.mem_append.1 hy with hy | hy
    · refine own_keep (h.keys y hy) fun g hg => ?_
      have hgk := mem_keyB hy hg
      have hgl := ((h.keys y hy).lt g hg).2
      have e1 := k.block g hgl (fun hh => m3 g hh g hgk rfl)
      have e2 := ks.block g (Nat.lt_of_lt_of_le hgl k.size) (by simp only [List.mem_singleton]; rintro rfl; exact n2 hgk)
      exact e2.trans e1
    · simp only [List.mem_singleton] at hy
      subst hy
      rw [hkv, hks]
      exact World.ownsRow_nil _ _ _ _
  · simp only [Rf.blocks, hkb, List.nodup_cons, List.mem_append, not_or]
    refine ⟨⟨fun hh => (pv p (by simpa using hh)).1 rfl, n2⟩, List.nodup_append.2 ⟨by cases v'.ownBlock <;> simp, m2, ?_⟩⟩
    intro a ha b hb e
    subst e
    exact (pv a (by simpa using ha)).2 hb
  · intro b hb
    simp only [Rf.blocks, hkb, List.mem_cons, List.mem_append] at hb
    rcases hb with rfl | hb | hb
    · exact h.ge _ (by simp [Rf.blocks])
    · exact (ho.lt b (by simpa using hb)).1
    · exact h.ge b (by simp [Rf.blocks, hb])
  · refine ⟨h.fine.ep0, h.fine.last0, by simp; omega, fun y hy => ?_⟩
    rcases List.mem_append.1 hy with hy | hy
    · exact h.fine.each y hy
    · simp only [List.mem_singleton] at hy
      subst hy
      exact ⟨fx.1, fx.2.1, fx.2.2, by simp [hks]⟩
def freshT (R : Rf) : RT := ⟨R.base + (R.all.length + 1 : Nat), R.last, 0, true, [], none, 0⟩
def beginR (R : Rf) : Rf := { R with all := R.all ++ [freshT R] }
set_option maxRecDepth 100000 in
set_option maxHeartbeats 4000000 in
theorem begin_ref_full {w : World} {B p : Nat} {av : Value} {R : Rf} (h : RfAt w B p av R) (hf : 8 ≤ (openR R.all).length) :
    Calls Try.prog 16 #[.pointer (some ⟨p, 0, none⟩)] w (fun e w' => e = .returned (.tuple #[.int .u64 0, .int .i64 5]) ∧ Below w.heap.size w w') := by
  have OP := Lib.hid (open_ref h)
  obtain ⟨k, hk⟩ : ∃ k, (openR R.all).length = k := ⟨_, rfl⟩
  have d1 : decide ((8 : Int) ≤ (k : Int)) = true := decide_eq_true (by omega)
  have d1' : decide (8 ≤ k) = true := decide_eq_true (by omega)
  have HK := Lib.hid hk
  clear h hf hk
  go_enter Try.func16, Try.ntmps16
  go_wp2_with fail
  refine OP.out.mono ?_
  rintro _ w1 ⟨a, c, rfl, ho, hb⟩
  rw [HK.out]
  have HB := Lib.hid hb
  clear ho hb OP
  go_wp2_with fail
  go_ret2
  exact ⟨rfl, HB.out⟩
end Go.Proofs.Ytodkflnpcfepfaa
