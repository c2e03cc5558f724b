/- The calls as they are used; a manager that is not there; known. -/
import Derived.Test.YtodkflnpcfepfaaTxF
namespace Go.Proofs.Ytodkflnpcfepfaa
open Go.RowKit Go.ChangeShapes Go.WideShapes Go.ChangeAt
set_option linter.unusedVariables false
set_option linter.unusedSimpArgs false

def Kept (F F' : List Nat) (w : World) : Prop := ∀ b ∈ F', b ∈ F ∨ w.heap.size ≤ b
theorem Kept.refl (F : List Nat) (w : World) : Kept F F w := fun b hb => .inl hb
theorem Kept.trans {F G K : List Nat} {w w' : World} (h : Kept F G w) (k : Kept G K w') (hs : w.heap.size ≤ w'.heap.size) : Kept F K w := fun b hb => by
  rcases k b hb with h1 | h1
  · exact h b h1
  · exact .inr (Nat.le_trans hs h1)
theorem only_trans {F G : List Nat} {a b c : World} (h : Only F a b) (k : Only G b c) (hk : Kept F G a) : Only F a c := h.trans k hk
def BeginF (B p : Nat) (M : Mg) (F : List Nat) (w : World) (e : Ending) (w' : World) : Prop := ∃ bt bk F', e = .returned (.tuple #[.int .u64 (M.base + (M.begun + 1)), .int .i64 0]) ∧ MgF w' B p (beginM M bt bk) F' ∧ Only F w w' ∧ Kept F F' w
theorem beginF {B p : Nat} {M : Mg} {F : List Nat} {w : World} (h : MgF w B p M F) (hB : B ≤ w.heap.size) (hl : M.os.length < 8) (hb : M.begun < 1000000) :
    Calls Try.prog 9 #[.pointer (some ⟨p, 0, none⟩)] w (BeginF B p M F w) := by
  obtain ⟨bo, bw, dv, h, rfl⟩ := h
  refine (begin_at B p bo bw dv M w h hB hl hb).mono ?_
  rintro e w' ⟨bt, bk, he, hM, hO, h1, h2⟩
  refine ⟨bt, bk, _, he, ⟨bo, bw, dv, hM, rfl⟩, hO.mono (by intro i hi; simp at hi; rcases hi with rfl | rfl <;> exact .inl (by simp [Mg.blocks])), fun b hb => ?_⟩
  simp only [Mg.blocks, beginM, osB_append, List.mem_cons, List.mem_append] at hb ⊢
  have e1 : osB [⟨M.base + (M.begun + 1), M.last, [], bt, bk⟩] = [bt, bk] := by simp [osB]
  rw [e1] at hb
  simp only [List.mem_cons, List.not_mem_nil, or_false] at hb
  rcases hb with hb | hb | hb | hb | (hb | hb | hb) | hb
  · exact .inl (.inl hb)
  · exact .inl (.inr (.inl hb))
  · exact .inl (.inr (.inr (.inl hb)))
  · exact .inl (.inr (.inr (.inr (.inl hb))))
  · exact .inl (.inr (.inr (.inr (.inr (.inl hb)))))
  · exact .inr (hb ▸ h1)
  · exact .inr (hb ▸ h2)
  · exact .inl (.inr (.inr (.inr (.inr (.inr hb)))))
def WroteF (B p : Nat) (M : Mg) (F : List Nat) (n k : Int) (w : World) (e : Ending) (w' : World) : Prop := e = .returned (.int .i64 0) ∧ MgF w' B p (wroteM M n k) F ∧ Only F w w'
theorem wroteF {B p : Nat} {M : Mg} {F : List Nat} {w : World} {n k : Int} {o : Tx} (h : MgF w B p M F) (ho : findT n M.os = some o) :
    Calls Try.prog 10 #[.pointer (some ⟨p, 0, none⟩), .int .u64 n, .int .u64 k] w (WroteF B p M F n k w) := by
  obtain ⟨bo, bw, dv, h, rfl⟩ := h
  refine (wrote_yes B p bo bw dv M w n k o h ho).mono ?_
  rintro e w' ⟨he, hM, hO⟩
  refine ⟨he, ⟨bo, bw, dv, hM, (wrote_blocks M n k p bo bw dv).symm⟩, hO.mono ?_⟩
  intro i hi
  simp only [List.mem_singleton] at hi
  subst hi
  exact .inl (by simp [Mg.blocks, (mem_osB (findT_some ho).1).2])
def CommitF (B p : Nat) (M : Mg) (F : List Nat) (o : Tx) (w : World) (e : Ending) (w' : World) : Prop := ∃ F', e = .returned (.tuple #[.int .u64 (M.last + 1), .int .i64 0]) ∧ MgF w' B p (commitM M o) F' ∧ Only F w w' ∧ Kept F F' w
theorem commitF {B p : Nat} {M : Mg} {F : List Nat} {w : World} {n : Int} {o : Tx} (h : MgF w B p M F) (hB : B ≤ w.heap.size) (ho : findT n M.os = some o) (hc : ¬ Clash M o) (hl : M.last < 1000000) (hd : M.ds.length < 1000000) :
    Calls Try.prog 12 #[.pointer (some ⟨p, 0, none⟩), .int .u64 n] w (CommitF B p M F o w) := by
  obtain ⟨bo, bw, dv, h, rfl⟩ := h
  refine (commit_ok B p bo bw dv M w n o h hB ho hc hl hd).mono ?_
  rintro e w' ⟨v', he, hM, hO, hk⟩
  exact ⟨_, he, ⟨bo, bw, v', hM, rfl⟩, hO, hk⟩
theorem clashF {B p : Nat} {M : Mg} {F : List Nat} {w : World} {n : Int} {o : Tx} (h : MgF w B p M F) (ho : findT n M.os = some o) (hc : Clash M o) :
    Calls Try.prog 12 #[.pointer (some ⟨p, 0, none⟩), .int .u64 n] w fun e w' => e = .returned (.tuple #[.int .u64 0, .int .i64 11]) ∧ Below w.heap.size w w' := by
  obtain ⟨bo, bw, dv, h, rfl⟩ := h
  exact commit_clash B p bo bw dv M w n o h ho hc
def NewF (ep : Int) (w : World) (e : Ending) (w' : World) : Prop := ∃ p F, e = .returned (.pointer (some ⟨p, 0, none⟩)) ∧ MgF w' w.heap.size p (newM ep) F ∧ Below w.heap.size w w'

/-! ### known -/
def kM1 (a b : Nat) : Mg := beginM (newM 1) a b
def kM2 (a b c d : Nat) : Mg := beginM (kM1 a b) c d
def kM3 (a b c d : Nat) : Mg := wroteM (kM2 a b c d) 4294967297 7
def kM4 (a b c d : Nat) : Mg := wroteM (kM3 a b c d) 4294967298 7
theorem k_f1 (a b c d : Nat) : findT 4294967297 (kM2 a b c d).os = some ⟨4294967297, 0, [], a, b⟩ := by
  simp [kM2, kM1, beginM, newM, findT]
theorem k_f2 (a b c d : Nat) : findT 4294967298 (kM3 a b c d).os = some ⟨4294967298, 0, [], c, d⟩ := by
  simp [kM3, kM2, kM1, beginM, newM, findT, wroteM, addK]
theorem k_f3 (a b c d : Nat) : findT 4294967298 (kM4 a b c d).os = some ⟨4294967298, 0, [7], c, d⟩ := by
  simp [kM4, kM3, kM2, kM1, beginM, newM, findT, wroteM, addK]
theorem k_c3 (a b c d : Nat) : ¬ Clash (kM4 a b c d) ⟨4294967298, 0, [7], c, d⟩ := by
  simp [kM4, kM3, kM2, kM1, beginM, newM, wroteM, Clash]
theorem k_f4 (a b c d : Nat) : findT 4294967297 (commitM (kM4 a b c d) ⟨4294967298, 0, [7], c, d⟩).os = some ⟨4294967297, 0, [7], a, b⟩ := by
  simp [kM4, kM3, kM2, kM1, beginM, newM, findT, wroteM, addK, commitM]
theorem k_c4 (a b c d : Nat) : Clash (commitM (kM4 a b c d) ⟨4294967298, 0, [7], c, d⟩) ⟨4294967297, 0, [7], a, b⟩ := by
  simp [kM4, kM3, kM2, kM1, beginM, newM, wroteM, Clash, commitM, Meets]
theorem mg_below {F : List Nat} {w w' : World} {B p : Nat} {M : Mg} (h : MgF w B p M F) (k : Only F w w') (hB : B ≤ w.heap.size) : Below B w w' := k.toBelow hB h.ge
set_option maxHeartbeats 2000000 in
theorem known_any (w : World) : Calls Try.prog 7 #[] w fun e w' => e = .returned (.bool true) ∧ Below w.heap.size w w' := by
  have N := Lib.hid (new_any 1 w (by omega) (by omega))
  go_enter Try.func7, Try.ntmps7
  go_wp2_with fail
  refine N.out.mono ?_
  rintro _ w1 ⟨p, F0, rfl, h1, b1⟩
  have H1 := Lib.hid h1
  have B1 := Lib.hid b1
  clear h1 b1 N
  have K1 := Lib.hid (beginF H1.out B1.out.size (by simp [newM]) (by simp [newM]))
  go_wp2_with fail
  refine K1.out.mono ?_
  rintro _ w2 ⟨a, b, F1, rfl, h2, o2, k2⟩
  have B2 := Lib.hid (B1.out.trans (mg_below H1.out o2 B1.out.size))
  have H2 : Hid (MgF w2 w.heap.size p (kM1 a b) F1) := Lib.hid h2
  clear h2 o2 k2 K1
  have K2 := Lib.hid (beginF H2.out B2.out.size (by simp [kM1, beginM, newM]) (by simp [kM1, beginM, newM]))
  go_wp2_with fail
  refine K2.out.mono ?_
  rintro _ w3 ⟨c, d, F2, rfl, h2, o2, k2⟩
  have B3 := Lib.hid (B2.out.trans (mg_below H2.out o2 B2.out.size))
  have H3 : Hid (MgF w3 w.heap.size p (kM2 a b c d) F2) := Lib.hid h2
  clear h2 o2 k2 K2
  have e1 : (newM 1).base + ((newM 1).begun + 1) = 4294967297 := rfl
  have e2 : (kM1 a b).base + ((kM1 a b).begun + 1) = 4294967298 := rfl
  rw [e1, e2]
  have K3 := Lib.hid (wroteF (k := 7) H3.out (k_f1 a b c d))
  go_wp2_with fail
  refine K3.out.mono ?_
  rintro _ w4 ⟨rfl, h2, o2⟩
  have B4 := Lib.hid (B3.out.trans (mg_below H3.out o2 B3.out.size))
  have H4 : Hid (MgF w4 w.heap.size p (kM3 a b c d) F2) := Lib.hid h2
  clear h2 o2 K3
  have K4 := Lib.hid (wroteF (k := 7) H4.out (k_f2 a b c d))
  go_wp2_with fail
  refine K4.out.mono ?_
  rintro _ w5 ⟨rfl, h2, o2⟩
  have B5 := Lib.hid (B4.out.trans (mg_below H4.out o2 B4.out.size))
  have H5 : Hid (MgF w5 w.heap.size p (kM4 a b c d) F2) := Lib.hid h2
  clear h2 o2 K4
  have K5 := Lib.hid (commitF H5.out B5.out.size (k_f3 a b c d) (k_c3 a b c d) (by simp [kM4, kM3, kM2, kM1, beginM, newM, wroteM]) (by simp [kM4, kM3, kM2, kM1, beginM, newM, wroteM]))
  go_wp2_with fail
  refine K5.out.mono ?_
  rintro _ w6 ⟨F3, rfl, h2, o2, k2⟩
  have B6 := Lib.hid (B5.out.trans (mg_below H5.out o2 B5.out.size))
  have H6 := Lib.hid h2
  clear h2 o2 k2 K5
  have K6 := Lib.hid (clashF H6.out (k_f4 a b c d) (k_c4 a b c d))
  go_wp2_with fail
  refine K6.out.mono ?_
  rintro _ w7 ⟨rfl, b7⟩
  have B7 := Lib.hid (B6.out.trans (b7.mono B6.out.size))
  clear b7 K6
  have e3 : (kM4 a b c d).last + 1 = 1 := rfl
  rw [e3]
  go_wp2_with fail
  go_ret
  exact ⟨rfl, B7.out⟩
end Go.Proofs.Ytodkflnpcfepfaa
