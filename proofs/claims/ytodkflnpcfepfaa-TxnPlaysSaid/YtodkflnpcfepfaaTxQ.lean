/- A slice of Ops that came in; what calls make of a manager. -/
import Derived.Test.YtodkflnpcfepfaaTxP
import Derived.Test.YtodkflnpcfepfaaOpF
namespace Go.Proofs.Ytodkflnpcfepfaa
open Go.RowKit Go.ChangeShapes Go.WideShapes Go.ChangeAt Go.Deep Go.Joins
set_option linter.unusedVariables false
set_option linter.unusedSimpArgs false

structure OpV where
  kind : Int
  at_ : Int
  key : Int
  odd : Bool
instance OpV.some : Inhabited OpV := ⟨⟨0, 0, 0, false⟩⟩
structure OpAt (w : World) (b o : Nat) (x : OpV) : Prop where
  c0 : w.cell? ⟨b, o, none⟩ = some (.int .i64 x.kind)
  c1 : w.cell? ⟨b, o + 1, none⟩ = some (.int .i64 x.at_)
  c2 : w.cell? ⟨b, o + 2, none⟩ = some (.int .u64 x.key)
  c3 : w.cell? ⟨b, o + 3, none⟩ = some (.bool x.odd)
  w0 : -9223372036854775808 ≤ x.at_ ∧ x.at_ ≤ 9223372036854775807
  w2 : 0 ≤ x.key ∧ x.key < 18446744073709551616
def OpsIn (w : World) (a : Option Addr) (n c : Nat) (os : List OpV) : Prop := os.length = n ∧ n ≤ 9223372036854775807 ∧ (n = 0 ∨ ∃ b off, a = some ⟨b, off, none⟩ ∧ ∀ i x, os[i]? = some x → OpAt w b (off + i * 4) x)
theorem ops_in {H : Type} {enc : TypeId × Value → H} {W : World} {fuel : Nat} {a : Option Addr} {n c : Nat} {x : DataW H × List MemPlace} (h : DataW.trod enc Try.prog W 0 (fun _ => true) true fuel 38 [.slice a n c] = some x) :
    ∃ os, OpsIn W a n c os := by
  rcases open_slice_fields Try.underlying38 Try.underlying54 (by kernel_rfl) (by kernel_rfl) h with hcs | ⟨ad, len, cap, m, k, V, hcs, hl, hm, hmm, hx⟩
  · simp at hcs
    obtain ⟨rfl, rfl, rfl⟩ := hcs
    exact ⟨[], rfl, by omega, .inl rfl⟩
  · simp at hcs
    obtain ⟨rfl, rfl, rfl⟩ := hcs
    simp only [if_true] at hmm
    subst hmm
    unfold maxLen at hm
    by_cases h0 : n = 0
    · exact ⟨[], h0 ▸ rfl, by omega, .inl h0⟩
    have each : ∀ i, i < m → ∃ x : OpV, W.cell? (ad.add (i * 4)) = some (.int .i64 x.kind) ∧ W.cell? (ad.add (i * 4 + 1)) = some (.int .i64 x.at_) ∧ W.cell? (ad.add (i * 4 + 2)) = some (.int .u64 x.key) ∧ W.cell? (ad.add (i * 4 + 3)) = some (.bool x.odd) ∧
        (Lit.int .i64 x.at_).wf = true ∧ (Lit.int .u64 x.key).wf = true := by
      intro i hi
      obtain ⟨e0, y0, t0⟩ := hx i hi 0 _ rfl
      obtain ⟨e1, y1, t1⟩ := hx i hi 1 _ rfl
      obtain ⟨e2, y2, t2⟩ := hx i hi 2 _ rfl
      obtain ⟨e3, y3, t3⟩ := hx i hi 3 _ rfl
      obtain ⟨p0, r0, _, f0⟩ := DataW.trod_int Try.underlying3 t0
      obtain ⟨p1, r1, _, f1⟩ := DataW.trod_int Try.underlying3 t1
      obtain ⟨p2, r2, _, f2⟩ := DataW.trod_int Try.underlying29 t2
      obtain ⟨p3, r3, _⟩ := DataW.trod_bool Try.underlying4 t3
      simp only [List.cons.injEq, and_true] at r0 r1 r2 r3
      exact ⟨⟨p0, p1, p2, p3⟩, by rw [← r0]; exact e0, by rw [← r1]; exact e1, by rw [← r2]; exact e2, by rw [← r3]; exact e3, f1, f2⟩
    obtain ⟨f, hf⟩ := choose_lt each
    obtain ⟨b, off, path⟩ := ad
    have hp : path = none := by
      have := World.cell?_spot (hf 0 (by omega)).1
      simpa [Addr.add] using this
    subst hp
    refine ⟨(List.range n).map f, by simp, by omega, .inr ⟨b, off, rfl, fun i x hx => ?_⟩⟩
    have hi : i < n := by have := (List.getElem?_eq_some_iff.1 hx).1; simpa using this
    rw [List.getElem?_map, List.getElem?_range hi] at hx
    simp only [Option.map_some, Option.some.injEq] at hx
    subst hx
    obtain ⟨h1, h2, h3, h4, h5, h6⟩ := hf i (by omega)
    rw [add_plain] at h1 h2 h3 h4
    have e5 : -9223372036854775808 ≤ (f i).at_ ∧ (f i).at_ ≤ 9223372036854775807 := by simpa [Lit.wf, IntKind.min, IntKind.max, IntKind.signed, IntKind.bits] using h5
    have e6 : 0 ≤ (f i).key ∧ (f i).key ≤ 18446744073709551615 := by simpa [Lit.wf, IntKind.min, IntKind.max, IntKind.signed, IntKind.bits] using h6
    exact ⟨h1, h2, h3, h4, e5, by omega, by omega⟩
/-- What a call makes of a manager. -/
inductive Go1 : Mg → Mg → Prop where
  | same (M : Mg) : Go1 M M
  | begin_ (M : Mg) (bt bk : Nat) (h : M.os.length < 8) : Go1 M (beginM M bt bk)
  | wrote (M : Mg) (n k : Int) : Go1 M (wroteM M n k)
  | commit (M : Mg) (o : Tx) (h : o ∈ M.os) : Go1 M (commitM M o)
  | abort (M : Mg) (n : Int) : Go1 M (abortM M n)
  | forget (M : Mg) : Go1 M (forgetM M)
inductive GoN : Nat → Mg → Mg → Prop where
  | nil (M : Mg) : GoN 0 M M
  | snoc {n : Nat} {M M1 M2 : Mg} (h : GoN n M M1) (g : Go1 M1 M2) : GoN (n + 1) M M2
/-- Nothing is more than c. -/
structure Cnt (M : Mg) (c : Nat) : Prop where
  begun : M.begun ≤ c
  last : M.last ≤ c
  ds : M.ds.length ≤ c
  ok : ∀ o ∈ M.os, o.keys.length ≤ c
  wk : ∀ x ∈ M.ws, x.keys.length ≤ c
  ws : M.ws.length ≤ c
  os : M.os.length ≤ 8
theorem addK_len (k : Int) (ks : List Int) : (addK k ks).length ≤ ks.length + 1 := by
  unfold addK
  split
  · omega
  · simp
theorem Cnt.step {M M' : Mg} {c : Nat} (h : Cnt M c) (g : Go1 M M') : Cnt M' (c + 1) := by
  obtain ⟨h1, h2, h3, h4, h5, h6, h7⟩ := h
  cases g with
  | same => exact ⟨by omega, by omega, by omega, fun o ho => by have := h4 o ho; omega, fun x hx => by have := h5 x hx; omega, by omega, h7⟩
  | begin_ bt bk hl =>
    refine ⟨by show M.begun + 1 ≤ _; omega, by show M.last ≤ _; omega, by show M.ds.length ≤ _; omega, fun o ho => ?_, fun x hx => by have := h5 x hx; omega, by show M.ws.length ≤ _; omega, by show (M.os ++ [_]).length ≤ 8; simp; omega⟩
    rcases List.mem_append.1 ho with ho | ho
    · have := h4 o ho; omega
    · simp only [List.mem_singleton] at ho
      subst ho
      simp
  | wrote n k =>
    refine ⟨by show M.begun ≤ _; omega, by show M.last ≤ _; omega, by show M.ds.length ≤ _; omega, fun o ho => ?_, fun x hx => by have := h5 x hx; omega, by show M.ws.length ≤ _; omega, by show (M.os.map _).length ≤ 8; simpa using h7⟩
    obtain ⟨x, hx, rfl⟩ := List.mem_map.1 ho
    have := h4 x hx
    split
    · have := addK_len k x.keys
      show (addK k x.keys).length ≤ _
      omega
    · omega
  | commit o ho =>
    refine ⟨by show M.begun ≤ _; omega, by show M.last + 1 ≤ _; omega, by show (M.ds ++ [_]).length ≤ _; simp; omega, fun x hx => by have := h4 x (List.mem_filter.1 hx).1; omega, fun x hx => ?_, by show (M.ws ++ [_]).length ≤ _; simp; omega, Nat.le_trans (List.length_filter_le _ _) h7⟩
    rcases List.mem_append.1 hx with hx | hx
    · have := h5 x hx; omega
    · simp only [List.mem_singleton] at hx
      subst hx
      have := h4 o ho
      show o.keys.length ≤ _
      omega
  | abort n => exact ⟨by show M.begun ≤ _; omega, by show M.last ≤ _; omega, by show M.ds.length ≤ _; omega, fun x hx => by have := h4 x (List.mem_filter.1 hx).1; omega, fun x hx => by have := h5 x hx; omega, by show M.ws.length ≤ _; omega, Nat.le_trans (List.length_filter_le _ _) h7⟩
  | forget => exact ⟨by show M.begun ≤ _; omega, by show M.last ≤ _; omega, by show M.ds.length ≤ _; omega, fun x hx => by have := h4 x hx; omega, fun x hx => by have := h5 x (List.mem_filter.1 hx).1; omega, Nat.le_trans (List.length_filter_le _ _) (by omega), h7⟩
theorem Cnt.steps {M M' : Mg} {c n : Nat} (h : Cnt M c) (g : GoN n M M') : Cnt M' (c + n) := by
  induction g with
  | nil => exact h
  | snoc _ g ih => exact (ih h).step g
def WentTo (B p : Nat) (M : Mg) (F : List Nat) (w : World) (e : Ending) (w' : World) : Prop := ∃ M' F' v, e = .returned v ∧ Go1 M M' ∧ MgF w' B p M' F' ∧ Only F w w' ∧ Kept F F' w
theorem WentTo.stay {B p : Nat} {M : Mg} {F : List Nat} {w : World} {v : Value} {w' : World} (h : MgF w B p M F) (k : Only [] w w') : WentTo B p M F w (.returned v) w' :=
  ⟨M, F, v, rfl, .same M, h.only k (by simp), k.mono (by simp), Kept.refl _ _⟩
theorem begin_went {B p : Nat} {M : Mg} {F : List Nat} {w : World} {c : Nat} (h : MgF w B p M F) (hB : B ≤ w.heap.size) (hc : Cnt M c) (hc2 : c < 1000) : Calls Try.prog 9 #[.pointer (some ⟨p, 0, none⟩)] w (WentTo B p M F w) := by
  by_cases hl : M.os.length < 8
  · refine (beginF h hB hl (by have := hc.begun; omega)).mono ?_
    rintro e w' ⟨bt, bk, F', rfl, h1, h2, h3⟩
    exact ⟨_, F', _, rfl, .begin_ M bt bk hl, h1, h2, h3⟩
  · refine (begin_full h (by omega)).mono ?_
    rintro e w' ⟨rfl, rfl⟩
    exact .stay h (Only.refl _ _)
theorem wrote_went {B p : Nat} {M : Mg} {F : List Nat} {w : World} (h : MgF w B p M F) (n k : Int) : Calls Try.prog 10 #[.pointer (some ⟨p, 0, none⟩), .int .u64 n, .int .u64 k] w (WentTo B p M F w) := by
  cases hf : findT n M.os with
  | some o =>
    refine (wroteF h hf).mono ?_
    rintro e w' ⟨rfl, h1, h2⟩
    exact ⟨_, F, _, rfl, .wrote M n k, h1, h2, Kept.refl _ _⟩
  | none =>
    obtain ⟨bo, bw, dv, h, rfl⟩ := h
    refine (wrote_no B p bo bw dv M w n k h hf).mono ?_
    rintro e w' ⟨rfl, rfl⟩
    exact .stay ⟨bo, bw, dv, h, rfl⟩ (Only.refl _ _)
open Classical in
theorem commit_went {B p : Nat} {M : Mg} {F : List Nat} {w : World} {c : Nat} (h : MgF w B p M F) (hB : B ≤ w.heap.size) (hc : Cnt M c) (hc2 : c < 1000) (n : Int) : Calls Try.prog 12 #[.pointer (some ⟨p, 0, none⟩), .int .u64 n] w (WentTo B p M F w) := by
  cases hf : findT n M.os with
  | some o =>
    by_cases hk : Clash M o
    · refine (clashF h hf hk).mono ?_
      rintro e w' ⟨rfl, hb⟩
      exact .stay h ((Only.refl [] w).below hb)
    · refine (commitF h hB hf hk (by have := hc.last; omega) (by have := hc.ds; omega)).mono ?_
      rintro e w' ⟨F', rfl, h1, h2, h3⟩
      exact ⟨_, F', _, rfl, .commit M o (findT_some hf).1, h1, h2, h3⟩
  | none =>
    obtain ⟨bo, bw, dv, h, rfl⟩ := h
    refine (commit_no B p bo bw dv M w n h hf).mono ?_
    rintro e w' ⟨rfl, rfl⟩
    exact .stay ⟨bo, bw, dv, h, rfl⟩ (Only.refl _ _)
theorem abort_went {B p : Nat} {M : Mg} {F : List Nat} {w : World} (h : MgF w B p M F) (n : Int) : Calls Try.prog 21 #[.pointer (some ⟨p, 0, none⟩), .int .u64 n] w (WentTo B p M F w) := by
  cases hf : findT n M.os with
  | some o =>
    refine (abort_yes h hf).mono ?_
    rintro e w' ⟨F', rfl, h1, h2, h3⟩
    exact ⟨_, F', _, rfl, .abort M n, h1, h2, h3⟩
  | none =>
    refine (abort_no h hf).mono ?_
    rintro e w' ⟨rfl, rfl⟩
    exact .stay h (Only.refl _ _)
theorem forget_went {B p : Nat} {M : Mg} {F : List Nat} {w : World} {c : Nat} (h : MgF w B p M F) (hc : Cnt M c) (hc2 : c < 1000) : Calls Try.prog 26 #[.pointer (some ⟨p, 0, none⟩)] w (WentTo B p M F w) := by
  refine (forget_at h (by have := hc.os; omega) (fun o ho => by have := hc.ok o ho; omega) (fun x hx => by have := hc.wk x hx; omega) (by have := hc.ws; omega)).mono ?_
  rintro e w' ⟨F', rfl, h1, h2, h3⟩
  exact ⟨_, F', _, rfl, .forget M, h1, h2, h3⟩
end Go.Proofs.Ytodkflnpcfepfaa
