/- Sched: Feed, over whatever serves requests: what stands in memory while it goes. -/
import Derived.Test.YtcgmgdjeamidlaaGreatScC
import Derived.Test.YtcgmgdjeamidlaaGreatStA
namespace Go.Proofs.YtcgmgdjeamidlaaGreat
open Go.RowKit Go.Shelf Go.ChangeShapes Go.WideShapes Go.ChangeAt
set_option linter.unusedVariables false
set_option linter.unusedSimpArgs false

abbrev tBs : TypeId := 30
abbrev tEr : TypeId := 25
abbrev tScp : TypeId := 78
/-- What serves a session's requests: its states in memory, what may be asked, how it answers. -/
structure Serve (σ : Type) where
  I : σ → List Nat → World → Prop
  can : σ → List Int → Prop
  step : σ → List Int → σ → List Int → Prop
/-- A request is done: the reply's bytes are the call's own. -/
def DidTo {σ : Type} (S : Serve σ) (s : σ) (F : List Nat) (p : List Int) (w : World) (e : Ending) (w' : World) : Prop :=
  ∃ s' F' zs v, S.step s p s' zs ∧ e = .returned v ∧ w'.ownsRow w.heap.size 5 1 v zs.length (zs.map (Value.int .u8)) ∧ S.I s' F' w' ∧ Only F w w' ∧ (∀ b ∈ F', b ∈ F ∨ w.heap.size ≤ b) ∧ ∀ b, v.ownBlock = some b → b ∉ F'
/-- A reply is read. -/
def ReadsTo (w : World) (e : Ending) (w' : World) : Prop := ∃ (k mk er pl key : Int) (a1 a2 a3 a4 : Option Addr) (n1 n2 n3 n4 c1 c2 c3 c4 : Nat), e = .returned (.tuple #[.agg #[.int .i64 k, .int .i64 mk, .int .i64 er, .int .i64 pl, .int .u64 key, .slice a1 n1 c1, .slice a2 n2 c2, .slice a3 n3 c3, .slice a4 n4 c4], .int .i64 0]) ∧ er ≠ 6 ∧ Below w.heap.size w w'
structure Serve.Ok {σ : Type} (S : Serve σ) (ss : Nat) : Prop where
  only : ∀ s F w w' G, S.I s F w → Only G w w' → (∀ b ∈ F, b ∉ G) → S.I s F w'
  lt : ∀ s F w, S.I s F w → ∀ b ∈ F, b < w.heap.size
  does : ∀ s F w (p : Sl), S.I s F w → SlRd .u8 w p → (p.xs ≠ [] → ∀ b ∈ p.bs, b ∉ F) → IsBy p.xs → S.can s p.xs → Calls Tryz.prog 14 #[.pointer (some ⟨ss, 0, none⟩), p.v] w (DidTo S s F p.xs w)
  tells : ∀ s p s' zs, S.step s p s' zs → IsBy zs ∧ zs.length ≤ 1000000 ∧ ∀ (w : World) (sl : Sl), SlRd .u8 w sl → sl.xs = zs → Calls Tryz.prog 59 #[sl.v] w (ReadsTo w)
/-- What Feed does with the bytes of a stream. -/
inductive Runs {σ : Type} (S : Serve σ) : σ → List Int → σ → List Int → List Int → Int → Prop
  | stop (s xs) : sizeF xs = (0, 7) → Runs S s xs s xs [] 7
  | long (s xs) : sizeF xs = (0, 3) → Runs S s xs s [] [] 3
  | step (s xs) (k : Nat) (s' zs s2 ys o d) : sizeF xs = ((k : Int), 0) → S.step s ((xs.drop 4).take k) s' zs → Runs S s' (xs.drop (4 + k)) s2 ys o d → Runs S s xs s2 ys (leB (zs.length : Int) 4 ++ zs ++ o) d
/-- All that will be asked may be asked. -/
def Fine {σ : Type} (S : Serve σ) : Nat → σ → List Int → Prop
  | 0, _, _ => True
  | n + 1, s, xs => ∀ k : Nat, sizeF xs = ((k : Int), 0) → S.can s ((xs.drop 4).take k) ∧ ∀ s' zs, S.step s ((xs.drop 4).take k) s' zs → Fine S n s' (xs.drop (4 + k))
/-- The blocks of a Feed under way: B: the heap's end at its beginning; q: ahead of the loop. -/
structure FeC where
  w : World
  q : Nat
  g : Nat
  l : Nat
  n : Nat
  m : Nat
  st : Nat
  cs : Array Value
  F0 : List Nat
  S0 : List Nat
abbrev FeC.B (c : FeC) : Nat := c.w.heap.size
def FeC.own (c : FeC) : List Nat := [c.B, c.B + 1, c.B + 2, c.B + 3, c.q, c.q + 1, c.q + 2, c.q + 3]
structure FeM {σ : Type} (S : Serve σ) (c : FeC) (s : σ) (xs out : List Int) (v : Value) (F FS : List Nat) (W : World) : Prop where
  inv : S.I s F W
  strm : StrmF W c.st xs 0 FS
  r3 : Row W c.B #[.pointer (some ⟨c.g, 0, none⟩)] tScp
  r6 : Row W (c.B + 1) #[.slice none 0 0] tBs
  r7 : Row W (c.B + 2) #[.int .i64 0] tEr
  r8 : Row W (c.B + 3) #[.pointer (some ⟨c.l, c.m * 3, none⟩)] tLnp
  r10 : Row W c.q #[v] tBs
  own : W.ownsRow (c.q + 6) 5 1 v out.length (out.map (Value.int .u8))
  offv : ∀ b, v.ownBlock = some b → b ∉ F ∧ b ∉ FS
  r11 : ∃ e, Row W (c.q + 1) #[.int .i64 e] tEr
  x1 : Row W (c.q + 2) #[.pointer (some ⟨c.l, c.m * 3, none⟩)] tLnp
  x2 : Row W (c.q + 3) #[.pointer (some ⟨c.q + 1, 0, none⟩)] tErp
  rg : Row W c.g #[.slice (some ⟨c.l, 0, none⟩) c.n c.n, .bool false] tSc
  rl : Row W c.l c.cs tLn
  only : Only (c.F0 ++ c.S0) c.w W
  sepF : ∀ b ∈ F, b < c.B ∨ c.q + 6 ≤ b
  sepS : ∀ b ∈ FS, b < c.B ∨ (c.B + 4 ≤ b ∧ b < c.q) ∨ c.q + 6 ≤ b
  dis : ∀ b ∈ F, b ∉ FS
  gl : (c.g ∉ F ∧ c.g ∉ FS) ∧ (c.l ∉ F ∧ c.l ∉ FS) ∧ c.g < c.B ∧ c.l < c.B ∧ c.B + 4 ≤ c.q
  newF : ∀ b ∈ F, b ∈ c.F0 ∨ c.B ≤ b
  newS : ∀ b ∈ FS, b ∈ c.S0 ∨ c.B ≤ b
theorem FeM.qlt {σ : Type} {S : Serve σ} {c : FeC} {s : σ} {xs out : List Int} {v : Value} {F FS : List Nat} {W : World} (h : FeM S c s xs out v F FS W) : c.q + 3 < W.heap.size := h.x2.lt
/-- Whatever turns nothing of it. -/
theorem FeM.but {σ : Type} {S : Serve σ} {ss : Nat} (ok : S.Ok ss) {c : FeC} {s : σ} {xs out : List Int} {v : Value} {F FS G : List Nat} {W W' : World} (h : FeM S c s xs out v F FS W) (k : Only G W W')
    (hG : ∀ b ∈ G, b ∉ F ∧ b ∉ FS ∧ v.ownBlock ≠ some b ∧ b ∉ c.own ∧ b ≠ c.g ∧ b ≠ c.l ∧ c.B ≤ b) : FeM S c s xs out v F FS W' := by
  have hn : ∀ b, b ∈ c.own → b ∉ G := fun b hb hm => (hG b hm).2.2.2.1 hb
  obtain ⟨e, he⟩ := h.r11
  refine ⟨ok.only _ _ _ _ _ h.inv k fun b hb hm => (hG b hm).1 hb, h.strm.only k fun b hb hm => (hG b hm).2.1 hb, h.r3.only k (hn _ (by simp [FeC.own])), h.r6.only k (hn _ (by simp [FeC.own])), h.r7.only k (hn _ (by simp [FeC.own])), h.r8.only k (hn _ (by simp [FeC.own])), h.r10.only k (hn _ (by simp [FeC.own])),
    own_keep h.own fun b hb => k.block b (h.own.lt b hb).2 fun hm => (hG b hm).2.2.1 hb, h.offv, ⟨e, he.only k (hn _ (by simp [FeC.own]))⟩, h.x1.only k (hn _ (by simp [FeC.own])), h.x2.only k (hn _ (by simp [FeC.own])), h.rg.only k fun hm => (hG _ hm).2.2.2.2.1 rfl, h.rl.only k fun hm => (hG _ hm).2.2.2.2.2.1 rfl,
    h.only.trans k fun b hb => .inr (hG b hb).2.2.2.2.2.2, h.sepF, h.sepS, h.dis, h.gl, h.newF, h.newS⟩
theorem FeM.same {σ : Type} {S : Serve σ} {ss : Nat} (ok : S.Ok ss) {c : FeC} {s : σ} {xs out : List Int} {v : Value} {F FS : List Nat} {W W' : World} (h : FeM S c s xs out v F FS W) (k : Only [] W W') : FeM S c s xs out v F FS W' := h.but ok k (by simp)
/-- The error that ended the frames is stored. -/
theorem FeM.told {σ : Type} {S : Serve σ} {ss : Nat} (ok : S.Ok ss) {c : FeC} {s : σ} {xs out : List Int} {v : Value} {F FS : List Nat} {W : World} (h : FeM S c s xs out v F FS W) (d : Int) : FeM S c s xs out v F FS (W.setCell ⟨c.q + 1, 0, none⟩ (.int .i64 d)) ∧ Row (W.setCell ⟨c.q + 1, 0, none⟩ (.int .i64 d)) (c.q + 1) #[.int .i64 d] tEr := by
  have k : Only [c.q + 1] W (W.setCell ⟨c.q + 1, 0, none⟩ (.int .i64 d)) := (Only.refl _ W).setCell (.inl (by simp)) _
  obtain ⟨e, he⟩ := h.r11
  have h1 : Row (W.setCell ⟨c.q + 1, 0, none⟩ (.int .i64 d)) (c.q + 1) #[.int .i64 d] tEr := by simpa using he.set 0 (.int .i64 d)
  have hgl := h.gl
  have hBw : c.B = c.w.heap.size := rfl
  have n1 : c.q + 1 ∉ F := fun hm => by have := h.sepF _ hm; omega
  have n2 : c.q + 1 ∉ FS := fun hm => by have := h.sepS _ hm; omega
  have n3 : v.ownBlock ≠ some (c.q + 1) := fun hv => by have := (h.own.lt _ hv).1; omega
  have hn : ∀ b, b ≠ c.q + 1 → b ∉ [c.q + 1] := fun b hb => by simpa using hb
  refine ⟨⟨ok.only _ _ _ _ _ h.inv k fun b hb => hn b fun e => n1 (e ▸ hb), h.strm.only k fun b hb => hn b fun e => n2 (e ▸ hb), h.r3.only k (hn _ (by omega)), h.r6.only k (hn _ (by omega)), h.r7.only k (hn _ (by omega)), h.r8.only k (hn _ (by omega)), h.r10.only k (hn _ (by omega)),
    own_keep h.own fun b hb => k.block b (h.own.lt b hb).2 (hn b fun e => n3 (by rw [hb, e])), h.offv, ⟨d, h1⟩, h.x1.only k (hn _ (by omega)), h.x2.only k (hn _ (by omega)), h.rg.only k (hn _ (by omega)), h.rl.only k (hn _ (by omega)),
    h.only.trans k (by intro b hb; simp at hb; right; omega), h.sepF, h.sepS, h.dis, h.gl, h.newF, h.newS⟩, h1⟩
/-- The stream has turned. -/
theorem FeM.strmed {σ : Type} {S : Serve σ} {ss : Nat} (ok : S.Ok ss) {c : FeC} {s : σ} {xs ys out : List Int} {v : Value} {F FS FS' : List Nat} {W W' : World} (h : FeM S c s xs out v F FS W) (k : Only FS W W') (hs : StrmF W' c.st ys 0 FS') (hS : ∀ b ∈ FS', b ∈ FS) : FeM S c s ys out v F FS' W' := by
  have hgl := h.gl
  have hBw : c.B = c.w.heap.size := rfl
  have hw := h.only.size
  have ho : ∀ b, b ∈ c.own → b ∉ FS := fun b hb hm => by
    have := h.sepS b hm
    simp [FeC.own] at hb
    omega
  obtain ⟨e, he⟩ := h.r11
  refine ⟨ok.only _ _ _ _ _ h.inv k h.dis, hs, h.r3.only k (ho _ (by simp [FeC.own])), h.r6.only k (ho _ (by simp [FeC.own])), h.r7.only k (ho _ (by simp [FeC.own])), h.r8.only k (ho _ (by simp [FeC.own])), h.r10.only k (ho _ (by simp [FeC.own])),
    own_keep h.own fun b hb => k.block b (h.own.lt b hb).2 (h.offv b hb).2, fun b hb => ⟨(h.offv b hb).1, fun hm => (h.offv b hb).2 (hS b hm)⟩, ⟨e, he.only k (ho _ (by simp [FeC.own]))⟩, h.x1.only k (ho _ (by simp [FeC.own])), h.x2.only k (ho _ (by simp [FeC.own])), h.rg.only k h.gl.1.2, h.rl.only k h.gl.2.1.2,
    h.only.trans k fun b hb => (h.newS b hb).imp (fun h => List.mem_append_right _ h) id, h.sepF, fun b hb => h.sepS b (hS b hb), fun b hb hm => h.dis b hb (hS b hm), ⟨⟨h.gl.1.1, fun hm => h.gl.1.2 (hS _ hm)⟩, ⟨h.gl.2.1.1, fun hm => h.gl.2.1.2 (hS _ hm)⟩, h.gl.2.2⟩, h.newF, fun b hb => h.newS b (hS b hb)⟩
/-- The server has turned. -/
theorem FeM.served {σ : Type} {S : Serve σ} {c : FeC} {s s' : σ} {xs out : List Int} {v : Value} {F F' FS : List Nat} {W W' : World} (h : FeM S c s xs out v F FS W) (hr : c.q + 6 ≤ W.heap.size) (k : Only F W W') (hs : S.I s' F' W') (hF : ∀ b ∈ F', b ∈ F ∨ W.heap.size ≤ b) : FeM S c s' xs out v F' FS W' := by
  have hgl := h.gl
  have hBw : c.B = c.w.heap.size := rfl
  have ho : ∀ b, b ∈ c.own → b ∉ F := fun b hb hm => by
    have := h.sepF b hm
    simp [FeC.own] at hb
    omega
  have hlt := h.strm.lt
  have hlv := h.own.lt
  have hg := h.rg.lt
  have hl := h.rl.lt
  have hw := h.only.size
  obtain ⟨e, he⟩ := h.r11
  refine ⟨hs, h.strm.only k fun b hb hm => h.dis b hm hb, h.r3.only k (ho _ (by simp [FeC.own])), h.r6.only k (ho _ (by simp [FeC.own])), h.r7.only k (ho _ (by simp [FeC.own])), h.r8.only k (ho _ (by simp [FeC.own])), h.r10.only k (ho _ (by simp [FeC.own])),
    own_keep h.own fun b hb => k.block b (h.own.lt b hb).2 (h.offv b hb).1, fun b hb => ⟨fun hm => (hF b hm).elim (h.offv b hb).1 fun h1 => by have := (hlv b hb).2; omega, (h.offv b hb).2⟩, ⟨e, he.only k (ho _ (by simp [FeC.own]))⟩, h.x1.only k (ho _ (by simp [FeC.own])), h.x2.only k (ho _ (by simp [FeC.own])), h.rg.only k h.gl.1.1, h.rl.only k h.gl.2.1.1,
    h.only.trans k fun b hb => (h.newF b hb).imp (fun h => List.mem_append_left _ h) id, fun b hb => (hF b hb).elim (h.sepF b) fun h1 => by omega, h.sepS, fun b hb hm => (hF b hb).elim (fun h1 => h.dis b h1 hm) fun h1 => by have := hlt b hm; omega, ⟨⟨fun hm => (hF _ hm).elim h.gl.1.1 fun h1 => by omega, h.gl.1.2⟩, ⟨fun hm => (hF _ hm).elim h.gl.2.1.1 fun h1 => by omega, h.gl.2.1.2⟩, h.gl.2.2⟩, fun b hb => (hF b hb).elim (h.newF b) fun h1 => .inr (by omega), h.newS⟩
/-- What was told is put behind all that was told. -/
theorem FeM.put {σ : Type} {S : Serve σ} {ss : Nat} (ok : S.Ok ss) {c : FeC} {s : σ} {xs out zs : List Int} {v v' : Value} {F FS : List Nat} {W W' : World} (h : FeM S c s xs out v F FS W) (hr : c.q + 6 ≤ W.heap.size) (ho : W'.ownsRow (c.q + 6) 5 1 v' (out.length + zs.length) (out.map (Value.int .u8) ++ zs.map (Value.int .u8))) (hg : W.grownBy W' v.ownBlock)
    (hv : ∀ b, v'.ownBlock = some b → v.ownBlock = some b ∨ W.heap.size ≤ b) : FeM S c s xs (out ++ zs) v' F FS (W'.setCell ⟨c.q, 0, none⟩ v') := by
  have k : Only v.ownBlock.toList W W' := (Only.refl _ W).grown hg (fun k hk => .inl (by simp [hk]))
  have k2 : Only [c.q] W' (W'.setCell ⟨c.q, 0, none⟩ v') := (Only.refl _ W').setCell (.inl (by simp)) _
  have hgl := h.gl
  have hBw : c.B = c.w.heap.size := rfl
  have hw := h.only.size
  have hgB : ∀ b, v.ownBlock = some b → c.q + 6 ≤ b := fun b hb => (h.own.lt b hb).1
  have no : ∀ b, b < c.q + 6 → b ∉ v.ownBlock.toList := fun b hb hm => by
    have := hgB b (by simpa using hm)
    omega
  have nq : ∀ b, b ≠ c.q → b ∉ [c.q] := fun b hb => by simpa using hb
  have nF : ∀ b ∈ F, b ∉ v.ownBlock.toList := fun b hb hm => (h.offv b (by simpa using hm)).1 hb
  have nS : ∀ b ∈ FS, b ∉ v.ownBlock.toList := fun b hb hm => (h.offv b (by simpa using hm)).2 hb
  have qF : c.q ∉ F := fun hm => by have := h.sepF _ hm; omega
  have qS : c.q ∉ FS := fun hm => by have := h.sepS _ hm; omega
  obtain ⟨e, he⟩ := h.r11
  have hltF := ok.lt _ _ _ h.inv
  have hltS := h.strm.lt
  have r : ∀ {b : Nat} {cs : Array Value} {T : TypeId}, Row W b cs T → b < c.q + 6 → b ≠ c.q → Row (W'.setCell ⟨c.q, 0, none⟩ v') b cs T := fun hb h1 h2 => (hb.only k (no _ h1)).only k2 (nq _ h2)
  refine ⟨ok.only _ _ _ _ _ (ok.only _ _ _ _ _ h.inv k nF) k2 fun b hb => nq b fun e => qF (e ▸ hb), (h.strm.only k nS).only k2 fun b hb => nq b fun e => qS (e ▸ hb), r h.r3 (by omega) (by omega), r h.r6 (by omega) (by omega), r h.r7 (by omega) (by omega), r h.r8 (by omega) (by omega),
    by simpa using (h.r10.only k (no _ (by omega))).set 0 v', by
      rw [List.length_append, List.map_append]
      exact own_keep ho fun b hb => k2.block b (ho.lt b hb).2 (nq b (by have := (ho.lt b hb).1; omega)), fun b hb => ?_, ⟨e, r he (by omega) (by omega)⟩, r h.x1 (by omega) (by omega), r h.x2 (by omega) (by omega), r h.rg (by omega) (by omega), r h.rl (by omega) (by omega),
    (h.only.trans k fun b hb => .inr (by have := hgB b (by simpa using hb); omega)).trans k2 (by intro b hb; simp at hb; right; omega), h.sepF, h.sepS, h.dis, h.gl, h.newF, h.newS⟩
  rcases hv b hb with h1 | h1
  · exact h.offv b h1
  · exact ⟨fun hm => by have := hltF b hm; omega, fun hm => by have := hltS b hm; omega⟩
/-- The logical side of a Feed under way. -/
structure FeL {σ : Type} (S : Serve σ) (s0 : σ) (xs0 : List Int) (s : σ) (xs out : List Int) : Prop where
  by_ : IsBy xs
  runs : ∀ s' ys o d, Runs S s xs s' ys o d → Runs S s0 xs0 s' ys (out ++ o) d
  fine : Fine S (xs.length + 1) s xs
  len : out.length + 1000004 * xs.length ≤ 1000004000000
  outb : IsBy out
theorem Fine.less {σ : Type} {S : Serve σ} : ∀ (n m : Nat) (s : σ) (xs : List Int), m ≤ n → Fine S n s xs → Fine S m s xs
  | _, 0, _, _, _, _ => trivial
  | 0, m + 1, _, _, h, _ => by omega
  | n + 1, m + 1, s, xs, h, hf => fun k hk => ⟨(hf k hk).1, fun s' zs hs => Fine.less n m s' _ (by omega) ((hf k hk).2 s' zs hs)⟩
theorem FeL.step {σ : Type} {S : Serve σ} {ss : Nat} (ok : S.Ok ss) {s0 : σ} {xs0 : List Int} {s s' : σ} {xs out zs : List Int} (h : FeL S s0 xs0 s xs out) {k : Nat} (hk : sizeF xs = ((k : Int), 0)) (hs : S.step s ((xs.drop 4).take k) s' zs) :
    FeL S s0 xs0 s' (xs.drop (4 + k)) (out ++ (leB (zs.length : Int) 4 ++ zs)) := by
  obtain ⟨h1, h2, _⟩ := ok.tells _ _ _ _ hs
  have h4 := (size_some hk).1
  have hl := h.len
  refine ⟨h.by_.drop _, fun s2 ys o d hr => ?_, ?_, ?_, h.outb.append ((leB_by _ _).append h1)⟩
  · rw [List.append_assoc]
    exact h.runs _ _ _ _ (.step s xs k s' zs s2 ys o d hk hs hr)
  · refine Fine.less _ _ _ _ ?_ ((h.fine k hk).2 s' zs hs)
    rw [List.length_drop]; omega
  · simp only [List.length_append, List.length_drop, leB_len]
    omega
end Go.Proofs.YtcgmgdjeamidlaaGreat
