/- Sched: Feed, over whatever serves requests. -/
import Derived.Test.YtcgmgdjeamidlaaGreatScD
import Derived.Sort.CutIn
namespace Go.Proofs.YtcgmgdjeamidlaaGreat
open Go.RowKit Go.Shelf Go.ChangeShapes Go.WideShapes Go.ChangeAt
set_option linter.unusedVariables false
set_option linter.unusedSimpArgs false
attribute [local go_sem] Oper.semAt_some

theorem frame_long {s : Sl} {w : World} (hl : ¬ s.xs.length ≤ 20000) : Calls Tryz.prog 60 #[s.v] w fun e w' => e = .returned (.tuple #[.slice none 0 0, .int .i64 3]) ∧ w' = w := by
  obtain ⟨n, hn⟩ : ∃ n, s.xs.length = n := ⟨_, rfl⟩
  rw [hn] at hl
  have d1 : decide ((20000 : Int) < (n : Int)) = true := decide_eq_true (by omega)
  unfold Sl.v
  rw [hn]
  go_enter Tryz.func60, Tryz.ntmps60
  go_wp2_with fail
  go_ret2
  exact ⟨rfl, rfl⟩
def FeJ {σ : Type} (S : Serve σ) (c : FeC) (s0 : σ) (X0 : List Int) (rec : LoopState → Option Code → Loop) (xs : List Int) (W : World) : Prop := ∃ s out v F FS, FeM S c s xs out v F FS W ∧ FeL S s0 X0 s xs out ∧ RecAt (c.q + 4) rec .ready none W
def FeK {σ : Type} (S : Serve σ) (c : FeC) (s0 : σ) (X0 : List Int) (rec : LoopState → Option Code → Loop) (xs : List Int) (k : Nat) (p : Value) (W : World) : Prop :=
  ∃ s out v F FS ps, FeM S c s (xs.drop (4 + k)) out v F FS W ∧ FeL S s0 X0 s xs out ∧ RecAt (c.q + 4) rec .ready none W ∧ p = Sl.v ps ∧ SlAt .u8 W ps ∧ ps.xs = (xs.drop 4).take k ∧ ∀ b ∈ ps.bs, c.q + 6 ≤ b ∧ b ∉ F ∧ b ∉ FS ∧ v.ownBlock ≠ some b
def FeE {σ : Type} (S : Serve σ) (c : FeC) (s0 : σ) (X0 : List Int) (rec : LoopState → Option Code → Loop) (W : World) : Prop :=
  ∃ s ys out v F FS, FeM S c s ys out v F FS W ∧ Runs S s0 X0 s ys out 7 ∧ IsBy ys ∧ IsBy out ∧ RecAt (c.q + 4) rec .ready none W ∧ Row W (c.q + 1) #[.int .i64 7] tEr
theorem RecAt.but {D : Nat} {rec : LoopState → Option Code → Loop} {st : LoopState} {pe : Option Code} {W W' : World} {G : List Nat} (h : RecAt D rec st pe W) (k : Only G W W') (h0 : D ∉ G) (h1 : D + 1 ∉ G) : RecAt D rec st pe W' := h.kept (Keeps2.of k h.lt h0 h1)
set_option maxHeartbeats 4000000 in
theorem feed_frames {σ : Type} {S : Serve σ} {ss : Nat} (ok : S.Ok ss) (c : FeC) (s0 : σ) (X0 : List Int) (rec : LoopState → Option Code → Loop) (hno : ∀ s' ys o, ¬ Runs S s0 X0 s' ys o 3) (hcl : c.cs[c.m * 3 + 1]? = some (.pointer (some ⟨c.st, 0, none⟩)))
    (HY : ∀ xs (k : Nat) p W1, sizeF xs = ((k : Int), 0) → FeK S c s0 X0 rec xs k p W1 → YieldAt Fence.wide (4 - 1) Tryz.prog (c.q + 4 + 1) #[p] W1 fun e W' => e = .returned (.bool true) ∧ FeJ S c s0 X0 rec (xs.drop (4 + k)) W')
    {W1 : World} (h0 : FeJ S c s0 X0 rec X0 W1) :
    CallsIn Fence.wide 4 Tryz.prog 97 #[.func (.yield (c.q + 4 + 1)) #[] #[], .pointer (some ⟨c.q + 2, 0, none⟩), .pointer (some ⟨c.q + 3, 0, none⟩)] W1 fun e W' => (∃ v, e = .returned v) ∧ FeE S c s0 X0 rec W' := by
  have recS : ∀ {s xs out v F FS W}, FeM S c s xs out v F FS W → c.q + 4 ∉ FS ∧ c.q + 4 + 1 ∉ FS ∧ c.q + 1 ∉ FS := fun h => ⟨fun hm => by have := h.sepS _ hm; have := h.gl; omega, fun hm => by have := h.sepS _ hm; have := h.gl; omega, fun hm => by have := h.sepS _ hm; have := h.gl; omega⟩
  refine (frames1_in 4 (by omega) (c.q + 4 + 1) (c.q + 2) (c.q + 3) c.l (c.m * 3) (c.q + 1) c.st (FeJ S c s0 X0 rec) (FeK S c s0 X0 rec) (fun _ _ W => FeE S c s0 X0 rec W) ?_ ?_ ?_ HY X0 W1 h0).mono fun e W' h => ⟨h.1, by obtain ⟨_, _, _, h⟩ := h; exact h⟩
  · rintro xs W ⟨s, out, v, F, FS, hM, hL, hR⟩
    exact ⟨hL.by_, ⟨FS, hM.strm⟩, hM.x1.cell 0, (hM.rl.cell _).trans hcl⟩
  · rintro xs W k F' e W2 ⟨s, out, v, F, FS, hM, hL, hR⟩ hS hk ⟨ps, rfl, hx, hp, hpb, hs2, hO⟩
    obtain rfl : F' = FS := by
      obtain ⟨sl, h1, _, _, rfl⟩ := hS
      obtain ⟨sl2, h2, _, _, h4⟩ := hM.strm
      have e1 : W.heap[c.st]? = _ := h1
      have e2 : W.heap[c.st]? = _ := h2
      rw [e1] at e2
      simp only [Option.some.injEq, Obj.cells.injEq, Array.mk.injEq, List.cons.injEq, and_true, true_and] at e2
      have e3 : sl.bs = sl2.bs := by
        unfold Sl.v at e2
        simp only [Value.slice.injEq] at e2
        unfold Sl.bs
        rw [e2.1]
      rw [h4, e3]
    have h2 := hM.strmed ok hO hs2 (fun b hb => hb)
    obtain ⟨h3, h4⟩ := h2.told ok 0
    obtain ⟨n1, n2, n3⟩ := recS hM
    have k4 : Only [c.q + 1] W2 (W2.setCell ⟨c.q + 1, 0, none⟩ (.int .i64 0)) := (Only.refl _ W2).setCell (.inl (by simp)) _
    obtain ⟨er, her⟩ := h2.r11
    have hq := hR.lt
    refine ⟨_, _, _, rfl, h2.x2.cell 0, ⟨_, her.cell 0⟩, her.free 0, s, out, v, F, F', ps, h3, hL, (hR.but hO n1 n2).but k4 (by simp) (by simp), rfl, hp.only k4 (fun b hb => by have := hpb b hb; have := hM.qlt; simp; omega), hx, fun b hb => ?_⟩
    have h5 := hpb b hb
    have h6 := hM.strm.lt
    have h7 := ok.lt _ _ _ hM.inv
    have h8 := hM.own.lt
    exact ⟨by omega, fun hm => by have := h7 b hm; omega, fun hm => by have := h6 b hm; omega, fun hv => by have := (h8 b hv).2; omega⟩
  · rintro xs W F' d xs' er e W2 ⟨s, out, v, F, FS, hM, hL, hR⟩ hS hz hw ⟨rfl, FS', hs2, hO, hsub⟩
    rcases hw with ⟨rfl, rfl, rfl⟩ | ⟨rfl, rfl, rfl⟩
    · obtain rfl : F' = FS := by
        obtain ⟨sl, h1, _, _, rfl⟩ := hS
        obtain ⟨sl2, h2, _, _, h4⟩ := hM.strm
        have e1 : W.heap[c.st]? = _ := h1
        have e2 : W.heap[c.st]? = _ := h2
        rw [e1] at e2
        simp only [Option.some.injEq, Obj.cells.injEq, Array.mk.injEq, List.cons.injEq, and_true, true_and] at e2
        have e3 : sl.bs = sl2.bs := by
          unfold Sl.v at e2
          simp only [Value.slice.injEq] at e2
          unfold Sl.bs
          rw [e2.1]
        rw [h4, e3]
      have h2 := hM.strmed ok hO hs2 hsub
      obtain ⟨h3, h4⟩ := h2.told ok 7
      obtain ⟨n1, n2, n3⟩ := recS hM
      have k4 : Only [c.q + 1] W2 (W2.setCell ⟨c.q + 1, 0, none⟩ (.int .i64 7)) := (Only.refl _ W2).setCell (.inl (by simp)) _
      obtain ⟨er, her⟩ := h2.r11
      refine ⟨h2.x2.cell 0, ⟨_, her.cell 0⟩, her.free 0, s, _, out, v, F, FS', h3, ?_, hL.by_, hL.outb, (hR.but hO n1 n2).but k4 (by simp) (by simp), h4⟩
      have := hL.runs _ _ _ _ (.stop s xs' hz)
      simpa using this
    · exact absurd (by simpa using hL.runs _ _ _ _ (.long s xs hz)) (hno s [] out)
theorem FeM.recOff {σ : Type} {S : Serve σ} {c : FeC} {s : σ} {xs out : List Int} {v : Value} {F FS : List Nat} {W : World} (h : FeM S c s xs out v F FS W) : ∀ b, (b = c.q + 4 ∨ b = c.q + 4 + 1) → b ∉ F ∧ b ∉ FS ∧ v.ownBlock ≠ some b ∧ b ∉ c.own ∧ b ≠ c.g ∧ b ≠ c.l ∧ c.B ≤ b := by
  intro b hb
  have h1 := h.gl
  refine ⟨fun hm => ?_, fun hm => ?_, fun hv => ?_, ?_, ?_, ?_, ?_⟩
  · have := h.sepF b hm; omega
  · have := h.sepS b hm; omega
  · have := (h.own.lt b hv).1; omega
  · simp [FeC.own]; omega
  · omega
  · omega
  · omega
theorem feed_round {σ : Type} {S : Serve σ} {ss : Nat} (ok : S.Ok ss) (c : FeC) (s0 : σ) (X0 : List Int) (rec : LoopState → Option Code → Loop) {s s4 : σ} {xs out zs : List Int} {k : Nat} {v v8 : Value} {F FS : List Nat} {W3 W7 W8 : World}
    (hM : FeM S c s4 (xs.drop (4 + k)) out v F FS W7) (hL : FeL S s0 X0 s xs out) (hk : sizeF xs = ((k : Int), 0)) (hst : S.step s ((xs.drop 4).take k) s4 zs) (hR : RecAt (c.q + 4) rec .busy none W3) (h37 : ∃ G, Only G W3 W7 ∧ c.q + 4 ∉ G ∧ c.q + 4 + 1 ∉ G)
    (ho : W8.ownsRow (c.q + 6) 5 1 v8 (out.length + (leB (zs.length : Int) 4 ++ zs).length) (out.map (Value.int .u8) ++ (leB (zs.length : Int) 4 ++ zs).map (Value.int .u8))) (hg : W7.grownBy W8 v.ownBlock) (hv : v8.ownBlock = v.ownBlock ∨ ∀ g, v8.ownBlock = some g → W7.heap.size ≤ g) :
    Keeps2 (c.q + 4) W3 (W8.setCell ⟨c.q, 0, none⟩ v8) ∧ ∀ W4, Only [c.q + 4 + 1] (W8.setCell ⟨c.q, 0, none⟩ v8) W4 → RecAt (c.q + 4) rec .ready none W4 → Ending.returned (.bool true) = .returned (.bool true) ∧ FeJ S c s0 X0 rec (xs.drop (4 + k)) W4 := by
  obtain ⟨G, hG, g0, g1⟩ := h37
  have hq : c.q + 6 ≤ W7.heap.size := by have := hR.lt; have := hG.size; omega
  have hM8 := hM.put ok hq ho hg (fun b hb => by
    rcases hv with h1 | h1
    · exact .inl (by rw [← h1]; exact hb)
    · exact .inr (h1 b hb))
  have kO : Only (c.q :: v.ownBlock.toList) W7 (W8.setCell ⟨c.q, 0, none⟩ v8) := (((Only.refl _ W7).grown hg (fun k hk => .inl (by simp [hk]))).trans ((Only.refl [c.q] W8).setCell (.inl (by simp)) _) (by intro b hb; simp at hb; simp [hb])).mono (fun i hi => .inl hi)
  have off := hM8.recOff
  have nv : ∀ b, (b = c.q + 4 ∨ b = c.q + 4 + 1) → b ∉ c.q :: v.ownBlock.toList := fun b hb hm => by
    simp at hm
    rcases hm with hm | hm
    · omega
    · exact (hM.recOff b hb).2.2.1 hm
  refine ⟨(Keeps2.of hG hR.lt g0 g1).trans (Keeps2.of kO (by have := hR.lt; have := hG.size; omega) (nv _ (.inl rfl)) (nv _ (.inr rfl))), fun W4 k4 hR4 => ⟨rfl, s4, out ++ (leB (zs.length : Int) 4 ++ zs), v8, F, FS, hM8.but ok k4 (by intro b hb; simp at hb; exact off b (.inr hb)), hL.step ok hk hst, hR4⟩⟩
theorem own_some {w : World} {B n : Nat} {e : TypeId} {v : Value} {xs : List Value} (h : w.ownsRow B e 1 v n xs) (hn : 0 < n) : ∃ g c, v = .slice (some ⟨g, 0, none⟩) n c ∧ ∀ j u, xs[j]? = some u → w.cell? ((⟨g, 0, none⟩ : Addr).add j) = some u := by
  rcases h.2 with ⟨_, h0⟩ | ⟨g, c, cur, rfl, _⟩
  · omega
  · exact ⟨g, c, rfl, h.cells (g := g) rfl⟩
def FedTo {σ : Type} (S : Serve σ) (s0 : σ) (xs0 : List Int) (st : Nat) (F0 S0 : List Nat) (w : World) (e : Ending) (w' : World) : Prop :=
  ∃ s' ys o v F' S', Runs S s0 xs0 s' ys o 7 ∧ e = .returned (.tuple #[v, .int .i64 0]) ∧ w'.ownsRow w.heap.size 5 1 v o.length (o.map (Value.int .u8)) ∧ S.I s' F' w' ∧ StrmF w' st ys 0 S' ∧ Only (F0 ++ S0) w w' ∧ (∀ b ∈ F', b ∈ F0 ∨ w.heap.size ≤ b) ∧ (∀ b ∈ S', b ∈ S0 ∨ w.heap.size ≤ b) ∧ (∀ b ∈ F', b ∉ S') ∧ IsBy ys ∧ IsBy o
set_option maxRecDepth 100000 in
set_option maxHeartbeats 8000000 in
theorem feed_on {σ : Type} {S : Serve σ} {ss : Nat} (ok : S.Ok ss) {w : World} {g l n m st : Nat} {cs : Array Value} {s0 : σ} {F0 S0 : List Nat} {xs0 : List Int} {u : Sl}
    (hI : S.I s0 F0 w) (hs : StrmF w st xs0 0 S0) (hg : Row w g #[.slice (some ⟨l, 0, none⟩) n n, .bool false] tSc) (hl : Row w l cs tLn) (hm : m < n) (hn : n ≤ 8)
    (hc0 : cs[m * 3]? = some (.pointer (some ⟨ss, 0, none⟩))) (hc1 : cs[m * 3 + 1]? = some (.pointer (some ⟨st, 0, none⟩))) (hdis : ∀ b ∈ F0, b ∉ S0) (hgl : (g ∉ F0 ∧ g ∉ S0) ∧ l ∉ F0 ∧ l ∉ S0)
    (hu : SlRd .u8 w u) (hub : IsBy u.xs) (hxb : IsBy xs0) (hlen : xs0.length + u.xs.length ≤ 1000000) (hf : Fine S ((xs0 ++ u.xs).length + 1) s0 (xs0 ++ u.xs)) (hno : ∀ s' ys o, ¬ Runs S s0 (xs0 ++ u.xs) s' ys o 3) :
    Calls Tryz.prog 29 #[.pointer (some ⟨g, 0, none⟩), .int .i64 (m : Int), u.v] w (FedTo S s0 (xs0 ++ u.xs) st F0 S0 w) := by
  have hro : Fence.wide.round = none := rfl
  have HA := Lib.hid (And.intro hI (And.intro hs (And.intro hg (And.intro hl (And.intro hdis hgl)))))
  have HU := Lib.hid hu
  have HL := Lib.hid (And.intro hub (And.intro hxb (And.intro hlen (And.intro hf hno))))
  have HC := Lib.hid (And.intro hc0 hc1)
  have HM := Lib.hid (And.intro hm hn)
  have d1 : decide ((m : Int) < 0) = false := decide_eq_false (by omega)
  have d2 : decide ((n : Int) ≤ (m : Int)) = false := decide_eq_false (by omega)
  have d2' : decide (n ≤ m) = false := decide_eq_false (by omega)
  have d3 : (m : Int) < (n : Int) := by omega
  have dn : decide ((n : Int) = 0) = false := decide_eq_false (by omega)
  have dq : ((n : Int) == 0) = false := by simp; omega
  unfold Sl.v
  clear hI hs hg hl hdis hgl hu hub hxb hlen hf hno hc0 hc1 hm hn
  refine callsIn_wide (n := 5) |>.1 ?_
  refine callsIn_of_wp_marks Tryz.func29 rfl trivial ?_ hro
  simp only [Tryz.ntmps29, List.size_toArray, List.length_cons, List.length_nil, Nat.reduceAdd, Nat.reduceSub, Array.replicate_succ, Array.replicate_zero, List.push_toArray, List.append_toArray, List.nil_append, List.cons_append]
  gi_wp2_with fail
  obtain ⟨B, hB⟩ : ∃ B, B = w.heap.size := ⟨_, rfl⟩
  have R3 : Hid (Row (((w.alloc (.cells #[.pointer (some ⟨g, 0, none⟩)] tScp)).alloc (.cells #[.slice none 0 0] tBs)).alloc (.cells #[.int .i64 0] tEr)) B #[.pointer (some ⟨g, 0, none⟩)] tScp ∧ Row (((w.alloc (.cells #[.pointer (some ⟨g, 0, none⟩)] tScp)).alloc (.cells #[.slice none 0 0] tBs)).alloc (.cells #[.int .i64 0] tEr)) (B + 1) #[.slice none 0 0] tBs ∧ Row (((w.alloc (.cells #[.pointer (some ⟨g, 0, none⟩)] tScp)).alloc (.cells #[.slice none 0 0] tBs)).alloc (.cells #[.int .i64 0] tEr)) (B + 2) #[.int .i64 0] tEr ∧ Only [] w (((w.alloc (.cells #[.pointer (some ⟨g, 0, none⟩)] tScp)).alloc (.cells #[.slice none 0 0] tBs)).alloc (.cells #[.int .i64 0] tEr)) ∧ (((w.alloc (.cells #[.pointer (some ⟨g, 0, none⟩)] tScp)).alloc (.cells #[.slice none 0 0] tBs)).alloc (.cells #[.int .i64 0] tEr)).heap.size = B + 3) := Lib.hid (by
    have h3 := ((Row.made w #[.pointer (some ⟨g, 0, none⟩)] tScp).only ((Only.refl [] _).alloc (.cells #[.slice none 0 0] tBs)) (by simp)).only ((Only.refl [] _).alloc (.cells #[.int .i64 0] tEr)) (by simp)
    have h6 := (Row.made (w.alloc (.cells #[.pointer (some ⟨g, 0, none⟩)] tScp)) #[.slice none 0 0] tBs).only ((Only.refl [] _).alloc (.cells #[.int .i64 0] tEr)) (by simp)
    have h7 := Row.made ((w.alloc (.cells #[.pointer (some ⟨g, 0, none⟩)] tScp)).alloc (.cells #[.slice none 0 0] tBs)) #[.int .i64 0] tEr
    rw [World.size_alloc] at h6
    rw [World.size_alloc, World.size_alloc] at h7
    rw [hB]
    exact ⟨h3, h6, h7, (((Only.refl [] w).alloc _).alloc _).alloc _, by simp⟩)
  have HB := Lib.hid hB
  rw [show w.heap.size = B from hB.symm]
  clear hB
  generalize ((w.alloc (.cells #[.pointer (some ⟨g, 0, none⟩)] tScp)).alloc (.cells #[.slice none 0 0] tBs)).alloc (.cells #[.int .i64 0] tEr) = w3 at *
  have SN := Lib.hid (sessions_on (HA.out.2.2.1.only R3.out.2.2.2.1 (by simp)))
  have e3 : w3.cell? ⟨B, 0, none⟩ = some (.pointer (some ⟨g, 0, none⟩)) := R3.out.1.cell 0
  have eg := HA.out.2.2.1.only R3.out.2.2.2.1 (by simp)
  have eg0 : w3.cell? ⟨g, 0, none⟩ = some (.slice (some ⟨l, 0, none⟩) n n) := eg.cell 0
  have eg1 : w3.cell? ⟨g, 1, none⟩ = some (.bool false) := eg.cell 1
  clear eg
  gi_wp2_with fail
  refine ⟨trivial, (callsIn_wide.2 SN.out).mono ?_⟩
  rintro _ w4 ⟨rfl, hw⟩
  subst w4
  gi_upto_region 8 with fail
  rw [R3.out.2.2.2.2]
  have RA : Hid (Row (w3.alloc (.cells #[.pointer (some ⟨l, m * 3, none⟩)] tLnp)) B #[.pointer (some ⟨g, 0, none⟩)] tScp ∧ Row (w3.alloc (.cells #[.pointer (some ⟨l, m * 3, none⟩)] tLnp)) (B + 1) #[.slice none 0 0] tBs ∧ Row (w3.alloc (.cells #[.pointer (some ⟨l, m * 3, none⟩)] tLnp)) (B + 2) #[.int .i64 0] tEr ∧ Row (w3.alloc (.cells #[.pointer (some ⟨l, m * 3, none⟩)] tLnp)) (B + 3) #[.pointer (some ⟨l, m * 3, none⟩)] tLnp ∧ Only [] w (w3.alloc (.cells #[.pointer (some ⟨l, m * 3, none⟩)] tLnp)) ∧ (w3.alloc (.cells #[.pointer (some ⟨l, m * 3, none⟩)] tLnp)).heap.size = B + 4) := Lib.hid (by
    have k : Only [] w3 (w3.alloc (.cells #[.pointer (some ⟨l, m * 3, none⟩)] tLnp)) := (Only.refl [] w3).alloc _
    have h8 := Row.made w3 #[.pointer (some ⟨l, m * 3, none⟩)] tLnp
    rw [R3.out.2.2.2.2] at h8
    exact ⟨R3.out.1.only k (by simp), R3.out.2.1.only k (by simp), R3.out.2.2.1.only k (by simp), h8, R3.out.2.2.2.1.trans k (by simp), by simp [R3.out.2.2.2.2]⟩)
  clear SN e3 eg0 eg1 R3
  generalize w3.alloc (.cells #[.pointer (some ⟨l, m * 3, none⟩)] tLnp) = wA at *
  have hIA := ok.only _ _ _ _ _ HA.out.1 RA.out.2.2.2.2.1 (by simp)
  have hsA := HA.out.2.1.only RA.out.2.2.2.2.1 (by simp)
  have hgA := HA.out.2.2.1.only RA.out.2.2.2.2.1 (by simp)
  have hlA := HA.out.2.2.2.1.only RA.out.2.2.2.2.1 (by simp)
  have FD := Lib.hid (strm_put hsA (HU.out.only RA.out.2.2.2.2.1 (by simp)) HL.out.2.2.1)
  unfold Sl.v at FD
  have e8 : wA.cell? ⟨B + 3, 0, none⟩ = some (.pointer (some ⟨l, m * 3, none⟩)) := RA.out.2.2.2.1.cell 0
  have el : wA.cell? ⟨l, m * 3 + 1, none⟩ = some (.pointer (some ⟨st, 0, none⟩)) := (hlA.cell _).trans HC.out.2
  have HA2 := Lib.hid (And.intro hIA (And.intro hsA (And.intro hgA hlA)))
  clear hIA hsA hgA hlA
  gi_wp2_with fail
  refine ⟨trivial, (callsIn_wide.2 FD.out).mono ?_⟩
  rintro _ wB ⟨rfl, FS1, hs1, ho1, hf1⟩
  rw [if_pos rfl] at hs1
  clear FD e8 el
  obtain ⟨q, hq⟩ : ∃ q, q = wB.heap.size := ⟨_, rfl⟩
  have QB : Hid (B + 4 ≤ q) := Lib.hid (by rw [hq]; have := ho1.size; have := RA.out.2.2.2.2.2; omega)
  have NS : Hid (∀ b, B ≤ b → b < B + 4 → b ∉ S0) := Lib.hid fun b h1 h2 hm => by
    have := HA.out.2.1.lt b hm
    have := HB.out
    omega
  have M1 : Hid (∀ (c : FeC), c = ⟨w, q, g, l, n, m, st, cs, F0, S0⟩ → FeM S c s0 (xs0 ++ u.xs) [] (.slice none 0 0) F0 FS1 ((((wB.alloc (.cells #[.slice none 0 0] tBs)).alloc (.cells #[.int .i64 0] tEr)).alloc (.cells #[.pointer (some ⟨l, m * 3, none⟩)] tLnp)).alloc (.cells #[.pointer (some ⟨q + 1, 0, none⟩)] tErp))) := Lib.hid (by
    rintro c rfl
    have k1 : Only [] wB (wB.alloc (.cells #[.slice none 0 0] tBs)) := (Only.refl [] _).alloc _
    have k2 : Only [] (wB.alloc (.cells #[.slice none 0 0] tBs)) ((wB.alloc (.cells #[.slice none 0 0] tBs)).alloc (.cells #[.int .i64 0] tEr)) := (Only.refl [] _).alloc _
    have k3 : Only [] ((wB.alloc (.cells #[.slice none 0 0] tBs)).alloc (.cells #[.int .i64 0] tEr)) (((wB.alloc (.cells #[.slice none 0 0] tBs)).alloc (.cells #[.int .i64 0] tEr)).alloc (.cells #[.pointer (some ⟨l, m * 3, none⟩)] tLnp)) := (Only.refl [] _).alloc _
    have k4 : Only [] (((wB.alloc (.cells #[.slice none 0 0] tBs)).alloc (.cells #[.int .i64 0] tEr)).alloc (.cells #[.pointer (some ⟨l, m * 3, none⟩)] tLnp)) ((((wB.alloc (.cells #[.slice none 0 0] tBs)).alloc (.cells #[.int .i64 0] tEr)).alloc (.cells #[.pointer (some ⟨l, m * 3, none⟩)] tLnp)).alloc (.cells #[.pointer (some ⟨q + 1, 0, none⟩)] tErp)) := (Only.refl [] _).alloc _
    have k : Only [] wB _ := ((k1.trans k2 (by simp)).trans k3 (by simp)).trans k4 (by simp)
    have r10 := ((Row.made wB #[.slice none 0 0] tBs).only k2 (by simp)).only (k3.trans k4 (by simp)) (by simp)
    have r11 := ((Row.made (wB.alloc (.cells #[.slice none 0 0] tBs)) #[.int .i64 0] tEr).only k3 (by simp)).only k4 (by simp)
    have rx1 := (Row.made ((wB.alloc (.cells #[.slice none 0 0] tBs)).alloc (.cells #[.int .i64 0] tEr)) #[.pointer (some ⟨l, m * 3, none⟩)] tLnp).only k4 (by simp)
    have rx2 := Row.made (((wB.alloc (.cells #[.slice none 0 0] tBs)).alloc (.cells #[.int .i64 0] tEr)).alloc (.cells #[.pointer (some ⟨l, m * 3, none⟩)] tLnp)) #[.pointer (some ⟨q + 1, 0, none⟩)] tErp
    rw [← hq] at r10
    rw [World.size_alloc, ← hq] at r11
    rw [World.size_alloc, World.size_alloc, ← hq] at rx1
    rw [World.size_alloc, World.size_alloc, World.size_alloc, ← hq] at rx2
    have hB := HB.out
    have hQ := QB.out
    have hgB := HA.out.2.2.1.lt
    have hlB := HA.out.2.2.2.1.lt
    have hF := ok.lt _ _ _ HA.out.1
    have hS := HA.out.2.1.lt
    have kAB := ho1
    have hz := RA.out.2.2.2.2.2
    have hFb : ∀ b ∈ F0, b ∉ S0 := HA.out.2.2.2.2.1
    refine ⟨ok.only _ _ _ _ _ (ok.only _ _ _ _ _ HA2.out.1 ho1 hFb) k (by simp), hs1.only k (by simp), ?_, ?_, ?_, ?_, r10, World.ownsRow_nil _ _ _ _, by simp [Value.ownBlock], ⟨_, r11⟩, rx1, rx2, (HA2.out.2.2.1.only ho1 HA.out.2.2.2.2.2.1.2).only k (by simp), (HA2.out.2.2.2.only ho1 HA.out.2.2.2.2.2.2.2).only k (by simp), ?_, fun b hb => ?_, fun b hb => ?_, fun b hb hm => ?_, ⟨⟨HA.out.2.2.2.2.2.1.1, fun hm => ?_⟩, ⟨HA.out.2.2.2.2.2.2.1, fun hm => ?_⟩, ?_, ?_, ?_⟩, fun b hb => .inl hb, fun b hb => ?_⟩
    · show Row _ w.heap.size _ _
      rw [← hB]; exact (RA.out.1.only ho1 (NS.out B (by omega) (by omega))).only k (by simp)
    · show Row _ (w.heap.size + 1) _ _
      rw [← hB]; exact (RA.out.2.1.only ho1 (NS.out _ (by omega) (by omega))).only k (by simp)
    · show Row _ (w.heap.size + 2) _ _
      rw [← hB]; exact (RA.out.2.2.1.only ho1 (NS.out _ (by omega) (by omega))).only k (by simp)
    · show Row _ (w.heap.size + 3) _ _
      rw [← hB]; exact (RA.out.2.2.2.1.only ho1 (NS.out _ (by omega) (by omega))).only k (by simp)
    · exact ((RA.out.2.2.2.2.1.mono (G := F0 ++ S0) (by simp)).trans ho1 (by intro i hi; left; simp [hi])).trans k (by simp)
    · left; have := hF b hb; simpa using this
    · show b < w.heap.size ∨ (w.heap.size + 4 ≤ b ∧ b < q) ∨ q + 6 ≤ b
      rcases hf1 b hb with h1 | h1
      · left; exact hS b h1
      · right; left
        have := hs1.lt b hb
        omega
    · rcases hf1 b hm with h1 | h1
      · exact hFb b hb h1
      · have := hF b hb; omega
    · rcases hf1 _ hm with h1 | h1
      · exact HA.out.2.2.2.2.2.1.2 h1
      · change wA.heap.size ≤ g at h1; omega
    · rcases hf1 _ hm with h1 | h1
      · exact HA.out.2.2.2.2.2.2.2 h1
      · change wA.heap.size ≤ l at h1; omega
    · show g < w.heap.size; omega
    · show l < w.heap.size; omega
    · show w.heap.size + 4 ≤ q; omega
    · rcases hf1 b hb with h1 | h1
      · exact .inl h1
      · right; show w.heap.size ≤ b; omega)
  have ZD : Hid (((((wB.alloc (.cells #[.slice none 0 0] tBs)).alloc (.cells #[.int .i64 0] tEr)).alloc (.cells #[.pointer (some ⟨l, m * 3, none⟩)] tLnp)).alloc (.cells #[.pointer (some ⟨q + 1, 0, none⟩)] tErp)).heap.size = q + 4) := Lib.hid (by simp; omega)
  have FR := Lib.hid (frames_any (some ⟨l, m * 3, none⟩) (some ⟨q + 1, 0, none⟩) ((wB.alloc (.cells #[.slice none 0 0] tBs)).alloc (.cells #[.int .i64 0] tEr)))
  have ZC : Hid (((wB.alloc (.cells #[.slice none 0 0] tBs)).alloc (.cells #[.int .i64 0] tEr)).heap.size = q + 2) := Lib.hid (by simp; omega)
  rw [ZC.out] at FR
  have z8 : ((wB.alloc (.cells #[.slice none 0 0] tBs)).alloc (.cells #[.int .i64 0] tEr)).cell? ⟨B + 3, 0, none⟩ = some (.pointer (some ⟨l, m * 3, none⟩)) := by
    have h := ((RA.out.2.2.2.1.only ho1 (NS.out _ (by omega) (by omega))).only (((Only.refl [] wB).alloc (.cells #[.slice none 0 0] tBs)).alloc (.cells #[.int .i64 0] tEr)) (by simp))
    exact h.cell 0
  have HQ := Lib.hid hq
  gi_upto_region 13 with fail
  rw [show wB.heap.size = q from hq.symm]
  clear hs1 ho1 hf1 RA HA2 hq
  gi_wp2_with fail
  refine ⟨trivial, (callsIn_wide.2 FR.out).mono ?_⟩
  rintro _ wE ⟨rfl, hw⟩
  subst wE
  clear FR z8 ZC
  generalize (((wB.alloc (.cells #[.slice none 0 0] tBs)).alloc (.cells #[.int .i64 0] tEr)).alloc (.cells #[.pointer (some ⟨l, m * 3, none⟩)] tLnp)).alloc (.cells #[.pointer (some ⟨q + 1, 0, none⟩)] tErp) = wD at *
  gi_wp2_with fail
  obtain ⟨c, hc⟩ : ∃ c : FeC, c = ⟨w, q, g, l, n, m, st, cs, F0, S0⟩ := ⟨_, rfl⟩
  have MC := Lib.hid (M1.out c hc)
  have EC := Lib.hid hc
  clear M1 hc
  refine wpIn_range_rec hro (by omega) (gf := 97) (lb := #[.pointer (some ⟨q + 2, 0, none⟩), .pointer (some ⟨q + 3, 0, none⟩)]) rfl trivial (enters_of Tryz.func97 (by kernel_rfl) rfl) ?_
  intro fn W1 hfn hrec hO1 hz1
  rw [ZD.out] at hrec hz1 ⊢
  have eqc : c.q = q := by rw [EC.out]
  have J0 : FeJ S c s0 (xs0 ++ u.xs) _ (xs0 ++ u.xs) W1 := ⟨s0, [], _, F0, FS1, MC.out.same ok hO1, ⟨HL.out.2.1.append HL.out.1, fun s' ys o d h => h, HL.out.2.2.2.1, by have := HL.out.2.2.1; simp; omega, IsBy.nil⟩, by rw [eqc]; exact hrec⟩
  have FF := fun HY => feed_frames ok c s0 (xs0 ++ u.xs) _ HL.out.2.2.2.2 (by rw [EC.out]; exact HC.out.2) HY J0
  rw [eqc] at FF
  refine (FF ?body).mono ?after
  case body =>
    rintro xs k p W2 hk ⟨s, out, v, F, FS, ps, hM, hL, hR, rfl, hp, hpx, hpb⟩
    have hR' := hR
    rw [eqc] at hR'
    refine yieldAt_body hfn hR' rfl ?_
    have HRR := Lib.hid hR
    clear hR hR' FF J0 hrec
    gi_wp2_with fail
    refine ⟨Keeps2.refl _ _, ?_⟩
    intro W3 k3 hR3
    have HM2 := Lib.hid hM
    have HL2 := Lib.hid hL
    have HP := Lib.hid (And.intro hp (And.intro hpx hpb))
    have HK := Lib.hid hk
    have K3 := Lib.hid k3
    have L3 : Hid (q + 4 + 1 < W3.heap.size) := Lib.hid hR3.lt
    have HR3 := Lib.hid hR3
    have sepc : Hid (c.own = [B, B + 1, B + 2, B + 3, q, q + 1, q + 2, q + 3] ∧ c.B = B ∧ c.q = q) := Lib.hid (by rw [EC.out]; simp [FeC.own, HB.out])
    have DS : Hid (∀ b, (b = q + 4 ∨ b = q + 4 + 1) → b ∉ F ∧ b ∉ FS ∧ v.ownBlock ≠ some b ∧ b ∉ c.own ∧ b ≠ c.g ∧ b ≠ c.l ∧ c.B ≤ b) := Lib.hid (by
      intro b hb
      have h1 := hM.gl
      have h2 := sepc.out
      rw [h2.2.1, h2.2.2] at h1
      refine ⟨fun hm => ?_, fun hm => ?_, fun hv => ?_, ?_, ?_, ?_, ?_⟩
      · have := hM.sepF b hm; rw [h2.2.1, h2.2.2] at this; omega
      · have := hM.sepS b hm; rw [h2.2.1, h2.2.2] at this; omega
      · have := (hM.own.lt b hv).1; rw [h2.2.2] at this; omega
      · rw [h2.1]; simp; omega
      · omega
      · omega
      · omega)
    have HM3 := Lib.hid (hM.but ok k3 (by intro b hb; simp at hb; exact DS.out b (.inr hb)))
    have HP3 : Hid (SlAt .u8 W3 ps) := Lib.hid (hp.only k3 (by
      intro b hb hm
      simp at hm
      have := (hpb b hb).1
      rw [eqc] at this
      omega))
    clear hM hL hp hpx hpb hk k3 hR3 HRR
    have cg : W3.cell? ⟨B + 3, 0, none⟩ = some (.pointer (some ⟨l, m * 3, none⟩)) := by
      have h := HM3.out.r8.cell 0
      rw [sepc.out.2.1] at h
      rw [h, EC.out]; rfl
    have cl : W3.cell? ⟨l, m * 3, none⟩ = some (.pointer (some ⟨ss, 0, none⟩)) := by
      have h := HM3.out.rl.cell (m * 3)
      rw [EC.out] at h
      rw [h]; exact HC.out.1
    have DO := Lib.hid (ok.does s F W3 ps HM3.out.inv HP3.out.rd (fun _ b hb hm => (HP.out.2.2 b hb).2.1 hm) (by rw [HP.out.2.1]; exact (HL2.out.by_.drop _).take _) (by rw [HP.out.2.1]; exact (HL2.out.fine k HK.out).1))
    unfold Sl.v at DO ⊢
    unfold DidTo at DO
    gi_wp2_with fail
    refine ⟨trivial, (callsIn_wide.2 DO.out).mono ?_⟩
    rintro _ W4 ⟨s4, F4, zs, tv, hst, rfl, htv, hI4, hO4, hF4, hv4⟩
    rw [HP.out.2.1] at hst
    have HM4 := Lib.hid (HM3.out.served (by have := L3.out; rw [eqc]; omega) hO4 hI4 hF4)
    have TS := Lib.hid (ok.tells _ _ _ _ hst)
    have HS4 := Lib.hid hst
    obtain ⟨ts, rfl, etx, htr, htb, htc⟩ := own_sl htv (TS.out.2.1)
    have NT : Hid (zs.length ≤ 1000000) := Lib.hid TS.out.2.1
    have HT := Lib.hid (And.intro etx (And.intro htr (And.intro htb (And.intro hv4 htv))))
    have O4 := Lib.hid hO4
    have RT := Lib.hid (TS.out.2.2 W4 ts htr etx)
    clear hst htv hI4 hO4 hF4 hv4 etx htr htb htc DO cg cl
    unfold Sl.v at RT ⊢
    unfold ReadsTo at RT
    gi_wp2_with fail
    refine ⟨trivial, (callsIn_wide.2 RT.out).mono ?_⟩
    rintro _ W5 ⟨kk, mk, er, pl, key, a1, a2, a3, a4, n1, n2, n3, n4, c1, c2, c3, c4, rfl, her, hb5⟩
    have der : decide (er = 6) = false := decide_eq_false her
    have der2 : (er == 6) = false := by simp [her]
    have B5 := Lib.hid hb5
    have K6 : Hid (Only [] W4 (W5.alloc (.cells #[.int .i64 kk, .int .i64 mk, .int .i64 er, .int .i64 pl, .int .u64 key, .slice a1 n1 c1, .slice a2 n2 c2, .slice a3 n3 c3, .slice a4 n4 c4] tRp))) := Lib.hid (((Only.refl [] W4).below hb5).alloc _)
    have HM6 := Lib.hid (HM4.out.same ok K6.out)
    have f2 : (W5.alloc (.cells #[.int .i64 kk, .int .i64 mk, .int .i64 er, .int .i64 pl, .int .u64 key, .slice a1 n1 c1, .slice a2 n2 c2, .slice a3 n3 c3, .slice a4 n4 c4] tRp)).cell? ⟨W5.heap.size, 2, none⟩ = some (.int .i64 er) := (Row.made W5 #[.int .i64 kk, .int .i64 mk, .int .i64 er, .int .i64 pl, .int .u64 key, .slice a1 n1 c1, .slice a2 n2 c2, .slice a3 n3 c3, .slice a4 n4 c4] tRp).cell 2
    have TR6 := Lib.hid (HT.out.2.1.only K6.out (by simp))
    clear her hb5 RT
    by_cases hsh : ts.xs.length ≤ 20000
    · have FB := Lib.hid (frame_on TR6.out hsh)
      unfold Sl.v AskTo at FB
      gi_wp2_with fail
      refine ⟨trivial, (callsIn_wide.2 FB.out).mono ?_⟩
      generalize W5.alloc (.cells #[.int .i64 kk, .int .i64 mk, .int .i64 er, .int .i64 pl, .int .u64 key, .slice a1 n1 c1, .slice a2 n2 c2, .slice a3 n3 c3, .slice a4 n4 c4] tRp) = W6 at *
      rintro _ W7 ⟨fv, rfl, hfo, hb7⟩
      have k67 : Only [] W6 W7 := (Only.refl [] W6).below hb7
      rw [HT.out.1] at hfo
      clear hb7
      have K37 : Hid (∃ G, Only G W3 W7 ∧ q + 4 ∉ G ∧ q + 4 + 1 ∉ G) := Lib.hid ⟨F, (O4.out.trans K6.out (by simp)).trans k67 (by simp), by have := HM3.out.recOff (q + 4) (by rw [eqc]; exact .inl rfl); exact this.1, by have := HM3.out.recOff (q + 4 + 1) (by rw [eqc]; exact .inr rfl); exact this.1⟩
      have HM7 := Lib.hid (HM6.out.same ok k67)
      have c10 : W7.cell? ⟨q, 0, none⟩ = some v := by have h := HM7.out.r10.cell 0; rw [eqc] at h; exact h
      have f10 : W7.frozen? ⟨q, 0, none⟩ = false := by have h := HM7.out.r10.free 0; rw [eqc] at h; exact h
      have OW7 : Hid (W7.ownsRow (q + 6) 5 1 v out.length (out.map (Value.int .u8))) := Lib.hid (by have h := HM7.out.own; rw [eqc] at h; exact h)
      obtain ⟨fb, hfb⟩ : ∃ fb, leB (zs.length : Int) 4 ++ zs = fb := ⟨_, rfl⟩
      have FL : Hid ((leB (ts.xs.length : Int) 4 ++ ts.xs) = fb ∧ fb.length ≤ 1000004 ∧ out.length ≤ 1000004000000 ∧ leB (zs.length : Int) 4 ++ zs = fb ∧ 0 < fb.length) := Lib.hid ⟨by rw [HT.out.1]; exact hfb, by have := NT.out; rw [← hfb]; simp [leB_len]; omega, by have := HL2.out.len; omega, hfb, by rw [← hfb]; simp [leB_len]; omega⟩
      rw [FL.out.2.2.2.1] at hfo
      obtain ⟨fg, fc, rfl, hfc⟩ := own_some hfo FL.out.2.2.2.2
      have HFO := Lib.hid (And.intro hfo hfc)
      have LW : Hid (q + 6 ≤ W7.heap.size) := Lib.hid (by have := L3.out; obtain ⟨G, hG, _⟩ := K37.out; have := hG.size; omega)
      have NQ : Hid (q ∉ v.ownBlock.toList ∧ Row W7 q #[v] tBs) := Lib.hid ⟨fun hm => by have := (OW7.out.lt q (by simpa using hm)).1; omega, by have h := HM7.out.r10; rw [eqc] at h; exact h⟩
      obtain ⟨i0', hi0, hz0, hz1, hz2⟩ := info_parts infoU8
      have qF : ∀ (w : World) (m c : Nat) (ad : Addr), (binOp .eql 30 (.slice (some ad) m c) (.slice none 0 0)).run Tryz.prog w = .ok (.bool false) w := fun w m c ad => by kernel_rfl
      clear k67 hfo hfc FB f2 hfb
      gi_wp2_with (gi_at_builtin; refine wpListIn_append_at _ rfl (.tmp 108) (.tmp 109) 30 rfl (q + 6) 5 i0' (.int .u8 0) 1 1 Tryz.underlying30 hi0 hz0 hz1 hz2 rfl (by decide) v _ _ rfl OW7.out ⟨fg, 0, none⟩ fb.length fc (fb.map (Value.int .u8)) rfl (by simp) HFO.out.2 (by simp [Value.oneCell']) (by have := FL.out; unfold maxLen; omega) (by have := FL.out; omega) LW.out ?_; intro v8 W8 hown' hgrow hfr; have FIN : Hid (Keeps2 (q + 4) W3 (W8.setCell ⟨q, 0, none⟩ v8) ∧ ∀ W4, Only [q + 4 + 1] (W8.setCell ⟨q, 0, none⟩ v8) W4 → _) := Lib.hid (by have h := feed_round ok c s0 (xs0 ++ u.xs) _ HM7.out HL2.out HK.out HS4.out (by rw [eqc]; exact HR3.out) (by rw [eqc]; exact K37.out) (v8 := v8) (W8 := W8) (by rw [eqc, FL.out.2.2.2.1]; exact hown') hgrow hfr; rw [eqc] at h; exact h); have R10 : Row W8 q #[v] tBs := NQ.out.2.only ((Only.refl v.ownBlock.toList W7).grown hgrow (fun k hk => .inl (by simp [hk]))) NQ.out.1; have z10 : W8.cell? ⟨q, 0, none⟩ = some v := R10.cell 0; have y10 := R10.free 0; obtain ⟨pp, cc, rfl, _, _⟩ := own_shape hown'; clear hown' hgrow hfr R10)
      refine ⟨FIN.out.1, fun W9 k9 h9 => ?_⟩
      exact ⟨rfl, (FIN.out.2 W9 k9 h9).2⟩
    · have FB := Lib.hid (frame_long (w := (W5.alloc (.cells #[.int .i64 kk, .int .i64 mk, .int .i64 er, .int .i64 pl, .int .u64 key, .slice a1 n1 c1, .slice a2 n2 c2, .slice a3 n3 c3, .slice a4 n4 c4] tRp))) hsh)
      unfold Sl.v at FB
      gi_wp2_with fail
      refine ⟨trivial, (callsIn_wide.2 FB.out).mono ?_⟩
      generalize W5.alloc (.cells #[.int .i64 kk, .int .i64 mk, .int .i64 er, .int .i64 pl, .int .u64 key, .slice a1 n1 c1, .slice a2 n2 c2, .slice a3 n3 c3, .slice a4 n4 c4] tRp) = W6 at *
      rintro _ W7 ⟨rfl, hw7⟩
      subst W7
      have qT : ∀ w : World, (binOp .eql 30 (.slice none 0 0) (.slice none 0 0)).run Tryz.prog w = .ok (.bool true) w := fun w => by kernel_rfl
      have SR : Hid (0 < ts.xs.length ∧ ts.xs.length ≤ 1000000) := Lib.hid ⟨by omega, by rw [HT.out.1]; exact NT.out⟩
      have ts_some : ∃ ad, ts.a = some ad := by
        cases h : ts.a with
        | none => have := (TR6.out.nn h).1; have := SR.out.1; simp_all
        | some ad => exact ⟨ad, rfl⟩
      obtain ⟨tad, ea⟩ := ts_some
      have SRC : Hid (∀ j x, (ts.xs.map (Value.int .u8))[j]? = some x → (W6.alloc (.cells #[.int .u8 ((ts.xs.length : Int) % 256), .int .u8 ((ts.xs.length : Int) / 256 % 256), .int .u8 ((ts.xs.length : Int) / 65536 % 256), .int .u8 ((ts.xs.length : Int) / 16777216 % 256)] 5)).cell? (tad.add j) = some x) := Lib.hid (by
        have h := (TR6.out.only ((Only.refl [] W6).alloc (.cells #[.int .u8 ((ts.xs.length : Int) % 256), .int .u8 ((ts.xs.length : Int) / 256 % 256), .int .u8 ((ts.xs.length : Int) / 65536 % 256), .int .u8 ((ts.xs.length : Int) / 16777216 % 256)] 5)) (by simp)).src
        rcases h with ⟨h1, _⟩ | ⟨ad, c', h1, _, h3⟩
        · unfold Sl.v at h1; rw [ea] at h1; simp at h1
        · unfold Sl.v at h1
          rw [ea] at h1
          simp only [Value.slice.injEq, Option.some.injEq] at h1
          rw [h1.1]
          exact h3)
      have OB : Hid ((W6.alloc (.cells #[.int .u8 ((ts.xs.length : Int) % 256), .int .u8 ((ts.xs.length : Int) / 256 % 256), .int .u8 ((ts.xs.length : Int) / 65536 % 256), .int .u8 ((ts.xs.length : Int) / 16777216 % 256)] 5)).ownsRow W6.heap.size 5 1 (.slice (some ⟨W6.heap.size, 0, none⟩) 4 4) 4 ((leB (ts.xs.length : Int) 4).map (Value.int .u8))) := Lib.hid (by
        have e : (leB (ts.xs.length : Int) 4).map (Value.int .u8) = [.int .u8 ((ts.xs.length : Int) % 256), .int .u8 ((ts.xs.length : Int) / 256 % 256), .int .u8 ((ts.xs.length : Int) / 65536 % 256), .int .u8 ((ts.xs.length : Int) / 16777216 % 256)] := by
          simp [leB, leAt, List.range_succ]
        rw [e]
        exact World.ownsRow_lit W6 _ 4 (Nat.le_refl _) (by unfold maxLen; omega) rfl)
      obtain ⟨j0', hj0, jz0, jz1, jz2⟩ := info_parts infoU8
      rw [ea]
      obtain ⟨tn, htn⟩ : ∃ tn, ts.xs.length = tn := ⟨_, rfl⟩
      have HTN := Lib.hid htn
      rw [htn] at SRC OB SR ⊢
      clear htn ea FB f2
      gi_wp2_with (gi_at_builtin; refine wpListIn_append_at _ rfl (.tmp 105) (.tmp 106) 30 rfl W6.heap.size 5 j0' (.int .u8 0) 1 1 Tryz.underlying30 hj0 jz0 jz1 jz2 rfl (by decide) _ 4 _ rfl OB.out tad tn ts.c (ts.xs.map (Value.int .u8)) rfl (by have := HTN.out; simp; omega) SRC.out (by simp [Value.oneCell']) (by have := SR.out; unfold maxLen; omega) (by have := SR.out; omega) (by simp) ?more)
      case more =>
        intro v7 W7 hfo hg7 hfr7
        have k67 : Only [] W6 W7 := (((Only.refl [] W6).alloc _).grown hg7 (fun k hk => .inr (by simp [Value.ownBlock] at hk; omega)))
        have hfo : W7.ownsRow W6.heap.size 5 1 v7 (leB (zs.length : Int) 4 ++ zs).length ((leB (zs.length : Int) 4 ++ zs).map (Value.int .u8)) := by
          rw [List.length_append, leB_len, List.map_append, ← HT.out.1, HTN.out]
          exact hfo
        clear hg7 hfr7 SRC OB
        have K37 : Hid (∃ G, Only G W3 W7 ∧ q + 4 ∉ G ∧ q + 4 + 1 ∉ G) := Lib.hid ⟨F, (O4.out.trans K6.out (by simp)).trans k67 (by simp), by have := HM3.out.recOff (q + 4) (by rw [eqc]; exact .inl rfl); exact this.1, by have := HM3.out.recOff (q + 4 + 1) (by rw [eqc]; exact .inr rfl); exact this.1⟩
        have HM7 := Lib.hid (HM6.out.same ok k67)
        have c10 : W7.cell? ⟨q, 0, none⟩ = some v := by have h := HM7.out.r10.cell 0; rw [eqc] at h; exact h
        have f10 : W7.frozen? ⟨q, 0, none⟩ = false := by have h := HM7.out.r10.free 0; rw [eqc] at h; exact h
        have OW7 : Hid (W7.ownsRow (q + 6) 5 1 v out.length (out.map (Value.int .u8))) := Lib.hid (by have h := HM7.out.own; rw [eqc] at h; exact h)
        obtain ⟨fb, hfb⟩ : ∃ fb, leB (zs.length : Int) 4 ++ zs = fb := ⟨_, rfl⟩
        have FL : Hid ((leB (ts.xs.length : Int) 4 ++ ts.xs) = fb ∧ fb.length ≤ 1000004 ∧ out.length ≤ 1000004000000 ∧ leB (zs.length : Int) 4 ++ zs = fb ∧ 0 < fb.length) := Lib.hid ⟨by rw [HT.out.1]; exact hfb, by have := NT.out; rw [← hfb]; simp [leB_len]; omega, by have := HL2.out.len; omega, hfb, by rw [← hfb]; simp [leB_len]; omega⟩
        rw [FL.out.2.2.2.1] at hfo
        obtain ⟨fg, fc, rfl, hfc⟩ := own_some hfo FL.out.2.2.2.2
        have HFO := Lib.hid (And.intro hfo hfc)
        have LW : Hid (q + 6 ≤ W7.heap.size) := Lib.hid (by have := L3.out; obtain ⟨G, hG, _⟩ := K37.out; have := hG.size; omega)
        have NQ : Hid (q ∉ v.ownBlock.toList ∧ Row W7 q #[v] tBs) := Lib.hid ⟨fun hm => by have := (OW7.out.lt q (by simpa using hm)).1; omega, by have h := HM7.out.r10; rw [eqc] at h; exact h⟩
        obtain ⟨i0', hi0, hz0, hz1, hz2⟩ := info_parts infoU8
        have qF : ∀ (w : World) (m c : Nat) (ad : Addr), (binOp .eql 30 (.slice (some ad) m c) (.slice none 0 0)).run Tryz.prog w = .ok (.bool false) w := fun w m c ad => by kernel_rfl
        clear k67 hfo hfc hfb
        gi_wp2_with (gi_at_builtin; refine wpListIn_append_at _ rfl (.tmp 108) (.tmp 109) 30 rfl (q + 6) 5 i0' (.int .u8 0) 1 1 Tryz.underlying30 hi0 hz0 hz1 hz2 rfl (by decide) v _ _ rfl OW7.out ⟨fg, 0, none⟩ fb.length fc (fb.map (Value.int .u8)) rfl (by simp) HFO.out.2 (by simp [Value.oneCell']) (by have := FL.out; unfold maxLen; omega) (by have := FL.out; omega) LW.out ?_; intro v8 W8 hown' hgrow hfr; have FIN : Hid (Keeps2 (q + 4) W3 (W8.setCell ⟨q, 0, none⟩ v8) ∧ ∀ W4, Only [q + 4 + 1] (W8.setCell ⟨q, 0, none⟩ v8) W4 → _) := Lib.hid (by have h := feed_round ok c s0 (xs0 ++ u.xs) _ HM7.out HL2.out HK.out HS4.out (by rw [eqc]; exact HR3.out) (by rw [eqc]; exact K37.out) (v8 := v8) (W8 := W8) (by rw [eqc, FL.out.2.2.2.1]; exact hown') hgrow hfr; rw [eqc] at h; exact h); have R10 : Row W8 q #[v] tBs := NQ.out.2.only ((Only.refl v.ownBlock.toList W7).grown hgrow (fun k hk => .inl (by simp [hk]))) NQ.out.1; have z10 : W8.cell? ⟨q, 0, none⟩ = some v := R10.cell 0; have y10 := R10.free 0; obtain ⟨pp, cc, rfl, _, _⟩ := own_shape hown'; clear hown' hgrow hfr R10)
        refine ⟨FIN.out.1, fun W9 k9 h9 => ?_⟩
        exact ⟨rfl, (FIN.out.2 W9 k9 h9).2⟩
  case after =>
    rintro e W2 ⟨⟨rv, rfl⟩, s, ys, out, v, F, FS, hM, hRuns, hby, hbo, hR, h11⟩
    refine ⟨⟨_, rfl⟩, .inl ⟨by rw [eqc] at hR; exact hR, ?_⟩⟩
    intro W3 k3 hD3
    have OFF := hM.recOff
    have HM3 := Lib.hid (hM.but ok k3 (by intro b hb; simp at hb; exact OFF b (.inr (by rw [eqc]; exact hb))))
    have H11 : Hid (Row W3 (q + 1) #[.int .i64 7] tEr) := Lib.hid (by rw [eqc] at h11; exact h11.only k3 (by simp))
    have HD := Lib.hid (And.intro hD3 (And.intro hRuns (And.intro hby hbo)))
    have sepc : Hid (c.own = [B, B + 1, B + 2, B + 3, q, q + 1, q + 2, q + 3] ∧ c.B = B ∧ c.q = q ∧ c.w = w) := Lib.hid (by rw [EC.out]; simp [FeC.own, HB.out])
    have c11 : W3.cell? ⟨q + 1, 0, none⟩ = some (.int .i64 7) := H11.out.cell 0
    have c10 : W3.cell? ⟨q, 0, none⟩ = some v := by have h := HM3.out.r10.cell 0; rw [eqc] at h; exact h
    have R6 : Hid (Row W3 (B + 1) #[.slice none 0 0] tBs ∧ Row W3 (B + 1 + 1) #[.int .i64 0] tEr) := Lib.hid ⟨by have h := HM3.out.r6; rw [sepc.out.2.1] at h; exact h, by have h := HM3.out.r7; rw [sepc.out.2.1] at h; exact h⟩
    have c6 : W3.cell? ⟨B + 1, 0, none⟩ = some (.slice none 0 0) := R6.out.1.cell 0
    have f6 := R6.out.1.free 0
    have c7 : W3.cell? ⟨B + 1 + 1, 0, none⟩ = some (.int .i64 0) := R6.out.2.cell 0
    have f7 := R6.out.2.free 0
    have VS := own_shape HM3.out.own
    obtain ⟨pp, cc, hv, _, _⟩ := VS
    have HV := Lib.hid hv
    rw [hv] at c10
    have N6 : Hid (Row ((W3.setCell ⟨B + 1, 0, none⟩ (.slice pp out.length cc)).setCell ⟨B + 1 + 1, 0, none⟩ (.int .i64 0)) (B + 1) #[.slice pp out.length cc] tBs ∧ Row ((W3.setCell ⟨B + 1, 0, none⟩ (.slice pp out.length cc)).setCell ⟨B + 1 + 1, 0, none⟩ (.int .i64 0)) (B + 1 + 1) #[.int .i64 0] tEr ∧ Only [B + 1, B + 1 + 1] W3 ((W3.setCell ⟨B + 1, 0, none⟩ (.slice pp out.length cc)).setCell ⟨B + 1 + 1, 0, none⟩ (.int .i64 0))) := Lib.hid (by
      have k1 : Only [B + 1] W3 (W3.setCell ⟨B + 1, 0, none⟩ (.slice pp out.length cc)) := (Only.refl _ W3).setCell (.inl (by simp)) _
      have k2 : Only [B + 1 + 1] (W3.setCell ⟨B + 1, 0, none⟩ (.slice pp out.length cc)) ((W3.setCell ⟨B + 1, 0, none⟩ (.slice pp out.length cc)).setCell ⟨B + 1 + 1, 0, none⟩ (.int .i64 0)) := (Only.refl _ _).setCell (.inl (by simp)) _
      have h6 := R6.out.1.set 0 (.slice pp out.length cc)
      have h7 := (R6.out.2.only k1 (by simp)).set 0 (.int .i64 0)
      refine ⟨(by simpa using h6 : Row _ _ #[.slice pp out.length cc] _).only k2 (by simp), by simpa using h7, (k1.mono (by intro i hi; left; simp at hi; simp [hi])).trans k2 (by intro i hi; left; simp at hi; simp [hi])⟩)
    clear hM hRuns hby hbo hR h11 k3 hD3 OFF hv FF J0 hrec
    gi_wp2_with fail
    have HDF : Hid (((W3.setCell ⟨B + 1, 0, none⟩ (.slice pp out.length cc)).setCell ⟨B + 1 + 1, 0, none⟩ (.int .i64 0)).heap[q + 4]? = some (.deferred (some []))) := Lib.hid (by
      have h1 := HD.out.1
      rw [N6.out.2.2.block (q + 4) (Array.getElem?_eq_some_iff.1 h1).1 (by simp; have := QB.out; omega)]
      exact h1)
    refine ⟨by simp, .inl ⟨_, _, rfl, run_takeDeferred HDF.out, ?_⟩⟩
    have k9 := putObj_only ((W3.setCell ⟨B + 1, 0, none⟩ (.slice pp out.length cc)).setCell ⟨B + 1 + 1, 0, none⟩ (.int .i64 0)) (q + 4) (.deferred none)
    have hQ := QB.out
    have hB := HB.out
    refine ⟨_, results_feed rfl _ _ (B + 1) (B + 1 + 1) rfl rfl (N6.out.1.only k9 (by simp; omega)) (N6.out.2.1.only k9 (by simp; omega)), s, ys, out, v, F, FS, HD.out.2.1, by rw [HV.out], ?_, ?_, ?_, ?_, fun b hb => ?_, fun b hb => ?_, HM3.out.dis, HD.out.2.2.1, HD.out.2.2.2⟩
    all_goals have KK : Only [B + 1, B + 1 + 1, q + 4] W3 _ := (N6.out.2.2.mono (G := [B + 1, B + 1 + 1, q + 4]) (by intro i hi; left; simp at hi ⊢; omega)).trans k9 (by intro i hi; left; simp at hi ⊢; omega)
    all_goals have sF : ∀ b ∈ F, b ∉ [B + 1, B + 1 + 1, q + 4] := fun b hb hm => (by have := HM3.out.sepF b hb; rw [sepc.out.2.1, eqc] at this; simp at hm; omega)
    all_goals have sS : ∀ b ∈ FS, b ∉ [B + 1, B + 1 + 1, q + 4] := fun b hb hm => (by have := HM3.out.sepS b hb; rw [sepc.out.2.1, eqc] at this; simp at hm; omega)
    · refine own_keep (own_mono HM3.out.own (by rw [eqc]; omega)) fun b hb => KK.block b (HM3.out.own.lt b hb).2 fun hm => ?_
      have := (HM3.out.own.lt b hb).1
      rw [eqc] at this
      simp at hm
      omega
    · exact ok.only _ _ _ _ _ HM3.out.inv KK sF
    · have h := HM3.out.strm.only KK sS
      rw [EC.out] at h
      exact h
    · have h := HM3.out.only.trans KK (by
        intro b hb
        right
        rw [sepc.out.2.2.2]
        simp at hb
        omega)
      rw [EC.out] at h
      exact h
    · have h := HM3.out.newF b hb
      rw [EC.out] at h
      exact h
    · have h := HM3.out.newS b hb
      rw [EC.out] at h
      exact h
end Go.Proofs.YtcgmgdjeamidlaaGreat
