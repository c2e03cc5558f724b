/- wal: WalRound, walked. -/
import Derived.Test.YtekdogmhgijocaaMg35
import Derived.Test.YtekdogmhgijocaaWsQ
import Derived.Test.YtekdogmhgijocaaMg19
import Derived.Test.YtekdogmhgijocaaMg15
namespace Go.Proofs.Ytekdogmhgijocaa
open Go.RowKit Go.ChangeShapes Go.WideShapes Go.ChangeAt
open Go.Proofs.Ytekdogmhgijocaa.dk (Dk Dev sectorD newD calm_new new_dev)
set_option linter.unusedVariables false
set_option linter.unusedSimpArgs false

theorem tags_ne {w : World} {s : Sl} {a : u64.Sl} (h : Bk w s) (k : u64.Bk w a) : ∀ b ∈ s.bs, b ∉ a.bs := fun b hb ha => by
  obtain ⟨c1, h1⟩ := h.tag b hb
  obtain ⟨c2, h2⟩ := k.tag b ha
  have h1' : w.heap[b]? = some (.cells c1 5 (0, 0)) := h1
  have h2' : w.heap[b]? = some (.cells c2 31 (0, 0)) := h2
  rw [h1'] at h2'
  injection h2' with h3
  injection h3 with _ h4
  exact absurd h4 (by decide)
theorem size_eq' (y : Int) : ∃ k : Nat, wrap64 ((IntKind.u64.wrap y).tmod 400) = (k : Int) ∧ k < 400 := by
  have e : IntKind.u64.wrap y = y % 18446744073709551616 := rfl
  rw [e, Int.tmod_eq_emod_of_nonneg (by omega)]
  exact ⟨(y % 18446744073709551616 % 400).toNat, by unfold wrap64; omega, by omega⟩
structure RnAt (W wr : World) (p q : Nat) (F : List Nat) (held i : Nat) (D : Dk) (L : Lg) (s : Sl) (X : List Int) (e : Nat) (rs : List Rd1) (a : u64.Sl) : Prop where
  lg : LgAt W wr p q D F L s.v
  ta : TlAt W wr q F s s.xs
  lo : Log1 D L s X e rs
  len : rs.length ≤ held ∧ rs.length ≤ i
  pg : ∀ k r, rs[k]? = some r → r.pg + rs.length = i + k
  seq : L.seq ≤ 2 + i
  xl : X.length ≤ 52 + 900 * i
  bk : u64.Bk wr a
  xs : a.xs = rs.map fun r => (r.p : Int)
  ap : ∀ b ∈ a.bs, W.heap.size ≤ b ∧ b ∉ F ∧ b ≠ q
theorem RnAt.only {W w w' : World} {p q : Nat} {F : List Nat} {held i : Nat} {D : Dk} {L : Lg} {s : Sl} {X : List Int} {e : Nat} {rs : List Rd1} {a : u64.Sl} (h : RnAt W w p q F held i D L s X e rs a) (k : Only [] w w') : RnAt W w' p q F held i D L s X e rs a :=
  ⟨h.lg.only k (by simp), h.ta.only k (by simp), h.lo, h.len, h.pg, h.seq, h.xl, h.bk.only k (by simp), h.xs, h.ap⟩
theorem RnAt.ok {W w : World} {p q : Nat} {F : List Nat} {held i : Nat} {D : Dk} {L : Lg} {s : Sl} {X : List Int} {e : Nat} {rs : List Rd1} {a : u64.Sl} (h : RnAt W w p q F held i D L s X e rs a) (h5 : held ≤ 5) : LgOk L := by
  have h1 := h.lo.held.le
  have h2 := h.lo.st
  have h3 := h.lo.fl
  have h4 := h.lo.lat
  have h6 := h.lo.lep
  have h7 := h.len
  have h8 := h.lo.le
  exact ⟨by omega, by omega, by unfold limL; omega, by omega⟩
theorem RnAt.open {W w : World} {p q : Nat} {F : List Nat} {held i : Nat} {D : Dk} {L : Lg} {s : Sl} {X : List Int} {e : Nat} {rs : List Rd1} {a : u64.Sl} (h : RnAt W w p q F held i D L s X e rs a) (h5 : held ≤ 5) (hi : i ≤ 400) :
    Calls Try.prog 13 #[.pointer (some ⟨p, 0, none⟩), .int .i64 0, .int .i64 ((64 : Nat) : Int)] w (OpenG W p F 0 64 L.seq 1 (e : Int) 0 X.length w) := by
  have h1 := h.lo.seq
  have h2 := h.lo.held.le
  have h3 := h.lo.le
  have h4 := h.lo.sec
  have h6 := h.lo.st
  have h7 := h.len
  have hxl := h.xl
  obtain ⟨t, ht, hm1⟩ := h.lo.m1
  have hm0 := h.lo.m0
  have ok : MasOk L.seq 1 (e : Int) 0 52 := ⟨by omega, by decide, by omega, by decide, by decide⟩
  have ok' : MasOk (L.seq - 1) 1 (t : Int) 0 52 := ⟨by omega, by decide, by omega, by decide, by decide⟩
  have okk : MasOk (L.seq + 1) (1 + 1) (e : Int) 0 52 := ⟨by omega, by decide, by omega, by decide, by decide⟩
  have hH := h.lo.holds (by omega)
  have hC := Held.chain (fr := e / 52 * 52) (by omega) h.lo.held
  have hLA : LogAt D.sectors 0 ((64 : Nat) : Int) := ⟨by decide, by decide, by decide, by omega, by rw [h4.1]; decide⟩
  rcases (show L.seq % 2 = 0 ∨ L.seq % 2 = 1 by omega) with hp | hp
  · exact open_gen h.lg.dev h.lo.calm (by rw [h4.1, h4.2]) 0 64 hLA (s0 := L.seq) (e0 := 1) (t0 := e) (p0 := 0) (c0 := 52) (s1 := L.seq - 1) (e1 := 1) (t1 := t) (p1 := 0) (c1 := 52) (kc := 52) ok ok' (by rw [← hm0, hp]) (by rw [← hm1, show (L.seq + 1) % 2 = 1 by omega]; rfl) (by omega) (.inr ⟨by omega, rfl, rfl, rfl, rfl, rfl⟩) okk (by decide) (by omega) (by omega) rfl rfl hH hC (by omega) (by rw [List.length_drop]; omega)
  · exact open_gen h.lg.dev h.lo.calm (by rw [h4.1, h4.2]) 0 64 hLA (s0 := L.seq - 1) (e0 := 1) (t0 := t) (p0 := 0) (c0 := 52) (s1 := L.seq) (e1 := 1) (t1 := e) (p1 := 0) (c1 := 52) (kc := 52) ok' ok (by rw [← hm1, show (L.seq + 1) % 2 = 0 by omega]) (by rw [← hm0, hp]; rfl) (by omega) (.inl ⟨by omega, rfl, rfl, rfl, rfl, rfl⟩) okk (by decide) (by omega) (by omega) rfl rfl hH hC (by omega) (by rw [List.length_drop]; omega)
def bsK (k : Nat) (bv : Int) : List Int := List.replicate k 0 ++ [bv]
theorem bsK_len (k : Nat) (bv : Int) : (bsK k bv).length = k + 1 := by simp [bsK]
theorem bsK_by {k : Nat} {bv : Int} (h : 0 ≤ bv ∧ bv ≤ 255) : IsBy (bsK k bv) := fun x hx => by
  unfold bsK at hx
  rcases List.mem_append.1 hx with h1 | h1
  · have := (List.mem_replicate.1 h1).2; omega
  · simp at h1; omega
theorem bsK_ints {w : World} {b k : Nat} {bv : Int} (h : Row w b ((zsN (k + 1)).setIfInBounds k (.int .u8 bv)) 5) : Ints .u8 w (.slice (some ⟨b, 0, none⟩) (k + 1) (k + 1)) (bsK k bv) := by
  refine .inr ⟨b, 0, k + 1, by rw [bsK_len], fun j hj => ?_⟩
  rw [bsK_len] at hj
  rw [Nat.zero_add, h.cell j]
  unfold zsN bsK
  by_cases e : j = k
  · subst e; simp
  · simp [List.getElem?_append, show j < k by omega, Array.getElem?_setIfInBounds, Ne.symm e, show j < k + 1 by omega]
set_option maxRecDepth 100000 in
set_option maxHeartbeats 16000000 in
theorem round_short (m : Nat) (h1 : 1 ≤ m) (h5 : m ≤ 5) (a : Option Addr) (n c : Nat) (xs : List Int) (W : World) (hx : xs.length = n) (hi : Ints .i64 W (.slice a n c) xs) (hn : n ≤ 400) : Calls Try.prog 5 #[.slice a n c, .int .i64 (m : Int)] W fun e w' => e = .returned (.bool true) ∧ Below W.heap.size W w' := by
  have H5 := Lib.hid (show 1 ≤ m ∧ m ≤ 5 from ⟨h1, h5⟩)
  have NL := Lib.hid hn
  have HX := Lib.hid hx
  have HI := Lib.hid hi
  have d1 : decide ((m : Int) < 1) = false := decide_eq_false (by omega)
  have d2 : decide (5 < (m : Int)) = false := decide_eq_false (by omega)
  have d3 : decide (400 < (n : Int)) = false := decide_eq_false (by omega)
  have NW := Lib.hid (new_dev (Below.refl W.heap.size W) 66 66 (by omega) (by omega) (by omega) (by omega))
  unfold dk.NewTo at NW
  clear h1 h5 hn hx hi
  go_enter Try.func5, Try.ntmps5
  go_wp2_with fail
  refine NW.out.mono ?_
  rintro _ w1 ⟨p, F, rfl, d1, k1, _⟩
  have MK : Hid (Calls Try.prog 9 #[.pointer (some ⟨p, 0, none⟩), .int .i64 0, .int .i64 ((64 : Nat) : Int)] w1 (MadePost W p F (newD 66 66) 0 ((64 : Nat) : Int) w1)) := Lib.hid (make_ring d1 (calm_new 66 66) rfl 0 64 ⟨by decide, by decide, by decide, by decide, by rw [dk.newD_sectors]; decide⟩)
  unfold MadePost at MK
  clear d1 k1 NW
  go_wp2_with fail
  refine MK.out.mono ?_
  rintro _ w2 ⟨D0, rfl, l2, c2, s2, m2, k2, r2⟩
  generalize w1.heap.size = q at *
  have I0 : Hid (∃ D L s X e rs, RnAt W w2 p q F m 0 D L s X e rs u64.Sl.no) := Lib.hid ⟨D0, madeL 0 64, Sl.no, List.replicate 52 0, 52, [], l2, ⟨Bk.no _, rfl, by simp [Sl.bs, Sl.no]⟩, Log1.made r2 c2 ⟨s2, m2⟩, by simp, by simp, by show (2 : Int) ≤ _; decide, by simp, u64.Bk.no _, rfl, by simp [u64.Sl.bs, u64.Sl.no]⟩
  clear l2 c2 s2 m2 k2 r2 MK
  go_wp2_with fail
  go_loopw [9, 10, 11, 12, 13, 14, 15, 16, 17, 18] (fun ua ui _ _ _ _ _ _ _ _ wr => ∃ i : Nat, ∃ sa : u64.Sl, i ≤ n ∧ ua = sa.v ∧ ui = .int .i64 i ∧ Hid (∃ D L s X e rs, RnAt W wr p q F m i D L s X e rs sa)) (fun _ ui _ _ _ _ _ _ _ _ _ => n - (intOf ui).toNat)
  case atStart => exact ⟨0, u64.Sl.no, Nat.zero_le _, rfl, rfl, I0⟩
  case round =>
    clear I0
    obtain ⟨i, sa, hin, rfl, rfl, HF⟩ := hrel
    obtain ⟨D, L, s, X, e, rs, HR'⟩ := HF.out
    have HR := Lib.hid HR'
    by_cases hlt : i < n
    · have d4 : decide ((i : Int) < (n : Int)) = true := decide_eq_true (by omega)
      have hilt : (i : Int) < (n : Int) := by omega
      have HLT := Lib.hid hlt
      have w1e : IntKind.i64.wrap ((i : Int) + 1) = (i : Int) + 1 := IntWalk.i64_in _ (by have := NL.out; omega)
      obtain ⟨bb, off, cc, hv, hcell⟩ := HI.out.shape (by rw [HX.out]; omega)
      simp only [Value.slice.injEq] at hv
      obtain ⟨rfl, hnl, rfl⟩ := hv
      clear hnl
      have L0' := hcell i (by rw [HX.out]; exact hlt)
      have L0 : wr.cell? ⟨bb, off + i, none⟩ = some (.int .i64 (xs[i]?.getD 0)) := (HR'.lg.dev.bl.cell (World.block_lt_of_cell? W _ L0')).trans L0'
      generalize xs[i]?.getD 0 = y at L0
      obtain ⟨k, hk, hk5⟩ := size_eq' y
      have ek : IntKind.i64.wrap (1 + (k : Int)) = ((k + 1 : Nat) : Int) := by rw [show (1 : Int) + (k : Int) = ((k + 1 : Nat) : Int) by omega]; exact IntWalk.i64_in _ (by omega)
      obtain ⟨nn, hnn⟩ : ∃ nn, k + 1 = nn := ⟨_, rfl⟩
      rw [hnn] at ek
      have N5 : Hid (0 < nn ∧ nn ≤ 400) := Lib.hid (by omega)
      have mk := make_n nn (by omega)
      have ek1 : IntKind.i64.wrap ((nn : Int) - 1) = (k : Int) := by rw [show (nn : Int) - 1 = (k : Int) by omega]; exact IntWalk.i64_in _ (by omega)
      obtain ⟨bv, hbv⟩ : ∃ x, IntKind.u8.wrap (i : Int) = x := ⟨_, rfl⟩
      have HBV : Hid (0 ≤ bv ∧ bv ≤ 255) := Lib.hid (by rw [← hbv, show IntKind.u8.wrap (i : Int) = (i : Int) % 256 from rfl]; omega)
      have HKN : Hid (k + 1 = nn) := Lib.hid hnn
      have kn0 : (k : Int) < (nn : Int) := by omega
      clear HR' hlt L0' hcell hnn hk5 HF
      go_upto_region 13 with fail
      have A3 : Hid (Row (wr.alloc (.cells (zsN nn) 5)) wr.heap.size (zsN nn) 5) := Lib.hid (Row.made _ _ _)
      have K3 : Hid (Only [] wr (wr.alloc (.cells (zsN nn) 5))) := Lib.hid ((Only.refl [] wr).alloc (.cells (zsN nn) 5))
      generalize wr.alloc (.cells (zsN nn) 5) = w3 at *
      have c3 : w3.cell? ⟨wr.heap.size, k, none⟩ = some (.int .u8 0) := by rw [A3.out.cell k]; have := HKN.out; simp [zsN, show k < nn by omega]
      have f3 := A3.out.free k
      have N4 : Hid (Row (w3.setCell ⟨wr.heap.size, k, none⟩ (.int .u8 bv)) wr.heap.size ((zsN nn).setIfInBounds k (.int .u8 bv)) 5 ∧ Only [] wr (w3.setCell ⟨wr.heap.size, k, none⟩ (.int .u8 bv))) := Lib.hid ⟨A3.out.set k _, K3.out.setCell (.inr (Nat.le_refl _)) _⟩
      clear A3 K3 L0 mk
      go_upto_region 14 with fail
      generalize w3.setCell ⟨wr.heap.size, k, none⟩ (.int .u8 bv) = w4 at *
      have R4 := Lib.hid (HR.out.only N4.out.2)
      have GB : Hid (W.heap.size ≤ wr.heap.size) := Lib.hid HR.out.lg.dev.bl.size
      generalize wr.heap.size = b at *
      clear c3 f3
      have ui : IntKind.u32.wrap (i : Int) = (i : Int) := by rw [show IntKind.u32.wrap (i : Int) = (i : Int) % 4294967296 from rfl]; have := NL.out; omega
      have hlo := R4.out.lo
      have IN4 : Hid (∀ u, Only [] w4 u → Ints .u8 u (.slice (some ⟨b, 0, none⟩) nn nn) (bsK k bv)) := Lib.hid fun u ku => by have h := N4.out.1.only ku (by simp); rw [← HKN.out] at h ⊢; exact bsK_ints h
      obtain ⟨fw, hfw⟩ : ∃ fw, formW (X.length : Int) 1 (i : Int) 0 (bsK k bv) (bsK k bv) = fw := ⟨_, rfl⟩
      have RO : Hid (Rd1.Ok ⟨X.length, i, fw⟩) := Lib.hid (by rw [← hfw]; exact write_ok (by have := R4.out.xl; have := NL.out; omega) (by have := NL.out; omega) (bsK_by HBV.out) (by rw [bsK_len]; have := N5.out; have := HKN.out; omega))
      have FP : Hid (0 < fw.length ∧ fw.length ≤ 900) := Lib.hid ⟨RO.out.pos, RO.out.le⟩
      have FB : Hid (IsBy fw) := Lib.hid (by rw [← hfw]; exact (wparts (m := k + 1) (bsK_len _ _) (bsK_len _ _) (by have := N5.out; have := HKN.out; omega) (bsK_by HBV.out) (bsK_by HBV.out)).by_)
      have RM : Hid (¬ leftL L < (fw.length : Int)) := Lib.hid (by have := hlo.room (n := fw.length) (by have := R4.out.len; have := H5.out; omega) RO.out.le; omega)
      have EN : Hid (L.end_ = (X.length : Int) ∧ L.ep = 1) := Lib.hid ⟨hlo.fl.2, hlo.lep.1⟩
      have AP : Hid (Calls Try.prog 12 #[.pointer (some ⟨q, 0, none⟩), .agg #[Value.int .i64 1, .int .u64 0, .int .u32 0, .int .u64 0, .int .u32 (i : Int), .int .u16 0, .slice (some ⟨b, 0, none⟩) nn nn, .slice (some ⟨b, 0, none⟩) nn nn, .slice none 0 0, .int .u64 0, .int .u64 0, .bool false, .int .u64 0, .slice none 0 0, .slice none 0 0]] w4 (AppB W p q D F L s fw w4)) := Lib.hid ((append_b (b := fw) R4.out.lg R4.out.ta (R4.out.ok H5.out.2) hlo.lep.2.2.2 1 0 (i : Int) 0 (.slice (some ⟨b, 0, none⟩) nn nn) (.slice (some ⟨b, 0, none⟩) nn nn) FP.out.1 (by have := FP.out; omega) (by rw [hlo.tail, List.length_drop]; omega) fun u ku => by
          have hA := IN4.out u ku
          rw [EN.out.1, EN.out.2, ← hfw]
          exact bytes_write (X.length : Int) 1 (i : Int) 0 (some ⟨b, 0, none⟩) (some ⟨b, 0, none⟩) nn nn nn (bsK k bv) (bsK k bv) u (by omega) (by have := hlo.le; omega) (by decide) (by decide) (by have := NL.out; omega) (by have := N5.out; omega) (by rw [bsK_len]; exact HKN.out) (by rw [bsK_len]; exact HKN.out) hA hA (bsK_by HBV.out) (bsK_by HBV.out) N5.out.1 (by have := N5.out; omega)).mono fun e' w' h => by rw [if_neg RM.out] at h; exact h)
      unfold AppB at AP
      clear hlo hfw IN4
      go_wp2_with fail
      refine AP.out.mono ?_
      rintro _ w5 ⟨s', rfl, l5, t5, k5⟩
      have K45 : Hid (Only (q :: s.bs) w4 w5) := Lib.hid k5
      have AB5 : Hid (∀ b ∈ sa.bs, b ∉ q :: s.bs) := Lib.hid fun b hb hq => by
        rcases List.mem_cons.1 hq with h | h
        · exact (R4.out.ap b hb).2.2 h
        · exact tags_ne R4.out.ta.bk R4.out.bk b h hb
      have SBK5 := Lib.hid (R4.out.bk.only K45.out AB5.out)
      have PUT := Lib.hid (R4.out.lo.put l5.dev.fine (by have := R4.out.len; have := H5.out; omega) (r := ⟨X.length, i, fw⟩) rfl RO.out FB.out (by have := R4.out.xl; have := FP.out; have := NL.out; show X.length + fw.length ≤ _; omega) t5.xs)
      have FL := Lib.hid (flush_on l5 ⟨t5.bk, rfl, t5.ap⟩ PUT.out.1 R4.out.lo.lep.2.2.2 R4.out.lo.calm.off (by show L.at_ + 2 + L.count ≤ _; have := R4.out.lo.lat; have := R4.out.lo.sec; omega) (by rw [R4.out.lo.sec.1, R4.out.lo.sec.2]) (by show L.fl < L.end_ + _; have := R4.out.lo.fl; have := FP.out; omega))
      have L5 := Lib.hid l5
      have T5 := Lib.hid t5
      clear l5 t5 k5 AP
      go_wp2_with fail
      refine FL.out.mono ?_
      rintro _ w6 (⟨ho, _⟩ | ⟨_, rfl, l6, k6⟩)
      · have := PUT.out.2.1
        rw [show flD (endL L fw.length) s'.xs D = flD (endL L (Rd1.mk X.length i fw).F.length) s'.xs D from rfl, this] at ho
        cases ho
      have L6 := Lib.hid l6
      have K6 := Lib.hid k6
      clear l6 k6 FL
      have T6 : Hid (TlAt W w6 q F (s'.cut (flK (endL L fw.length)) s'.xs.length) (s'.cut (flK (endL L fw.length)) s'.xs.length).xs) := Lib.hid ⟨(T5.out.bk.only K6.out fun b hb hq => by
          have h := T5.out.ap b hb
          rcases List.mem_cons.1 hq with h1 | h1
          · exact h.2.2 h1
          · exact h.2.1 h1).tail (by
            have h1 := R4.out.lo.fl
            have h2 := R4.out.lo.tail
            have h3 := congrArg List.length T5.out.xs
            rw [List.length_append, h2, List.length_drop] at h3
            show (((L.end_ + (fw.length : Int)) / 52 - L.fl / 52) * 52).toNat ≤ _
            omega), rfl, by rw [Sl.cut_bs]; exact T5.out.ap⟩
      have P6 := Lib.hid PUT.out.2.2
      clear PUT
      generalize s'.cut (flK (endL L fw.length)) s'.xs.length = s6 at *
      have SQ6 : Hid ((flL (endL L fw.length)).seq = L.seq) := Lib.hid rfl
      generalize flD (endL L fw.length) s'.xs D = D6 at *
      generalize flL (endL L fw.length) = L6' at *
      have AB6 := Lib.hid (show ∀ b ∈ sa.bs, b ∉ q :: F from fun b hb hq => by
        rcases List.mem_cons.1 hq with h | h
        · exact (R4.out.ap b hb).2.2 h
        · exact (R4.out.ap b hb).2.1 h)
      have SBK6 := Lib.hid (SBK5.out.only K6.out AB6.out)
      obtain ⟨va, hva⟩ : ∃ x, sa.a = x := ⟨_, rfl⟩
      obtain ⟨vn, hvn⟩ : ∃ x, sa.xs.length = x := ⟨_, rfl⟩
      obtain ⟨vc, hvc⟩ : ∃ x, sa.c = x := ⟨_, rfl⟩
      have VV : Hid (sa.v = .slice va vn vc ∧ sa.a = va ∧ sa.xs.length = vn ∧ sa.c = vc) := Lib.hid ⟨by unfold Go.Proofs.Ytekdogmhgijocaa.u64.Sl.v; rw [hva, hvn, hvc], hva, hvn, hvc⟩
      rw [VV.out.1, EN.out.1]
      clear hva hvn hvc
      have XN : Hid (X.length ≤ 360100 ∧ i ≤ 400 ∧ fw.length ≤ 900) := Lib.hid (by have := R4.out.xl; have := NL.out; have := FP.out; omega)
      go_upto_region 17 with fail
      have hcl : ∀ j v, (([(X.length : Int)]).map (Value.int .u64))[j]? = some v → (w6.alloc (.cells #[.int .u64 (X.length : Int)] 31)).cell? ((⟨w6.heap.size, 0, none⟩ : Addr).add j) = some v := fun j v hj => by
        obtain rfl : j = 0 := by
          have := (List.getElem?_eq_some_iff.1 hj).1
          simp at this
          omega
        simp at hj
        subst hj
        rw [add_plain]
        exact (Row.made w6 #[.int .u64 (X.length : Int)] 31).cell 0
      obtain ⟨a7, w7, hrun, hxs, hbk, hon, hbs⟩ := (SBK6.out.only ((Only.refl [] w6).alloc (.cells #[.int .u64 (X.length : Int)] 31)) (by simp)).append rfl 52 52 Try.underlying52 (v := .slice (some ⟨w6.heap.size, 0, none⟩) 1 1) (ys := [(X.length : Int)]) (.inr ⟨⟨w6.heap.size, 0, none⟩, 1, rfl, rfl, hcl⟩) (by rw [R4.out.xs, List.length_map]; have := R4.out.len; have := H5.out; simp; omega)
      have K7 : Hid (Only sa.bs w6 w7) := Lib.hid ((((Only.refl [] w6).alloc _).mono (by simp)).trans hon fun b hb => .inl hb)
      rw [VV.out.1] at hrun
      obtain ⟨ua, hua⟩ : ∃ x, a7.a = x := ⟨_, rfl⟩
      obtain ⟨un, hun⟩ : ∃ x, a7.xs.length = x := ⟨_, rfl⟩
      obtain ⟨uc, huc⟩ : ∃ x, a7.c = x := ⟨_, rfl⟩
      have UV : Hid (a7.v = .slice ua un uc ∧ a7.a = ua ∧ a7.xs.length = un ∧ a7.c = uc) := Lib.hid ⟨by unfold Go.Proofs.Ytekdogmhgijocaa.u64.Sl.v; rw [hua, hun, huc], hua, hun, huc⟩
      rw [UV.out.1] at hrun
      have N7 : Hid (RnAt W w7 p q F (m + 1) (i + 1) D6 L6' s6 (X ++ fw) e (rs ++ [⟨X.length, i, fw⟩]) a7) := Lib.hid (by
        have hsw := R4.out.lg.dev.bl.size
        have hW6 : W.heap.size ≤ w6.heap.size := L6.out.dev.bl.size
        have hap : ∀ b ∈ a7.bs, W.heap.size ≤ b ∧ b ∉ F ∧ b ≠ q := fun b hb => by
          rcases hbs b hb with h | h
          · exact R4.out.ap b h
          · have h' : w6.heap.size ≤ b := Nat.le_trans (by simp) h
            exact ⟨by omega, fun hf => by have := L6.out.dev.lt b hf; omega, fun h => by have := L6.out.row.lt; omega⟩
        refine ⟨L6.out.only K7.out fun b hb => ?_, T6.out.only K7.out fun b hb hq => tags_ne T6.out.bk SBK6.out b hb hq, P6.out, ?_, ?_, ?_, ?_, hbk, ?_, hap⟩
        · have := R4.out.ap b hb; exact ⟨this.2.1, this.2.2, this.1⟩
        · have := R4.out.len; simp; omega
        · intro k r hk
          have hl := R4.out.len
          rw [List.length_append, List.length_singleton]
          by_cases hk2 : k < rs.length
          · rw [List.getElem?_append_left hk2] at hk
            have := R4.out.pg k r hk
            omega
          · rw [List.getElem?_append_right (by omega)] at hk
            have hk3 := (List.getElem?_eq_some_iff.1 hk).1
            simp at hk3
            obtain rfl : k = rs.length := by omega
            simp at hk
            subst hk
            simp only
            omega
        · rw [SQ6.out]; have := R4.out.seq; push_cast; omega
        · rw [List.length_append]; have := R4.out.xl; have := XN.out; omega
        · rw [hxs, R4.out.xs, List.map_append]; rfl)
      clear hua hun huc hbk hon hbs hcl hxs
      obtain ⟨g, o, hgo⟩ : ∃ g o, ua = some ⟨g, o, none⟩ := by
        cases hu : ua with
        | none =>
          have h1 := (N7.out.bk.nn (UV.out.2.1.trans hu)).1
          have h2 := N7.out.xs
          rw [h1] at h2
          have h3 := congrArg List.length h2
          simp at h3
        | some ad =>
          obtain ⟨g, o, _, h1, _⟩ := N7.out.bk.row ad (UV.out.2.1.trans hu)
          exact ⟨g, o, by rw [h1]⟩
      subst hgo
      have UL : Hid (un = rs.length + 1 ∧ un ≤ uc) := Lib.hid ⟨by rw [← UV.out.2.2.1, N7.out.xs, List.length_map, List.length_append]; rfl, by rw [← UV.out.2.2.1, ← UV.out.2.2.2]; exact N7.out.bk.cap.1⟩
      obtain ⟨rs7, hrs7⟩ : ∃ x, rs ++ [(⟨X.length, i, fw⟩ : Rd1)] = x := ⟨_, rfl⟩
      obtain ⟨X7, hX7⟩ : ∃ x, X ++ fw = x := ⟨_, rfl⟩
      have R7L : Hid (rs7.length = un) := Lib.hid (by rw [← hrs7, List.length_append, UL.out.1]; rfl)
      rw [hrs7, hX7] at N7
      clear hrs7 hX7
      go_upto_if 89 with (at_builtin; refine wpList_append_eq rfl _ _ 52 rfl (.slice va vn vc) (.slice (some ⟨w6.heap.size, 0, none⟩) 1 1) (.slice (some ⟨g, o, none⟩) un uc) w7 rfl rfl hrun ?_)
      clear hrun
      go_cut [9] from 86 to 108 (fun u9 wc => ∃ g' o' un' uc' : Nat, u9 = .slice (some ⟨g', o', none⟩) un' uc' ∧ Hid (∃ D L s X e rs a, RnAt W wc p q F m (i + 1) D L s X e rs a ∧ a.a = some ⟨g', o', none⟩ ∧ a.xs.length = un' ∧ a.c = uc'))
      case first =>
        by_cases hm : m < un
        · have d6 : decide ((m : Int) < (un : Int)) = true := decide_eq_true (by omega)
          have d6' : decide (m < un) = true := decide_eq_true hm
          obtain ⟨r0, r1, rest, hrs⟩ : ∃ r0 r1 rest, rs7 = r0 :: r1 :: rest := by
            have h1 := R7L.out
            have h2 := H5.out
            match rs7, h1 with
            | [], h => simp at h; omega
            | [_], h => simp at h; omega
            | a :: b :: c, _ => exact ⟨a, b, c, rfl⟩
          have RS7 := Lib.hid hrs
          have hN := N7.out
          rw [hrs] at hN
          have HN := Lib.hid hN
          have HAT := Lib.hid (hN.lo.held.at_ (k := 1) rfl)
          have HEQ : Hid (r1.p = e + r0.F.length) := Lib.hid hN.lo.held.2.2.2.1
          have ucp : uc ≠ 1 := by have := UL.out; have := H5.out; omega
          have u1 : (1 : Int) ≤ (un : Int) := by omega
          have u2 : (un : Int) ≤ (uc : Int) := by have := UL.out; omega
          have u0 : (0 : Int) < ((un - 1 : Nat) : Int) := by have := H5.out; omega
          have u0' : 0 < un - 1 := by have := H5.out; omega
          have cl : w7.cell? ⟨g, o + 1, none⟩ = some (.int .u64 (r1.p : Int)) := by
            obtain ⟨g2, o2, cur, had, hrow, _, htk⟩ := hN.bk.row _ UV.out.2.1
            injection had with hgg hoo
            subst hgg hoo
            rw [hrow.cell (o + 1)]
            have h4 := congrArg (·[1]?) htk
            simp only [List.getElem?_take, List.getElem?_drop] at h4
            rw [UV.out.2.2.1, if_pos (by have := H5.out; omega), hN.xs] at h4
            simpa using h4
          have LR := Lib.hid fun (y : World) (ky : Only [] w7 y) => by
            obtain ⟨q1, q2, q3, rst, q4⟩ := HAT.out
            have hy := HN.out.only ky
            exact lread_on (l := r1.p) hy.lg hy.ta hy.lo.lgx hy.lo.lep.2.2.2 hy.lo.calm.off (by have := hy.lo.lat; omega) (by have := hy.lo.lat; have := hy.lo.sec; omega) 1 1 0 (r1.pg : Int) 0 (by have := hy.lo.st; omega) q2 q4 (by have := q3.le; omega) q3.rd
          have MO := Lib.hid (master_on (l := (r1.p : Int)) (kind := 1) (ep := 1) (txn := 0) (pg := (r1.pg : Int)) (off := 0) HN.out.lg HN.out.lo.lep.2.2.2 HN.out.lo.calm (by rw [HN.out.lo.sec.1, HN.out.lo.sec.2]) (by have := HN.out.lo.lat; omega) (by have := HN.out.lo.lat; have := HN.out.lo.sec; omega) (by have := HN.out.lo.seq; omega) (by
            have h1 := HN.out.lo.seq
            have h2 := HN.out.lo.lep
            have h3 := HN.out.lo.le
            have h4 := HAT.out.2.1
            exact ⟨by omega, by omega, by omega, by omega, by omega⟩) (by
            have h1 := HN.out.lo.st
            have h2 := HN.out.lo.fl
            have h3 := HAT.out
            omega) LR.out)
          unfold TellPost at MO
          clear hN hrs LR
          go_wp2_with fail
          refine MO.out.mono ?_
          rintro _ w8 ⟨rfl, l8, k8⟩
          have N8 : Hid (∃ D L s X e rs a, RnAt W w8 p q F m (i + 1) D L s X e rs a ∧ a.a = some ⟨g, o + 1, none⟩ ∧ a.xs.length = un - 1 ∧ a.c = uc - 1) := Lib.hid (by
            have hx := HN.out.xs
            have hl1 : a7.xs.length = un := UV.out.2.2.1
            have hd := HN.out.lo.drop (by have := HN.out.seq; have := XN.out; omega)
            rw [← HEQ.out] at hd
            have hlen := HN.out.len
            have hr7 := R7L.out
            rw [RS7.out] at hr7
            simp only [List.length_cons] at hr7 hlen
            refine ⟨_, _, s6, X7, r1.p, r1 :: rest, a7.cut 1 a7.xs.length, ⟨l8, HN.out.ta.only k8 fun b hb hq => ?_, hd, ?_, fun k r hk => ?_, ?_, HN.out.xl, (HN.out.bk.only k8 fun b hb hq => ?_).tail (by omega), ?_, by rw [Go.Proofs.Ytekdogmhgijocaa.u64.Sl.cut_bs]; exact HN.out.ap⟩, ?_, ?_, ?_⟩
            · have h := HN.out.ta.ap b hb
              rcases List.mem_cons.1 hq with h1 | h1
              · exact h.2.2 h1
              · exact h.2.1 h1
            · simp only [List.length_cons]; omega
            · have := HN.out.pg (k + 1) r (by simpa using hk)
              simp only [List.length_cons] at this ⊢
              omega
            · show L6'.seq + 1 ≤ _
              have := HN.out.seq
              rw [SQ6.out]
              have := R4.out.seq
              push_cast
              omega
            · have h := HN.out.ap b hb
              rcases List.mem_cons.1 hq with h1 | h1
              · exact h.2.2 h1
              · exact h.2.1 h1
            · unfold Go.Proofs.Ytekdogmhgijocaa.u64.Sl.cut
              simp only
              rw [hx]
              simp
              exact List.take_of_length_le (by simp)
            · unfold Go.Proofs.Ytekdogmhgijocaa.u64.Sl.cut
              simp only
              rw [UV.out.2.2.2, if_neg ucp, UV.out.2.1]
              simp [add_plain]
            · rw [Go.Proofs.Ytekdogmhgijocaa.u64.Sl.cut_len _ (by omega) (Nat.le_refl _), hl1]
            · unfold Go.Proofs.Ytekdogmhgijocaa.u64.Sl.cut
              simp only
              rw [UV.out.2.2.2])
          clear l8 k8 MO
          go_wp2_with fail
          go_meet
          case rel => exact ⟨g, o + 1, un - 1, uc - 1, rfl, N8⟩
        · have d6 : decide ((m : Int) < (un : Int)) = false := decide_eq_false (by omega)
          have d6' : decide (m < un) = false := decide_eq_false hm
          have N8 : Hid (∃ D L s X e rs a, RnAt W w7 p q F m (i + 1) D L s X e rs a ∧ a.a = some ⟨g, o, none⟩ ∧ a.xs.length = un ∧ a.c = uc) := Lib.hid ⟨D6, L6', s6, X7, e, rs7, a7, ⟨N7.out.lg, N7.out.ta, N7.out.lo, by have := N7.out.len; have := R7L.out; omega, N7.out.pg, N7.out.seq, N7.out.xl, N7.out.bk, N7.out.xs, N7.out.ap⟩, UV.out.2.1, UV.out.2.2.1, UV.out.2.2.2⟩
          go_wp2_with fail
          go_meet
          case rel => exact ⟨g, o, un, uc, rfl, N8⟩
      case rest =>
        obtain ⟨g', o', un', uc', rfl, HC⟩ := hcut
        obtain ⟨D', L', s', X', e', rs', a', hR, ha1, ha2, ha3⟩ := HC.out
        have RR := Lib.hid hR
        have AA := Lib.hid (And.intro ha1 (And.intro ha2 ha3))
        have UN : Hid (rs'.length = un' ∧ un' ≤ m ∧ un' ≤ i + 1) := Lib.hid (by
          have h1 := congrArg List.length hR.xs
          rw [ha2, List.length_map] at h1
          have := hR.len
          omega)
        clear hR ha1 ha2 ha3 HC
        go_wp2_with fail
        go_loopw [15, 16, 17, 18] (fun uk _ _ _ w' => ∃ k : Nat, k ≤ un' ∧ uk = .int .i64 k ∧ Hid (Only [] wc w')) (fun uk _ _ _ _ => un' - (intOf uk).toNat)
        case atStart => exact ⟨0, Nat.zero_le _, rfl, Lib.hid (Only.refl _ _)⟩
        case round =>
          obtain ⟨kk, hkn, rfl, HO⟩ := hrel
          rename World => y0
          have RY := Lib.hid (RR.out.only HO.out)
          by_cases hk : kk < un'
          · have d7 : decide ((kk : Int) < (un' : Int)) = true := decide_eq_true (by omega)
            have d7' : decide (kk < un') = true := decide_eq_true hk
            have hki : (kk : Int) < (un' : Int) := by omega
            obtain ⟨r, hr⟩ : ∃ r, rs'[kk]? = some r := ⟨_, List.getElem?_eq_getElem (by rw [UN.out.1]; exact hk)⟩
            have HAT := Lib.hid (RY.out.lo.held.at_ hr)
            have PG := Lib.hid (RY.out.pg kk r hr)
            have cl : y0.cell? ⟨g', o' + kk, none⟩ = some (.int .u64 (r.p : Int)) := by
              obtain ⟨g2, o2, cur, had, hrow, _, htk⟩ := RY.out.bk.row _ AA.out.1
              injection had with hgg hoo
              subst hgg hoo
              rw [hrow.cell (o' + kk)]
              have h4 := congrArg (·[kk]?) htk
              simp only [List.getElem?_take, List.getElem?_drop] at h4
              rw [AA.out.2.1, if_pos hk, RY.out.xs] at h4
              simpa [hr] using h4
            have LR : Hid (Calls Try.prog 15 #[.pointer (some ⟨q, 0, none⟩), .int .u64 (r.p : Int)] y0 (LRead 1 (r.p : Int) 1 0 (r.pg : Int) 0 ((r.p + r.F.length : Nat) : Int) y0)) := Lib.hid (by
              obtain ⟨q1, q2, q3, rst, q4⟩ := HAT.out
              have hy := RY.out
              exact lread_on (l := r.p) hy.lg hy.ta hy.lo.lgx hy.lo.lep.2.2.2 hy.lo.calm.off (by have := hy.lo.lat; omega) (by have := hy.lo.lat; have := hy.lo.sec; omega) 1 1 0 (r.pg : Int) 0 (by have := hy.lo.st; omega) q2 q4 (by have := q3.le; omega) q3.rd)
            unfold LRead recR at LR
            have HPG : Hid (r.pg + un' = i + 1 + kk) := Lib.hid (by have := PG.out; rw [UN.out.1] at this; exact this)
            have z1 : IntKind.i64.wrap ((i : Int) - (un' : Int)) = (i : Int) - (un' : Int) := IntWalk.i64_in _ (by have := UN.out; have := XN.out; have := H5.out; omega)
            have z2 : IntKind.i64.wrap ((i : Int) - (un' : Int) + 1) = (i : Int) - (un' : Int) + 1 := IntWalk.i64_in _ (by have := UN.out; have := XN.out; have := H5.out; omega)
            have z3 : IntKind.i64.wrap ((i : Int) - (un' : Int) + 1 + (kk : Int)) = (r.pg : Int) := by rw [show (i : Int) - (un' : Int) + 1 + (kk : Int) = (r.pg : Int) by have := HPG.out; omega]; exact IntWalk.i64_in _ (by have := HPG.out; have := UN.out; have := XN.out; have := H5.out; omega)
            have z4 : IntKind.u32.wrap (r.pg : Int) = (r.pg : Int) := by rw [show IntKind.u32.wrap (r.pg : Int) = (r.pg : Int) % 4294967296 from rfl]; have := HPG.out; have := UN.out; have := XN.out; omega
            have z5 : IntKind.i64.wrap ((kk : Int) + 1) = (kk : Int) + 1 := IntWalk.i64_in _ (by have := UN.out; have := H5.out; omega)
            clear hr
            go_wp2_with fail
            refine LR.out.mono ?_
            rintro _ y1 ⟨a1, n1, d1', a2, n2, d2', rfl, k1⟩
            have K1 := Lib.hid k1
            clear k1 LR
            go_wp2_with fail
            have XR : Hid (Row (y1.alloc (.cells #[Value.int .i64 1, .int .u64 (r.p : Int), .int .u32 1, .int .u64 0, .int .u32 (r.pg : Int), .int .u16 0, .slice a1 n1 d1', .slice a2 n2 d2', .slice none 0 0, .int .u64 0, .int .u64 0, .bool false, .int .u64 0, .slice none 0 0, .slice none 0 0] 43)) y1.heap.size #[Value.int .i64 1, .int .u64 (r.p : Int), .int .u32 1, .int .u64 0, .int .u32 (r.pg : Int), .int .u16 0, .slice a1 n1 d1', .slice a2 n2 d2', .slice none 0 0, .int .u64 0, .int .u64 0, .bool false, .int .u64 0, .slice none 0 0, .slice none 0 0] 43) := Lib.hid (Row.made _ _ _)
            have KX : Hid (Only [] wc (y1.alloc (.cells #[Value.int .i64 1, .int .u64 (r.p : Int), .int .u32 1, .int .u64 0, .int .u32 (r.pg : Int), .int .u16 0, .slice a1 n1 d1', .slice a2 n2 d2', .slice none 0 0, .int .u64 0, .int .u64 0, .bool false, .int .u64 0, .slice none 0 0, .slice none 0 0] 43)) ∧ Only [] y0 (y1.alloc (.cells #[Value.int .i64 1, .int .u64 (r.p : Int), .int .u32 1, .int .u64 0, .int .u32 (r.pg : Int), .int .u16 0, .slice a1 n1 d1', .slice a2 n2 d2', .slice none 0 0, .int .u64 0, .int .u64 0, .bool false, .int .u64 0, .slice none 0 0, .slice none 0 0] 43))) := Lib.hid ⟨(HO.out.and K1.out).alloc _, K1.out.alloc _⟩
            generalize y1.alloc (.cells #[Value.int .i64 1, .int .u64 (r.p : Int), .int .u32 1, .int .u64 0, .int .u32 (r.pg : Int), .int .u16 0, .slice a1 n1 d1', .slice a2 n2 d2', .slice none 0 0, .int .u64 0, .int .u64 0, .bool false, .int .u64 0, .slice none 0 0, .slice none 0 0] 43) = y2 at *
            have x4 : y2.cell? ⟨y1.heap.size, 4, none⟩ = some (.int .u32 (r.pg : Int)) := XR.out.cell 4
            have x1 : y2.cell? ⟨y1.heap.size, 1, none⟩ = some (.int .u64 (r.p : Int)) := XR.out.cell 1
            have cl2 : y2.cell? ⟨g', o' + kk, none⟩ = some (.int .u64 (r.p : Int)) := by
              rw [KX.out.2.cell (World.block_lt_of_cell? _ _ cl) (by simp)]
              exact cl
            clear cl
            go_quiet (fail)
            have N9 : Hid (∀ j, Only [] wc (y2.drewN j)) := Lib.hid fun j => KX.out.1.trans ((Only.refl [] y2).drewN j) (by simp)
            clear cl2 x4 x1
            go_wp2_with fail
            exact ⟨⟨kk + 1, hk, rfl, Lib.hid (N9.out _)⟩, by simp [intOf]; omega⟩
          · have d7 : decide ((kk : Int) < (un' : Int)) = false := decide_eq_false (by omega)
            have d7' : decide (kk < un') = false := decide_eq_false hk
            have N9 : Hid (∃ D L s X e rs, RnAt W y0 p q F m (i + 1) D L s X e rs a') := Lib.hid ⟨_, _, _, _, _, _, RY.out⟩
            go_wp2_with fail
            go_roundw
            case rel => exact ⟨i + 1, a', HLT.out, by unfold Go.Proofs.Ytekdogmhgijocaa.u64.Sl.v; rw [AA.out.1, AA.out.2.1, AA.out.2.2], by first | rfl | go_num, N9⟩
            case measure =>
              have := HLT.out
              simp [intOf]
              omega
    · have d4 : decide ((i : Int) < (n : Int)) = false := decide_eq_false (by omega)
      have OP := Lib.hid (HR.out.open H5.out.2 (by have := NL.out; omega))
      unfold OpenG at OP
      have FW : Hid (∀ b ∈ F, W.heap.size ≤ b) := Lib.hid HR.out.lg.dev.ge
      clear HR' HF
      go_wp2_with fail
      refine OP.out.mono ?_
      rintro _ w8 ⟨D8, la, tl8, rfl, l8, k8⟩
      have L8 := Lib.hid l8
      have LQ8 := Lib.hid (HR.out.lg.row.only k8 HR.out.lg.qF)
      have EQ : Hid (L.end_ = (X.length : Int) ∧ L.st = (e : Int)) := Lib.hid ⟨HR.out.lo.fl.2, HR.out.lo.st.1⟩
      clear l8 k8 OP
      have E1 : Hid (Calls Try.prog 11 #[.pointer (some ⟨wr.heap.size, 0, none⟩)] w8 fun e' w' => e' = .returned (.int .u64 (X.length : Int)) ∧ w' = w8) := Lib.hid (end_on L8.out.row)
      have S1 : Hid (Calls Try.prog 19 #[.pointer (some ⟨wr.heap.size, 0, none⟩)] w8 fun e' w' => e' = .returned (.int .u64 (e : Int)) ∧ w' = w8) := Lib.hid (start_on L8.out.row)
      have E2 := Lib.hid (end_on LQ8.out)
      have S2 := Lib.hid (start_on LQ8.out)
      rw [EQ.out.1] at E2
      rw [EQ.out.2] at S2
      have BW : Hid (Below W.heap.size W w8) := Lib.hid L8.out.dev.bl
      have KN := Lib.hid (known_any w8)
      unfold KnownPost at KN
      go_wp2_with fail
      refine E1.out.mono ?_
      rintro _ y1 ⟨rfl, hy1⟩
      subst y1
      go_wp2_with fail
      refine E2.out.mono ?_
      rintro _ y2 ⟨rfl, hy2⟩
      subst y2
      go_wp2_with fail
      refine S1.out.mono ?_
      rintro _ y3 ⟨rfl, hy3⟩
      subst y3
      go_wp2_with fail
      refine S2.out.mono ?_
      rintro _ y4 ⟨rfl, hy4⟩
      subst y4
      go_wp2_with fail
      refine KN.out.mono ?_
      rintro _ y5 ⟨rfl, b5⟩
      have B5 := Lib.hid (BW.out.trans (b5.mono BW.out.size))
      clear b5
      go_wp2_with fail
      go_ret
      exact ⟨rfl, B5.out⟩
set_option maxRecDepth 100000 in
set_option maxHeartbeats 4000000 in
theorem round_long (x : Int) (a : Option Addr) (n c : Nat) (W : World) (h : 400 < n ∨ x < 1 ∨ 5 < x) (hc : n ≤ 9223372036854775807) : Calls Try.prog 5 #[.slice a n c, .int .i64 x] W fun e w' => e = .returned (.bool true) ∧ Below W.heap.size W w' := by
  have KN := Lib.hid (known_any W)
  unfold KnownPost at KN
  by_cases h1 : 400 < n
  · have d1 : decide (400 < (n : Int)) = true := decide_eq_true (by omega)
    have d1' : decide (400 < n) = true := decide_eq_true h1
    go_enter Try.func5, Try.ntmps5
    go_wp2_with fail
    refine KN.out.mono ?_
    rintro _ w1 ⟨rfl, b1⟩
    have B1 := Lib.hid b1
    clear b1
    go_wp2_with fail
    go_ret
    exact ⟨rfl, B1.out⟩
  · have d1 : decide (400 < (n : Int)) = false := decide_eq_false (by omega)
    have d1' : decide (400 < n) = false := decide_eq_false h1
    by_cases h2 : x < 1
    · have d2 : decide (x < 1) = true := decide_eq_true h2
      go_enter Try.func5, Try.ntmps5
      go_wp2_with fail
      refine KN.out.mono ?_
      rintro _ w1 ⟨rfl, b1⟩
      have B1 := Lib.hid b1
      clear b1
      go_wp2_with fail
      go_ret
      exact ⟨rfl, B1.out⟩
    · have d2 : decide (x < 1) = false := decide_eq_false h2
      have d3 : decide (5 < x) = true := decide_eq_true (by omega)
      go_enter Try.func5, Try.ntmps5
      go_wp2_with fail
      refine KN.out.mono ?_
      rintro _ w1 ⟨rfl, b1⟩
      have B1 := Lib.hid b1
      clear b1
      go_wp2_with fail
      go_ret
      exact ⟨rfl, B1.out⟩
end Go.Proofs.Ytekdogmhgijocaa
