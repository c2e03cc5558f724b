/- wal: found: all bytes of pieces that belong together. -/
import Derived.Test.YtekdogmhgijocaaMg21
import Derived.Test.YtekdogmhgijocaaMg16
set_option linter.unusedSimpArgs false
namespace Go.Proofs.Ytekdogmhgijocaa
open Go.RowKit Go.ChangeShapes Go.WideShapes Go.ChangeAt
open Go.Proofs.Ytekdogmhgijocaa.dk (Dk Dev sectorD)
set_option linter.unusedVariables false

/-- The i-th piece from the start's on. -/
def atL (D : Dk) (L : Lg) (i : Nat) : List Int := halfD D L (L.st / 52 + (i : Int))
/-- The epoch of the piece ahead of the i-th. -/
def lastE (D : Dk) (L : Lg) : Nat → Int
  | 0 => L.last
  | i + 1 => pieE (atL D L i)
def lastL (L : Lg) (e : Int) : Lg := { L with last := e }
structure Holds (D : Dk) (L : Lg) (all : List Int) : Prop where
  len : (all.length : Int) ≤ 104 * L.count
  num : ∀ i : Nat, 52 * i < all.length → pieN (atL D L i) = L.st / 52 + (i : Int)
  old : ∀ i : Nat, 52 * i < all.length → lastE D L i ≤ pieE (atL D L i) ∧ pieE (atL D L i) ≤ L.ep ∧ (pieE (atL D L i) = L.ep ∨ (L.st / 52 + (i : Int) + 1) * 52 ≤ L.ct)
  by_ : ∀ i : Nat, 52 * i < all.length → pieB (atL D L i) = (all.drop (52 * i)).take 52
  stop : ∀ i : Nat, 52 * i = all.length → (i : Int) < 2 * L.count → pieN (atL D L i) ≠ L.st / 52 + (i : Int)
structure FInv (W w wr : World) (p q : Nat) (D : Dk) (F : List Nat) (L : Lg) (tail : Value) (all : List Int) (v : Value) (i : Nat) : Prop where
  lg : LgAt W wr p q D F (lastL L (lastE D L i)) tail
  own : wr.ownsRow w.heap.size 5 1 v (all.take (52 * i)).length ((all.take (52 * i)).map (Value.int .u8))
  only : Only [q] w wr
  nil : i = 0 → v = .slice none 0 0
def FoundPost (W : World) (p q : Nat) (D : Dk) (F : List Nat) (L : Lg) (tail : Value) (all : List Int) (w : World) (e : Ending) (w' : World) : Prop := ∃ v, e = .returned (.tuple #[v, .int .i64 0]) ∧ w'.ownsRow w.heap.size 5 1 v all.length (all.map (Value.int .u8)) ∧ LgAt W w' p q D F (lastL L (lastE D L ((all.length + 51) / 52))) tail ∧ Only [q] w w' ∧ (all = [] → v = .slice none 0 0)
theorem FInv.post {W w wr : World} {p q : Nat} {D : Dk} {F : List Nat} {L : Lg} {tail : Value} {all : List Int} {v : Value} {i : Nat} (h : FInv W w wr p q D F L tail all v i) (h1 : all.length ≤ 52 * i) (h2 : 52 * i < all.length + 52) : FoundPost W p q D F L tail all w (.returned (.tuple #[v, .int .i64 0])) wr := by
  have e1 : all.take (52 * i) = all := List.take_of_length_le h1
  have e2 : (all.length + 51) / 52 = i := by omega
  have ho := h.own
  rw [e1] at ho
  exact ⟨v, rfl, ho, by rw [e2]; exact h.lg, h.only, fun e => h.nil (by subst e; simp at h1 h2; omega)⟩
theorem pieB_len {b : List Int} (hl : b.length = 64) : (pieB b).length = pieL b := by
  unfold pieB
  have : pieL b ≤ 52 := by unfold pieL; omega
  rw [List.length_take, List.length_drop]
  omega
theorem lgOk_last {L : Lg} (ok : LgOk L) (e : Int) : LgOk (lastL L e) := ⟨ok.s0, ok.n0, ok.e0, ok.p0⟩
theorem u64w (x : Int) (h0 : 0 ≤ x) (h1 : x < 18446744073709551616) : IntKind.u64.wrap x = x := by rw [show IntKind.u64.wrap x = x % 18446744073709551616 from rfl]; omega
set_option maxRecDepth 100000 in
set_option maxHeartbeats 8000000 in
theorem found_on {W w : World} {p q : Nat} {D : Dk} {F : List Nat} {L : Lg} {tail : Value} {all : List Int} (h : LgAt W w p q D F L tail) (ho : D.off = false) (ok : LgOk L) (hc : 0 < L.count) (ha : 0 ≤ L.at_ ∧ L.at_ + 2 + L.count ≤ D.sectors) (ha2 : Holds D L all) :
    Calls Try.prog 32 #[.pointer (some ⟨q, 0, none⟩)] w (FoundPost W p q D F L tail all w) := by
  obtain ⟨s0, s1⟩ := ok.s0
  obtain ⟨n0, n1⟩ := ok.n0
  have HO := Lib.hid ha2
  have OK := Lib.hid ok
  have CT := Lib.hid (show 0 < L.count ∧ L.count ≤ 8192 from ⟨hc, n1⟩)
  have AT := Lib.hid ha
  have OFF := Lib.hid ho
  have QW : Hid (q < w.heap.size) := Lib.hid h.row.lt
  have FW : Hid (∀ b ∈ F, b < w.heap.size) := Lib.hid h.dev.lt
  have QF : Hid (q ∉ F) := Lib.hid h.qF
  have QG : Hid (W.heap.size ≤ q) := Lib.hid h.qW
  have WS : Hid (W.heap.size ≤ w.heap.size) := Lib.hid h.dev.bl.size
  have es : L.st.tdiv 52 = L.st / 52 := Int.tdiv_eq_ediv_of_nonneg s0
  obtain ⟨k0, hk0⟩ : ∃ k0, L.st / 52 = k0 := ⟨_, rfl⟩
  have HK := Lib.hid hk0
  have KB : Hid (0 ≤ k0 ∧ k0 ≤ 1125899906842624) := Lib.hid (by omega)
  rw [hk0] at es
  have ek : IntKind.u64.wrap k0 = k0 := u64w _ (by omega) (by omega)
  have c5 : w.cell? ⟨q, 5, none⟩ = some (.int .u64 L.st) := h.row.cell 5
  have LI : Hid (limL L = (k0 + 2 * L.count) * 52) := Lib.hid (by unfold limL; rw [hk0])
  have el : (limL L).tdiv 52 = k0 + 2 * L.count := by
    rw [Int.tdiv_eq_ediv_of_nonneg (by unfold limL; omega), LI.out]
    omega
  have ew : IntKind.u64.wrap (k0 + 2 * L.count) = k0 + 2 * L.count := u64w _ (by omega) (by omega)
  obtain ⟨lim, hlim⟩ : ∃ x, k0 + 2 * L.count = x := ⟨_, rfl⟩
  rw [hlim] at el ew
  have LM := Lib.hid hlim
  have I0 : Hid (FInv W w w p q D F L tail all (.slice none 0 0) 0) := Lib.hid ⟨h, World.ownsRow_nil _ _ _ _, Only.refl _ _, fun _ => rfl⟩
  clear h ho ok hc ha ha2 s0 s1 n0 n1 hk0 hlim
  go_enter Try.func32, Try.ntmps32
  go_wp2_with fail
  go_loopw [4, 5, 6, 7, 8] (fun v u _ _ _ wr => ∃ i : Nat, u = .int .u64 (k0 + (i : Int)) ∧ Hid (52 * i ≤ all.length ∧ FInv W w wr p q D F L tail all v i)) (fun _ u _ _ _ _ => (lim - intOf u).toNat)
  case atStart => exact ⟨0, by simp, Lib.hid ⟨by omega, I0.out⟩⟩
  case round =>
    clear I0 c5 es ek
    obtain ⟨i, rfl, HF⟩ := hrel
    have HI := Lib.hid HF.out.2
    have HL := Lib.hid HF.out.1
    have LK := Lib.hid (limit_on HI.out.lg.row (lgOk_last OK.out _))
    have LL : Hid (limL (lastL L (lastE D L i)) = limL L) := Lib.hid rfl
    rw [LL.out] at LK
    clear HF
    go_wp2_with fail
    refine LK.out.mono ?_
    rintro _ w1 ⟨rfl, k1⟩
    have L1 := Lib.hid (HI.out.lg.only k1 (by simp))
    have O1 := Lib.hid (own_keep (w' := w1) HI.out.own fun g hg => k1.block g (HI.out.own.lt g hg).2 (by simp))
    have K1 := Lib.hid (HI.out.only.trans k1 (by simp))
    clear k1 LK LL
    by_cases hlt : k0 + (i : Int) < lim
    · have d1 : decide (k0 + (i : Int) < lim) = true := decide_eq_true hlt
      have HT := Lib.hid hlt
      obtain ⟨n, hn⟩ : ∃ n, k0 + (i : Int) = n := ⟨_, rfl⟩
      have HN : Hid (k0 + (i : Int) = n) := Lib.hid hn
      have NB : Hid (0 ≤ n ∧ n < 1125899906900000) := Lib.hid (by have := KB.out; have := CT.out; have := LM.out; omega)
      have PK := Lib.hid (piece_on L1.out OFF.out n NB.out.1 (by have := NB.out; omega) CT.out AT.out)
      have AE : Hid (halfD D (lastL L (lastE D L i)) n = atL D L i) := Lib.hid (by unfold atL; rw [HK.out, hn]; rfl)
      unfold PiecePost at PK
      rw [AE.out] at PK
      rw [hn]
      rw [hn] at d1
      clear hlt hn
      go_wp2_with fail
      refine PK.out.mono ?_
      rintro _ w2 ⟨g, o, cc, rfl, i2, hcc, k2, hgf⟩
      have L2 := Lib.hid (L1.out.only k2 (by simp))
      have O2 := Lib.hid (own_keep (w' := w2) O1.out fun g hg => k2.block g (O1.out.lt g hg).2 (by simp))
      have K2 := Lib.hid (K1.out.trans k2 (by simp))
      have I2 := Lib.hid i2
      have GB2 : Hid (w.heap.size ≤ g) := Lib.hid (Nat.le_trans K1.out.size hgf)
      clear i2 k2 PK hgf
      by_cases hmore : 52 * i < all.length
      · have hN : pieN (atL D L i) = n := by rw [HO.out.num i hmore, HK.out, HN.out]
        have BE : Hid (pieB (atL D L i) = (all.drop (52 * i)).take 52) := Lib.hid (HO.out.by_ i hmore)
        have LN : Hid (pieL (atL D L i) = min 52 (all.length - 52 * i)) := Lib.hid (by
          have h := congrArg List.length BE.out
          rw [pieB_len (by unfold atL; exact halfD_len L1.out.dev.fine L _), List.length_take, List.length_drop] at h
          exact h)
        obtain ⟨e1, e2, e3⟩ := HO.out.old i hmore
        rw [HK.out, HN.out] at e3
        rw [hN]
        rw [BE.out] at I2
        have LE : Hid (lastE D L (i + 1) = pieE (atL D L i)) := Lib.hid rfl
        obtain ⟨la, hla⟩ : ∃ la, lastE D L i = la := ⟨_, rfl⟩
        have LAE : Hid (lastE D L i = la) := Lib.hid hla
        rw [hla] at e1
        generalize pieE (atL D L i) = E at *
        generalize pieL (atL D L i) = ln at *
        have E1 := Lib.hid e1
        have b1 : decide (E < la) = false := decide_eq_false (by omega)
        have b2 : decide (L.ep < E) = false := decide_eq_false (by omega)
        have E3 := Lib.hid e3
        have MO := Lib.hid hmore
        clear hN hla hmore e3 e1
        go_upto_region 8 with fail
        have X3 : Hid (Row (w2.alloc (.cells #[.int .u64 n, .int .u32 E, .slice (some ⟨g, o, none⟩) ln cc] 75)) w2.heap.size #[.int .u64 n, .int .u32 E, .slice (some ⟨g, o, none⟩) ln cc] 75) := Lib.hid (Row.made _ _ _)
        have ka : Only [] w2 (w2.alloc (.cells #[.int .u64 n, .int .u32 E, .slice (some ⟨g, o, none⟩) ln cc] 75)) := (Only.refl [] w2).alloc _
        have L3 := Lib.hid (L2.out.only ka (by simp))
        have O3 := Lib.hid (own_keep (w' := w2.alloc (.cells #[.int .u64 n, .int .u32 E, .slice (some ⟨g, o, none⟩) ln cc] 75)) O2.out fun g hg => ka.block g (O2.out.lt g hg).2 (by simp))
        have K3 := Lib.hid (K2.out.trans ka (by simp))
        have I3 := Lib.hid (I2.out.below' (ka.toBelow (Nat.le_refl _) (by simp)))
        have XW : Hid (w.heap.size ≤ w2.heap.size) := Lib.hid K2.out.size
        clear ka
        generalize w2.alloc (.cells #[.int .u64 n, .int .u32 E, .slice (some ⟨g, o, none⟩) ln cc] 75) = w3 at *
        have x0 : w3.cell? ⟨w2.heap.size, 0, none⟩ = some (.int .u64 n) := X3.out.cell 0
        have x1 : w3.cell? ⟨w2.heap.size, 1, none⟩ = some (.int .u32 E) := X3.out.cell 1
        have x2 : w3.cell? ⟨w2.heap.size, 2, none⟩ = some (.slice (some ⟨g, o, none⟩) ln cc) := X3.out.cell 2
        have q4 : w3.cell? ⟨q, 4, none⟩ = some (.int .u32 L.ep) := L3.out.row.cell 4
        have q7 : w3.cell? ⟨q, 7, none⟩ = some (.int .u64 L.ct) := L3.out.row.cell 7
        have q10 : w3.cell? ⟨q, 10, none⟩ = some (.int .u32 la) := by rw [← LAE.out]; exact L3.out.row.cell 10
        have bn : (n != n) = false := by simp
        go_quiet (fail)
        clear x0 q10 bn
        have GW : Hid (w.heap.size ≤ g) := Lib.hid GB2.out
        by_cases hEE : E = L.ep
        · have d8 : decide (E < L.ep) = false := decide_eq_false (by omega)
          have HEE := Lib.hid hEE
          clear hEE
          go_upto_region 9 with fail
          go_quiet (fail)
          clear d8
          generalize hy : World.drewN (World.drewN w3 _) _ = y
          have KY : Hid (Only [] w3 y) := Lib.hid (by rw [← hy]; exact ((Only.refl _ _).drewN _).drewN _)
          clear hy x1 x2 q4 q7
          have X4 := Lib.hid (X3.out.only KY.out (by simp))
          have L4 := Lib.hid (L3.out.only KY.out (by simp))
          have K4 := Lib.hid (K3.out.trans KY.out (by simp))
          have O4 := Lib.hid (own_keep (w' := y) O3.out fun g hg => KY.out.block g (O3.out.lt g hg).2 (by simp))
          have I4 := Lib.hid (I3.out.below' (KY.out.toBelow (Nat.le_refl _) (by simp)))
          have x1 : y.cell? ⟨w2.heap.size, 1, none⟩ = some (.int .u32 E) := X4.out.cell 1
          have x2 : y.cell? ⟨w2.heap.size, 2, none⟩ = some (.slice (some ⟨g, o, none⟩) ln cc) := X4.out.cell 2
          have f10 := L4.out.row.free 10
          have q10 : y.cell? ⟨q, 10, none⟩ = some (.int .u32 (lastE D L i)) := L4.out.row.cell 10
          have q7 : y.cell? ⟨q, 7, none⟩ = some (.int .u64 L.ct) := L4.out.row.cell 7
          have hqx : q < w2.heap.size := Nat.lt_of_lt_of_le QW.out XW.out
          have kq : Only [q] y (y.setCell ⟨q, 10, none⟩ (.int .u32 E)) := (Only.refl [q] y).setCell (.inl (by simp)) _
          have O5 := Lib.hid (own_keep (w' := y.setCell ⟨q, 10, none⟩ (.int .u32 E)) O4.out fun g hg => kq.block g (O4.out.lt g hg).2 (by simp; have := (O4.out.lt g hg).1; have := QW.out; omega))
          have S5 : Hid (w.heap.size ≤ (y.setCell ⟨q, 10, none⟩ (.int .u32 E)).heap.size) := Lib.hid (Nat.le_trans K4.out.size kq.size)
          have LP : Hid (0 < ln ∧ ln ≤ 52) := Lib.hid (by rw [LN.out]; have := MO.out; omega)
          have CL : Hid (((all.drop (52 * i)).take 52).length = ln) := Lib.hid (by rw [List.length_take, List.length_drop, LN.out])
          have I5 : Hid (Ints .u8 (y.setCell ⟨q, 10, none⟩ (.int .u32 E)) (.slice (some ⟨g, o, none⟩) ln cc) ((all.drop (52 * i)).take 52)) := Lib.hid (by
            rcases I4.out with h | ⟨b', o', c', hv, hcc⟩
            · exact .inl h
            · refine .inr ⟨b', o', c', hv, fun z hz => ?_⟩
              have hb' : b' = g := by simp only [Value.slice.injEq, Option.some.injEq, Addr.mk.injEq] at hv; exact hv.1.1.symm
              have h2 := hcc z hz
              rw [kq.cell (World.block_lt_of_cell? y _ h2) (by simp; have := GW.out; have := QW.out; omega)]
              exact h2)
          have AL : Hid (all.length ≤ 900000) := Lib.hid (by have := HO.out.len; have := CT.out; omega)
          obtain ⟨tv, w6, hrun, ho6, _, hg6, _⟩ := append_ints O5.out (some ⟨g, o, none⟩) ln cc ((all.drop (52 * i)).take 52) I5.out CL.out LP.out.1 (by have := AL.out; have := LP.out; rw [List.length_take]; omega) S5.out
          have TE : Hid (all.take (52 * i) ++ (all.drop (52 * i)).take 52 = all.take (52 * (i + 1))) := Lib.hid (by rw [show 52 * (i + 1) = 52 * i + 52 by omega, List.take_add])
          have LT : Hid ((all.take (52 * i)).length + ln = (all.take (52 * (i + 1))).length) := Lib.hid (by rw [← TE.out, List.length_append, CL.out])
          have KG : Hid (Only u4.ownBlock.toList (y.setCell ⟨q, 10, none⟩ (.int .u32 E)) w6) := Lib.hid ((Only.refl _ _).grown hg6 fun k hk => .inl (by simp [hk]))
          have GB : Hid (∀ b ∈ u4.ownBlock.toList, w.heap.size ≤ b) := Lib.hid fun b hb => (O4.out.lt b (by simpa using hb)).1
          have NX : Hid (FInv W w w6 p q D F L tail all tv (i + 1)) := Lib.hid (by
            refine ⟨?_, ?_, ?_, fun h => by omega⟩
            · rw [LE.out]
              have r5 := L4.out.row.set 10 (.int .u32 E)
              have r6 := r5.only KG.out (fun hq => by have := GB.out _ hq; have := QW.out; omega)
              have d5 := L4.out.dev.only kq (by simpa using QF.out) (by simpa using QG.out)
              exact ⟨d5.only KG.out (fun b hb hf => by have := GB.out _ hb; have := FW.out _ hf; omega) (fun b hb => Nat.le_trans WS.out (GB.out b hb)), by simpa [Lg.cells, lastL] using r6, QF.out, QG.out⟩
            · rw [← LT.out, ← TE.out]
              exact ho6
            · exact (K4.out.trans kq fun b hb => .inl hb).trans KG.out fun b hb => .inr (GB.out b hb))
          have x2' : w6.cell? ⟨w2.heap.size, 2, none⟩ = some (.slice (some ⟨g, o, none⟩) ln cc) := by
            have hx : w2.heap.size ∉ u4.ownBlock.toList := fun hb => by
              have h1 := (O2.out.lt _ (show u4.ownBlock = some w2.heap.size by simpa using hb)).2
              omega
            rw [KG.out.cell (by rw [show (y.setCell ⟨q, 10, none⟩ (.int .u32 E)).heap.size = y.heap.size by simp [go_sem]]; exact X4.out.lt) hx, kq.cell X4.out.lt (by simp; omega)]
            exact x2
          clear hg6 ho6 kq
          by_cases h52 : ln < 52
          · have d9 : decide ((ln : Int) < 52) = true := decide_eq_true (by omega)
            have d9' : decide (ln < 52) = true := decide_eq_true h52
            have d9i : (ln : Int) < 52 := by omega
            have EN : Hid (all.length ≤ 52 * (i + 1) ∧ 52 * (i + 1) < all.length + 52) := Lib.hid (by have := LN.out; have := MO.out; omega)
            clear h52
            go_wp2_with (at_builtin; refine wpList_append_eq rfl _ _ 32 rfl u4 (.slice (some ⟨g, o, none⟩) ln cc) tv w6 rfl rfl hrun ?_)
            go_ret2
            exact NX.out.post EN.out.1 EN.out.2
          · have d9 : decide ((ln : Int) < 52) = false := decide_eq_false (by omega)
            have d9' : decide (ln < 52) = false := decide_eq_false h52
            have d9i : ¬ (ln : Int) < 52 := by omega
            have EN : Hid (52 * (i + 1) ≤ all.length) := Lib.hid (by have := LN.out; have := MO.out; omega)
            have en : IntKind.u64.wrap (n + 1) = n + 1 := u64w _ (by have := NB.out; omega) (by have := NB.out; omega)
            clear h52
            go_wp2_with (at_builtin; refine wpList_append_eq rfl _ _ 32 rfl u4 (.slice (some ⟨g, o, none⟩) ln cc) tv w6 rfl rfl hrun ?_)
            go_roundw
            case rel =>
              exact ⟨i + 1, by rw [← HN.out]; first | rfl | go_num, Lib.hid ⟨EN.out, NX.out⟩⟩
            case measure =>
              have := HT.out
              have := HN.out
              simp [intOf]
              omega
        · have d8 : decide (E < L.ep) = true := decide_eq_true (by omega)
          have wn1 : IntKind.u64.wrap (n + 1) = n + 1 := u64w _ (by have := NB.out; omega) (by have := NB.out; omega)
          have wn2 : IntKind.u64.wrap ((n + 1) * 52) = (n + 1) * 52 := u64w _ (by have := NB.out; omega) (by have := NB.out; omega)
          have dct : decide (L.ct < (n + 1) * 52) = false := decide_eq_false (by
            rcases E3.out with h | h
            · exact absurd h hEE
            · omega)
          clear hEE
          go_upto_region 9 with fail
          go_quiet (fail)
          clear d8
          generalize hy : World.drewN (World.drewN w3 _) _ = y
          have KY : Hid (Only [] w3 y) := Lib.hid (by rw [← hy]; exact ((Only.refl _ _).drewN _).drewN _)
          clear hy x1 x2 q4 q7
          have X4 := Lib.hid (X3.out.only KY.out (by simp))
          have L4 := Lib.hid (L3.out.only KY.out (by simp))
          have K4 := Lib.hid (K3.out.trans KY.out (by simp))
          have O4 := Lib.hid (own_keep (w' := y) O3.out fun g hg => KY.out.block g (O3.out.lt g hg).2 (by simp))
          have I4 := Lib.hid (I3.out.below' (KY.out.toBelow (Nat.le_refl _) (by simp)))
          have x1 : y.cell? ⟨w2.heap.size, 1, none⟩ = some (.int .u32 E) := X4.out.cell 1
          have x2 : y.cell? ⟨w2.heap.size, 2, none⟩ = some (.slice (some ⟨g, o, none⟩) ln cc) := X4.out.cell 2
          have f10 := L4.out.row.free 10
          have q10 : y.cell? ⟨q, 10, none⟩ = some (.int .u32 (lastE D L i)) := L4.out.row.cell 10
          have q7 : y.cell? ⟨q, 7, none⟩ = some (.int .u64 L.ct) := L4.out.row.cell 7
          have hqx : q < w2.heap.size := Nat.lt_of_lt_of_le QW.out XW.out
          have kq : Only [q] y (y.setCell ⟨q, 10, none⟩ (.int .u32 E)) := (Only.refl [q] y).setCell (.inl (by simp)) _
          have O5 := Lib.hid (own_keep (w' := y.setCell ⟨q, 10, none⟩ (.int .u32 E)) O4.out fun g hg => kq.block g (O4.out.lt g hg).2 (by simp; have := (O4.out.lt g hg).1; have := QW.out; omega))
          have S5 : Hid (w.heap.size ≤ (y.setCell ⟨q, 10, none⟩ (.int .u32 E)).heap.size) := Lib.hid (Nat.le_trans K4.out.size kq.size)
          have LP : Hid (0 < ln ∧ ln ≤ 52) := Lib.hid (by rw [LN.out]; have := MO.out; omega)
          have CL : Hid (((all.drop (52 * i)).take 52).length = ln) := Lib.hid (by rw [List.length_take, List.length_drop, LN.out])
          have I5 : Hid (Ints .u8 (y.setCell ⟨q, 10, none⟩ (.int .u32 E)) (.slice (some ⟨g, o, none⟩) ln cc) ((all.drop (52 * i)).take 52)) := Lib.hid (by
            rcases I4.out with h | ⟨b', o', c', hv, hcc⟩
            · exact .inl h
            · refine .inr ⟨b', o', c', hv, fun z hz => ?_⟩
              have hb' : b' = g := by simp only [Value.slice.injEq, Option.some.injEq, Addr.mk.injEq] at hv; exact hv.1.1.symm
              have h2 := hcc z hz
              rw [kq.cell (World.block_lt_of_cell? y _ h2) (by simp; have := GW.out; have := QW.out; omega)]
              exact h2)
          have AL : Hid (all.length ≤ 900000) := Lib.hid (by have := HO.out.len; have := CT.out; omega)
          obtain ⟨tv, w6, hrun, ho6, _, hg6, _⟩ := append_ints O5.out (some ⟨g, o, none⟩) ln cc ((all.drop (52 * i)).take 52) I5.out CL.out LP.out.1 (by have := AL.out; have := LP.out; rw [List.length_take]; omega) S5.out
          have TE : Hid (all.take (52 * i) ++ (all.drop (52 * i)).take 52 = all.take (52 * (i + 1))) := Lib.hid (by rw [show 52 * (i + 1) = 52 * i + 52 by omega, List.take_add])
          have LT : Hid ((all.take (52 * i)).length + ln = (all.take (52 * (i + 1))).length) := Lib.hid (by rw [← TE.out, List.length_append, CL.out])
          have KG : Hid (Only u4.ownBlock.toList (y.setCell ⟨q, 10, none⟩ (.int .u32 E)) w6) := Lib.hid ((Only.refl _ _).grown hg6 fun k hk => .inl (by simp [hk]))
          have GB : Hid (∀ b ∈ u4.ownBlock.toList, w.heap.size ≤ b) := Lib.hid fun b hb => (O4.out.lt b (by simpa using hb)).1
          have NX : Hid (FInv W w w6 p q D F L tail all tv (i + 1)) := Lib.hid (by
            refine ⟨?_, ?_, ?_, fun h => by omega⟩
            · rw [LE.out]
              have r5 := L4.out.row.set 10 (.int .u32 E)
              have r6 := r5.only KG.out (fun hq => by have := GB.out _ hq; have := QW.out; omega)
              have d5 := L4.out.dev.only kq (by simpa using QF.out) (by simpa using QG.out)
              exact ⟨d5.only KG.out (fun b hb hf => by have := GB.out _ hb; have := FW.out _ hf; omega) (fun b hb => Nat.le_trans WS.out (GB.out b hb)), by simpa [Lg.cells, lastL] using r6, QF.out, QG.out⟩
            · rw [← LT.out, ← TE.out]
              exact ho6
            · exact (K4.out.trans kq fun b hb => .inl hb).trans KG.out fun b hb => .inr (GB.out b hb))
          have x2' : w6.cell? ⟨w2.heap.size, 2, none⟩ = some (.slice (some ⟨g, o, none⟩) ln cc) := by
            have hx : w2.heap.size ∉ u4.ownBlock.toList := fun hb => by
              have h1 := (O2.out.lt _ (show u4.ownBlock = some w2.heap.size by simpa using hb)).2
              omega
            rw [KG.out.cell (by rw [show (y.setCell ⟨q, 10, none⟩ (.int .u32 E)).heap.size = y.heap.size by simp [go_sem]]; exact X4.out.lt) hx, kq.cell X4.out.lt (by simp; omega)]
            exact x2
          clear hg6 ho6 kq
          by_cases h52 : ln < 52
          · have d9 : decide ((ln : Int) < 52) = true := decide_eq_true (by omega)
            have d9' : decide (ln < 52) = true := decide_eq_true h52
            have d9i : (ln : Int) < 52 := by omega
            have EN : Hid (all.length ≤ 52 * (i + 1) ∧ 52 * (i + 1) < all.length + 52) := Lib.hid (by have := LN.out; have := MO.out; omega)
            clear h52
            go_wp2_with (at_builtin; refine wpList_append_eq rfl _ _ 32 rfl u4 (.slice (some ⟨g, o, none⟩) ln cc) tv w6 rfl rfl hrun ?_)
            go_ret2
            exact NX.out.post EN.out.1 EN.out.2
          · have d9 : decide ((ln : Int) < 52) = false := decide_eq_false (by omega)
            have d9' : decide (ln < 52) = false := decide_eq_false h52
            have d9i : ¬ (ln : Int) < 52 := by omega
            have EN : Hid (52 * (i + 1) ≤ all.length) := Lib.hid (by have := LN.out; have := MO.out; omega)
            have en : IntKind.u64.wrap (n + 1) = n + 1 := u64w _ (by have := NB.out; omega) (by have := NB.out; omega)
            clear h52
            go_wp2_with (at_builtin; refine wpList_append_eq rfl _ _ 32 rfl u4 (.slice (some ⟨g, o, none⟩) ln cc) tv w6 rfl rfl hrun ?_)
            go_roundw
            case rel => exact ⟨i + 1, by rw [← HN.out]; first | rfl | go_num, Lib.hid ⟨EN.out, NX.out⟩⟩
            case measure =>
              have := HT.out
              have := HN.out
              simp [intOf]
              omega
      · have hN : (pieN (atL D L i) != n) = true := by
          have h := HO.out.stop i (by have := HL.out; omega) (by have := HT.out; have := LM.out; omega)
          rw [HK.out, HN.out] at h
          simp [h]
        have LE : Hid (all.length ≤ 52 * i) := Lib.hid (by omega)
        generalize pieN (atL D L i) = N at *
        generalize pieE (atL D L i) = E at *
        generalize pieL (atL D L i) = ln at *
        clear hmore
        go_upto_region 8 with fail
        have X3 : Hid (Row (w2.alloc (.cells #[.int .u64 N, .int .u32 E, .slice (some ⟨g, o, none⟩) ln cc] 75)) w2.heap.size #[.int .u64 N, .int .u32 E, .slice (some ⟨g, o, none⟩) ln cc] 75) := Lib.hid (Row.made _ _ _)
        have ka : Only [] w2 (w2.alloc (.cells #[.int .u64 N, .int .u32 E, .slice (some ⟨g, o, none⟩) ln cc] 75)) := (Only.refl [] w2).alloc _
        have P : Hid (∀ k, FInv W w ((w2.alloc (.cells #[.int .u64 N, .int .u32 E, .slice (some ⟨g, o, none⟩) ln cc] 75)).drewN k) p q D F L tail all u4 i) := Lib.hid fun k => ⟨L2.out.only (ka.drewN k) (by simp), own_keep O2.out fun g hg => (ka.drewN k).block g (O2.out.lt g hg).2 (by simp), K2.out.trans (ka.drewN k) (by simp), HI.out.nil⟩
        clear ka
        generalize w2.alloc (.cells #[.int .u64 N, .int .u32 E, .slice (some ⟨g, o, none⟩) ln cc] 75) = w3 at *
        have x0 : w3.cell? ⟨w2.heap.size, 0, none⟩ = some (.int .u64 N) := X3.out.cell 0
        go_quiet (fail)
        go_wp2_with fail
        go_ret2
        exact (P.out _).post LE.out (by have := HL.out; omega)
    · have d1 : decide (k0 + (i : Int) < lim) = false := decide_eq_false hlt
      have P : Hid (FInv W w w1 p q D F L tail all u4 i) := Lib.hid ⟨L1.out, O1.out, K1.out, HI.out.nil⟩
      have LE : Hid (all.length ≤ 52 * i) := Lib.hid (by have := HO.out.len; have := LM.out; have := CT.out; omega)
      clear hlt
      go_wp2_with fail
      go_ret2
      exact P.out.post LE.out (by have := HL.out; omega)
end Go.Proofs.Ytekdogmhgijocaa
