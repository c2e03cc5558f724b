/- wal: Flush, whenever the power goes (printed by gen_flush.py). -/
import Derived.Test.YtekdogmhgijocaaMg26
import Derived.Test.YtekdogmhgijocaaWsA
import Derived.Test.YtekdogmhgijocaaMg23
import Derived.Deep.RegionHeld3
import Derived.Deep.RegionLaw
import Derived.Deep.Cut
import Derived.Laws.CopyOwn
namespace Go.Proofs.Ytekdogmhgijocaa
open Go.RowKit Go.ChangeShapes Go.WideShapes Go.ChangeAt
open Go.Proofs.Ytekdogmhgijocaa.dk (Dk Dev sectorD stepW stepS write_dev sync_dev errOff bytesV tSec Bytes)
set_option linter.unusedVariables false
set_option linter.unusedSimpArgs false
set_option maxRecDepth 100000
set_option maxHeartbeats 16000000

theorem readrow_dev {W w : World} {p : Nat} {D : Dk} {F : List Nat} (h : Dev W w p D F) {k : Int} (ho : D.off = false) (h0 : 0 ≤ k) (h1 : k < D.sectors) :
    Calls Try.prog 30 #[.pointer (some ⟨p, 0, none⟩), .int .i64 k] w fun e w' => e = .returned (.tuple #[.slice (some ⟨w.heap.size, 0, none⟩) 128 128, .int .i64 0]) ∧ Row w' w.heap.size (bytesV (sectorD D k)) tSec ∧ Dev W w' p D F ∧ Only [] w w' := by
  obtain ⟨bl, bw, bn, hd, hF, _⟩ := h.dk
  refine (dk.read_ok w p bl bw bn D k hd ho h0 h1).mono ?_
  rintro e w' ⟨rfl, hr, hk, _⟩
  exact ⟨rfl, hr, h.none hk, hk⟩
theorem bytes_row {w : World} {g : Nat} {s : List Int} (h : Row w g (bytesV s) tSec) : Bytes w g 0 s := fun i v hi => by
  rw [Nat.zero_add, h.cell i]
  simpa [bytesV] using hi
theorem below_only' {g : Nat} {w y : World} (h : Below g w y) : Only ((List.range w.heap.size).filter fun b => decide (g ≤ b)) w y :=
  ⟨h.os, h.tape, h.output, h.size, fun b hb hG => h.block b (by
    by_cases hgb : g ≤ b
    · exact absurd (List.mem_filter.2 ⟨List.mem_range.2 hb, by simpa using hgb⟩) hG
    · omega)⟩
theorem ints_cells {w : World} {g c n : Nat} {xs : List Int} (h : Ints .u8 w (.slice (some ⟨g, 0, none⟩) n c) xs) : ∀ j v, (xs.map (Value.int .u8))[j]? = some v → w.cell? ((⟨g, 0, none⟩ : Addr).add j) = some v := fun j v hj => by
  rw [List.getElem?_map, Option.map_eq_some_iff] at hj
  obtain ⟨z, hz, rfl⟩ := hj
  have hlt := (List.getElem?_eq_some_iff.1 hz).1
  rcases h with ⟨h1, _⟩ | ⟨b, off, cap, e, hc⟩
  · rw [h1] at hlt; simp at hlt
  · simp only [Value.slice.injEq, Option.some.injEq, Addr.mk.injEq] at e
    obtain ⟨⟨rfl, rfl, _⟩, _, _⟩ := e
    rw [add_plain, hc j hlt, hz]
    rfl
theorem splice_patch (h : Int) {o : Nat} (he : (64 * h).toNat = o) {s p : List Int} (hs : s.length = 128) (hp : p.length = 64) (h01 : h = 0 ∨ h = 1) : (splice (s.map (Value.int .u8)) o (p.map (Value.int .u8))).toArray = bytesV (patch s p h) := by
  subst he
  unfold splice bytesV patch
  rcases h01 with rfl | rfl
  · simp [hp]
  · simp [hp, hs]
/-- A log's tail, at whatever place of a row of the log's own. -/
structure TlAt (W w : World) (q : Nat) (F : List Nat) (s : Sl) (zs : List Int) : Prop where
  bk : Bk w s
  xs : s.xs = zs
  ap : ∀ b ∈ s.bs, W.heap.size ≤ b ∧ b ∉ F ∧ b ≠ q
theorem TlAt.only {W w w' : World} {q : Nat} {F G : List Nat} {s : Sl} {zs : List Int} (h : TlAt W w q F s zs) (k : Only G w w') (hG : ∀ b ∈ s.bs, b ∉ G) : TlAt W w' q F s zs := ⟨h.bk.only k hG, h.xs, h.ap⟩
theorem fails_ok (q : Nat) (w : World) : Calls Try.prog 35 #[.pointer (some ⟨q, 0, none⟩), .int .i64 0] w fun e w' => e = .returned (.int .i64 0) ∧ w' = w := by
  go_enter Try.func35, Try.ntmps35
  go_wp2_with fail
  go_ret
  exact ⟨rfl, rfl⟩
def downL (L : Lg) : Lg := { L with down := true }
theorem fails_no {q p : Nat} {L : Lg} {tail : Value} {w : World} (h : LgRow w q L p tail) : Calls Try.prog 35 #[.pointer (some ⟨q, 0, none⟩), .int .i64 6] w fun e w' => e = .returned (.int .i64 6) ∧ LgRow w' q (downL L) p tail ∧ Only [q] w w' := by
  have f12 := h.free 12
  have c12 := h.cell 12
  have N : Hid (LgRow (w.setCell ⟨q, 12, none⟩ (.bool true)) q (downL L) p tail ∧ Only [q] w (w.setCell ⟨q, 12, none⟩ (.bool true))) := Lib.hid ⟨by
    have h2 := h.set 12 (.bool true)
    simpa [LgRow, Lg.cells, downL] using h2, (Only.refl [q] w).setCell (.inl (by simp)) _⟩
  clear h
  go_enter Try.func35, Try.ntmps35
  go_wp2_with fail
  go_ret
  exact ⟨rfl, N.out.1, N.out.2⟩
/-- What a flush comes to. -/
def flD (L : Lg) (zs : List Int) (D : Dk) : Dk := if (flW L zs zs.length 0 D).off = true then flW L zs zs.length 0 D else stepS (flW L zs zs.length 0 D)
def flL (L : Lg) : Lg := { L with fl := L.end_ }
/-- How much of the tail a flush gives up. -/
def flK (L : Lg) : Nat := ((L.end_ / 52 - L.fl / 52) * 52).toNat
def FlushPost (W : World) (p q : Nat) (D : Dk) (F : List Nat) (L : Lg) (s : Sl) (w : World) (e : Ending) (w' : World) : Prop :=
  ((flD L s.xs D).off = true ∧ e = .returned (.int .i64 6) ∧ LgAt W w' p q (flD L s.xs D) F (downL L) s.v ∧ Only (q :: F) w w') ∨
  ((flD L s.xs D).off = false ∧ e = .returned (.int .i64 0) ∧ LgAt W w' p q (flD L s.xs D) F (flL L) (s.cut (flK L) s.xs.length).v ∧ Only (q :: F) w w')
theorem flW_step {L : Lg} {zs : List Int} {f i : Nat} {D D1 : Dk} (hi : 52 * i < zs.length) (hl : zs.length ≤ 52 * (i + f)) (h1 : stepW D (secL L (L.fl / 52 + (i : Int))) (secJ L zs i (sectorD D (secL L (L.fl / 52 + (i : Int)))) (cntF L zs i)) = D1) :
    (D1.off = true → flW L zs f i D = D1) ∧ (D1.off = false → ∃ f', flW L zs f i D = flW L zs f' (i + cntF L zs i) D1 ∧ zs.length ≤ 52 * (i + cntF L zs i + f')) := by
  have hc : 0 < cntF L zs i := by rcases cntF_cases L zs i with ⟨h, _⟩ | ⟨h, _⟩ <;> omega
  cases f with
  | zero => omega
  | succ f =>
    have e : flW L zs (f + 1) i D = if D1.off = true then D1 else flW L zs f (i + cntF L zs i) D1 := by
      rw [flW, if_neg (by omega)]
      simp only [h1]
    rw [e]
    exact ⟨fun h => by rw [if_pos h], fun h => ⟨f, by rw [if_neg (by simp [h])], by omega⟩⟩
theorem flW_end {L : Lg} {zs : List Int} {f i : Nat} {D : Dk} (hi : zs.length ≤ 52 * i) : flW L zs f i D = D := by
  cases f with
  | zero => rfl
  | succ f => unfold flW; rw [if_pos hi]
/-- Between two sectors. -/
structure FlI (W w wr : World) (p q : Nat) (D : Dk) (F : List Nat) (L : Lg) (s : Sl) (i : Nat) (Di : Dk) : Prop where
  lg : LgAt W wr p q Di F L s.v
  on : Only F w wr
  off : Di.off = false
  ha : L.at_ + 2 + L.count ≤ Di.sectors
  hm : Di.most = Di.sectors
  run : ∃ f, flW L s.xs f i Di = flW L s.xs s.xs.length 0 D ∧ s.xs.length ≤ 52 * (i + f)
structure FlOk (L : Lg) (s : Sl) : Prop where
  f0 : 0 ≤ L.fl ∧ L.fl < 1125899906842624
  e0 : L.fl ≤ L.end_ ∧ L.end_ < 1125899906842624
  len : (s.xs.length : Int) = L.end_ - L.fl / 52 * 52
  ep : 0 ≤ L.ep ∧ L.ep < 4294967296
  at_ : 0 ≤ L.at_ ∧ L.at_ ≤ 65536
  cnt : 0 < L.count ∧ L.count ≤ 8192
  by_ : IsBy s.xs
def okJ (n : Int) (j : Nat) : Bool := decide (j = 0 ∨ (n + (j : Int)) % 2 = 1)
theorem flush_on {W w : World} {p q : Nat} {D : Dk} {F : List Nat} {L : Lg} {s : Sl} (h : LgAt W w p q D F L s.v) (ht : TlAt W w q F s s.xs) (ok : FlOk L s) (hd : L.down = false) (ho : D.off = false) (ha : L.at_ + 2 + L.count ≤ D.sectors) (hm : D.most = D.sectors) (hne : L.fl < L.end_) :
    Calls Try.prog 17 #[.pointer (some ⟨q, 0, none⟩)] w (FlushPost W p q D F L s w) := by
  have OK := Lib.hid ok
  have TL := Lib.hid ht
  have TH := Lib.hid (there_on h.row hd)
  have QW : Hid (q < w.heap.size ∧ q ∉ F ∧ W.heap.size ≤ q) := Lib.hid ⟨h.row.lt, h.qF, h.qW⟩
  have FW : Hid (∀ b ∈ F, b < w.heap.size) := Lib.hid h.dev.lt
  have I0 : Hid (FlI W w w p q D F L s 0 D) := Lib.hid ⟨h, Only.refl _ _, ho, ha, hm, s.xs.length, rfl, by omega⟩
  have d1 : (L.fl == L.end_) = false := by simp; omega
  have c8' : w.drew.cell? ⟨q, 8, none⟩ = some (.int .u64 L.end_) := h.row.cell 8
  have c9' : w.drew.cell? ⟨q, 9, none⟩ = some (.int .u64 L.fl) := h.row.cell 9
  have c8 : w.cell? ⟨q, 8, none⟩ = some (.int .u64 L.end_) := h.row.cell 8
  have c9 : w.cell? ⟨q, 9, none⟩ = some (.int .u64 L.fl) := h.row.cell 9
  obtain ⟨N0, hN0⟩ : ∃ N0, L.fl / 52 = N0 := ⟨_, rfl⟩
  have e0 : L.fl.tdiv 52 = N0 := by rw [Int.tdiv_eq_ediv_of_nonneg ok.f0.1, hN0]
  have eN0 : IntKind.u64.wrap N0 = N0 := u64w _ (by have := ok.f0; omega) (by have := ok.f0; omega)
  have HN := Lib.hid hN0
  have DD := Lib.hid hd
  clear h ht ok hd ho ha hm hne hN0
  go_enter Try.func17, Try.ntmps17
  go_wp2_with fail
  refine TH.out.mono ?_
  rintro _ w2 ⟨rfl, hw2⟩
  subst hw2
  clear TH
  go_wp2_with fail
  go_quiet (fail)
  go_wp2_with fail
  obtain ⟨sa, hsa⟩ : ∃ a, s.a = a := ⟨_, rfl⟩
  obtain ⟨sn, hsn⟩ : ∃ n, s.xs.length = n := ⟨_, rfl⟩
  obtain ⟨sc, hsc⟩ : ∃ c, s.c = c := ⟨_, rfl⟩
  have SV : Hid (s.v = .slice sa sn sc) := Lib.hid (by unfold Sl.v; rw [hsa, hsn, hsc])
  have SN := Lib.hid hsn
  have SAC := Lib.hid (And.intro hsa hsc)
  clear hsa hsn hsc
  have J0 : Hid (∀ q', FlI W w2 (w2.drewN q') p q D F L s 0 D) := Lib.hid fun q' => ⟨I0.out.lg.only ((Only.refl [] w2).drewN q') (by simp), (Only.refl _ w2).drewN q', I0.out.off, I0.out.ha, I0.out.hm, I0.out.run⟩
  go_loopw [5] (fun u wr => ∃ i t : Nat, u = .int .i64 (t : Int) ∧ Hid (t = 52 * i) ∧ Hid (∃ Di, FlI W w2 wr p q D F L s i Di)) (fun u _ => sn - (intOf u).toNat)
  case atStart => exact ⟨0, 0, rfl, Lib.hid rfl, Lib.hid ⟨D, J0.out _⟩⟩
  case round =>
    clear J0 c8 c9 c8' c9' d1 e0 eN0
    obtain ⟨i, t, rfl, HT, HV⟩ := hrel
    rename World => w3
    obtain ⟨Di, hI⟩ := HV.out
    have HI := Lib.hid hI
    have c11 : w3.cell? ⟨q, 11, none⟩ = some (.slice sa sn sc) := by rw [← SV.out]; exact hI.lg.row.cell 11
    clear HV hI
    by_cases hlt : t < sn
    · have d3 : decide ((t : Int) < (sn : Int)) = true := decide_eq_true (by omega)
      have d3' : decide (t < sn) = true := decide_eq_true hlt
      have LT := Lib.hid hlt
      have IB : Hid ((i : Int) < 1000000 ∧ 52 * i < s.xs.length) := Lib.hid (by have := HT.out; have := SN.out; have := TL.out.bk.le; omega)
      have et : (t : Int).tdiv 52 = (i : Int) := by rw [Int.tdiv_eq_ediv_of_nonneg (by omega)]; have := HT.out; omega
      have ew : wrap64 (i : Int) = (i : Int) := by unfold wrap64; have := IB.out; omega
      have ei : IntKind.u64.wrap (i : Int) = (i : Int) := u64w _ (by omega) (by have := IB.out; omega)
      obtain ⟨n, hn⟩ : ∃ n, N0 + (i : Int) = n := ⟨_, rfl⟩
      have NB : Hid (L.fl / 52 + (i : Int) = n ∧ 0 ≤ n ∧ n < 72057594037900000) := Lib.hid (by have := OK.out.f0; have := IB.out; have := HN.out; omega)
      have en : IntKind.u64.wrap (N0 + (i : Int)) = n := by rw [hn]; exact u64w _ NB.out.2.1 (by have := NB.out; omega)
      have SK : Hid (∀ y, Only [] w3 y → Calls Try.prog 36 #[.pointer (some ⟨q, 0, none⟩), .int .u64 n] y fun e w' => e = .returned (.int .i64 (secL L n)) ∧ Only [] y w') := Lib.hid fun y k => sector_on (HI.out.lg.row.only k (by simp)) n NB.out.2.1 (by have := NB.out; omega) OK.out.cnt OK.out.at_
      have IN := Lib.hid (secL_in (L := L) (D := Di) OK.out.cnt.1 ⟨OK.out.at_.1, HI.out.ha⟩ n)
      have RK : Hid (∀ y, Only [] w3 y → Calls Try.prog 30 #[.pointer (some ⟨p, 0, none⟩), .int .i64 (secL L n)] y fun e w' => e = .returned (.tuple #[.slice (some ⟨y.heap.size, 0, none⟩) 128 128, .int .i64 0]) ∧ Row w' y.heap.size (bytesV (sectorD Di (secL L n))) tSec ∧ Dev W w' p Di F ∧ Only [] y w') := Lib.hid fun y k => readrow_dev (HI.out.lg.dev.none k) HI.out.off IN.out.1 IN.out.2
      have SC : Hid (∀ y, Only [] w3 y → y.cell? ⟨q, 0, none⟩ = some (.pointer (some ⟨p, 0, none⟩))) := Lib.hid fun y k => (k.cell HI.out.lg.row.lt (by simp)).trans (HI.out.lg.row.cell 0)
      have K0 : Hid (Only [] w3 w3.drew) := Lib.hid (Only.refl [] w3).drew
      obtain ⟨K, hK⟩ : ∃ K, secL L n = K := ⟨_, rfl⟩
      have HK := Lib.hid hK
      rw [hK] at SK RK
      clear hlt hn hK
      go_upto_region 10 with fail
      go_region_held3 (fun x => x.cell? ⟨q, 0, none⟩ = some (.pointer (some ⟨p, 0, none⟩))) (first | exact SC.out _ K6.out | exact SC.out _ K5.out | exact SC.out _ K0.out)
        (first
          | (go_at_call 30; refine (RK.out w5 K5.out).mono ?_; rintro _ w6 ⟨rfl, hr6, d6, k6⟩; have R6 := Lib.hid hr6; have K6 := Lib.hid (K5.out.and k6); clear hr6 d6 k6)
          | (go_at_call 36; refine (SK.out _ K0.out).mono ?_; rintro _ w5 ⟨rfl, k5⟩; have K5 := Lib.hid (K0.out.and k5); clear k5))
      obtain ⟨g, hg⟩ : ∃ g, w5.heap.size = g := ⟨_, rfl⟩
      have GW : Hid (w3.heap.size ≤ g) := Lib.hid (by rw [← hg]; exact K5.out.size)
      rw [hg] at R6
      rw [hg]
      clear hg SK RK SC K0 c11
      go_wp2_with fail
      refine (fails_ok q w6).mono ?_
      rintro _ w' ⟨rfl, hw'⟩
      subst w'
      have Y6 : Hid (∀ y, Below g w6 y → LgAt W y p q Di F L s.v ∧ TlAt W y q F s s.xs ∧ Only F w2 y ∧ y.cell? ⟨q, 0, none⟩ = some (.pointer (some ⟨p, 0, none⟩)) ∧ y.cell? ⟨q, 4, none⟩ = some (.int .u32 L.ep) ∧ y.cell? ⟨q, 11, none⟩ = some (.slice sa sn sc)) := Lib.hid fun y hy => by
        have lt := HI.out.lg.row.lt
        have hz := HI.out.lg.dev.bl.size
        have hG : ∀ b ∈ (List.range w6.heap.size).filter (fun b => decide (g ≤ b)), g ≤ b := fun b hb => by simpa using (List.mem_filter.1 hb).2
        have hgw := GW.out
        have hon := HI.out.on.size
        have k := below_only' hy
        have l6 := (HI.out.lg.only K6.out (by simp)).only k (fun b hb => by
          have h1 := hG b hb
          exact ⟨fun hf => by have := FW.out b hf; omega, fun e => by omega, by omega⟩)
        have t6 := ((TL.out.only HI.out.on (fun b hb hf => (TL.out.ap b hb).2.1 hf)).only K6.out (by simp)).only k (fun b hb hf => by have h1 := hG b hf; have h2 := TL.out.bk.lt b hb; omega)
        refine ⟨l6, t6, (HI.out.on.trans K6.out (by simp)).trans k (fun b hb => .inr (by have h1 := hG b hb; omega)), l6.row.cell 0, l6.row.cell 4, ?_⟩
        rw [← SV.out]
        exact l6.row.cell 11
      have N1 : Hid (cntF L s.xs i = 1 ∨ cntF L s.xs i = 2) := Lib.hid (by rcases cntF_cases L s.xs i with ⟨h, _⟩ | ⟨h, _⟩ <;> omega)
      go_wp2_with fail
      go_loopw [5, 6, 9] (fun u5 u6 u9 wr => ∃ j t' : Nat, ∃ m : Int, u5 = .int .i64 (t' : Int) ∧ u6 = .int .u64 m ∧ u9 = .bool (okJ n j) ∧ Hid (t' = 52 * (i + j) ∧ m = n + (j : Int) ∧ j ≤ cntF L s.xs i) ∧ Hid (Below g w6 wr ∧ Row wr g (bytesV (secJ L s.xs i (sectorD Di K) j)) tSec)) (fun u5 _ _ _ => sn + 200 - (intOf u5).toNat)
      case atStart => exact ⟨0, t, n, rfl, rfl, by simp [okJ], Lib.hid ⟨HT.out, by simp, Nat.zero_le _⟩, Lib.hid ⟨Below.refl _ _, R6.out⟩⟩
      case round =>
        obtain ⟨j, t', m, rfl, rfl, h9, HJ, HW⟩ := hrel
        rename World => w8
        have B8 : Hid (Below g w6 w8) := Lib.hid HW.out.1
        by_cases hgo : j < cntF L s.xs i
        · have hb : okJ n j = true := by
            unfold okJ
            rcases cntF_cases L s.xs i with ⟨h1, h2, _⟩ | ⟨h1, _⟩
            · have := NB.out.1; have : j = 0 ∨ j = 1 := by omega
              simp; omega
            · simp; omega
          rw [hb] at h9
          subst h9
          have JB : Hid (t' = 52 * (i + j) ∧ m = n + (j : Int) ∧ j < cntF L s.xs i ∧ t' < sn ∧ j < 2) := Lib.hid ⟨HJ.out.1, HJ.out.2.1, hgo, by have h := cnt_in IB.out.2 (show i + j < i + cntF L s.xs i by omega); rw [SN.out] at h; have := HJ.out.1; omega, by have := N1.out; omega⟩
          have SNL : Hid (sn ≤ 1000000) := Lib.hid (by have := TL.out.bk.le; have := SN.out; omega)
          have d4 : decide ((t' : Int) < (sn : Int)) = true := decide_eq_true (by have := JB.out; omega)
          have d4' : decide (t' < sn) = true := decide_eq_true JB.out.2.2.2.1
          have c11 := (Y6.out w8 B8.out).2.2.2.2.2
          have c4 := (Y6.out w8 B8.out).2.2.2.2.1
          have GB : Hid (g < w8.heap.size) := Lib.hid HW.out.2.lt
          have R8 := Lib.hid HW.out.2
          have BA : Hid (∀ o : Obj, Below g w6 (w8.alloc o)) := Lib.hid fun o => B8.out.alloc (Nat.le_of_lt GB.out) _
          have a11 : ∀ o : Obj, (w8.alloc o).cell? ⟨q, 11, none⟩ = some (.slice sa sn sc) := fun o => (Y6.out _ (BA.out o)).2.2.2.2.2
          have a4 : ∀ o : Obj, (w8.alloc o).cell? ⟨q, 4, none⟩ = some (.int .u32 L.ep) := fun o => (Y6.out _ (BA.out o)).2.2.2.2.1
          have PN : Hid (∀ cs : Array Value, Row (w8.alloc (.cells cs 75)) w8.heap.size cs 75 ∧ Row (w8.alloc (.cells cs 75)) g (bytesV (secJ L s.xs i (sectorD Di K) j)) tSec) := Lib.hid fun cs => ⟨Row.made _ _ _, R8.out.only ((Only.refl [] w8).alloc _) (by simp)⟩
          obtain ⟨t2, ht2⟩ : ∃ t2, t' + 52 = t2 := ⟨_, rfl⟩
          have e52 : IntKind.i64.wrap ((t' : Int) + 52) = (t2 : Int) := by rw [show (t' : Int) + 52 = (t2 : Int) by omega]; exact IntWalk.i64_in _ (by have := JB.out; have := SNL.out; omega)
          obtain ⟨hh, hhh⟩ : ∃ hh, min t2 sn = hh := ⟨_, rfl⟩
          have emin : min (t2 : Int) (sn : Int) = (hh : Int) := by omega
          have HH : Hid (t' ≤ hh ∧ hh ≤ s.xs.length ∧ t' + 52 = t2 ∧ min t2 sn = hh) := Lib.hid (by have := JB.out; have := SN.out; omega)
          obtain ⟨ca, cl, cc, hcv⟩ : ∃ a l c, (s.cut t' hh).v = .slice a l c := ⟨_, _, _, rfl⟩
          have RC : ∀ y, (Instr.slice 32 (.slice sa sn sc) (some (.int .i64 (t' : Int))) (some (.int .i64 (hh : Int))) none).run Try.prog y = .ok (.slice ca cl cc) y := fun y => by
            have h := run_cut Try.underlying32 infoBy .i64 .i64 s HH.out.1 HH.out.2.1 TL.out.bk.cap.1 y
            rw [hcv, SAC.out.1, SN.out, SAC.out.2] at h
            exact h
          have k1 : t' ≤ hh := HH.out.1
          have k2 : hh ≤ sc := by have h1 := HH.out.2.1; have h2 := TL.out.bk.cap.1; have h3 := SAC.out.2; omega
          have CV := Lib.hid hcv
          clear hgo hb ht2 hhh hcv
          go_upto_region 16 with fail
          go_cut [10] from 57 to 102 (fun s10 wc => ∃ gp : Nat, s10 = .pointer (some ⟨gp, 0, none⟩) ∧ Hid (Below g w6 wc ∧ Row wc gp #[.int .u64 m, .int .u32 L.ep, .slice ca cl cc] 75 ∧ Row wc g (bytesV (secJ L s.xs i (sectorD Di K) j)) tSec ∧ gp ≠ g))
          case first =>
            go_region
            all_goals
              go_wp2_with fail
              go_meet
              first
                | exact ⟨_, rfl, Lib.hid ⟨BA.out _, (PN.out _).1, (PN.out _).2, by have := GB.out; omega⟩⟩
                | exact ⟨_, rfl, Lib.hid ⟨(BA.out _).trans ((Only.refl [] _).drew.toBelow (Nat.le_trans (Nat.le_of_lt GB.out) (by simp)) (by simp)), (PN.out _).1, (PN.out _).2, by have := GB.out; omega⟩⟩
                | trace_state
          case rest =>
            obtain ⟨gp, rfl, HC⟩ := hcut
            clear a11 a4 c11 RC emin e52 k1 k2 d4 d4'
            have HG := Lib.hid HC.out.1
            have GC : Hid (g ≤ wc.heap.size) := Lib.hid (Nat.le_of_lt HC.out.2.2.1.lt)
            have w00 : IntKind.u64.wrap 0 = 0 := rfl
            have w64 : IntKind.u64.wrap 64 = 64 := rfl
            have CK : Hid ((s.cut t' hh).xs = chunk s.xs (i + j) ∧ (chunk s.xs (i + j)).length = cl ∧ 0 < cl ∧ cl ≤ 52) := Lib.hid (by
              have h1 : (s.cut t' hh).xs = chunk s.xs (i + j) := by
                unfold Sl.cut chunk
                simp only
                have hj := JB.out
                have h2 := HH.out
                have h3 := SN.out
                rw [← hj.1]
                by_cases h52 : t2 ≤ sn
                · rw [show hh - t' = 52 by omega]
                · rw [List.take_of_length_le (by rw [List.length_drop]; omega), List.take_of_length_le (by rw [List.length_drop]; omega)]
              have h4 := CV.out
              unfold Sl.v at h4
              simp only [Value.slice.injEq] at h4
              have h5 := chunk_len s.xs (i + j)
              have h6 := chunk_pos (zs := s.xs) (i := i + j) (cnt_in (L := L) (i := i) IB.out.2 (by have := JB.out; omega))
              rw [h1] at h4
              exact ⟨h1, h4.2.1, by omega, by omega⟩)
            have PB : Hid (∀ y, Only [] wc y → Calls Try.prog 37 #[.agg #[.int .u64 m, .int .u32 L.ep, .slice ca cl cc]] y (PBytes m L.ep (chunk s.xs (i + j)) y)) := Lib.hid fun y hy => by
              have hT := (Y6.out y (HG.out.trans (hy.toBelow GC.out (by simp)))).2.1
              have hc := (hT.bk.rd.cut HH.out.1 HH.out.2.1 hT.bk.cap.1).ints
              rw [CV.out, CK.out.1] at hc
              exact pbytes_on (by have := JB.out; have := NB.out; omega) (by have := JB.out; have := NB.out; have := IB.out; omega) OK.out.ep.1 OK.out.ep.2 CK.out.2.1 CK.out.2.2.1 CK.out.2.2.2 hc
            have xs0 : wc.drew.cell? ⟨gp, 0, none⟩ = some (.int .u64 m) := HC.out.2.1.cell 0
            have xs1 : wc.drew.cell? ⟨gp, 1, none⟩ = some (.int .u32 L.ep) := HC.out.2.1.cell 1
            have xs2 : wc.drew.cell? ⟨gp, 2, none⟩ = some (.slice ca cl cc) := HC.out.2.1.cell 2
            have KD : Hid (Only [] wc wc.drew) := Lib.hid (Only.refl [] wc).drew
            have SL : Hid (∀ y, Below g w6 y → Row y g (bytesV (secJ L s.xs i (sectorD Di K) j)) tSec → y.heap[g]? = some (.cells ((secJ L s.xs i (sectorD Di K) j).map (Value.int .u8)).toArray tSec (0, 0))) := Lib.hid fun y _ hr => hr
            have LS : Hid ((secJ L s.xs i (sectorD Di K) j).length = 128 ∧ (pieF L s.xs (i + j)).length = 64 ∧ fpiece m L.ep (chunk s.xs (i + j)) = pieF L s.xs (i + j)) := Lib.hid ⟨(secJ_is (dk.sectorD_is HI.out.lg.dev.fine K) OK.out.by_ j).1, pieF_len _ _ _, by unfold pieF; rw [show L.fl / 52 + ((i + j : Nat) : Int) = m by have := JB.out; have := NB.out; omega]⟩
            obtain ⟨i0', hi0, hz0, hz1, hz2⟩ := info_parts infoBy
            go_upto_region 17 with fail
            rcases (show m % 2 = 0 ∨ m % 2 = 1 by omega) with hp | hp
            · have em : m.tmod 2 = 0 := by rw [Int.tmod_eq_emod_of_nonneg (by have := JB.out; have := NB.out; omega), hp]
              go_region_law (first
                | (refine step_copy_splice rfl (.tmp 95) (.tmp 97) 32 32 rfl 5 Try.underlying32 (by rw [hi0]; simp [hz1]) (some ⟨g, 0, none⟩) (some ⟨g7, 0, none⟩) 128 128 64 c7 (by simp [Act.eval, Act.put]) (by simp [Act.eval, Act.put]) g 0 ((secJ L s.xs i (sectorD Di K) j).map (Value.int .u8)) tSec HG10.out ((pieF L s.xs (i + j)).map (Value.int .u8)) (by rw [List.length_map, LS.out.2.1]; rfl) (fun _ => ⟨rfl, _, rfl, HC10.out⟩) (by rw [List.length_map, List.length_map, LS.out.1, LS.out.2.1]; omega) (fun v hv => by obtain ⟨z, _, rfl⟩ := List.mem_map.1 hv; rfl) g w6 HB10.out (Nat.le_refl _) ?_; intro w11 hG11 hB11; have HB11 := Lib.hid hB11; clear hB11)
                | (go_simp; go_at_call 37; refine (PB.out _ KD.out).mono ?_; rintro _ w10 ⟨g7, c7, rfl, hi7, hb7, hg7⟩; have HB10 : Hid (Below g w6 w10) := Lib.hid ((HG.out.trans (KD.out.toBelow GC.out (by simp))).trans (hb7.mono GC.out)); have HG10 : Hid (w10.heap[g]? = some (.cells ((secJ L s.xs i (sectorD Di K) j).map (Value.int .u8)).toArray tSec (0, 0))) := Lib.hid (HC.out.2.2.1.only ((KD.out).below hb7) (by simp)); have HC10 : Hid (∀ jj v, ((pieF L s.xs (i + j)).map (Value.int .u8))[jj]? = some v → w10.cell? ((⟨g7, 0, none⟩ : Addr).add jj) = some v) := Lib.hid (by rw [← LS.out.2.2]; exact ints_cells hi7); clear hi7 hb7 hg7)
                | fail)
              all_goals
                have R11 : Hid (Row w11 g (bytesV (secJ L s.xs i (sectorD Di K) (j + 1))) tSec) := Lib.hid (by
                  have h := hG11.out
                  rw [splice_patch 0 (o := 0) rfl LS.out.1 LS.out.2.1 (by omega)] at h
                  rw [show secJ L s.xs i (sectorD Di K) (j + 1) = patch (secJ L s.xs i (sectorD Di K) j) (pieF L s.xs (i + j)) 0 by
                    show patch _ _ _ = _
                    rw [show (L.fl / 52 + ((i + j : Nat) : Int)) % 2 = 0 by have := JB.out; have := NB.out; omega]]
                  exact h)
                obtain ⟨m1, hm1⟩ : ∃ m1, m + 1 = m1 := ⟨_, rfl⟩
                have M1 := Lib.hid hm1
                have e52 : IntKind.i64.wrap ((t' : Int) + 52) = (t2 : Int) := by rw [show (t' : Int) + 52 = (t2 : Int) by have := HH.out; omega]; exact IntWalk.i64_in _ (by have := JB.out; have := SNL.out; have := HH.out; omega)
                have em1 : IntKind.u64.wrap (m + 1) = m1 := by rw [hm1]; exact u64w _ (by have := JB.out; have := NB.out; omega) (by have := JB.out; have := NB.out; omega)
                have er : m1.tmod 2 = 1 := by rw [Int.tmod_eq_emod_of_nonneg (by have := JB.out; have := NB.out; omega)]; omega
                have OKJ : Hid (okJ n (j + 1) = true) := Lib.hid (by
                  unfold okJ
                  have := JB.out
                  simp
                  omega)
                clear hG11 hm1 xs0 xs1 xs2 w00 w64 em hp PB
                go_wp2_with fail
                go_roundw
                case rel => exact ⟨j + 1, t2, m1, rfl, rfl, by rw [OKJ.out], Lib.hid ⟨by have := JB.out; have := HH.out; omega, by have := JB.out; have := M1.out; push_cast; omega, by have := JB.out; omega⟩, Lib.hid ⟨HB11.out, R11.out⟩⟩
                case measure => have := JB.out; have := HH.out; simp [intOf]; omega
            · have em : m.tmod 2 = 1 := by rw [Int.tmod_eq_emod_of_nonneg (by have := JB.out; have := NB.out; omega), hp]
              go_region_law (first
                | (refine step_copy_splice rfl (.tmp 95) (.tmp 97) 32 32 rfl 5 Try.underlying32 (by rw [hi0]; simp [hz1]) (some ⟨g, 64, none⟩) (some ⟨g7, 0, none⟩) 64 64 64 c7 (by simp [Act.eval, Act.put]) (by simp [Act.eval, Act.put]) g 64 ((secJ L s.xs i (sectorD Di K) j).map (Value.int .u8)) tSec HG10.out ((pieF L s.xs (i + j)).map (Value.int .u8)) (by rw [List.length_map, LS.out.2.1]; rfl) (fun _ => ⟨rfl, _, rfl, HC10.out⟩) (by rw [List.length_map, List.length_map, LS.out.1, LS.out.2.1]; omega) (fun v hv => by obtain ⟨z, _, rfl⟩ := List.mem_map.1 hv; rfl) g w6 HB10.out (Nat.le_refl _) ?_; intro w11 hG11 hB11; have HB11 := Lib.hid hB11; clear hB11)
                | (go_simp; go_at_call 37; refine (PB.out _ KD.out).mono ?_; rintro _ w10 ⟨g7, c7, rfl, hi7, hb7, hg7⟩; have HB10 : Hid (Below g w6 w10) := Lib.hid ((HG.out.trans (KD.out.toBelow GC.out (by simp))).trans (hb7.mono GC.out)); have HG10 : Hid (w10.heap[g]? = some (.cells ((secJ L s.xs i (sectorD Di K) j).map (Value.int .u8)).toArray tSec (0, 0))) := Lib.hid (HC.out.2.2.1.only ((KD.out).below hb7) (by simp)); have HC10 : Hid (∀ jj v, ((pieF L s.xs (i + j)).map (Value.int .u8))[jj]? = some v → w10.cell? ((⟨g7, 0, none⟩ : Addr).add jj) = some v) := Lib.hid (by rw [← LS.out.2.2]; exact ints_cells hi7); clear hi7 hb7 hg7)
                | fail)
              all_goals
                have R11 : Hid (Row w11 g (bytesV (secJ L s.xs i (sectorD Di K) (j + 1))) tSec) := Lib.hid (by
                  have h := hG11.out
                  rw [splice_patch 1 (o := 64) rfl LS.out.1 LS.out.2.1 (by omega)] at h
                  rw [show secJ L s.xs i (sectorD Di K) (j + 1) = patch (secJ L s.xs i (sectorD Di K) j) (pieF L s.xs (i + j)) 1 by
                    show patch _ _ _ = _
                    rw [show (L.fl / 52 + ((i + j : Nat) : Int)) % 2 = 1 by have := JB.out; have := NB.out; omega]]
                  exact h)
                obtain ⟨m1, hm1⟩ : ∃ m1, m + 1 = m1 := ⟨_, rfl⟩
                have M1 := Lib.hid hm1
                have e52 : IntKind.i64.wrap ((t' : Int) + 52) = (t2 : Int) := by rw [show (t' : Int) + 52 = (t2 : Int) by have := HH.out; omega]; exact IntWalk.i64_in _ (by have := JB.out; have := SNL.out; have := HH.out; omega)
                have em1 : IntKind.u64.wrap (m + 1) = m1 := by rw [hm1]; exact u64w _ (by have := JB.out; have := NB.out; omega) (by have := JB.out; have := NB.out; omega)
                have er : m1.tmod 2 = 0 := by rw [Int.tmod_eq_emod_of_nonneg (by have := JB.out; have := NB.out; omega)]; omega
                have OKJ : Hid (okJ n (j + 1) = false) := Lib.hid (by
                  unfold okJ
                  have := JB.out
                  simp
                  omega)
                clear hG11 hm1 xs0 xs1 xs2 w00 w64 em hp PB
                go_wp2_with fail
                go_roundw
                case rel => exact ⟨j + 1, t2, m1, rfl, rfl, by rw [OKJ.out], Lib.hid ⟨by have := JB.out; have := HH.out; omega, by have := JB.out; have := M1.out; push_cast; omega, by have := JB.out; omega⟩, Lib.hid ⟨HB11.out, R11.out⟩⟩
                case measure => have := JB.out; have := HH.out; simp [intOf]; omega
        · have hjc : j = cntF L s.xs i := by have := HJ.out.2.2; omega
          have JE : Hid (t' = 52 * (i + cntF L s.xs i) ∧ m = n + (cntF L s.xs i : Int) ∧ j = cntF L s.xs i) := Lib.hid ⟨by rw [← hjc]; exact HJ.out.1, by rw [← hjc]; exact HJ.out.2.1, hjc⟩
          clear hjc
          have X : (okJ n j = false) ∨ (okJ n j = true ∧ sn ≤ t') := by
            have h1 := JE.out
            have h2 := NB.out.1
            have h3 := SN.out
            unfold okJ
            rcases cntF_cases L s.xs i with ⟨q1, q2, _⟩ | ⟨q1, q2⟩
            · left; simp; omega
            · by_cases hn2 : n % 2 = 1
              · left; simp; omega
              · right; simp; omega
          obtain ⟨D1, hD1⟩ : ∃ D1, stepW Di K (secJ L s.xs i (sectorD Di K) j) = D1 := ⟨_, rfl⟩
          have RUN : Hid ((D1.off = true → flW L s.xs s.xs.length 0 D = D1) ∧ (D1.off = false → ∃ f', flW L s.xs f' (i + cntF L s.xs i) D1 = flW L s.xs s.xs.length 0 D ∧ s.xs.length ≤ 52 * (i + cntF L s.xs i + f')) ∧ D1.sectors = Di.sectors ∧ D1.most = Di.most) := Lib.hid (by
            obtain ⟨f, hf, hl⟩ := HI.out.run
            have hs := stepW_size Di K (secJ L s.xs i (sectorD Di K) j)
            rw [hD1] at hs
            have h := flW_step (D1 := D1) IB.out.2 hl (by rw [NB.out.1, HK.out, ← JE.out.2.2]; exact hD1)
            exact ⟨fun ho => by rw [← hf]; exact h.1 ho, fun ho => by obtain ⟨f', h1, h2⟩ := h.2 ho; exact ⟨f', by rw [← hf, h1], h2⟩, hs.1, hs.2⟩)
          have R8 := Lib.hid HW.out.2
          have R8d := Lib.hid (R8.out.only ((Only.refl [] w8).drew) (by simp))
          have GC : Hid (g ≤ w8.heap.size) := Lib.hid (Nat.le_of_lt HW.out.2.lt)
          have B8d : Hid (Below g w6 w8.drew) := Lib.hid (B8.out.trans ((Only.refl [] w8).drew.toBelow GC.out (by simp)))
          have c11 := (Y6.out w8 B8.out).2.2.2.2.2
          obtain ⟨m', hm'⟩ : ∃ m', m - 1 = m' := ⟨_, rfl⟩
          have em' : IntKind.u64.wrap (m - 1) = m' := by rw [hm']; exact u64w _ (by have := JE.out; have := NB.out; have := N1.out; omega) (by have := JE.out; have := NB.out; have := N1.out; omega)
          have SK : Hid (∀ y, Below g w6 y → Calls Try.prog 36 #[.pointer (some ⟨q, 0, none⟩), .int .u64 m'] y fun e w' => e = .returned (.int .i64 K) ∧ Only [] y w') := Lib.hid fun y hy => by
            have h := sector_on (Y6.out y hy).1.row m' (by have := JE.out; have := NB.out; have := N1.out; omega) (by have := JE.out; have := NB.out; have := N1.out; omega) OK.out.cnt OK.out.at_
            have e : secL L m' = K := by
              rw [← HK.out]
              unfold secL
              rw [show m' / 2 = n / 2 by
                have h1 := JE.out
                have h2 := NB.out.1
                rcases cntF_cases L s.xs i with ⟨q1, q2, _⟩ | ⟨q1, q2⟩ <;> omega]
            rw [e] at h
            exact h
          have WR : Hid (∀ y, Below g w6 y → Row y g (bytesV (secJ L s.xs i (sectorD Di K) j)) tSec → Calls Try.prog 25 #[.pointer (some ⟨p, 0, none⟩), .int .i64 K, .slice (some ⟨g, 0, none⟩) 128 128] y (dk.DoneTo W p F D1 (errOff D1.off) y)) := Lib.hid fun y hy hr => by
            have h := write_dev (k := K) (g := g) (off := 0) (cap := 128) (s := secJ L s.xs i (sectorD Di K) j) (Y6.out y hy).1.dev (by rw [← HK.out]; exact IN.out.1) (by rw [← HK.out]; exact IN.out.2) HI.out.hm (secJ_is (dk.sectorD_is HI.out.lg.dev.fine K) OK.out.by_ j) (bytes_row hr) (by omega)
            rw [hD1] at h
            exact h
          unfold dk.DoneTo at WR
          have SC : Hid (∀ y, Below g w6 y → y.cell? ⟨q, 0, none⟩ = some (.pointer (some ⟨p, 0, none⟩))) := Lib.hid fun y hy => (Y6.out y hy).2.2.2.1
          clear hgo HW hD1 hm'
          rcases X with hb | ⟨hb, hge⟩
          all_goals
            rw [hb] at h9
            subst h9
            try have d5 : decide ((t' : Int) < (sn : Int)) = false := decide_eq_false (by omega)
            try have d5' : decide (t' < sn) = false := decide_eq_false (by omega)
            clear hb
            go_upto_region 20 with fail
            by_cases hoff : D1.off = true
            · have OFF := Lib.hid hoff
              rw [hoff] at WR
              have e6 : errOff true = 6 := rfl
              rw [e6] at WR
              clear hoff e6
              go_region_held3 (fun x => x.cell? ⟨q, 0, none⟩ = some (.pointer (some ⟨p, 0, none⟩))) (first | exact C12.out | exact C11.out | exact SC.out _ K10.out | exact SC.out _ B8d.out)
                (first
                  | (go_at_call 35; refine (fails_no LG11.out.row).mono ?_; rintro _ w12 ⟨rfl, r12, k12⟩; have R12 := Lib.hid r12; have K12 := Lib.hid k12; have C12 : Hid (w12.cell? ⟨q, 0, none⟩ = some (.pointer (some ⟨p, 0, none⟩))) := Lib.hid (r12.cell 0); clear r12 k12)
                  | (go_at_call 25; refine (WR.out w10 K10.out R10.out).mono ?_; rintro _ w11 ⟨rfl, d11, o11⟩; have LG11 : Hid (LgAt W w11 p q D1 F L s.v) := Lib.hid ⟨d11, (Y6.out w10 K10.out).1.row.only o11 QW.out.2.1, QW.out.2.1, QW.out.2.2⟩; have K11 := Lib.hid o11; have C11 : Hid (w11.cell? ⟨q, 0, none⟩ = some (.pointer (some ⟨p, 0, none⟩))) := Lib.hid (LG11.out.row.cell 0); clear d11 o11)
                  | (go_at_call 36; refine (SK.out _ B8d.out).mono ?_; rintro _ w10 ⟨rfl, k10⟩; have K10 : Hid (Below g w6 w10) := Lib.hid (B8d.out.trans (k10.toBelow GC.out (by simp))); have R10 := Lib.hid (R8d.out.only k10 (by simp)); clear k10))
              have N : Hid (FlushPost W p q D F L s w2 (.returned (.int .i64 6)) w12) := Lib.hid (by
                have e : flD L s.xs D = D1 := by unfold flD; rw [RUN.out.1 OFF.out, if_pos OFF.out]
                left
                rw [e]
                refine ⟨OFF.out, rfl, ⟨LG11.out.dev.only K12.out (by simpa using QW.out.2.1) (by simpa using QW.out.2.2), R12.out, QW.out.2.1, QW.out.2.2⟩, ?_⟩
                exact ((((Y6.out w10 K10.out).2.2.1.mono (fun b hb => .inl (List.mem_cons_of_mem _ hb))).trans K11.out (fun b hb => .inl (List.mem_cons_of_mem _ hb)))).trans K12.out (fun b hb => .inl (by simp at hb; simp [hb])))
              go_wp2_with fail
              go_ret
              exact N.out
            · have hoff' : D1.off = false := by simpa using hoff
              have OFF := Lib.hid hoff'
              rw [hoff'] at WR
              have e6 : errOff false = 0 := rfl
              rw [e6] at WR
              clear hoff hoff' e6
              go_region_held3 (fun x => x.cell? ⟨q, 0, none⟩ = some (.pointer (some ⟨p, 0, none⟩))) (first | exact C11.out | exact SC.out _ K10.out | exact SC.out _ B8d.out)
                (first
                  | (go_at_call 35; refine (fails_ok q w11).mono ?_; rintro _ w' ⟨rfl, hw'⟩; subst w')
                  | (go_at_call 25; refine (WR.out w10 K10.out R10.out).mono ?_; rintro _ w11 ⟨rfl, d11, o11⟩; have LG11 : Hid (LgAt W w11 p q D1 F L s.v) := Lib.hid ⟨d11, (Y6.out w10 K10.out).1.row.only o11 QW.out.2.1, QW.out.2.1, QW.out.2.2⟩; have K11 := Lib.hid o11; have C11 : Hid (w11.cell? ⟨q, 0, none⟩ = some (.pointer (some ⟨p, 0, none⟩))) := Lib.hid (LG11.out.row.cell 0); clear d11 o11)
                  | (go_at_call 36; refine (SK.out _ B8d.out).mono ?_; rintro _ w10 ⟨rfl, k10⟩; have K10 : Hid (Below g w6 w10) := Lib.hid (B8d.out.trans (k10.toBelow GC.out (by simp))); have R10 := Lib.hid (R8d.out.only k10 (by simp)); clear k10))
              have F11 : Hid (FlI W w2 w11 p q D F L s (i + cntF L s.xs i) D1) := Lib.hid ⟨LG11.out, (Y6.out w10 K10.out).2.2.1.trans K11.out (fun b hb => .inl hb), OFF.out, by rw [RUN.out.2.2.1]; exact HI.out.ha, by rw [RUN.out.2.2.1, RUN.out.2.2.2]; exact HI.out.hm, RUN.out.2.1 OFF.out⟩
              go_wp2_with fail
              go_roundw
              case rel => exact ⟨i + cntF L s.xs i, t', rfl, Lib.hid JE.out.1, Lib.hid ⟨D1, F11.out⟩⟩
              case measure => have := JE.out; have := N1.out; have := LT.out; have := HT.out; simp [intOf]; omega
    · have d3 : decide ((t : Int) < (sn : Int)) = false := decide_eq_false (by omega)
      have d3' : decide (t < sn) = false := decide_eq_false hlt
      obtain ⟨D2, hD2⟩ : ∃ D2, stepS Di = D2 := ⟨_, rfl⟩
      have DE : Hid (flD L s.xs D = D2) := Lib.hid (by
        obtain ⟨f, hf, _⟩ := HI.out.run
        rw [flW_end (by rw [SN.out]; have := HT.out; omega)] at hf
        unfold flD
        rw [← hf, if_neg (by simp [HI.out.off]), hD2])
      have SY : Hid (Calls Try.prog 38 #[.pointer (some ⟨p, 0, none⟩)] w3 (dk.DoneTo W p F D2 (errOff D2.off) w3)) := Lib.hid (by have h := sync_dev HI.out.lg.dev; rw [hD2] at h; exact h)
      unfold dk.DoneTo at SY
      have c0 : w3.cell? ⟨q, 0, none⟩ = some (.pointer (some ⟨p, 0, none⟩)) := HI.out.lg.row.cell 0
      clear hlt hD2
      go_wp2_with fail
      refine SY.out.mono ?_
      rintro _ w4 ⟨rfl, hd4, ho4⟩
      have LG4 : Hid (LgAt W w4 p q D2 F L s.v) := Lib.hid ⟨hd4, HI.out.lg.row.only ho4 QW.out.2.1, QW.out.2.1, QW.out.2.2⟩
      have O4 : Hid (Only F w2 w4) := Lib.hid (HI.out.on.trans ho4 (fun b hb => .inl hb))
      clear hd4 ho4 SY c0 c11
      by_cases hoff : D2.off = true
      · have OFF := Lib.hid hoff
        rw [hoff, show errOff true = 6 from rfl]
        clear hoff
        go_wp2_with fail
        refine (fails_no LG4.out.row).mono ?_
        rintro _ w5 ⟨rfl, hr5, ho5⟩
        have N : Hid (FlushPost W p q D F L s w2 (.returned (.int .i64 6)) w5) := Lib.hid (by
          left
          rw [DE.out]
          exact ⟨OFF.out, rfl, ⟨LG4.out.dev.only ho5 (by simpa using QW.out.2.1) (by simpa using QW.out.2.2), hr5, QW.out.2.1, QW.out.2.2⟩, (O4.out.mono (fun b hb => .inl (List.mem_cons_of_mem _ hb))).trans ho5 (fun b hb => .inl (by simp at hb; simp [hb]))⟩)
        clear hr5 ho5
        go_wp2_with fail
        go_ret
        exact N.out
      · have hoff' : D2.off = false := by simpa using hoff
        have OFF := Lib.hid hoff'
        rw [hoff', show errOff false = 0 from rfl]
        clear hoff hoff'
        go_wp2_with fail
        refine (fails_ok q w4).mono ?_
        rintro _ w' ⟨rfl, hw'⟩
        subst w'
        obtain ⟨E0, hE0⟩ : ∃ E0, L.end_ / 52 = E0 := ⟨_, rfl⟩
        obtain ⟨E52, hE52⟩ : ∃ E52, E0 * 52 = E52 := ⟨_, rfl⟩
        obtain ⟨N52, hN52⟩ : ∃ N52, N0 * 52 = N52 := ⟨_, rfl⟩
        have q1 := OK.out.f0
        have q2 := OK.out.e0
        have q3 := HN.out
        have q4 : L.fl / 52 ≤ L.end_ / 52 := Int.ediv_le_ediv (by omega) q2.1
        have FK : Hid (flK L ≤ s.xs.length ∧ E52 - N52 = (flK L : Int)) := Lib.hid (by
          have h := OK.out.len
          unfold flK
          omega)
        have e1 : L.end_.tdiv 52 = E0 := by rw [Int.tdiv_eq_ediv_of_nonneg (by omega), hE0]
        have wE : IntKind.u64.wrap E0 = E0 := u64w _ (by omega) (by omega)
        have wE52 : IntKind.u64.wrap (E0 * 52) = E52 := by rw [hE52]; exact u64w _ (by omega) (by omega)
        have wN52 : IntKind.u64.wrap (N0 * 52) = N52 := by rw [hN52]; exact u64w _ (by omega) (by omega)
        have wsub : IntKind.u64.wrap (E52 - N52) = (flK L : Int) := by rw [FK.out.2]; exact u64w _ (by omega) (by have := FK.out.1; have := TL.out.bk.le; omega)
        obtain ⟨ca, cl, cc, hcv⟩ : ∃ a l c, (s.cut (flK L) s.xs.length).v = .slice a l c := ⟨_, _, _, rfl⟩
        have RT : ∀ y, (Instr.slice 32 (.slice sa sn sc) (some (.int .u64 (flK L : Int))) none none).run Try.prog y = .ok (.slice ca cl cc) y := fun y => by
          have h := run_tail Try.underlying32 infoBy .u64 s FK.out.1 y
          rw [hcv, SAC.out.1, SN.out, SAC.out.2] at h
          exact h
        have CVL : Hid ((s.cut (flK L) s.xs.length).v = .slice ca cl cc) := Lib.hid hcv
        obtain ⟨fk, hfk⟩ : ∃ fk, flK L = fk := ⟨_, rfl⟩
        rw [hfk] at wsub RT
        have c8 : w4.cell? ⟨q, 8, none⟩ = some (.int .u64 L.end_) := LG4.out.row.cell 8
        have c9 : w4.cell? ⟨q, 9, none⟩ = some (.int .u64 L.fl) := LG4.out.row.cell 9
        have f9 := LG4.out.row.free 9
        have R5 : Hid (Row (w4.setCell ⟨q, 9, none⟩ (.int .u64 L.end_)) q ((flL L).cells (.pointer (some ⟨p, 0, none⟩)) s.v) 66) := Lib.hid (by
          have h := LG4.out.row.set 9 (.int .u64 L.end_)
          simpa [Lg.cells, flL] using h)
        clear hE0 hE52 hN52 q1 q2 q3 q4 hcv hfk
        go_upto_region 25 with fail
        clear c8 c9 f9
        generalize hw5 : w4.setCell ⟨q, 9, none⟩ (.int .u64 L.end_) = w5 at *
        have O5 : Hid (Only [q] w4 w5) := Lib.hid (by rw [← hw5]; exact (Only.refl [q] w4).setCell (.inl (by simp)) _)
        clear hw5
        have c8 : w5.cell? ⟨q, 8, none⟩ = some (.int .u64 L.end_) := R5.out.cell 8
        have c11 : w5.cell? ⟨q, 11, none⟩ = some (.slice sa sn sc) := by rw [← SV.out]; exact R5.out.cell 11
        have c8' : w5.drew.cell? ⟨q, 8, none⟩ = some (.int .u64 L.end_) := R5.out.cell 8
        have c11' : w5.drew.cell? ⟨q, 11, none⟩ = some (.slice sa sn sc) := by rw [← SV.out]; exact R5.out.cell 11
        have f11 := R5.out.free 11
        have f11' : w5.drew.frozen? ⟨q, 11, none⟩ = false := R5.out.free 11
        have N : Hid (∀ y, Only [q] w5 y → Row y q (((flL L).cells (.pointer (some ⟨p, 0, none⟩)) s.v).setIfInBounds 11 (.slice ca cl cc)) 66 → FlushPost W p q D F L s w2 (.returned (.int .i64 0)) y) := Lib.hid fun y hy hr => by
          right
          rw [DE.out]
          have o := O5.out.trans hy (fun b hb => .inl hb)
          refine ⟨OFF.out, rfl, ⟨LG4.out.dev.only o (by simpa using QW.out.2.1) (by simpa using QW.out.2.2), ?_, QW.out.2.1, QW.out.2.2⟩, (O4.out.mono (fun b hb => .inl (List.mem_cons_of_mem _ hb))).trans o (fun b hb => .inl (by simp at hb; simp [hb]))⟩
          rw [CVL.out]
          simpa [Lg.cells, flL] using hr
        go_region
        all_goals
          clear c8 c11 c8' c11' f11 f11' e1 wE wE52 wN52 wsub RT
          go_wp2_with fail
          go_ret
          first
            | exact N.out _ ((Only.refl [q] w5).setCell (.inl (by simp)) _) (R5.out.set 11 _)
            | exact N.out _ ((Only.refl [q] w5).drew.setCell (.inl (by simp)) _) (R5.out.set 11 _)
            | exact N.out _ ((Only.refl [q] w5).setCell (.inl (by simp)) _).drew (R5.out.set 11 _)
end Go.Proofs.Ytekdogmhgijocaa
