/- wal: Open of any log whose masters and pieces are there (printed by gen_open.py). -/
import Derived.Test.YtekdogmhgijocaaWbH
import Derived.Test.YtekdogmhgijocaaMg23
namespace Go.Proofs.Ytekdogmhgijocaa
open Go.RowKit Go.ChangeShapes Go.WideShapes Go.ChangeAt
open Go.Proofs.Ytekdogmhgijocaa.dk (Dk Dev sectorD)
set_option linter.unusedVariables false
set_option linter.unusedSimpArgs false

theorem masO_gen {seq ep st pt ct : Int} (ok : MasOk seq ep st pt ct) : masO (masterB seq ep st pt ct) = #[Value.int .u64 seq, .int .u32 ep, .int .u64 st, .int .u64 pt, .int .u64 ct] := by
  obtain ⟨h1, h2, h3, h4, h5⟩ := ok
  have d0 : (masterB seq ep st pt ct).take 4 = leB 1735347286 4 := by
    unfold masterB masterH
    simp only [List.append_assoc]
    rw [List.take_left' (leB_len _ _)]
  have key : ∀ (k : Nat) (a : Int) (l : List Int), (leB a k ++ l).drop k = l := fun k a l => List.drop_left' (leB_len _ _)
  have tk : ∀ (k : Nat) (a : Int) (l : List Int), (leB a k ++ l).take k = leB a k := fun k a l => List.take_left' (leB_len _ _)
  have e : masterB seq ep st pt ct = leB 1735347286 4 ++ (leB seq 8 ++ (leB ep 4 ++ (leB st 8 ++ (leB pt 8 ++ (leB ct 8 ++ List.replicate 88 0))))) := by unfold masterB masterH; simp only [List.append_assoc]
  have q1 : (masterB seq ep st pt ct).drop 4 = leB seq 8 ++ (leB ep 4 ++ (leB st 8 ++ (leB pt 8 ++ (leB ct 8 ++ List.replicate 88 0)))) := by rw [e, key]
  have q2 : (masterB seq ep st pt ct).drop 12 = leB ep 4 ++ (leB st 8 ++ (leB pt 8 ++ (leB ct 8 ++ List.replicate 88 0))) := by rw [show (12 : Nat) = 4 + 8 from rfl, ← List.drop_drop, q1, key]
  have q3 : (masterB seq ep st pt ct).drop 16 = leB st 8 ++ (leB pt 8 ++ (leB ct 8 ++ List.replicate 88 0)) := by rw [show (16 : Nat) = 12 + 4 from rfl, ← List.drop_drop, q2, key]
  have q4 : (masterB seq ep st pt ct).drop 24 = leB pt 8 ++ (leB ct 8 ++ List.replicate 88 0) := by rw [show (24 : Nat) = 16 + 8 from rfl, ← List.drop_drop, q3, key]
  have q5 : (masterB seq ep st pt ct).drop 32 = leB ct 8 ++ List.replicate 88 0 := by rw [show (32 : Nat) = 24 + 8 from rfl, ← List.drop_drop, q4, key]
  unfold masO fld
  rw [d0, leN_leB 4 _ (by decide) (by decide), if_pos rfl, q1, q2, q3, q4, q5]
  simp only [tk]
  rw [leN_leB 8 _ h1.1 (by omega), leN_leB 4 _ h2.1 (by omega), leN_leB 8 _ h3.1 (by omega), leN_leB 8 _ h4.1 (by omega), leN_leB 8 _ h5.1 (by omega)]
def knG (at_ count s0 e0 t0 p0 c0 ks ke kt kp kc : Int) (i : Nat) : Lg := if i = 0 then lg0 at_ count else if i = 1 then { lg0 at_ count with seq := s0, ep := e0, st := t0, pt := p0, ct := c0 } else { lg0 at_ count with seq := ks, ep := ke, st := kt, pt := kp, ct := kc }
theorem own_bk {w : World} {base : Nat} {v : Value} {xs : List Int} (h : w.ownsRow base 5 1 v xs.length (xs.map (Value.int .u8))) (hl : xs.length ≤ 1000000) : ∃ s : Sl, s.v = v ∧ s.xs = xs ∧ Bk w s ∧ ∀ b ∈ s.bs, base ≤ b := by
  rcases h.2 with ⟨rfl, h0⟩ | ⟨g, cap, cur, rfl, hb, hg, hc, hm, hs, ht⟩
  · have : xs = [] := List.length_eq_zero_iff.1 h0
    subst this
    exact ⟨Sl.no, rfl, rfl, Bk.no w, by simp [Sl.bs, Sl.no]⟩
  · refine ⟨⟨some ⟨g, 0, none⟩, cap, xs⟩, rfl, rfl, ⟨hl, ⟨hc, hm⟩, fun h => by simp at h, fun ad ha => ?_⟩, fun b hb' => by simp [Sl.bs] at hb'; omega⟩
    simp only [Option.some.injEq] at ha
    subst ha
    exact ⟨g, 0, cur, rfl, hg, fun _ => by simp only at *; omega, by simpa using ht⟩
/-- The records from e on end at E: what stands there is refused. -/
inductive Chain (all : List Int) (fr : Nat) : Nat → Nat → Prop where
  | stop (e : Nat) : fr ≤ e → e - fr ≤ all.length → (∀ (y : World) (sl : Sl), SlRd .u8 y sl → sl.xs = all.drop (e - fr) → sl.xs.length ≤ sl.c → Calls Try.prog 33 #[sl.v] y (ShortPost y)) → Chain all fr e e
  | step (e E : Nat) (Fm rest : List Int) (kind ep txn pg off : Int) : fr ≤ e → all.drop (e - fr) = Fm ++ rest → 0 < Fm.length → Reads Fm kind (e : Int) ep txn pg off → Chain all fr (e + Fm.length) E → Chain all fr e E
theorem Chain.le {all : List Int} {fr e E : Nat} (h : Chain all fr e E) : fr ≤ e ∧ e ≤ E ∧ e - fr ≤ all.length := by
  induction h with
  | stop e h1 h2 _ => exact ⟨h1, Nat.le_refl _, h2⟩
  | step e E Fm rest kind ep txn pg off h1 h2 h3 _ _ ih => exact ⟨h1, by omega, by
      have := congrArg List.length h2
      rw [List.length_drop, List.length_append] at this
      omega⟩
def endAt (y : World) (q : Nat) : Nat := ((y.cell? ⟨q, 8, none⟩).map fun v => (intOf v).toNat).getD 0
theorem endAt_is {y : World} {q : Nat} {e : Nat} (h : y.cell? ⟨q, 8, none⟩ = some (.int .u64 (e : Int))) : endAt y q = e := by unfold endAt; rw [h]; simp [intOf]
def opG (at_ : Int) (m : Nat) (ks ke kt kp kc la : Int) (E : Nat) : Lg := ⟨at_, m, ks + 1, ke + 1, kt, kp, (E : Int), (E : Int), (E : Int), la, false⟩
def OpenG (W : World) (p : Nat) (F : List Nat) (at_ : Int) (m : Nat) (ks ke kt kp : Int) (E : Nat) (w : World) (e : Ending) (w' : World) : Prop := ∃ D' la tail, e = .returned (.tuple #[.pointer (some ⟨w.heap.size, 0, none⟩), .int .i64 0]) ∧ LgAt W w' p w.heap.size D' F (opG at_ m ks ke kt kp 0 la E) tail ∧ Only F w w'
set_option maxRecDepth 100000 in
set_option maxHeartbeats 16000000 in
theorem open_gen {W w : World} {p : Nat} {D : Dk} {F : List Nat} (h : Dev W w p D F) (hc : dk.Calm D) (hm : D.most = D.sectors) (at_ : Int) (m : Nat) (hl : LogAt D.sectors at_ (m : Int)) {s0 e0 t0 p0 c0 s1 e1 t1 p1 c1 ks ke kt kp kc : Int} (ok0 : MasOk s0 e0 t0 p0 c0) (ok1 : MasOk s1 e1 t1 p1 c1)
    (h0 : sectorD D at_ = masterB s0 e0 t0 p0 c0) (h1 : sectorD D (at_ + 1) = masterB s1 e1 t1 p1 c1) (hp0 : 0 < s0)
    (hsel : (s0 < s1 ∧ ks = s1 ∧ ke = e1 ∧ kt = t1 ∧ kp = p1 ∧ kc = c1) ∨ (s1 < s0 ∧ ks = s0 ∧ ke = e0 ∧ kt = t0 ∧ kp = p0 ∧ kc = c0))
    (okk : MasOk (ks + 1) (ke + 1) kt kp kc) (oke : 0 ≤ ke) (kt1 : kt ≤ 1125899906842624) (kp1 : kp ≤ (kt / 52 + 2 * (m : Int)) * 52)
    {all : List Int} {st fr E : Nat} (hst : kt = (st : Int)) (hfr : st / 52 * 52 = fr) (ho : Holds D ⟨at_, (m : Int), ks, ke, kt, kp, kc, 0, 0, 0, false⟩ all) (hch : Chain all fr st E) (hE : E ≤ 900000) (hall : all.length ≤ 900000) :
    Calls Try.prog 13 #[.pointer (some ⟨p, 0, none⟩), .int .i64 at_, .int .i64 (m : Int)] w (OpenG W p F at_ m ks ke kt kp E w) := by
  obtain ⟨l0, l1, l2, l3, l4⟩ := id hl
  have s1' := h.fine.s1
  have FN := Lib.hid (wfind_ok h at_ (m : Int) hl)
  have FI := Lib.hid h.fine
  have QF : Hid (w.heap.size ∉ F) := Lib.hid fun hf => by have := h.lt _ hf; omega
  have HW : Hid (W.heap.size ≤ w.heap.size) := Lib.hid h.bl.size
  have R : Hid (16 ≤ (m : Int) ∧ (m : Int) ≤ 8192 ∧ 0 ≤ at_ ∧ at_ + (m : Int) + 2 ≤ D.sectors ∧ D.sectors ≤ 65536) := Lib.hid (by omega)
  have I0 : Hid (OpAt W w (w.alloc (.cells ((lg0 at_ (m : Int)).cells (.pointer (some ⟨p, 0, none⟩)) (.slice none 0 0)) 66)) p F D (lg0 at_ (m : Int))) := Lib.hid ⟨⟨h.none ((Only.refl [] _).alloc _), Row.made _ _ _, QF.out, HW.out⟩, (Only.refl _ _).alloc _⟩
  have HM := Lib.hid hm
  have HC := Lib.hid hc
  have HM0 := Lib.hid h0
  have HM1 := Lib.hid h1
  have OK0 := Lib.hid ok0
  have OK1 := Lib.hid ok1
  have OKK := Lib.hid (And.intro okk (And.intro kt1 kp1))
  have HS := Lib.hid hsel
  have OKEP : Hid (0 ≤ ke ∧ ke + 1 < 4294967296) := Lib.hid ⟨oke, okk.e0.2⟩
  have HK := Lib.hid (And.intro hst (And.intro hfr (And.intro hE hall)))
  have HH := Lib.hid ho
  have CH := Lib.hid hch
  have dk0 : decide (0 < s0) = true := decide_eq_true hp0
  have KS : Hid (0 < ks) := Lib.hid (by omega)
  clear oke h hc hm hl l0 l1 l2 l3 l4 s1' h0 h1 ok0 ok1 okk kt1 kp1 hsel hst hfr ho hch hE hp0 hall
  go_enter Try.func13, Try.ntmps13
  go_wp2_with fail
  refine FN.out.mono ?_
  rintro _ w1 ⟨rfl, hw1⟩
  rw [← hw1] at I0
  clear hw1 FN
  go_wp2_with fail
  go_loopw [10, 11, 12, 13, 31] (fun _ _ _ _ u wr => ∃ j : Int, u = .int .i64 j ∧ (j = 0 ∨ j = 1 ∨ j = 2) ∧ Hid (OpAt W w wr p F D (knG at_ (m : Int) s0 e0 t0 p0 c0 ks ke kt kp kc j.toNat))) (fun _ _ _ _ u _ => 2 - (intOf u).toNat)
  case atStart => exact ⟨0, rfl, .inl rfl, Lib.hid I0.out⟩
  case round =>
    clear I0
    obtain ⟨j, rfl, hj, HF⟩ := hrel
    rcases hj with rfl | rfl | rfl
    ·
      have RK := Lib.hid (secMas HF.out.lg HC.out.off (at_) (by have := R.out; omega) (by have := R.out; omega) _ HM0.out #[Value.int .u64 s0, .int .u32 e0, .int .u64 t0, .int .u64 p0, .int .u64 c0] (masO_gen OK0.out))
      have ea : IntKind.i64.wrap (at_ + 0) = at_ := by first | exact IntWalk.i64_in _ (by have := R.out; omega) | (rw [Int.add_zero]; exact IntWalk.i64_in _ (by have := R.out; omega))
      have ea2 : wrap64 (at_) = at_ := by have := R.out; unfold wrap64; omega
      have ea3 : IntKind.i64.wrap (at_) = at_ := IntWalk.i64_in _ (by have := R.out; omega)
      have HI : Hid (OpAt W w wr p F D (knG at_ (m : Int) s0 e0 t0 p0 c0 ks ke kt kp kc 0)) := Lib.hid HF.out
      clear HF
      go_wp2_with fail
      refine RK.out.mono ?_
      rintro _ w2 ⟨rfl, k2, MR'⟩
      have MR := Lib.hid MR'
      have L2 := Lib.hid (HI.out.lg.only k2 (by simp))
      have K2 := Lib.hid (HI.out.only.trans k2 (by simp))
      clear k2 MR' RK
      go_wp2_with fail
      refine MR.out.mono ?_
      rintro _ w3 ⟨rfl, b3⟩
      have k3 : Only [] w2 w3 := (Only.refl [] w2).below b3
      have L3 := Lib.hid (L2.out.only k3 (by simp))
      have K3 := Lib.hid (K2.out.trans k3 (by simp))
      clear b3 k3 MR
      go_upto_region 11 with fail
      have ka : Only [] w3 (w3.alloc (.cells #[Value.int .u64 s0, .int .u32 e0, .int .u64 t0, .int .u64 p0, .int .u64 c0] 64)) := (Only.refl [] w3).alloc _
      have L4 := Lib.hid (L3.out.only ka (by simp))
      have K4 := Lib.hid (K3.out.trans ka (by simp))
      have X4 : Hid (Row (w3.alloc (.cells #[Value.int .u64 s0, .int .u32 e0, .int .u64 t0, .int .u64 p0, .int .u64 c0] 64)) w3.heap.size #[Value.int .u64 s0, .int .u32 e0, .int .u64 t0, .int .u64 p0, .int .u64 c0] 64) := Lib.hid (Row.made _ _ _)
      have XW : Hid (w.heap.size < w3.heap.size) := Lib.hid L3.out.row.lt
      clear ka
      generalize w3.alloc (.cells #[Value.int .u64 s0, .int .u32 e0, .int .u64 t0, .int .u64 p0, .int .u64 c0] 64) = w4 at *
      have x0 : w4.cell? ⟨w3.heap.size, 0, none⟩ = some (.int .u64 s0) := X4.out.cell 0
      have q3 : w4.cell? ⟨w.heap.size, 3, none⟩ = some (.int .u64 0) := L4.out.row.cell 3
      go_quiet (fail)
      clear x0 q3
      generalize hy : World.drewN w4 _ = y
      have ky : Only [] w4 y := by rw [← hy]; exact (Only.refl _ _).drewN _
      clear hy
      have L5 := Lib.hid (L4.out.only ky (by simp))
      have K5 := Lib.hid (K4.out.trans ky (by simp))
      have X5 := Lib.hid (X4.out.only ky (by simp))
      clear ky
      have x0 : y.cell? ⟨w3.heap.size, 0, none⟩ = some (.int .u64 s0) := X5.out.cell 0
      have x1 : y.cell? ⟨w3.heap.size, 1, none⟩ = some (.int .u32 e0) := X5.out.cell 1
      have x2 : y.cell? ⟨w3.heap.size, 2, none⟩ = some (.int .u64 t0) := X5.out.cell 2
      have x3 : y.cell? ⟨w3.heap.size, 3, none⟩ = some (.int .u64 p0) := X5.out.cell 3
      have x4 : y.cell? ⟨w3.heap.size, 4, none⟩ = some (.int .u64 c0) := X5.out.cell 4
      have q3 : y.cell? ⟨w.heap.size, 3, none⟩ = some (.int .u64 0) := L5.out.row.cell 3
      have q4 : y.cell? ⟨w.heap.size, 4, none⟩ = some (.int .u32 0) := L5.out.row.cell 4
      have q5 : y.cell? ⟨w.heap.size, 5, none⟩ = some (.int .u64 0) := L5.out.row.cell 5
      have q6 : y.cell? ⟨w.heap.size, 6, none⟩ = some (.int .u64 0) := L5.out.row.cell 6
      have q7 : y.cell? ⟨w.heap.size, 7, none⟩ = some (.int .u64 0) := L5.out.row.cell 7
      have f3 := L5.out.row.free 3
      have f4 := L5.out.row.free 4
      have f5 := L5.out.row.free 5
      have f6 := L5.out.row.free 6
      have f7 := L5.out.row.free 7
      have hxw : w.heap.size < w3.heap.size := XW.out
      have kk : Only [w.heap.size] y (((((y.setCell ⟨w.heap.size, 3, none⟩ (.int .u64 s0)).setCell ⟨w.heap.size, 4, none⟩ (.int .u32 e0)).setCell ⟨w.heap.size, 5, none⟩ (.int .u64 t0)).setCell ⟨w.heap.size, 6, none⟩ (.int .u64 p0)).setCell ⟨w.heap.size, 7, none⟩ (.int .u64 c0)) := ((((((Only.refl [w.heap.size] y).setCell (.inl (by simp)) _).setCell (.inl (by simp)) _).setCell (.inl (by simp)) _).setCell (.inl (by simp)) _).setCell (.inl (by simp)) _)
      have N5 : Hid (OpAt W w (((((y.setCell ⟨w.heap.size, 3, none⟩ (.int .u64 s0)).setCell ⟨w.heap.size, 4, none⟩ (.int .u32 e0)).setCell ⟨w.heap.size, 5, none⟩ (.int .u64 t0)).setCell ⟨w.heap.size, 6, none⟩ (.int .u64 p0)).setCell ⟨w.heap.size, 7, none⟩ (.int .u64 c0)) p F D (knG at_ (m : Int) s0 e0 t0 p0 c0 ks ke kt kp kc 1)) := Lib.hid ⟨⟨L5.out.dev.only kk (by simpa using QF.out) (by simpa using HW.out), by
        have h := (((((L5.out.row.set 3 (.int .u64 s0)).set 4 (.int .u32 e0)).set 5 (.int .u64 t0)).set 6 (.int .u64 p0)).set 7 (.int .u64 c0))
        simpa [Lg.cells, knG, lg0] using h, QF.out, HW.out⟩, K5.out.trans kk fun z hz => .inr (by simp at hz; omega)⟩
      clear kk
      go_wp2_with fail
      go_roundw
      case rel => exact ⟨1, by first | rfl | go_num, .inr (.inl rfl), N5⟩
      case measure => simp [intOf]

    · rcases HS.out with ⟨hlt, rfl, rfl, rfl, rfl, rfl⟩ | ⟨hlt, rfl, rfl, rfl, rfl, rfl⟩
      · have d1 : decide (s0 < ks) = true := decide_eq_true hlt
        clear hlt
        have RK := Lib.hid (secMas HF.out.lg HC.out.off (at_ + 1) (by have := R.out; omega) (by have := R.out; omega) _ HM1.out #[Value.int .u64 ks, .int .u32 ke, .int .u64 kt, .int .u64 kp, .int .u64 kc] (masO_gen OK1.out))
        have ea : IntKind.i64.wrap (at_ + 1) = at_ + 1 := by first | exact IntWalk.i64_in _ (by have := R.out; omega) | (rw [Int.add_zero]; exact IntWalk.i64_in _ (by have := R.out; omega))
        have ea2 : wrap64 (at_ + 1) = at_ + 1 := by have := R.out; unfold wrap64; omega
        have ea3 : IntKind.i64.wrap (at_ + 1) = at_ + 1 := IntWalk.i64_in _ (by have := R.out; omega)
        have HI : Hid (OpAt W w wr p F D (knG at_ (m : Int) s0 e0 t0 p0 c0 ks ke kt kp kc 1)) := Lib.hid HF.out
        clear HF
        go_wp2_with fail
        refine RK.out.mono ?_
        rintro _ w2 ⟨rfl, k2, MR'⟩
        have MR := Lib.hid MR'
        have L2 := Lib.hid (HI.out.lg.only k2 (by simp))
        have K2 := Lib.hid (HI.out.only.trans k2 (by simp))
        clear k2 MR' RK
        go_wp2_with fail
        refine MR.out.mono ?_
        rintro _ w3 ⟨rfl, b3⟩
        have k3 : Only [] w2 w3 := (Only.refl [] w2).below b3
        have L3 := Lib.hid (L2.out.only k3 (by simp))
        have K3 := Lib.hid (K2.out.trans k3 (by simp))
        clear b3 k3 MR
        go_upto_region 11 with fail
        have ka : Only [] w3 (w3.alloc (.cells #[Value.int .u64 ks, .int .u32 ke, .int .u64 kt, .int .u64 kp, .int .u64 kc] 64)) := (Only.refl [] w3).alloc _
        have L4 := Lib.hid (L3.out.only ka (by simp))
        have K4 := Lib.hid (K3.out.trans ka (by simp))
        have X4 : Hid (Row (w3.alloc (.cells #[Value.int .u64 ks, .int .u32 ke, .int .u64 kt, .int .u64 kp, .int .u64 kc] 64)) w3.heap.size #[Value.int .u64 ks, .int .u32 ke, .int .u64 kt, .int .u64 kp, .int .u64 kc] 64) := Lib.hid (Row.made _ _ _)
        have XW : Hid (w.heap.size < w3.heap.size) := Lib.hid L3.out.row.lt
        clear ka
        generalize w3.alloc (.cells #[Value.int .u64 ks, .int .u32 ke, .int .u64 kt, .int .u64 kp, .int .u64 kc] 64) = w4 at *
        have x0 : w4.cell? ⟨w3.heap.size, 0, none⟩ = some (.int .u64 ks) := X4.out.cell 0
        have q3 : w4.cell? ⟨w.heap.size, 3, none⟩ = some (.int .u64 s0) := L4.out.row.cell 3
        go_quiet (fail)
        clear x0 q3
        generalize hy : World.drewN w4 _ = y
        have ky : Only [] w4 y := by rw [← hy]; exact (Only.refl _ _).drewN _
        clear hy
        have L5 := Lib.hid (L4.out.only ky (by simp))
        have K5 := Lib.hid (K4.out.trans ky (by simp))
        have X5 := Lib.hid (X4.out.only ky (by simp))
        clear ky
        have x0 : y.cell? ⟨w3.heap.size, 0, none⟩ = some (.int .u64 ks) := X5.out.cell 0
        have x1 : y.cell? ⟨w3.heap.size, 1, none⟩ = some (.int .u32 ke) := X5.out.cell 1
        have x2 : y.cell? ⟨w3.heap.size, 2, none⟩ = some (.int .u64 kt) := X5.out.cell 2
        have x3 : y.cell? ⟨w3.heap.size, 3, none⟩ = some (.int .u64 kp) := X5.out.cell 3
        have x4 : y.cell? ⟨w3.heap.size, 4, none⟩ = some (.int .u64 kc) := X5.out.cell 4
        have q3 : y.cell? ⟨w.heap.size, 3, none⟩ = some (.int .u64 s0) := L5.out.row.cell 3
        have q4 : y.cell? ⟨w.heap.size, 4, none⟩ = some (.int .u32 e0) := L5.out.row.cell 4
        have q5 : y.cell? ⟨w.heap.size, 5, none⟩ = some (.int .u64 t0) := L5.out.row.cell 5
        have q6 : y.cell? ⟨w.heap.size, 6, none⟩ = some (.int .u64 p0) := L5.out.row.cell 6
        have q7 : y.cell? ⟨w.heap.size, 7, none⟩ = some (.int .u64 c0) := L5.out.row.cell 7
        have f3 := L5.out.row.free 3
        have f4 := L5.out.row.free 4
        have f5 := L5.out.row.free 5
        have f6 := L5.out.row.free 6
        have f7 := L5.out.row.free 7
        have hxw : w.heap.size < w3.heap.size := XW.out
        have kk : Only [w.heap.size] y (((((y.setCell ⟨w.heap.size, 3, none⟩ (.int .u64 ks)).setCell ⟨w.heap.size, 4, none⟩ (.int .u32 ke)).setCell ⟨w.heap.size, 5, none⟩ (.int .u64 kt)).setCell ⟨w.heap.size, 6, none⟩ (.int .u64 kp)).setCell ⟨w.heap.size, 7, none⟩ (.int .u64 kc)) := ((((((Only.refl [w.heap.size] y).setCell (.inl (by simp)) _).setCell (.inl (by simp)) _).setCell (.inl (by simp)) _).setCell (.inl (by simp)) _).setCell (.inl (by simp)) _)
        have N5 : Hid (OpAt W w (((((y.setCell ⟨w.heap.size, 3, none⟩ (.int .u64 ks)).setCell ⟨w.heap.size, 4, none⟩ (.int .u32 ke)).setCell ⟨w.heap.size, 5, none⟩ (.int .u64 kt)).setCell ⟨w.heap.size, 6, none⟩ (.int .u64 kp)).setCell ⟨w.heap.size, 7, none⟩ (.int .u64 kc)) p F D (knG at_ (m : Int) s0 e0 t0 p0 c0 ks ke kt kp kc 2)) := Lib.hid ⟨⟨L5.out.dev.only kk (by simpa using QF.out) (by simpa using HW.out), by
            have h := (((((L5.out.row.set 3 (.int .u64 ks)).set 4 (.int .u32 ke)).set 5 (.int .u64 kt)).set 6 (.int .u64 kp)).set 7 (.int .u64 kc))
            simpa [Lg.cells, knG, lg0] using h, QF.out, HW.out⟩, K5.out.trans kk fun z hz => .inr (by simp at hz; omega)⟩
        clear kk
        go_wp2_with fail
        go_roundw
        case rel => exact ⟨2, by first | rfl | go_num, .inr (.inr rfl), N5⟩
        case measure => simp [intOf]

      · have d1 : decide (ks < s1) = false := decide_eq_false (by omega)
        clear hlt
        have RK := Lib.hid (secMas HF.out.lg HC.out.off (at_ + 1) (by have := R.out; omega) (by have := R.out; omega) _ HM1.out #[Value.int .u64 s1, .int .u32 e1, .int .u64 t1, .int .u64 p1, .int .u64 c1] (masO_gen OK1.out))
        have ea : IntKind.i64.wrap (at_ + 1) = at_ + 1 := by first | exact IntWalk.i64_in _ (by have := R.out; omega) | (rw [Int.add_zero]; exact IntWalk.i64_in _ (by have := R.out; omega))
        have ea2 : wrap64 (at_ + 1) = at_ + 1 := by have := R.out; unfold wrap64; omega
        have ea3 : IntKind.i64.wrap (at_ + 1) = at_ + 1 := IntWalk.i64_in _ (by have := R.out; omega)
        have HI : Hid (OpAt W w wr p F D (knG at_ (m : Int) ks ke kt kp kc ks ke kt kp kc 1)) := Lib.hid HF.out
        clear HF
        go_wp2_with fail
        refine RK.out.mono ?_
        rintro _ w2 ⟨rfl, k2, MR'⟩
        have MR := Lib.hid MR'
        have L2 := Lib.hid (HI.out.lg.only k2 (by simp))
        have K2 := Lib.hid (HI.out.only.trans k2 (by simp))
        clear k2 MR' RK
        go_wp2_with fail
        refine MR.out.mono ?_
        rintro _ w3 ⟨rfl, b3⟩
        have k3 : Only [] w2 w3 := (Only.refl [] w2).below b3
        have L3 := Lib.hid (L2.out.only k3 (by simp))
        have K3 := Lib.hid (K2.out.trans k3 (by simp))
        clear b3 k3 MR
        go_upto_region 11 with fail
        have ka : Only [] w3 (w3.alloc (.cells #[Value.int .u64 s1, .int .u32 e1, .int .u64 t1, .int .u64 p1, .int .u64 c1] 64)) := (Only.refl [] w3).alloc _
        have L4 := Lib.hid (L3.out.only ka (by simp))
        have K4 := Lib.hid (K3.out.trans ka (by simp))
        have X4 : Hid (Row (w3.alloc (.cells #[Value.int .u64 s1, .int .u32 e1, .int .u64 t1, .int .u64 p1, .int .u64 c1] 64)) w3.heap.size #[Value.int .u64 s1, .int .u32 e1, .int .u64 t1, .int .u64 p1, .int .u64 c1] 64) := Lib.hid (Row.made _ _ _)
        have XW : Hid (w.heap.size < w3.heap.size) := Lib.hid L3.out.row.lt
        clear ka
        generalize w3.alloc (.cells #[Value.int .u64 s1, .int .u32 e1, .int .u64 t1, .int .u64 p1, .int .u64 c1] 64) = w4 at *
        have x0 : w4.cell? ⟨w3.heap.size, 0, none⟩ = some (.int .u64 s1) := X4.out.cell 0
        have q3 : w4.cell? ⟨w.heap.size, 3, none⟩ = some (.int .u64 ks) := L4.out.row.cell 3
        go_quiet (fail)
        have N5 : Hid (∀ k, OpAt W w (w4.drewN k) p F D (knG at_ (m : Int) ks ke kt kp kc ks ke kt kp kc 2)) := Lib.hid fun k => ⟨L4.out.only ((Only.refl [] w4).drewN k) (by simp), K4.out.trans ((Only.refl [] w4).drewN k) (by simp)⟩
        clear x0 q3
        go_wp2_with fail
        go_roundw
        case rel => exact ⟨2, by first | rfl | go_num, .inr (.inr rfl), Lib.hid (N5.out _)⟩
        case measure => simp [intOf]

    · have HI : Hid (OpAt W w wr p F D ⟨at_, (m : Int), ks, ke, kt, kp, kc, 0, 0, 0, false⟩) := Lib.hid HF.out
      have OKG := OKK.out
      have LO : Hid (LgOk ⟨at_, (m : Int), ks, ke, kt, kp, kc, 0, 0, 0, false⟩) := Lib.hid ⟨⟨OKG.1.t0.1, OKG.2.1⟩, (by show (0 : Int) ≤ (m : Int) ∧ (m : Int) ≤ 8192; have := R.out; omega), (by show (0 : Int) ≤ 0 ∧ (0 : Int) ≤ (kt / 52 + 2 * (m : Int)) * 52; have := R.out; have := OKG.1.t0; omega), (by show (0 : Int) ≤ ke ∧ ke < 4294967296; have := OKEP.out; omega)⟩
      have FO := Lib.hid (found_on HI.out.lg HC.out.off LO.out (by show 0 < (m : Int); have := R.out; omega) (by show 0 ≤ at_ ∧ at_ + 2 + (m : Int) ≤ D.sectors; have := R.out; omega) HH.out)
      unfold FoundPost at FO
      have q3 : wr.cell? ⟨w.heap.size, 3, none⟩ = some (.int .u64 ks) := HI.out.lg.row.cell 3
      have dks : (ks == 0) = false := by have := KS.out; simp; omega
      clear HF OKG
      go_wp2_with fail
      refine FO.out.mono ?_
      rintro _ w2 ⟨v, rfl, o2, l2, k2, -⟩
      obtain ⟨la, hla⟩ : ∃ la, lastE D ⟨at_, (m : Int), ks, ke, kt, kp, kc, 0, 0, 0, false⟩ ((all.length + 51) / 52) = la := ⟨_, rfl⟩
      rw [hla] at l2
      obtain ⟨sl, rfl, hsx, hbk, hsb⟩ := own_bk o2 (by have := HK.out; omega)
      have L2 : Hid (LgAt W w2 p w.heap.size D F ⟨at_, (m : Int), ks, ke, kt, kp, kc, 0, 0, la, false⟩ (.slice none 0 0)) := Lib.hid l2
      have K2 := Lib.hid (HI.out.only.trans k2 (fun z hz => .inr (by simp at hz; omega)))
      have BK2 := Lib.hid hbk
      have SX := Lib.hid hsx
      have SB : Hid (∀ b ∈ sl.bs, w.heap.size < b) := Lib.hid fun b hb => by have := hsb b hb; have := HI.out.lg.row.lt; omega
      have q5 : w2.cell? ⟨w.heap.size, 5, none⟩ = some (.int .u64 kt) := L2.out.row.cell 5
      have q8 : w2.cell? ⟨w.heap.size, 8, none⟩ = some (.int .u64 0) := L2.out.row.cell 8
      have f8 := L2.out.row.free 8
      obtain ⟨va, hva⟩ : ∃ x, sl.a = x := ⟨_, rfl⟩
      obtain ⟨vn, hvn⟩ : ∃ x, sl.xs.length = x := ⟨_, rfl⟩
      obtain ⟨vc, hvc⟩ : ∃ x, sl.c = x := ⟨_, rfl⟩
      have VV : Hid (sl.v = .slice va vn vc ∧ sl.a = va ∧ sl.xs.length = vn ∧ sl.c = vc ∧ vn = all.length) := Lib.hid ⟨by unfold Sl.v; rw [hva, hvn, hvc], hva, hvn, hvc, by rw [← hvn, SX.out]⟩
      rw [VV.out.1]
      have hk := HK.out
      have hc0 := CH.out.le
      have es : kt.tdiv 52 = kt / 52 := Int.tdiv_eq_ediv_of_nonneg (by omega)
      have wu : ∀ x : Int, 0 ≤ x → x < 18446744073709551616 → IntKind.u64.wrap x = x := fun x h0 h1 => by rw [show IntKind.u64.wrap x = x % 18446744073709551616 from rfl]; omega
      have WU := Lib.hid wu
      have es1 : IntKind.u64.wrap (kt / 52) = kt / 52 := wu _ (by omega) (by omega)
      have es2 : IntKind.u64.wrap (kt / 52 * 52) = (fr : Int) := by rw [show kt / 52 * 52 = (fr : Int) by omega]; exact wu _ (by omega) (by omega)
      clear o2 l2 k2 FO q3 hla hsx hbk hsb hva hvn hvc hk hc0 wu dks
      go_wp2_with fail
      have kq : Only [w.heap.size] w2 (w2.setCell ⟨w.heap.size, 8, none⟩ (.int .u64 kt)) := (Only.refl [w.heap.size] w2).setCell (.inl (by simp)) _
      have I3 : Hid (LgAt W (w2.setCell ⟨w.heap.size, 8, none⟩ (.int .u64 kt)) p w.heap.size D F ⟨at_, (m : Int), ks, ke, kt, kp, kc, ((st : Nat) : Int), 0, la, false⟩ (.slice none 0 0) ∧ Only F w (w2.setCell ⟨w.heap.size, 8, none⟩ (.int .u64 kt)) ∧ Bk (w2.setCell ⟨w.heap.size, 8, none⟩ (.int .u64 kt)) sl ∧ Chain all fr st E) := Lib.hid ⟨⟨L2.out.dev.only kq (by simpa using QF.out) (by simpa using HW.out), by rw [← HK.out.1]; simpa [Lg.cells] using L2.out.row.set 8 (.int .u64 kt), QF.out, HW.out⟩, K2.out.trans kq (fun z hz => .inr (by simp at hz; omega)), BK2.out.only kq (fun b hb hq => by have := SB.out b hb; simp at hq; omega), CH.out⟩
      clear kq q5 q8 f8 L2 K2 BK2
      generalize w2.setCell ⟨w.heap.size, 8, none⟩ (.int .u64 kt) = w3 at *
      go_loopw [16, 17, 18] (fun _ _ _ y => ∃ e : Nat, Hid (LgAt W y p w.heap.size D F ⟨at_, (m : Int), ks, ke, kt, kp, kc, (e : Int), 0, la, false⟩ (.slice none 0 0) ∧ Only F w y ∧ Bk y sl ∧ Chain all fr e E)) (fun _ _ _ y => E + 1 - endAt y w.heap.size)
      case atStart => exact ⟨st, I3⟩
      case round =>
        clear I3
        obtain ⟨e, HQ⟩ := hrel
        rename World => y0
        have hce := HQ.out.2.2.2.le
        have hk := HK.out
        obtain ⟨lo, hlo⟩ : ∃ x, e - fr = x := ⟨_, rfl⟩
        have LOE : Hid (fr + lo = e ∧ lo ≤ vn ∧ e ≤ E ∧ vn = all.length) := Lib.hid (by have := VV.out; omega)
        have q8 : y0.cell? ⟨w.heap.size, 8, none⟩ = some (.int .u64 (e : Int)) := HQ.out.1.row.cell 8
        have g1 : IntKind.u64.wrap ((e : Int) - (fr : Int)) = (lo : Int) := by rw [show (e : Int) - (fr : Int) = (lo : Int) by omega]; exact WU.out _ (by omega) (by omega)
        have g2 : IntKind.u64.wrap (vn : Int) = (vn : Int) := WU.out _ (by omega) (by have := LOE.out; omega)
        have d2 : decide ((lo : Int) ≤ (vn : Int)) = true := decide_eq_true (by have := LOE.out; omega)
        have d2' : decide (lo ≤ vn) = true := decide_eq_true LOE.out.2.1
        have hls : lo ≤ sl.xs.length := by rw [VV.out.2.2.1]; exact LOE.out.2.1
        have CX : Hid ((sl.cut lo sl.xs.length).xs = all.drop (e - fr)) := Lib.hid (by
          unfold Sl.cut
          simp only
          rw [List.take_of_length_le (by rw [List.length_drop]; omega), SX.out, hlo])
        have CB := Lib.hid (HQ.out.2.2.1.tail hls)
        have RT := fun y => run_tail (P := Try.prog) Try.underlying32 infoBy .u64 sl hls y
        obtain ⟨ca, cl, cc, hcv⟩ : ∃ a l c, (sl.cut lo sl.xs.length).v = .slice a l c := ⟨_, _, _, rfl⟩
        have CV := Lib.hid hcv
        have RC : ∀ y, (Instr.slice 32 (.slice va vn vc) (some (.int .u64 (lo : Int))) none none).run Try.prog y = .ok (.slice ca cl cc) y := fun y => by
          have h := RT y
          rw [hcv, VV.out.2.1, VV.out.2.2.1, VV.out.2.2.2.1] at h
          exact h
        clear hce hk hlo hls RT hcv
        have hchain := HQ.out.2.2.2
        cases hchain with
        | stop _ c1 c2 c3 =>
          have RS := Lib.hid (c3 y0 _ CB.out.rd CX.out CB.out.cap.1)
          rw [CV.out] at RS
          unfold ShortPost at RS
          clear c1 c2 c3
          go_wp2_with fail
          refine RS.out.mono ?_
          rintro _ w4 ⟨rfl, b4⟩
          have k4 : Only [] y0 w4 := (Only.refl [] y0).below b4
          have L4 := Lib.hid (HQ.out.1.only k4 (by simp))
          have K4 := Lib.hid (HQ.out.2.1.trans k4 (by simp))
          clear b4 k4 RS q8
          go_upto_region 23 with fail
          have ka : Only [] w4 (w4.alloc (.cells #[Value.int .i64 0, .int .u64 0, .int .u32 0, .int .u64 0, .int .u32 0, .int .u16 0, .slice none 0 0, .slice none 0 0, .slice none 0 0, .int .u64 0, .int .u64 0, .bool false, .int .u64 0, .slice none 0 0, .slice none 0 0] 43)) := (Only.refl [] w4).alloc _
          have L5 := Lib.hid (L4.out.only ka (by simp))
          have K5 := Lib.hid (K4.out.trans ka (by simp))
          clear ka
          generalize w4.alloc (.cells #[Value.int .i64 0, .int .u64 0, .int .u32 0, .int .u64 0, .int .u32 0, .int .u16 0, .slice none 0 0, .slice none 0 0, .slice none 0 0, .int .u64 0, .int .u64 0, .bool false, .int .u64 0, .slice none 0 0, .slice none 0 0] 43) = w5 at *
          go_quiet (fail)
          generalize hy : World.drewN w5 _ = y
          have ky : Only [] w5 y := by rw [← hy]; exact (Only.refl _ _).drewN _
          clear hy
          have L6 := Lib.hid (L5.out.only ky (by simp))
          have K6 := Lib.hid (K5.out.trans ky (by simp))
          clear ky
          have q8 : y.cell? ⟨w.heap.size, 8, none⟩ = some (.int .u64 (E : Int)) := L6.out.row.cell 8
          have q9 : y.cell? ⟨w.heap.size, 9, none⟩ = some (.int .u64 0) := L6.out.row.cell 9
          have f9 := L6.out.row.free 9
          go_upto_region 26 with fail
          have kq : Only [w.heap.size] y (y.setCell ⟨w.heap.size, 9, none⟩ (.int .u64 (E : Int))) := (Only.refl [w.heap.size] y).setCell (.inl (by simp)) _
          have L7 : Hid (LgAt W (y.setCell ⟨w.heap.size, 9, none⟩ (.int .u64 (E : Int))) p w.heap.size D F ⟨at_, (m : Int), ks, ke, kt, kp, kc, (E : Int), (E : Int), la, false⟩ (.slice none 0 0)) := Lib.hid ⟨L6.out.dev.only kq (by simpa using QF.out) (by simpa using HW.out), by simpa [Lg.cells] using L6.out.row.set 9 (.int .u64 (E : Int)), QF.out, HW.out⟩
          have K7 := Lib.hid (K6.out.trans kq fun z hz => .inr (by simp at hz; omega))
          clear kq q8 q9 f9
          generalize y.setCell ⟨w.heap.size, 9, none⟩ (.int .u64 (E : Int)) = w7 at *
          have q8 : w7.cell? ⟨w.heap.size, 8, none⟩ = some (.int .u64 (E : Int)) := L7.out.row.cell 8
          have q11 : w7.cell? ⟨w.heap.size, 11, none⟩ = some (.slice none 0 0) := L7.out.row.cell 11
          have f11 := L7.out.row.free 11
          have hk := HK.out
          have hce := LOE.out
          have e1 : (E : Int).tdiv 52 = (E : Int) / 52 := Int.tdiv_eq_ediv_of_nonneg (by omega)
          have e2 : IntKind.u64.wrap ((E : Int) / 52) = (E : Int) / 52 := WU.out _ (by omega) (by omega)
          have e3 : IntKind.u64.wrap ((E : Int) / 52 * 52) = (E : Int) / 52 * 52 := WU.out _ (by omega) (by omega)
          obtain ⟨b1, hb1⟩ : ∃ x : Nat, E / 52 * 52 - fr = x := ⟨_, rfl⟩
          have e4 : IntKind.u64.wrap ((E : Int) / 52 * 52 - (fr : Int)) = (b1 : Int) := by rw [show (E : Int) / 52 * 52 - (fr : Int) = (b1 : Int) by omega]; exact WU.out _ (by omega) (by omega)
          obtain ⟨lo2, hlo2⟩ : ∃ x : Nat, min b1 vn = x := ⟨_, rfl⟩
          obtain ⟨hi2, hhi2⟩ : ∃ x : Nat, min lo vn = x := ⟨_, rfl⟩
          have e5 : min (b1 : Int) (vn : Int) = (lo2 : Int) := by omega
          have e6 : min (lo : Int) (vn : Int) = (hi2 : Int) := by omega
          have hlh : lo2 ≤ hi2 := by omega
          have hhl : hi2 ≤ sl.xs.length := by rw [VV.out.2.2.1]; omega
          have RT := fun y => run_cut (P := Try.prog) Try.underlying32 infoBy .u64 .u64 sl hlh hhl HQ.out.2.2.1.cap.1 y
          obtain ⟨ua, ul, uc, huv⟩ : ∃ a l c, (sl.cut lo2 hi2).v = .slice a l c := ⟨_, _, _, rfl⟩
          have RC2 : ∀ y, (Instr.slice 32 (.slice va vn vc) (some (.int .u64 (lo2 : Int))) (some (.int .u64 (hi2 : Int))) none).run Try.prog y = .ok (.slice ua ul uc) y := fun y => by
            have h := RT y
            rw [huv, VV.out.2.1, VV.out.2.2.1, VV.out.2.2.2.1] at h
            exact h
          clear hb1 hlo2 hhi2 hlh hhl RT huv hk hce d2 d2'
          go_region
          have kq : Only [w.heap.size] w7 (w7.setCell ⟨w.heap.size, 11, none⟩ (.slice ua ul uc)).drew := ((Only.refl [w.heap.size] w7).setCell (.inl (by simp)) _).drew
          have L8 : Hid (LgAt W (w7.setCell ⟨w.heap.size, 11, none⟩ (.slice ua ul uc)).drew p w.heap.size D F ⟨at_, (m : Int), ks, ke, kt, kp, kc, (E : Int), (E : Int), la, false⟩ (.slice ua ul uc)) := Lib.hid ⟨L7.out.dev.only kq (by simpa using QF.out) (by simpa using HW.out), by simpa [Lg.cells] using (L7.out.row.set 11 (.slice ua ul uc)).only ((Only.refl [] _).drew) (by simp), QF.out, HW.out⟩
          have K8 := Lib.hid (K7.out.trans kq fun z hz => .inr (by simp at hz; omega))
          clear kq q8 q11 f11
          generalize (w7.setCell ⟨w.heap.size, 11, none⟩ (.slice ua ul uc)).drew = w8 at *
          have q3 : w8.cell? ⟨w.heap.size, 3, none⟩ = some (.int .u64 ks) := L8.out.row.cell 3
          have q4 : w8.cell? ⟨w.heap.size, 4, none⟩ = some (.int .u32 ke) := L8.out.row.cell 4
          have q5 : w8.cell? ⟨w.heap.size, 5, none⟩ = some (.int .u64 kt) := L8.out.row.cell 5
          have q6 : w8.cell? ⟨w.heap.size, 6, none⟩ = some (.int .u64 kp) := L8.out.row.cell 6
          have q7 : w8.cell? ⟨w.heap.size, 7, none⟩ = some (.int .u64 kc) := L8.out.row.cell 7
          have q8 : w8.cell? ⟨w.heap.size, 8, none⟩ = some (.int .u64 (E : Int)) := L8.out.row.cell 8
          have hlt8 : w.heap.size < w8.heap.size := L8.out.row.lt
          have ke1 : IntKind.u32.wrap (ke + 1) = ke + 1 := by rw [show IntKind.u32.wrap (ke + 1) = (ke + 1) % 4294967296 from rfl]; have := OKEP.out; omega
          have ka : Only [] w8 (w8.alloc (.cells #[Value.int .u64 ks, .int .u32 (ke + 1), .int .u64 kt, .int .u64 kp, .int .u64 (E : Int)] 64)) := (Only.refl [] w8).alloc _
          have L9 := Lib.hid (L8.out.only ka (by simp))
          have K9 := Lib.hid (K8.out.trans ka (by simp))
          have TL := Lib.hid (tell_on L9.out HC.out HM.out (by have := R.out; show (0 : Int) ≤ at_; omega) (by have := R.out; show at_ + 2 ≤ D.sectors; omega) ⟨by show (0 : Int) ≤ ks; have := KS.out; omega, by show ks < _; have := OKK.out.1.s0; omega⟩ ks (ke + 1) kt kp (E : Int) ⟨OKK.out.1.s0, OKK.out.1.e0, OKK.out.1.t0, OKK.out.1.p0, by have := HK.out; omega⟩)
          unfold TellPost at TL
          clear ka
          go_wp2_with fail
          refine TL.out.mono ?_
          rintro _ wa ⟨rfl, la', ka⟩
          have LA := Lib.hid la'
          have KA := Lib.hid (K9.out.trans ka fun z hz => by
            rcases List.mem_cons.1 hz with rfl | hz
            · exact .inr (Nat.le_refl _)
            · exact .inl hz)
          clear la' ka TL
          go_wp2_with fail
          go_ret2
          exact ⟨_, la, _, rfl, LA.out, KA.out⟩
        | step _ _ Fm rest kind ep txn pg off c1 c2 c3 c4 c5 =>
          have RS := Lib.hid (c4 y0 _ rest CB.out.rd (CX.out.trans c2) CB.out.cap.1)
          rw [CV.out] at RS
          have NX := Lib.hid c5
          have FL := Lib.hid (And.intro c3 c2)
          clear c1 c2 c3 c4 c5
          unfold RdPost at RS
          go_wp2_with fail
          refine RS.out.mono ?_
          rintro _ w4 ⟨a1, n1, d1, a2, n2, d2, rfl, b4⟩
          have k4 : Only [] y0 w4 := (Only.refl [] y0).below b4
          have Q4 := Lib.hid (show LgAt W w4 p w.heap.size D F ⟨at_, (m : Int), ks, ke, kt, kp, kc, (e : Int), 0, la, false⟩ (.slice none 0 0) ∧ Only F w w4 ∧ Bk w4 sl from ⟨HQ.out.1.only k4 (by simp), HQ.out.2.1.trans k4 (by simp), HQ.out.2.2.1.only k4 (by simp)⟩)
          clear b4 k4 RS q8
          go_upto_region 23 with fail
          have ka : Only [] w4 (w4.alloc (.cells #[Value.int .i64 kind, .int .u64 (e : Int), .int .u32 ep, .int .u64 txn, .int .u32 pg, .int .u16 off, .slice a1 n1 d1, .slice a2 n2 d2, .slice none 0 0, .int .u64 0, .int .u64 0, .bool false, .int .u64 0, .slice none 0 0, .slice none 0 0] 43)) := (Only.refl [] w4).alloc _
          have Q5 := Lib.hid (show LgAt W _ p w.heap.size D F ⟨at_, (m : Int), ks, ke, kt, kp, kc, (e : Int), 0, la, false⟩ (.slice none 0 0) ∧ Only F w _ ∧ Bk _ sl from ⟨Q4.out.1.only ka (by simp), Q4.out.2.1.trans ka (by simp), Q4.out.2.2.only ka (by simp)⟩)
          have X5 : Hid (Row (w4.alloc (.cells #[Value.int .i64 kind, .int .u64 (e : Int), .int .u32 ep, .int .u64 txn, .int .u32 pg, .int .u16 off, .slice a1 n1 d1, .slice a2 n2 d2, .slice none 0 0, .int .u64 0, .int .u64 0, .bool false, .int .u64 0, .slice none 0 0, .slice none 0 0] 43)) w4.heap.size #[Value.int .i64 kind, .int .u64 (e : Int), .int .u32 ep, .int .u64 txn, .int .u32 pg, .int .u16 off, .slice a1 n1 d1, .slice a2 n2 d2, .slice none 0 0, .int .u64 0, .int .u64 0, .bool false, .int .u64 0, .slice none 0 0, .slice none 0 0] 43) := Lib.hid (Row.made _ _ _)
          clear ka
          generalize w4.alloc (.cells #[Value.int .i64 kind, .int .u64 (e : Int), .int .u32 ep, .int .u64 txn, .int .u32 pg, .int .u16 off, .slice a1 n1 d1, .slice a2 n2 d2, .slice none 0 0, .int .u64 0, .int .u64 0, .bool false, .int .u64 0, .slice none 0 0, .slice none 0 0] 43) = w5 at *
          have q8 : w5.cell? ⟨w.heap.size, 8, none⟩ = some (.int .u64 (e : Int)) := Q5.out.1.row.cell 8
          have x1 : w5.cell? ⟨w4.heap.size, 1, none⟩ = some (.int .u64 (e : Int)) := X5.out.cell 1
          go_quiet (fail)
          generalize hy : World.drewN w5 _ = y
          have ky : Only [] w5 y := by rw [← hy]; exact (Only.refl _ _).drewN _
          clear hy q8 x1
          have Q6 := Lib.hid (show LgAt W y p w.heap.size D F ⟨at_, (m : Int), ks, ke, kt, kp, kc, (e : Int), 0, la, false⟩ (.slice none 0 0) ∧ Only F w y ∧ Bk y sl from ⟨Q5.out.1.only ky (by simp), Q5.out.2.1.trans ky (by simp), Q5.out.2.2.only ky (by simp)⟩)
          clear ky
          have q8 : y.cell? ⟨w.heap.size, 8, none⟩ = some (.int .u64 (e : Int)) := Q6.out.1.row.cell 8
          have f8 := Q6.out.1.row.free 8
          obtain ⟨fl, hfl⟩ : ∃ x, Fm.length = x := ⟨_, rfl⟩
          have hle := NX.out.le
          have hk := HK.out
          have hfp := FL.out.1
          rw [hfl] at hle hfp ⊢
          have e7 : IntKind.u64.wrap (fl : Int) = (fl : Int) := WU.out _ (by omega) (by omega)
          have e8 : IntKind.u64.wrap ((e : Int) + (fl : Int)) = ((e + fl : Nat) : Int) := by rw [show (e : Int) + (fl : Int) = ((e + fl : Nat) : Int) by omega]; exact WU.out _ (by omega) (by omega)
          have kq : Only [w.heap.size] y (y.setCell ⟨w.heap.size, 8, none⟩ (.int .u64 ((e + fl : Nat) : Int))) := (Only.refl [w.heap.size] y).setCell (.inl (by simp)) _
          have N7 : Hid (LgAt W (y.setCell ⟨w.heap.size, 8, none⟩ (.int .u64 ((e + fl : Nat) : Int))) p w.heap.size D F ⟨at_, (m : Int), ks, ke, kt, kp, kc, ((e + fl : Nat) : Int), 0, la, false⟩ (.slice none 0 0) ∧ Only F w (y.setCell ⟨w.heap.size, 8, none⟩ (.int .u64 ((e + fl : Nat) : Int))) ∧ Bk (y.setCell ⟨w.heap.size, 8, none⟩ (.int .u64 ((e + fl : Nat) : Int))) sl ∧ Chain all fr (e + fl) E) := Lib.hid ⟨⟨Q6.out.1.dev.only kq (by simpa using QF.out) (by simpa using HW.out), by simpa [Lg.cells] using Q6.out.1.row.set 8 (.int .u64 ((e + fl : Nat) : Int)), QF.out, HW.out⟩, Q6.out.2.1.trans kq (fun z hz => .inr (by simp at hz; omega)), Q6.out.2.2.only kq (fun b hb hq => by have := SB.out b hb; simp at hq; omega), by rw [← hfl]; exact NX.out⟩
          have EA0 : Hid (endAt y0 w.heap.size = e) := Lib.hid (endAt_is (HQ.out.1.row.cell 8))
          have MS : Hid (e + fl ≤ E ∧ 0 < fl) := Lib.hid ⟨hle.2.1, hfp⟩
          clear kq hfl hle hk hfp
          go_wp2_with fail
          have EA1 := endAt_is (e := e + fl) (N7.out.1.row.cell 8)
          go_roundw
          case rel => exact ⟨e + fl, N7⟩
          case measure =>
            have EA2 : endAt (y.setCell ⟨w.heap.size, 8, none⟩ (.int .u64 ((e : Int) + (fl : Int)))) w.heap.size = e + fl := EA1
            rw [EA2, EA0.out]
            have := MS.out
            omega
end Go.Proofs.Ytekdogmhgijocaa
