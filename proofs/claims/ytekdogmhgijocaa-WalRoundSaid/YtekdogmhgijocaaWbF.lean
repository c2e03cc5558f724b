/- logrec.Read of a write's record: the walk (printed by gen_rdw.py). -/
import Derived.Test.YtekdogmhgijocaaMg30
import Derived.Test.YtekdogmhgijocaaWaX
import Derived.Test.YtekdogmhgijocaaWbE
import Derived.Test.YtekdogmhgijocaaMg19
namespace Go.Proofs.Ytekdogmhgijocaa
open Go.RowKit Go.ChangeShapes Go.WideShapes Go.ChangeAt
set_option linter.unusedVariables false
set_option linter.unusedSimpArgs false
set_option maxRecDepth 100000
set_option maxHeartbeats 16000000

theorem leV_leN : ∀ l : List Int, st.leV l = leN l
  | [] => rfl
  | x :: l => by show x + 256 * st.leV l = leN (x :: l); rw [leV_leN l]; rfl
theorem uvB_eq {n : Nat} (h : n < 16384) : st.uvB n = uvB (n : Int) := by
  by_cases h1 : n < 128
  · rw [st.uvB_small h1, uvB_one (by omega)]
  · rw [st.uvB_big h1, uvB_two (by omega) (by omega), st.uvB_small (by omega)]
    congr 1
/-- A number that begins bytes. -/
theorem fix_leB {k : Nat} {n : Int} {rest : List Int} (h0 : 0 ≤ n) (h1 : n < 256 ^ k) : st.fixF k (leB n k ++ rest) 0 = (n, rest, 0) := by
  unfold st.fixF
  rw [if_neg (by simp), if_neg (by rw [List.length_append, leB_len]; omega), List.take_left' (leB_len _ _), List.drop_left' (leB_len _ _), st.leV_leB k n h0 h1]
theorem fix_one {n : Int} {rest : List Int} : st.fixF 1 (n :: rest) 0 = (n, rest, 0) := by
  unfold st.fixF
  rw [if_neg (by simp), if_neg (by simp)]
  simp [st.leV]
/-- A text that begins bytes. -/
theorem txt_uvB {most : Nat} {p rest : List Int} (h : p.length ≤ most) (h2 : p.length < 16384) : st.txtF most (uvB (p.length : Int) ++ (p ++ rest)) 0 = (p, rest, 0) := by
  rw [← uvB_eq h2]
  have hc := st.cnt_uvB (p ++ rest) p.length 0 0 (by omega) (.inl rfl)
  unfold st.txtF
  rw [if_neg (by simp), hc, if_pos rfl, if_neg (by simp; omega), if_neg (by simp; omega)]
  simp
/-- The parts of a write's form. -/
structure WParts (lsn ep pg off : Int) (xs ys F : List Int) (n : Nat) : Prop where
  e0 : F = leB (sumI (F.drop 4) : Nat) 4 ++ F.drop 4
  e1 : F.drop 4 = leB (n : Int) 2 ++ (leB lsn 8 ++ (leB ep 4 ++ (1 :: (leB pg 4 ++ (leB off 2 ++ (uvB (xs.length : Int) ++ (xs ++ (uvB (ys.length : Int) ++ (ys ++ [])))))))))
  len : F.length = n
  lo : 6 ≤ n
  hi : n ≤ 1600
  by_ : IsBy F
theorem wparts {lsn ep pg off : Int} {xs ys : List Int} {m : Nat} (hx : xs.length = m) (hy : ys.length = m) (hm : m ≤ 500) (bx : IsBy xs) (by_ : IsBy ys) : WParts lsn ep pg off xs ys (formW lsn ep pg off xs ys) (formW lsn ep pg off xs ys).length := by
  have hd : (formW lsn ep pg off xs ys).drop 4 = midB (headB 1 lsn ep ++ leB pg 4 ++ leB off 2 ++ uvB xs.length ++ xs ++ uvB ys.length ++ ys) := by
    unfold formW wrapB
    rw [List.drop_left' (leB_len _ _)]
  have hl := formW_len lsn ep pg off m (by omega) xs ys hx hy
  have hl2 : (formW lsn ep pg off xs ys).length ≤ 1600 ∧ 25 ≤ (formW lsn ep pg off xs ys).length := by
    unfold roomS at hl
    split at hl <;> omega
  have hml : (formW lsn ep pg off xs ys).length = 4 + (2 + (headB 1 lsn ep ++ leB pg 4 ++ leB off 2 ++ uvB xs.length ++ xs ++ uvB ys.length ++ ys).length) := by
    unfold formW wrapB
    rw [List.length_append, leB_len, midB_len]
  have ub : IsBy (uvB (m : Int)) := by rw [← uvB_eq (by omega)]; exact st.uvB_by m
  refine ⟨?_, ?_, rfl, by omega, hl2.1, ?_⟩
  · rw [hd]; rfl
  · rw [hd]
    unfold midB
    rw [show ((headB 1 lsn ep ++ leB pg 4 ++ leB off 2 ++ uvB xs.length ++ xs ++ uvB ys.length ++ ys).length : Int) + 6 = ((formW lsn ep pg off xs ys).length : Int) by omega]
    unfold headB
    simp
  · unfold formW wrapB midB headB
    rw [hx, hy]
    exact (leB_by _ _).append ((leB_by _ _).append (((((((((leB_by _ _).append (leB_by _ _)).append (IsBy.one (by omega) (by omega))).append (leB_by _ _)).append (leB_by _ _)).append ub).append bx).append ub).append by_))
def RdW (lsn ep pg off : Int) (xs ys : List Int) (n : Nat) (w : World) (e : Ending) (w' : World) : Prop := ∃ (a1 : Option Addr) (d1 : Nat) (a2 : Option Addr) (d2 : Nat), e = .returned (.tuple #[.agg (recR 1 lsn ep 0 pg off (.slice a1 xs.length d1) (.slice a2 ys.length d2)), .int .i64 (n : Int), .int .i64 0]) ∧ SlRd .u8 w' ⟨a1, d1, xs⟩ ∧ SlRd .u8 w' ⟨a2, d2, ys⟩ ∧ Below w.heap.size w w'
structure RgI (w wr : World) (r : Nat) (G : List Int) : Prop where
  rd : st.RdrAt wr r G 0
  res : Row wr w.heap.size rec0 43
  bl : Below w.heap.size w wr
  hr : w.heap.size < r
theorem RgI.read {w wr w' : World} {r : Nat} {G G' : List Int} (h : RgI w wr r G) (hr : st.RdrAt w' r G' 0) (k : Only [r] wr w') : RgI w w' r G' :=
  ⟨hr, h.res.only k (by simp; have := h.hr; omega), h.bl.trans (k.toBelow h.bl.size fun b hb => by simp at hb; have := h.hr; omega), h.hr⟩
theorem RgI.below {w wr w' : World} {r : Nat} {G : List Int} (h : RgI w wr r G) (k : Below wr.heap.size wr w') : RgI w w' r G :=
  ⟨h.rd.below k, h.res.of_block (k.block _ h.res.lt), h.bl.trans (k.mono h.bl.size), h.hr⟩
theorem rec_only (y : World) (g : Nat) (a0 a1 a2 a3 a4 a5 a6 a7 a8 a9 a10 a11 a12 a13 a14 : Value) : Only [g] y (((((((((((((((y.setCell ⟨g, 0, none⟩ a0).setCell ⟨g, 1, none⟩ a1).setCell ⟨g, 2, none⟩ a2).setCell ⟨g, 3, none⟩ a3).setCell ⟨g, 4, none⟩ a4).setCell ⟨g, 5, none⟩ a5).setCell ⟨g, 6, none⟩ a6).setCell ⟨g, 7, none⟩ a7).setCell ⟨g, 8, none⟩ a8).setCell ⟨g, 9, none⟩ a9).setCell ⟨g, 10, none⟩ a10).setCell ⟨g, 11, none⟩ a11).setCell ⟨g, 12, none⟩ a12).setCell ⟨g, 13, none⟩ a13).setCell ⟨g, 14, none⟩ a14) :=
  ((((((((((((((((Only.refl [g] y).setCell (.inl (by simp)) _).setCell (.inl (by simp)) _).setCell (.inl (by simp)) _).setCell (.inl (by simp)) _).setCell (.inl (by simp)) _).setCell (.inl (by simp)) _).setCell (.inl (by simp)) _).setCell (.inl (by simp)) _).setCell (.inl (by simp)) _).setCell (.inl (by simp)) _).setCell (.inl (by simp)) _).setCell (.inl (by simp)) _).setCell (.inl (by simp)) _).setCell (.inl (by simp)) _).setCell (.inl (by simp)) _)
theorem or_hi {n : Nat} (h : n < 65536) : bits .or .i64 ((n : Int) % 256) ((n : Int) / 256 * 256) = (n : Int) := by
  have hx : n % 256 ||| n / 256 * 256 < 2 ^ 64 := Nat.or_lt_two_pow (by omega) (by omega)
  have h1 : (BitVec.ofInt 64 (((n % 256 : Nat)) : Int)).toNat = n % 256 := by
    rw [BitVec.ofInt_natCast, BitVec.toNat_ofNat]; exact Nat.mod_eq_of_lt (by omega)
  have h2 : (BitVec.ofInt 64 (((n / 256 * 256 : Nat)) : Int)).toNat = n / 256 * 256 := by
    rw [BitVec.ofInt_natCast, BitVec.toNat_ofNat]; exact Nat.mod_eq_of_lt (by omega)
  have h3 : n % 256 ||| n / 256 * 256 = n := by
    have := Nat.shiftLeft_add_eq_or_of_lt (show n % 256 < 2 ^ 8 by omega) (n / 256)
    rw [Nat.shiftLeft_eq, show (2 : Nat) ^ 8 = 256 from rfl] at this
    rw [Nat.or_comm]
    omega
  rw [show (n : Int) % 256 = ((n % 256 : Nat) : Int) by omega, show (n : Int) / 256 * 256 = ((n / 256 * 256 : Nat) : Int) by omega]
  show IntKind.i64.wrap ((BitVec.ofInt 64 ((n % 256 : Nat) : Int) ||| BitVec.ofInt 64 ((n / 256 * 256 : Nat) : Int)).toNat : Int) = _
  rw [BitVec.toNat_or, h1, h2, h3, IntKind.wrap_i64]
  omega
theorem read_write {lsn ep pg off : Int} {xs ys rest : List Int} {m : Nat} {s : Sl} {w : World} (h0 : 0 ≤ lsn) (h1 : lsn < 18446744073709551616) (h2 : 0 ≤ ep) (h3 : ep < 4294967296) (h4 : 0 ≤ pg ∧ pg < 4294967296) (h5 : 0 ≤ off ∧ off + m ≤ 500) (hx : xs.length = m) (hy : ys.length = m) (hp : 0 < m) (bx : IsBy xs) (by_ : IsBy ys)
    (hs : SlRd .u8 w s) (he : s.xs = formW lsn ep pg off xs ys ++ rest) (hc : s.xs.length ≤ s.c) :
    Calls Try.prog 33 #[s.v] w (RdW lsn ep pg off xs ys (formW lsn ep pg off xs ys).length w) := by
  have WP := wparts (lsn := lsn) (ep := ep) (pg := pg) (off := off) hx hy (by omega) bx by_
  have FRM : Hid (∀ (y : World) (a1 a2 : Option Addr) (d1 d2 : Nat), Ints .u8 y (.slice a1 m d1) xs → Ints .u8 y (.slice a2 m d2) ys → Calls Try.prog 46 #[.agg (recR 1 lsn ep 0 pg off (.slice a1 m d1) (.slice a2 m d2))] y (Gives (formW lsn ep pg off xs ys) y)) := Lib.hid fun y a1 a2 d1 d2 i1 i2 => form_write lsn ep pg off a1 a2 m d1 d2 xs ys y h0 h1 h2 h3 h4 ⟨h5.1, by omega⟩ hx hy i1 i2 bx by_ hp (by omega)
  have MAY : Hid (∀ (y : World) (a1 a2 : Option Addr) (d1 d2 : Nat), Calls Try.prog 45 #[.agg (recR 1 lsn ep 0 pg off (.slice a1 m d1) (.slice a2 m d2))] y fun e w' => e = .returned (.bool true) ∧ Below y.heap.size y w') := Lib.hid fun y a1 a2 d1 d2 => may_write lsn ep pg off a1 a2 m d1 d2 y hp (by omega) h5.1 h5.2
  have HXY := Lib.hid (And.intro hx hy)
  generalize formW lsn ep pg off xs ys = F at *
  obtain ⟨n, hn⟩ : ∃ n, F.length = n := ⟨_, rfl⟩
  rw [hn] at WP ⊢
  obtain ⟨a0, k0, zs⟩ := s
  simp only at he hc
  obtain ⟨l, hl⟩ : ∃ l, zs.length = l := ⟨_, rfl⟩
  have hle := hs.le
  simp only at hle
  have hnl : n ≤ l := by rw [← hl, he, List.length_append, hn]; omega
  have ht : zs.take n = F := by rw [he, List.take_append_of_le_length (by omega), List.take_of_length_le (by omega)]
  have hz0 : 0 < zs.length := by have := WP.lo; omega
  obtain ⟨b, o, hsa, cy⟩ := hs.at_ (j := 0) (z := zs[0]) (by simp [hz0])
  simp only at hsa cy
  subst hsa
  have WPH := Lib.hid WP
  have HSL : Hid (SlRd .u8 w ⟨some ⟨b, o, none⟩, k0, zs⟩ ∧ zs.length ≤ k0 ∧ zs.length = l ∧ n ≤ l ∧ zs.take n = F) := Lib.hid ⟨hs, hc, hl, hnl, ht⟩
  have F4 : F[4]? = some ((n : Int) % 256) ∧ F[5]? = some ((n : Int) / 256) := by
    have l2 : leB (n : Int) 2 = [(n : Int) % 256, (n : Int) / 256 % 256] := by
      unfold leB leAt
      simp [List.range_succ]
    have d4 : ∀ i, F[4 + i]? = (F.drop 4)[i]? := fun i => by rw [List.getElem?_drop]
    have h5 := WP.hi
    rw [show F[4]? = _ from d4 0, show F[5]? = _ from d4 1, WP.e1, l2]
    simp
    omega
  have CEL : Hid (∀ y, Below w.heap.size w y → y.cell? ⟨b, o + 4, none⟩ = some (.int .u8 ((n : Int) % 256)) ∧ y.cell? ⟨b, o + 5, none⟩ = some (.int .u8 ((n : Int) / 256))) := Lib.hid fun y k => by
    have h4 : zs[4]? = some ((n : Int) % 256) := by rw [he, List.getElem?_append_left (by have := WP.lo; omega)]; exact F4.1
    have h5 : zs[5]? = some ((n : Int) / 256) := by rw [he, List.getElem?_append_left (by have := WP.lo; omega)]; exact F4.2
    have q4 := cy 4 _ h4
    have q5 := cy 5 _ h5
    exact ⟨by rw [k.cell (p := ⟨b, o + 4, none⟩) (World.block_lt_of_cell? w _ q4)]; exact q4, by rw [k.cell (p := ⟨b, o + 5, none⟩) (World.block_lt_of_cell? w _ q5)]; exact q5⟩
  obtain ⟨lo, hlo⟩ : ∃ x, (n : Int) % 256 = x := ⟨_, rfl⟩
  obtain ⟨hi, hhi⟩ : ∃ x, (n : Int) / 256 = x := ⟨_, rfl⟩
  obtain ⟨h8, hh8⟩ : ∃ x, hi * 256 = x := ⟨_, rfl⟩
  have bo : bits .or .i64 lo h8 = (n : Int) := by rw [← hlo, ← hh8, ← hhi]; exact or_hi (by have := WP.hi; omega)
  have wl : IntKind.i64.wrap lo = lo := IntWalk.i64_in _ (by have := WP.hi; omega)
  have wh : IntKind.i64.wrap hi = hi := IntWalk.i64_in _ (by have := WP.hi; omega)
  have w8 : IntKind.i64.wrap (hi * 256) = h8 := by rw [hh8]; exact IntWalk.i64_in _ (by have := WP.hi; omega)
  have w8' : wrap64 (hi * 256) = h8 := by rw [hh8]; unfold wrap64; have := WP.hi; omega
  rw [hlo, hhi] at CEL
  have kc4 : (4 : Int) < (l : Int) := by have := WP.lo; omega
  have kc5 : (5 : Int) < (l : Int) := by have := WP.lo; omega
  have dn6 : decide ((l : Int) < 6) = false := decide_eq_false (by have := WP.lo; omega)
  have dm6 : decide ((n : Int) < 6) = false := decide_eq_false (by have := WP.lo; omega)
  have dln : decide ((l : Int) < (n : Int)) = false := decide_eq_false (by omega)
  have dln' : decide (l < n) = false := decide_eq_false (by omega)
  have d16 : decide ((1600 : Int) < (n : Int)) = false := decide_eq_false (by have := WP.hi; omega)
  have d16' : decide (1600 < n) = false := decide_eq_false (by have := WP.hi; omega)
  unfold Sl.v
  simp only
  rw [hl]
  clear hs he hc hle hnl ht cy F4 WP hlo hhi hh8 hl hn
  go_enter Try.func33, Try.ntmps33
  go_upto_region 1 with fail
  have R1 : Hid (Row (w.alloc (.cells #[Value.int .i64 0, .int .u64 0, .int .u32 0, .int .u64 0, .int .u32 0, .int .u16 0, .slice none 0 0, .slice none 0 0, .slice none 0 0, .int .u64 0, .int .u64 0, .bool false, .int .u64 0, .slice none 0 0, .slice none 0 0] 43)) w.heap.size rec0 43) := Lib.hid (Row.made _ _ _)
  have B1 : Hid (Below w.heap.size w (w.alloc (.cells #[Value.int .i64 0, .int .u64 0, .int .u32 0, .int .u64 0, .int .u32 0, .int .u16 0, .slice none 0 0, .slice none 0 0, .slice none 0 0, .int .u64 0, .int .u64 0, .bool false, .int .u64 0, .slice none 0 0, .slice none 0 0] 43))) := Lib.hid ((Below.refl _ _).alloc (Nat.le_refl _) _)
  generalize w.alloc (.cells #[Value.int .i64 0, .int .u64 0, .int .u32 0, .int .u64 0, .int .u32 0, .int .u16 0, .slice none 0 0, .slice none 0 0, .slice none 0 0, .int .u64 0, .int .u64 0, .bool false, .int .u64 0, .slice none 0 0, .slice none 0 0] 43) = w1 at *
  have g4 := (CEL.out w1 B1.out).1
  have g5 := (CEL.out w1 B1.out).2
  go_upto_region 3 with fail
  go_quiet (fail)
  clear g4 g5
  have B2 : Hid (∀ k, Below w.heap.size w (w1.drewN k)) := Lib.hid fun k => ⟨B1.out.os, B1.out.tape, B1.out.output, B1.out.size, B1.out.block⟩
  have R2 : Hid (∀ k, Row (w1.drewN k) w.heap.size rec0 43) := Lib.hid fun k => R1.out
  obtain ⟨ca, cc, hcv⟩ : ∃ a c, ((⟨some ⟨b, o, none⟩, k0, zs⟩ : Sl).cut 0 n).v = .slice a n c := by
    unfold Sl.v
    rw [Sl.cut_len _ (Nat.zero_le _) (by show n ≤ zs.length; rw [HSL.out.2.2.1]; exact HSL.out.2.2.2.1)]
    exact ⟨_, _, rfl⟩
  obtain ⟨da, dc, hdv⟩ : ∃ a c, ((⟨some ⟨b, o, none⟩, k0, zs⟩ : Sl).cut 4 n).v = .slice a (n - 4) c := by
    unfold Sl.v
    rw [Sl.cut_len _ (by have := WPH.out.lo; omega) (by show n ≤ zs.length; rw [HSL.out.2.2.1]; exact HSL.out.2.2.2.1)]
    exact ⟨_, _, rfl⟩
  obtain ⟨n4, hn4⟩ : ∃ x, n - 4 = x := ⟨_, rfl⟩
  rw [hn4] at hdv
  have RH : ∀ y, (Instr.slice 32 (.slice (some ⟨b, o, none⟩) l k0) none (some (.int .i64 (n : Int))) none).run Try.prog y = .ok (.slice ca n cc) y := fun y => by
    have h := st.run_head Try.underlying32 infoBy .i64 ⟨some ⟨b, o, none⟩, k0, zs⟩ (h := n) (by show n ≤ zs.length; rw [HSL.out.2.2.1]; exact HSL.out.2.2.2.1) HSL.out.2.1 y
    simp only [HSL.out.2.2.1] at h
    rw [hcv] at h
    exact h
  have CU : Hid (∀ y, Below w.heap.size w y → SlRd .u8 y ((⟨some ⟨b, o, none⟩, k0, zs⟩ : Sl).cut 0 n) ∧ ((⟨some ⟨b, o, none⟩, k0, zs⟩ : Sl).cut 0 n).xs = F) := Lib.hid fun y hy => ⟨(HSL.out.1.only ((Only.refl [] w).below hy) (by simp)).cut (Nat.zero_le _) (by show n ≤ zs.length; rw [HSL.out.2.2.1]; exact HSL.out.2.2.2.1) HSL.out.2.1, by
    unfold Sl.cut
    simp only [List.drop_zero, Nat.sub_zero]
    exact HSL.out.2.2.2.2⟩
  have NR : Hid (∀ y, Below w.heap.size w y → Calls Try.prog 47 #[.slice ca n cc] y (st.NewRdTo F y)) := Lib.hid fun y hy => by
    have h := st.newrd_on (CU.out y hy).1
    rw [(CU.out y hy).2, hcv] at h
    exact h
  have RM : ∀ y, (Instr.slice 32 (.slice (some ⟨b, o, none⟩) l k0) (some (.int .i64 4)) (some (.int .i64 (n : Int))) none).run Try.prog y = .ok (.slice da n4 dc) y := fun y => by
    have h := run_cut Try.underlying32 infoBy .i64 .i64 ⟨some ⟨b, o, none⟩, k0, zs⟩ (l := 4) (h := n) (by have := WPH.out.lo; omega) (by show n ≤ zs.length; rw [HSL.out.2.2.1]; exact HSL.out.2.2.2.1) HSL.out.2.1 y
    simp only [HSL.out.2.2.1] at h
    rw [hdv] at h
    exact h
  obtain ⟨S, hS⟩ : ∃ S : Nat, sumI (F.drop 4) = S := ⟨_, rfl⟩
  have eS : ((S : Int) != (S : Int)) = false := by simp
  have SK : Hid (∀ y, Below w.heap.size w y → Calls Try.prog 51 #[.slice da n4 dc] y fun e w' => e = .returned (.int .u32 (S : Int)) ∧ Below y.heap.size y w') := Lib.hid fun y hy => by
    have hx4 : ((⟨some ⟨b, o, none⟩, k0, zs⟩ : Sl).cut 4 n).xs = F.drop 4 := by
      unfold Sl.cut
      simp only
      rw [← HSL.out.2.2.2.2, List.drop_take]
    have hi := ((HSL.out.1.only ((Only.refl [] w).below hy) (by simp)).cut (l := 4) (k := n) (by have := WPH.out.lo; omega) (by show n ≤ zs.length; rw [HSL.out.2.2.1]; exact HSL.out.2.2.2.1) HSL.out.2.1).ints
    rw [hdv, hx4] at hi
    have h := sum_any da n4 dc (F.drop 4) y (by rw [List.length_drop, WPH.out.len]; exact hn4) hi (fun x hx => WPH.out.by_ x (List.mem_of_mem_drop hx)) (by have := WPH.out.hi; omega)
    unfold SumPost at h
    rw [hS] at h
    exact h
  have CV := Lib.hid hcv
  clear hcv
  go_wp2_with fail
  refine (NR.out _ (B2.out _)).mono ?_
  rintro _ w2 ⟨r, rfl, hr2, hb2, hrg⟩
  have I2 : Hid (RgI w w2 r F) := Lib.hid ⟨hr2, (R2.out _).of_block (hb2.block _ (R2.out _).lt), (B2.out _).trans (hb2.mono (B2.out _).size), Nat.lt_of_lt_of_le (R2.out _).lt hrg⟩
  clear hr2 hb2 hrg R2 B2 R1 B1 NR hdv hn4
  have BYF : ∀ G : List Int, (∃ P, F = P ++ G) → IsBy G := fun G ⟨P, h⟩ x hx => WPH.out.by_ x (by rw [h]; exact List.mem_append_right _ hx)
  have E0 := WPH.out.e0
  have E1 := WPH.out.e1
  rw [hS] at E0
  rw [HXY.out.1, HXY.out.2] at E1
  obtain ⟨G8, hG8⟩ : ∃ G, uvB (m : Int) ++ (ys ++ ([] : List Int)) = G := ⟨_, rfl⟩
  obtain ⟨G7, hG7⟩ : ∃ G, uvB (m : Int) ++ (xs ++ G8) = G := ⟨_, rfl⟩
  obtain ⟨G6, hG6⟩ : ∃ G, leB off 2 ++ G7 = G := ⟨_, rfl⟩
  obtain ⟨G5, hG5⟩ : ∃ G, leB pg 4 ++ G6 = G := ⟨_, rfl⟩
  obtain ⟨G4, hG4⟩ : ∃ G, (1 : Int) :: G5 = G := ⟨_, rfl⟩
  obtain ⟨G3, hG3⟩ : ∃ G, leB ep 4 ++ G4 = G := ⟨_, rfl⟩
  obtain ⟨G2, hG2⟩ : ∃ G, leB lsn 8 ++ G3 = G := ⟨_, rfl⟩
  obtain ⟨G1, hG1⟩ : ∃ G, leB (n : Int) 2 ++ G2 = G := ⟨_, rfl⟩
  rw [hG8, hG7, hG6, hG5, hG4, hG3, hG2, hG1] at E1
  rw [E1] at E0
  have b0 : IsBy F := WPH.out.by_
  have b1 : IsBy G1 := BYF _ ⟨_, E0⟩
  have b2 : IsBy G2 := fun x hx => b1 x (by rw [← hG1]; exact List.mem_append_right _ hx)
  have b3 : IsBy G3 := fun x hx => b2 x (by rw [← hG2]; exact List.mem_append_right _ hx)
  have b4 : IsBy G4 := fun x hx => b3 x (by rw [← hG3]; exact List.mem_append_right _ hx)
  have b5 : IsBy G5 := fun x hx => b4 x (by rw [← hG4]; exact List.mem_cons_of_mem _ hx)
  have b6 : IsBy G6 := fun x hx => b5 x (by rw [← hG5]; exact List.mem_append_right _ hx)
  have b7 : IsBy G7 := fun x hx => b6 x (by rw [← hG6]; exact List.mem_append_right _ hx)
  have b8 : IsBy G8 := fun x hx => b7 x (by rw [← hG7]; exact List.mem_append_right _ (List.mem_append_right _ hx))
  have hSl : S < 4294967296 := by rw [← hS]; exact sumI_lt _
  have U1 := Lib.hid fun (y : World) (h : st.RdrAt y r F 0) => by
    have q := st.rdU32 h b0
    rw [show st.fixF 4 F 0 = ((S : Int), G1, 0) by rw [E0]; exact fix_leB (by omega) (by omega)] at q
    exact q
  have U2 := Lib.hid fun (y : World) (h : st.RdrAt y r G1 0) => by
    have q := st.rdU16 h b1
    rw [show st.fixF 2 G1 0 = ((n : Int), G2, 0) by rw [← hG1]; exact fix_leB (by omega) (by have := WPH.out.hi; omega)] at q
    exact q
  have U3 := Lib.hid fun (y : World) (h : st.RdrAt y r G2 0) => by
    have q := st.rdU64 h b2
    rw [show st.fixF 8 G2 0 = (lsn, G3, 0) by rw [← hG2]; exact fix_leB h0 (by omega)] at q
    exact q
  have U4 := Lib.hid fun (y : World) (h : st.RdrAt y r G3 0) => by
    have q := st.rdU32 h b3
    rw [show st.fixF 4 G3 0 = (ep, G4, 0) by rw [← hG3]; exact fix_leB h2 (by omega)] at q
    exact q
  have U5 := Lib.hid fun (y : World) (h : st.RdrAt y r G4 0) => by
    have q := st.rdU8 h b4
    rw [show st.fixF 1 G4 0 = (1, G5, 0) by rw [← hG4]; exact fix_one] at q
    exact q
  have U6 := Lib.hid fun (y : World) (h : st.RdrAt y r G5 0) => by
    have q := st.rdU32 h b5
    rw [show st.fixF 4 G5 0 = (pg, G6, 0) by rw [← hG5]; exact fix_leB h4.1 (by omega)] at q
    exact q
  have U7 := Lib.hid fun (y : World) (h : st.RdrAt y r G6 0) => by
    have q := st.rdU16 h b6
    rw [show st.fixF 2 G6 0 = (off, G7, 0) by rw [← hG6]; exact fix_leB h5.1 (by omega)] at q
    exact q
  have U8 := Lib.hid fun (y : World) (h : st.RdrAt y r G7 0) => by
    have q := st.text_gen h b7 500 (by omega)
    unfold st.TxtTo at q
    rw [show st.txtF 500 G7 0 = (xs, G8, 0) by rw [← hG7, ← HXY.out.1]; exact txt_uvB (by omega) (by omega)] at q
    exact q
  have U9 := Lib.hid fun (y : World) (h : st.RdrAt y r G8 0) => by
    have q := st.text_gen h b8 500 (by omega)
    unfold st.TxtTo at q
    rw [show st.txtF 500 G8 0 = (ys, [], 0) by rw [← hG8, ← HXY.out.2]; exact txt_uvB (by omega) (by omega)] at q
    exact q
  clear E0 E1 hG8 hG7 hG6 hG5 hG4 hG3 hG2 hG1 b0 b1 b2 b3 b4 b5 b6 b7 b8 hSl hS BYF h0 h1 h2 h3 h4 h5 hx hy hp bx by_
  go_wp2_with fail
  refine (U1.out _ I2.out.rd).mono ?_
  rintro _ w3 ⟨rfl, hr3, k3⟩
  have I3 := Lib.hid (I2.out.read hr3 k3)
  clear hr3 k3
  go_wp2_with fail
  refine (U2.out _ I3.out.rd).mono ?_
  rintro _ w4 ⟨rfl, hr4, k4⟩
  have I4 := Lib.hid (I3.out.read hr4 k4)
  clear hr4 k4
  go_wp2_with fail
  refine (SK.out _ I4.out.bl).mono ?_
  rintro _ w5 ⟨rfl, hb5⟩
  have I5 := Lib.hid (I4.out.below hb5)
  clear hb5
  go_wp2_with fail
  refine (U3.out _ I5.out.rd).mono ?_
  rintro _ w6 ⟨rfl, hr6, k6⟩
  have I6 := Lib.hid (I5.out.read hr6 k6)
  clear hr6 k6
  go_wp2_with fail
  refine (U4.out _ I6.out.rd).mono ?_
  rintro _ w7 ⟨rfl, hr7, k7⟩
  have I7 := Lib.hid (I6.out.read hr7 k7)
  clear hr7 k7
  go_wp2_with fail
  refine (U5.out _ I7.out.rd).mono ?_
  rintro _ w8 ⟨rfl, hr8, k8⟩
  have I8 := Lib.hid (I7.out.read hr8 k8)
  clear hr8 k8
  go_upto_region 13 with fail
  have R9 : Hid (Row (w8.alloc (.cells #[Value.int .i64 1, .int .u64 lsn, .int .u32 ep, .int .u64 0, .int .u32 0, .int .u16 0, .slice none 0 0, .slice none 0 0, .slice none 0 0, .int .u64 0, .int .u64 0, .bool false, .int .u64 0, .slice none 0 0, .slice none 0 0] 43)) w8.heap.size (recR 1 lsn ep 0 0 0 (.slice none 0 0) (.slice none 0 0)) 43) := Lib.hid (Row.made _ _ _)
  have I9 : Hid (RgI w (w8.alloc (.cells #[Value.int .i64 1, .int .u64 lsn, .int .u32 ep, .int .u64 0, .int .u32 0, .int .u16 0, .slice none 0 0, .slice none 0 0, .slice none 0 0, .int .u64 0, .int .u64 0, .bool false, .int .u64 0, .slice none 0 0, .slice none 0 0] 43)) r G5) := Lib.hid (I8.out.below ((Below.refl _ _).alloc (Nat.le_refl _) _))
  have XR : Hid (r < w8.heap.size ∧ w.heap.size ≤ w8.heap.size) := Lib.hid ⟨by obtain ⟨_, _, h, _⟩ := I8.out.rd.at_; exact h.lt, I8.out.bl.size⟩
  generalize w8.alloc (.cells #[Value.int .i64 1, .int .u64 lsn, .int .u32 ep, .int .u64 0, .int .u32 0, .int .u16 0, .slice none 0 0, .slice none 0 0, .slice none 0 0, .int .u64 0, .int .u64 0, .bool false, .int .u64 0, .slice none 0 0, .slice none 0 0] 43) = w9 at *
  generalize w8.heap.size = x at *
  clear I2 I3 I4 I5 I6 I7 I8
  go_wp2_with fail
  refine (U6.out _ I9.out.rd).mono ?_
  rintro _ w10 ⟨rfl, hr10, k10⟩
  have R10 := Lib.hid (R9.out.only k10 (by simp; have := XR.out; omega))
  have I10 := Lib.hid (I9.out.read hr10 k10)
  clear hr10 k10
  go_wp2_with fail
  refine (U7.out _ I10.out.rd).mono ?_
  rintro _ w11 ⟨rfl, hr11, k11⟩
  have R11 := Lib.hid (R10.out.only k11 (by simp; have := XR.out; omega))
  have I11 := Lib.hid (I10.out.read hr11 k11)
  clear hr11 k11
  go_wp2_with fail
  refine (U8.out _ I11.out.rd).mono ?_
  rintro _ w12 ⟨⟨a1, d1, z1⟩, rfl, hp1, hq1, hg1, hr12, k12⟩
  obtain rfl : z1 = xs := hp1
  have R12 := Lib.hid (R11.out.only k12 (by simp; have := XR.out; omega))
  have I12 := Lib.hid (I11.out.read hr12 k12)
  have P1 := Lib.hid (And.intro hq1 hg1)
  have L1 : Hid (x < w11.heap.size ∧ r < w11.heap.size ∧ w.heap.size < w11.heap.size ∧ w11.heap.size ≤ w12.heap.size) := Lib.hid ⟨R11.out.lt, by obtain ⟨_, _, h, _⟩ := I11.out.rd.at_; exact h.lt, I11.out.res.lt, k12.size⟩
  unfold Sl.v
  simp only
  rw [HXY.out.1]
  clear hq1 hg1 hr12 k12
  go_wp2_with fail
  refine (U9.out _ I12.out.rd).mono ?_
  rintro _ w13 ⟨⟨a2, d2, z2⟩, rfl, hp2, hq2, hg2, hr13, k13⟩
  obtain rfl : z2 = ys := hp2
  have R13 := Lib.hid (R12.out.only k13 (by simp; have := XR.out; omega))
  have I13 := Lib.hid (I12.out.read hr13 k13)
  have P2 : Hid ((SlRd .u8 w13 ⟨a1, d1, z1⟩ ∧ ∀ b ∈ (Sl.mk a1 d1 z1).bs, w11.heap.size ≤ b) ∧ SlRd .u8 w13 ⟨a2, d2, z2⟩ ∧ ∀ b ∈ (Sl.mk a2 d2 z2).bs, w11.heap.size ≤ b) := Lib.hid ⟨⟨P1.out.1.rd.only k13 (fun _ b hb hm => by have := P1.out.2 b hb; have := L1.out; simp at hm; omega), P1.out.2⟩, hq2.rd, fun b hb => Nat.le_trans L1.out.2.2.2 (hg2 b hb)⟩
  unfold Sl.v
  simp only
  rw [HXY.out.2]
  clear hq2 hg2 hr13 k13 P1
  have f4 := R13.out.free 4
  have f5 := R13.out.free 5
  have f6 := R13.out.free 6
  have f7 := R13.out.free 7
  have c4 : w13.cell? ⟨x, 4, none⟩ = some (.int .u32 0) := R13.out.cell 4
  have c5 : w13.cell? ⟨x, 5, none⟩ = some (.int .u16 0) := R13.out.cell 5
  have c6 : w13.cell? ⟨x, 6, none⟩ = some (.slice none 0 0) := R13.out.cell 6
  have c7 : w13.cell? ⟨x, 7, none⟩ = some (.slice none 0 0) := R13.out.cell 7
  clear U1 U2 U3 U4 U5 U6 U7 U8 U9 R9 R10 R11 R12 I9 I10 I11 I12 SK
  go_upto_region 29 with fail
  have kk : Only [x] w13 ((((w13.setCell ⟨x, 4, none⟩ (.int .u32 pg)).setCell ⟨x, 5, none⟩ (.int .u16 off)).setCell ⟨x, 6, none⟩ (.slice a1 m d1)).setCell ⟨x, 7, none⟩ (.slice a2 m d2)) := ((((Only.refl [x] w13).setCell (.inl (by simp)) _).setCell (.inl (by simp)) _).setCell (.inl (by simp)) _).setCell (.inl (by simp)) _
  have R14 : Hid (Row ((((w13.setCell ⟨x, 4, none⟩ (.int .u32 pg)).setCell ⟨x, 5, none⟩ (.int .u16 off)).setCell ⟨x, 6, none⟩ (.slice a1 m d1)).setCell ⟨x, 7, none⟩ (.slice a2 m d2)) x (recR 1 lsn ep 0 pg off (.slice a1 m d1) (.slice a2 m d2)) 43) := Lib.hid ((((R13.out.set 4 (.int .u32 pg)).set 5 (.int .u16 off)).set 6 (.slice a1 m d1)).set 7 (.slice a2 m d2))
  have E14 : Hid (st.RdrAt ((((w13.setCell ⟨x, 4, none⟩ (.int .u32 pg)).setCell ⟨x, 5, none⟩ (.int .u16 off)).setCell ⟨x, 6, none⟩ (.slice a1 m d1)).setCell ⟨x, 7, none⟩ (.slice a2 m d2)) r [] 0) := Lib.hid (I13.out.rd.behind kk (fun b hb => by simp at hb; have := XR.out; omega))
  have Z14 := Lib.hid (I13.out.res.only kk (by simp; have := XR.out; have := I13.out.hr; omega))
  have B14 := Lib.hid (I13.out.bl.trans (kk.toBelow I13.out.bl.size fun i hi => by simp at hi; have := XR.out; omega))
  have P14 : Hid (SlRd .u8 ((((w13.setCell ⟨x, 4, none⟩ (.int .u32 pg)).setCell ⟨x, 5, none⟩ (.int .u16 off)).setCell ⟨x, 6, none⟩ (.slice a1 m d1)).setCell ⟨x, 7, none⟩ (.slice a2 m d2)) ⟨a1, d1, z1⟩ ∧ SlRd .u8 ((((w13.setCell ⟨x, 4, none⟩ (.int .u32 pg)).setCell ⟨x, 5, none⟩ (.int .u16 off)).setCell ⟨x, 6, none⟩ (.slice a1 m d1)).setCell ⟨x, 7, none⟩ (.slice a2 m d2)) ⟨a2, d2, z2⟩) := Lib.hid ⟨P2.out.1.1.only kk (fun _ b hb hm => by have := P2.out.1.2 b hb; have := L1.out; simp at hm; omega), P2.out.2.1.only kk (fun _ b hb hm => by have := P2.out.2.2 b hb; have := L1.out; simp at hm; omega)⟩
  have HR := Lib.hid I13.out.hr
  clear kk f4 f5 f6 f7 c4 c5 c6 c7 R13 I13
  generalize (((w13.setCell ⟨x, 4, none⟩ (.int .u32 pg)).setCell ⟨x, 5, none⟩ (.int .u16 off)).setCell ⟨x, 6, none⟩ (.slice a1 m d1)).setCell ⟨x, 7, none⟩ (.slice a2 m d2) = w14 at *
  have EK := Lib.hid fun (y : World) (k : Below w14.heap.size w14 y) => st.err_gen (E14.out.below k)
  have SO : Hid (∀ y, Below w14.heap.size w14 y → y.cell? ⟨x, 0, none⟩ = some (.int .i64 1) ∧ y.cell? ⟨x, 1, none⟩ = some (.int .u64 lsn) ∧ y.cell? ⟨x, 2, none⟩ = some (.int .u32 ep) ∧ y.cell? ⟨x, 3, none⟩ = some (.int .u64 0) ∧ y.cell? ⟨x, 4, none⟩ = some (.int .u32 pg) ∧ y.cell? ⟨x, 5, none⟩ = some (.int .u16 off) ∧ y.cell? ⟨x, 6, none⟩ = some (.slice a1 m d1) ∧ y.cell? ⟨x, 7, none⟩ = some (.slice a2 m d2) ∧ y.cell? ⟨x, 8, none⟩ = some (.slice none 0 0) ∧ y.cell? ⟨x, 9, none⟩ = some (.int .u64 0) ∧ y.cell? ⟨x, 10, none⟩ = some (.int .u64 0) ∧ y.cell? ⟨x, 11, none⟩ = some (.bool false) ∧ y.cell? ⟨x, 12, none⟩ = some (.int .u64 0) ∧ y.cell? ⟨x, 13, none⟩ = some (.slice none 0 0) ∧ y.cell? ⟨x, 14, none⟩ = some (.slice none 0 0)) := Lib.hid fun y k => by
    have h := R14.out.of_block (k.block _ R14.out.lt)
    exact ⟨h.cell 0, h.cell 1, h.cell 2, h.cell 3, h.cell 4, h.cell 5, h.cell 6, h.cell 7, h.cell 8, h.cell 9, h.cell 10, h.cell 11, h.cell 12, h.cell 13, h.cell 14⟩
  have B0 : Hid (Below w14.heap.size w14 w14.drew) := Lib.hid (Below.refl _ _).drew
  have IX : Hid (∀ y, Below w14.heap.size w14 y → Ints .u8 y (.slice a1 m d1) z1 ∧ Ints .u8 y (.slice a2 m d2) z2) := Lib.hid fun y k => by
    have i1 := (P14.out.1.only ((Only.refl [] w14).below k) (by simp)).ints
    have i2 := (P14.out.2.only ((Only.refl [] w14).below k) (by simp)).ints
    unfold Sl.v at i1 i2
    simp only [HXY.out.1, HXY.out.2] at i1 i2
    exact ⟨i1, i2⟩
  have EQ : Hid (∀ (y : World) (g c3 : Nat), Below w14.heap.size w14 y → Ints .u8 y (.slice (some ⟨g, 0, none⟩) n c3) F → Calls Try.prog 56 #[.slice (some ⟨g, 0, none⟩) n c3, .slice ca n cc] y fun e w' => e = .returned (.bool true) ∧ w' = y) := Lib.hid fun y g c3 k j => by
    have h := CU.out y (B14.out.trans (k.mono B14.out.size))
    have hi := h.1.ints
    rw [CV.out, h.2] at hi
    exact equal_same _ _ n c3 cc F y WPH.out.len (by have := WPH.out.lo; omega) j hi
  have FR2 : Hid (∀ y, Below w14.heap.size w14 y → Calls Try.prog 46 #[.agg (recR 1 lsn ep 0 pg off (.slice a1 m d1) (.slice a2 m d2))] y fun e w' => ∃ g c3, e = .returned (.slice (some ⟨g, 0, none⟩) n c3) ∧ Ints .u8 w' (.slice (some ⟨g, 0, none⟩) n c3) F ∧ Below y.heap.size y w') := Lib.hid fun y k => (FRM.out y a1 a2 d1 d2 (IX.out y k).1 (IX.out y k).2).mono fun e w' ⟨v, e1, o1, b1⟩ => by
    obtain ⟨g, c3, rfl, _⟩ := gives_shape o1 (by have := WPH.out.len; have := WPH.out.lo; omega)
    have h := ints_own' o1 rfl
    rw [WPH.out.len] at h e1
    exact ⟨g, c3, e1, h, b1⟩
  clear E14
  go_region_held3 (fun y => y.cell? ⟨x, 0, none⟩ = some (.int .i64 1) ∧ y.cell? ⟨x, 1, none⟩ = some (.int .u64 lsn) ∧ y.cell? ⟨x, 2, none⟩ = some (.int .u32 ep) ∧ y.cell? ⟨x, 3, none⟩ = some (.int .u64 0) ∧ y.cell? ⟨x, 4, none⟩ = some (.int .u32 pg) ∧ y.cell? ⟨x, 5, none⟩ = some (.int .u16 off) ∧ y.cell? ⟨x, 6, none⟩ = some (.slice a1 m d1) ∧ y.cell? ⟨x, 7, none⟩ = some (.slice a2 m d2) ∧ y.cell? ⟨x, 8, none⟩ = some (.slice none 0 0) ∧ y.cell? ⟨x, 9, none⟩ = some (.int .u64 0) ∧ y.cell? ⟨x, 10, none⟩ = some (.int .u64 0) ∧ y.cell? ⟨x, 11, none⟩ = some (.bool false) ∧ y.cell? ⟨x, 12, none⟩ = some (.int .u64 0) ∧ y.cell? ⟨x, 13, none⟩ = some (.slice none 0 0) ∧ y.cell? ⟨x, 14, none⟩ = some (.slice none 0 0))
    (first
      | exact SO.out _ X3.out
      | exact SO.out _ X2.out
      | exact SO.out _ B0.out)
    (first
      | (go_at_call 56; refine (EQ.out y3 g3 c3 X3.out J3.out).mono ?_; rintro _ y4 ⟨rfl, hy4⟩; subst y4)
      | (go_at_call 46; refine (FR2.out y2 X2.out).mono ?_; rintro _ y3 ⟨g3, c3, rfl, j3, b3⟩; have J3 := Lib.hid j3; have X3 : Hid (Below w14.heap.size w14 y3) := Lib.hid (X2.out.trans (b3.mono X2.out.size)))
      | (go_at_call 45; refine (MAY.out w14.drew a1 a2 d1 d2).mono ?_; rintro _ y2 ⟨rfl, b2⟩; have X2 : Hid (Below w14.heap.size w14 y2) := Lib.hid (B0.out.trans (b2.mono B0.out.size)))
      | (go_at_call 55; refine (EK.out _ B0.out).mono ?_; rintro _ y1 ⟨rfl, hy⟩; subst hy))
  have ZY := Lib.hid (Z14.out.of_block (X3.out.block _ Z14.out.lt))
  have BY := Lib.hid (B14.out.trans (X3.out.mono B14.out.size))
  have PY : Hid (SlRd .u8 y3 ⟨a1, d1, z1⟩ ∧ SlRd .u8 y3 ⟨a2, d2, z2⟩) := Lib.hid ⟨P14.out.1.only ((Only.refl [] w14).below X3.out) (by simp), P14.out.2.only ((Only.refl [] w14).below X3.out) (by simp)⟩
  have PF : Hid (∀ b ∈ (Sl.mk a1 d1 z1).bs ++ (Sl.mk a2 d2 z2).bs, w.heap.size < b) := Lib.hid fun b hb => by
    have h := L1.out
    rcases List.mem_append.1 hb with hb | hb
    · have := P2.out.1.2 b hb; omega
    · have := P2.out.2.2 b hb; omega
  obtain ⟨k0', k1, k2, k3, k4, k5, k6, k7, k8, k9, k10, k11, k12, k13, k14⟩ := SO.out y3 X3.out
  have m0 : y3.cell? ⟨w.heap.size, 0, none⟩ = some (.int .i64 0) := ZY.out.cell 0
  have f0 := ZY.out.free 0
  have m1 : y3.cell? ⟨w.heap.size, 1, none⟩ = some (.int .u64 0) := ZY.out.cell 1
  have f1 := ZY.out.free 1
  have m2 : y3.cell? ⟨w.heap.size, 2, none⟩ = some (.int .u32 0) := ZY.out.cell 2
  have f2 := ZY.out.free 2
  have m3 : y3.cell? ⟨w.heap.size, 3, none⟩ = some (.int .u64 0) := ZY.out.cell 3
  have f3 := ZY.out.free 3
  have m4 : y3.cell? ⟨w.heap.size, 4, none⟩ = some (.int .u32 0) := ZY.out.cell 4
  have f4 := ZY.out.free 4
  have m5 : y3.cell? ⟨w.heap.size, 5, none⟩ = some (.int .u16 0) := ZY.out.cell 5
  have f5 := ZY.out.free 5
  have m6 : y3.cell? ⟨w.heap.size, 6, none⟩ = some (.slice none 0 0) := ZY.out.cell 6
  have f6 := ZY.out.free 6
  have m7 : y3.cell? ⟨w.heap.size, 7, none⟩ = some (.slice none 0 0) := ZY.out.cell 7
  have f7 := ZY.out.free 7
  have m8 : y3.cell? ⟨w.heap.size, 8, none⟩ = some (.slice none 0 0) := ZY.out.cell 8
  have f8 := ZY.out.free 8
  have m9 : y3.cell? ⟨w.heap.size, 9, none⟩ = some (.int .u64 0) := ZY.out.cell 9
  have f9 := ZY.out.free 9
  have m10 : y3.cell? ⟨w.heap.size, 10, none⟩ = some (.int .u64 0) := ZY.out.cell 10
  have f10 := ZY.out.free 10
  have m11 : y3.cell? ⟨w.heap.size, 11, none⟩ = some (.bool false) := ZY.out.cell 11
  have f11 := ZY.out.free 11
  have m12 : y3.cell? ⟨w.heap.size, 12, none⟩ = some (.int .u64 0) := ZY.out.cell 12
  have f12 := ZY.out.free 12
  have m13 : y3.cell? ⟨w.heap.size, 13, none⟩ = some (.slice none 0 0) := ZY.out.cell 13
  have f13 := ZY.out.free 13
  have m14 : y3.cell? ⟨w.heap.size, 14, none⟩ = some (.slice none 0 0) := ZY.out.cell 14
  have f14 := ZY.out.free 14
  have hwx : w.heap.size < x := Nat.lt_trans HR.out XR.out.1
  clear b2 b3 j3
  go_wp2_with fail
  refine bodyPost_ret (results_rec3 rfl _ _ w.heap.size (recR 1 lsn ep 0 pg off (.slice a1 m d1) (.slice a2 m d2)) rfl rfl ?_) rfl ?_
  · exact rec_stored ZY.out _ _ _ _ _ _ _ _ _ _ _ _ _ _ _
  · refine ⟨a1, d1, a2, d2, by rw [HXY.out.1, HXY.out.2]; rfl, ?_, ?_, rec_below BY.out (Nat.le_refl _) _ _ _ _ _ _ _ _ _ _ _ _ _ _ _⟩
    · exact PY.out.1.only (rec_only y3 w.heap.size _ _ _ _ _ _ _ _ _ _ _ _ _ _ _) (fun _ b hb hm => by have := PF.out b (List.mem_append_left _ hb); simp at hm; omega)
    · exact PY.out.2.only (rec_only y3 w.heap.size _ _ _ _ _ _ _ _ _ _ _ _ _ _ _) (fun _ b hb hm => by have := PF.out b (List.mem_append_right _ hb); simp at hm; omega)
end Go.Proofs.Ytekdogmhgijocaa
