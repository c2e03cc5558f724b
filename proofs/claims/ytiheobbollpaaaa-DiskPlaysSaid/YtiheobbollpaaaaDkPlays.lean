/- DiskPlays: whatever is asked of a device, one call after the other, power cuts and crashes among them, its answers, how many sectors were written, and which wait, are the document's: for every input. -/
import Derived.Test.YtiheobbollpaaaaDkZd
import Derived.OpenShut
import Derived.OwnWalk
namespace Go.Proofs.Ytiheobbollpaaaa.diskPlays
open Go.ChangeShapes Go.WideShapes Go.ChangeAt Go.RowKit Go.Joins
set_option linter.unusedVariables false

/-- What both devices are behind a call. -/
def doD (D : Dk) (o : OpV) : Dk :=
  if o.kind = 0 then (writeR D o.at_ (if o.short then 127 else 128) (secOf o.fill)).2 else if o.kind = 2 then stepS D else if o.kind = 3 then (armR D o.at_).2 else if o.kind = 4 then crashD D o.pk else D
theorem do_any {W w : World} {p : Nat} {F : List Nat} {q b1 b2 b3 n : Nat} {D : Dk} (h : Pair W w p F q b1 b2 b3 n D) (o : OpV) (hr : ∃ zs, IsRow .u8 W o.pa o.pl o.pc zs ∧ o.pk = zs.take o.pl) (hb : o.pl ≤ 140737488351232) :
    Calls Try.prog 21 #[.pointer (some ⟨p, 0, none⟩), .pointer (some ⟨q, 0, none⟩), .agg #[.int .i64 o.kind, .int .i64 o.at_, .int .i64 o.fill, .bool o.short, .slice o.pa o.pl o.pc]] w (DoPost W q b1 b2 b3 n (doD D o)) := by
  obtain ⟨k, x, f, sh, pa, pl, pc, pk⟩ := o
  obtain ⟨zs, hz, hpk⟩ := hr
  simp only at hz hb hpk
  subst hpk
  unfold doD
  simp only
  by_cases k0 : k = 0
  · subst k0
    rw [if_pos rfl]
    cases sh with
    | true => exact do_write_true h x f pa pl pc
    | false => exact do_write_false h x f pa pl pc
  rw [if_neg k0]
  by_cases k2 : k = 2
  · subst k2; rw [if_pos rfl]; exact do_sync h x f sh pa pl pc
  rw [if_neg k2]
  by_cases k3 : k = 3
  · subst k3; rw [if_pos rfl]; exact do_arm h x f sh pa pl pc
  rw [if_neg k3]
  by_cases k4 : k = 4
  · subst k4; rw [if_pos rfl]; exact do_crash h x f sh pa pl pc zs hz hb
  rw [if_neg k4]
  by_cases k1 : k = 1
  · subst k1; exact do_read h x f sh pa pl pc
  by_cases k5 : k = 5
  · subst k5; exact do_copy h x f sh pa pl pc
  exact do_else h x f sh pa pl pc k ⟨k0, k1, k2, k3, k4, k5⟩
theorem sectors_dev {W w : World} {p : Nat} {F : List Nat} {q b1 b2 b3 n : Nat} {D : Dk} (h : Pair W w p F q b1 b2 b3 n D) : Calls Try.prog 22 #[.pointer (some ⟨p, 0, none⟩)] w fun e w' => e = .returned (.int .i64 (n : Int)) ∧ w' = w := by
  obtain ⟨bl, bw, bn, hd, rfl, hB⟩ := h.dev.dk
  have := sectors_at w p bl bw bn D hd
  rw [h.rf.sec] at this
  exact this
theorem used_dev {W w : World} {p : Nat} {F : List Nat} {q b1 b2 b3 n : Nat} {D : Dk} (h : Pair W w p F q b1 b2 b3 n D) : Calls Try.prog 23 #[.pointer (some ⟨p, 0, none⟩)] w fun e w' => e = .returned (.int .i64 (D.seen.length : Int)) ∧ w' = w := by
  obtain ⟨bl, bw, bn, hd, rfl, hB⟩ := h.dev.dk
  exact used_at w p bl bw bn D hd
theorem pair_below {W w w' : World} {p : Nat} {F : List Nat} {q b1 b2 b3 n : Nat} {D : Dk} (h : Pair W w p F q b1 b2 b3 n D) (k : Below w.heap.size w w') : Pair W w' p F q b1 b2 b3 n D :=
  h.none ⟨k.os, k.tape, k.output, k.size, fun i hi _ => k.block i hi⟩
def Goal (s m : Int) (a : Option Addr) (n c : Nat) (w : World) : Prop := Calls Try.prog 7 #[.int .i64 s, .int .i64 m, .slice a n c] w fun e w' => e = .returned (.bool true) ∧ Below w.heap.size w w'
/-- Lists that are the same from k on. -/
structure EqI (W w : World) (p : Nat) (F : List Nat) (q b1 b2 b3 n : Nat) (D : Dk) (ga gb m k : Nat) : Prop where
  pair : Pair W w p F q b1 b2 b3 n D
  row : ∃ (cur cur2 : Array Value), Row w ga cur 3 ∧ Row w gb cur2 3 ∧ ∀ j, k ≤ j → j < m → ∃ z : Int, cur[j]? = some (.int .i64 z) ∧ cur2[j]? = some (.int .i64 z)
  nf : ga ∉ F
  nr : ga ∉ [q, b1, b2, b3]
  ge : W.heap.size ≤ ga
  ne : ga ≠ gb
theorem eqi_drew {W w : World} {p : Nat} {F : List Nat} {q b1 b2 b3 n : Nat} {D : Dk} {ga gb m k : Nat} (h : EqI W w p F q b1 b2 b3 n D ga gb m k) (x : Nat) : EqI W (w.drewN x) p F q b1 b2 b3 n D ga gb m k := by
  obtain ⟨cur, cur2, r1, r2, hh⟩ := h.row
  exact ⟨h.pair.none ((Only.refl [] w).drewN x), ⟨cur, cur2, r1.only ((Only.refl [] w).drewN x) (by simp), r2.only ((Only.refl [] w).drewN x) (by simp), hh⟩, h.nf, h.nr, h.ge, h.ne⟩
theorem eqi_next {W w : World} {p : Nat} {F : List Nat} {q b1 b2 b3 n : Nat} {D : Dk} {ga gb m k : Nat} {v : Value} (h : EqI W w p F q b1 b2 b3 n D ga gb m k) : EqI W (w.setCell ⟨ga, k, none⟩ v) p F q b1 b2 b3 n D ga gb m (k + 1) := by
  obtain ⟨cur, cur2, r1, r2, hh⟩ := h.row
  have ko : Only [ga] w (w.setCell ⟨ga, k, none⟩ v) := (Only.refl _ _).setCell (by simp) _
  exact ⟨h.pair.at ko h.nf h.nr h.ge, ⟨_, cur2, r1.set k v, r2.only ko (by simp; exact fun e => h.ne e.symm), fun j hj hm => by rw [Array.getElem?_setIfInBounds_ne (by omega)]; exact hh j (by omega) hm⟩, h.nf, h.nr, h.ge, h.ne⟩
theorem own_ints {w : World} {base m : Nat} {v : Value} {zs : List Int} (h : w.ownsRow base 3 1 v m (zs.map (Value.int .i64))) (hm : 0 < m) : ∃ g cap cur, v = .slice (some ⟨g, 0, none⟩) m cap ∧ base ≤ g ∧ m ≤ cap ∧ cap ≤ 9223372036854775807 ∧ Row w g cur 3 ∧ m ≤ cur.size ∧ ∀ j, j < m → ∃ z, zs[j]? = some z ∧ cur[j]? = some (.int .i64 z) := by
  rcases h.2 with ⟨_, h0⟩ | ⟨g, cap, cur, rfl, hb, hg, hnc, hcm, hcs, ht⟩
  · omega
  · have hl := h.1
    simp only [List.length_map, Nat.mul_one] at hl
    refine ⟨g, cap, cur, rfl, hb, hnc, by unfold maxLen at hcm; omega, hg, by omega, fun j hj => ⟨zs[j], List.getElem?_eq_getElem (by omega), ?_⟩⟩
    have : (cur.toList.take (m * 1))[j]? = (zs.map (Value.int .i64))[j]? := by rw [ht]
    rw [List.getElem?_take, if_pos (by omega), Array.getElem?_toList, List.getElem?_map, List.getElem?_eq_getElem (by omega)] at this
    exact this
set_option maxRecDepth 100000 in
set_option maxHeartbeats 2000000 in
theorem out (s m : Int) (a : Option Addr) (n c : Nat) (w : World) (h : (40 < s ∧ s ≤ 65536) ∨ 300 < n) (hn : n ≤ 9223372036854775807) : Goal s m a n c w := by
  unfold Goal
  by_cases hs : 1 ≤ s ∧ s ≤ 65536 ∧ 0 ≤ m ∧ m ≤ s
  · have NN := Lib.hid (new_dev (W := w) (Below.refl _ _) s m hs.1 hs.2.1 hs.2.2.1 hs.2.2.2)
    clear hs
    by_cases h1 : 40 < s ∧ s ≤ 65536
    · have d1 : decide (40 < s) = true := decide_eq_true h1.1
      have d2 : decide (s ≤ 65536) = true := decide_eq_true h1.2
      clear h h1
      go_enter Try.func7, Try.ntmps7
      go_wp2_with fail
      refine NN.out.mono ?_
      rintro _ w1 ⟨p, F, rfl, hd, k1, hB⟩
      have HD := Lib.hid hd
      have BB := Lib.hid hd.bl
      clear hd k1 hB NN
      go_wp2_with fail
      refine (known_any _).mono ?_
      rintro _ w9 ⟨rfl, hb9⟩
      have H9 := Lib.hid (BB.out.trans (hb9.mono BB.out.size))
      clear hb9
      go_wp2_with fail
      go_ret
      exact ⟨rfl, H9.out⟩

    · have h3 : (300 : Int) < (n : Int) := by omega
      have d3 : decide ((300 : Int) < (n : Int)) = true := decide_eq_true h3
      by_cases h4 : 40 < s
      · have d1 : decide (40 < s) = true := decide_eq_true h4
        have d2 : decide (s ≤ 65536) = false := decide_eq_false (by omega)
        clear h h1 h3
        go_enter Try.func7, Try.ntmps7
        go_wp2_with fail
        refine NN.out.mono ?_
        rintro _ w1 ⟨p, F, rfl, hd, k1, hB⟩
        have HD := Lib.hid hd
        have BB := Lib.hid hd.bl
        clear hd k1 hB NN
        go_wp2_with fail
        refine (known_any _).mono ?_
        rintro _ w9 ⟨rfl, hb9⟩
        have H9 := Lib.hid (BB.out.trans (hb9.mono BB.out.size))
        clear hb9
        go_wp2_with fail
        go_ret
        exact ⟨rfl, H9.out⟩

      · have d1 : decide (40 < s) = false := decide_eq_false h4
        clear h h1 h3
        go_enter Try.func7, Try.ntmps7
        go_wp2_with fail
        refine NN.out.mono ?_
        rintro _ w1 ⟨p, F, rfl, hd, k1, hB⟩
        have HD := Lib.hid hd
        have BB := Lib.hid hd.bl
        clear hd k1 hB NN
        go_wp2_with fail
        refine (known_any _).mono ?_
        rintro _ w9 ⟨rfl, hb9⟩
        have H9 := Lib.hid (BB.out.trans (hb9.mono BB.out.size))
        clear hb9
        go_wp2_with fail
        go_ret
        exact ⟨rfl, H9.out⟩

  · have NO := Lib.hid (new_no s m w (by omega))
    clear hs
    by_cases h1 : 40 < s ∧ s ≤ 65536
    · have d1 : decide (40 < s) = true := decide_eq_true h1.1
      have d2 : decide (s ≤ 65536) = true := decide_eq_true h1.2
      clear h h1
      go_enter Try.func7, Try.ntmps7
      go_wp2_with fail
      refine NO.out.mono ?_
      rintro _ w1 ⟨rfl, hw1⟩
      subst hw1
      have BB := Lib.hid (Below.refl w1.heap.size w1)
      go_wp2_with fail
      refine (known_any _).mono ?_
      rintro _ w9 ⟨rfl, hb9⟩
      have H9 := Lib.hid (BB.out.trans (hb9.mono BB.out.size))
      clear hb9
      go_wp2_with fail
      go_ret
      exact ⟨rfl, H9.out⟩

    · have h3 : (300 : Int) < (n : Int) := by omega
      have d3 : decide ((300 : Int) < (n : Int)) = true := decide_eq_true h3
      by_cases h4 : 40 < s
      · have d1 : decide (40 < s) = true := decide_eq_true h4
        have d2 : decide (s ≤ 65536) = false := decide_eq_false (by omega)
        clear h h1 h3
        go_enter Try.func7, Try.ntmps7
        go_wp2_with fail
        refine NO.out.mono ?_
        rintro _ w1 ⟨rfl, hw1⟩
        subst hw1
        have BB := Lib.hid (Below.refl w1.heap.size w1)
        go_wp2_with fail
        refine (known_any _).mono ?_
        rintro _ w9 ⟨rfl, hb9⟩
        have H9 := Lib.hid (BB.out.trans (hb9.mono BB.out.size))
        clear hb9
        go_wp2_with fail
        go_ret
        exact ⟨rfl, H9.out⟩

      · have d1 : decide (40 < s) = false := decide_eq_false h4
        clear h h1 h3
        go_enter Try.func7, Try.ntmps7
        go_wp2_with fail
        refine NO.out.mono ?_
        rintro _ w1 ⟨rfl, hw1⟩
        subst hw1
        have BB := Lib.hid (Below.refl w1.heap.size w1)
        go_wp2_with fail
        refine (known_any _).mono ?_
        rintro _ w9 ⟨rfl, hb9⟩
        have H9 := Lib.hid (BB.out.trans (hb9.mono BB.out.size))
        clear hb9
        go_wp2_with fail
        go_ret
        exact ⟨rfl, H9.out⟩

set_option maxRecDepth 100000 in
set_option maxHeartbeats 2000000 in
theorem refused (s m : Int) (a : Option Addr) (n c : Nat) (w : World) (h0 : ¬ (1 ≤ s ∧ s ≤ 65536 ∧ 0 ≤ m ∧ m ≤ s)) (h : ¬ (40 < s ∧ s ≤ 65536)) (hn : n ≤ 300) : Goal s m a n c w := by
  unfold Goal
  have NO := Lib.hid (new_no s m w (by omega))
  have NR := Lib.hid (rnew_no s m w (by omega))
  have d3 : decide ((300 : Int) < (n : Int)) = false := decide_eq_false (by omega)
  clear h0
  by_cases h4 : 40 < s
  · have d1 : decide (40 < s) = true := decide_eq_true h4
    have d2 : decide (s ≤ 65536) = false := decide_eq_false (by omega)
    clear h
    go_enter Try.func7, Try.ntmps7
    go_wp2_with fail
    refine NO.out.mono ?_
    rintro _ w1 ⟨rfl, hw1⟩
    subst hw1
    have BB := Lib.hid (Below.refl w1.heap.size w1)
    go_wp2_with fail
    refine NR.out.mono ?_
    rintro _ w2 ⟨rfl, hw2⟩
    subst hw2
    go_wp2_with fail
    refine (known_any _).mono ?_
    rintro _ w9 ⟨rfl, hb9⟩
    have H9 := Lib.hid (BB.out.trans (hb9.mono BB.out.size))
    clear hb9
    go_wp2_with fail
    go_ret
    exact ⟨rfl, H9.out⟩

  · have d1 : decide (40 < s) = false := decide_eq_false h4
    clear h
    go_enter Try.func7, Try.ntmps7
    go_wp2_with fail
    refine NO.out.mono ?_
    rintro _ w1 ⟨rfl, hw1⟩
    subst hw1
    have BB := Lib.hid (Below.refl w1.heap.size w1)
    go_wp2_with fail
    refine NR.out.mono ?_
    rintro _ w2 ⟨rfl, hw2⟩
    subst hw2
    go_wp2_with fail
    refine (known_any _).mono ?_
    rintro _ w9 ⟨rfl, hb9⟩
    have H9 := Lib.hid (BB.out.trans (hb9.mono BB.out.size))
    clear hb9
    go_wp2_with fail
    go_ret
    exact ⟨rfl, H9.out⟩

theorem opSize : (Try.prog.info? 31).map (·.size) = some 5 := by kernel_rfl
set_option maxRecDepth 100000 in
set_option maxHeartbeats 8000000 in
theorem main (s : Nat) (m : Int) (a : Option Addr) (n c : Nat) (os : List OpV) (w : World) (h1 : 1 ≤ s) (h2 : s ≤ 40) (h3 : 0 ≤ m) (h4 : m ≤ (s : Int)) (hn : n ≤ 300) (hos : OpsIn w a n c os) (hbig : ∀ x ∈ os, x.pl ≤ 140737488351232) : Goal s m a n c w := by
  unfold Goal
  have NN := Lib.hid (new_dev (W := w) (Below.refl _ _) s m (by omega) (by omega) h3 h4)
  have HOS := Lib.hid hos
  have HBG := Lib.hid hbig
  have d1 : decide (40 < (s : Int)) = false := decide_eq_false (by omega)
  have d3 : decide ((300 : Int) < (n : Int)) = false := decide_eq_false (by omega)
  clear hos hbig
  go_enter Try.func7, Try.ntmps7
  go_wp2_with fail
  refine NN.out.mono ?_
  rintro _ w1 ⟨p, F, rfl, hd, k1, hB⟩
  have HD := Lib.hid hd
  have BB := Lib.hid hd.bl
  clear hd k1 hB NN
  go_wp2_with fail

  refine (rnew_ok s m w1 h1 (by omega) h3 h4).mono ?_
  rintro _ w2 ⟨q, b1, b2, b3, rfl, hr, k2, hge⟩
  have P2 : Hid (Pair w w2 p F q b1 b2 b3 s (newD s m)) := Lib.hid ⟨HD.out.none k2, hr, fun b hb hf => by have := HD.out.lt b hb; have := hge b hf; omega, fun b hb => by have := hge b hb; have := BB.out.size; omega⟩
  clear hr k2 hge HD BB d1 d3
  go_wp2_with fail
  go_loopw [7, 10, 11, 12, 13, 14, 15] (fun dv u _ _ _ _ _ wr => ∃ i : Nat, i ≤ n ∧ u = .int .i64 i ∧ ∃ p, dv = .pointer (some ⟨p, 0, none⟩) ∧ Hid (∃ D F, Pair w wr p F q b1 b2 b3 s D)) (fun _ u _ _ _ _ _ _ => n - (intOf u).toNat)
  case atStart => exact ⟨0, by omega, rfl, p, rfl, Lib.hid ⟨_, _, P2.out⟩⟩
  case round =>
    clear P2
    obtain ⟨i, hi, rfl, p, rfl, HP⟩ := hrel
    have i0 : (0 : Int) ≤ (i : Int) := Int.natCast_nonneg _
    obtain ⟨D, F, hP⟩ := HP.out
    have PI := Lib.hid hP
    clear hP HP
    by_cases hlt : i < n
    · have e1 : decide ((i : Int) < (n : Int)) = true := decide_eq_true (by omega)
      have e1' : (i : Int) < (n : Int) := by omega
      obtain ⟨hol, _, hor⟩ := HOS.out
      obtain ⟨ob, oo, rfl, hall⟩ := hor.resolve_left (by omega)
      obtain ⟨x, hx⟩ : ∃ x, os[i]? = some x := ⟨_, List.getElem?_eq_getElem (by omega)⟩
      have HOA := Lib.hid (hall i x hx)
      have HBX := Lib.hid (HBG.out x (List.mem_of_getElem? hx))
      have CC : Hid (Cells wr ob (oo + i * 5) [.int .i64 x.kind, .int .i64 x.at_, .int .i64 x.fill, .bool x.short, .slice x.pa x.pl x.pc]) := Lib.hid (by
        obtain ⟨q0, q1, q2, q3, q4⟩ := opAt_below HOA.out PI.out.dev.bl
        intro j v hj
        rcases j with _ | _ | _ | _ | _ | j <;> simp at hj <;> subst hj <;> assumption)
      clear hol hor hall hx
      go_wp2_with (refine wpList_load_cells rfl 31 (.tmp 65) rfl ob (oo + i * 5) rfl _ CC.out _ Try.underlying31 rfl opSize ?_)
      refine (do_any PI.out x HOA.out.row HBX.out).mono ?_
      rintro _ w3 ⟨p3, F3, rfl, hP3⟩
      have P3 := Lib.hid hP3
      clear hP3 PI CC
      generalize doD D x = D3 at *
      go_wp2_with fail
      refine (sectors_dev P3.out).mono ?_
      rintro _ w' ⟨rfl, hw'⟩
      subst w'
      go_wp2_with fail
      refine (used_dev P3.out).mono ?_
      rintro _ w' ⟨rfl, hw'⟩
      subst w'
      go_wp2_with fail
      refine (rused_at P3.out.rf).mono ?_
      rintro _ w' ⟨rfl, hw'⟩
      subst w'
      go_wp2_with fail
      refine (waits_dev P3.out.dev).mono ?_
      rintro _ w4 ⟨va, rfl, hva, hb4⟩
      have P4 := Lib.hid (pair_below P3.out hb4)
      have l3 := P3.out.dev.bl.size
      obtain ⟨mm, hmm⟩ : ∃ mm, mm = D3.waits.length := ⟨_, rfl⟩
      have hkl := keysD_len D3
      rw [← hmm] at hva hkl
      have few := P3.out.rf.fine.few P3.out.rf.wn
      rw [← hmm] at few
      have VA := Lib.hid hva
      have ls : w3.heap.size ≤ w4.heap.size := hb4.size
      have PL := Lib.hid P3.out.lt
      clear hva hb4 P3
      go_wp2_with fail
      refine (rlist_at P4.out.rf).mono ?_
      rintro _ w5 ⟨vb, rfl, hvb, hb5⟩
      rw [hkl] at hvb
      have P5 := Lib.hid (pair_below P4.out hb5)
      have VB := Lib.hid hvb
      have VA5 := Lib.hid (own_keep VA.out fun g hg => hb5.block g (VA.out.lt g hg).2)
      have VAL := Lib.hid VA.out.lt
      clear hvb hb5 P4 VA hkl hmm
      by_cases h0 : mm = 0
      · subst h0
        obtain ⟨ra, ca, rfl, _, _⟩ := own_shape VA5.out
        obtain ⟨rb, cb, rfl, _, _⟩ := own_shape VB.out
        clear VA5 VB VAL PL
        go_wp2_with fail
        rename World => w6
        go_loopw [15] (fun u wq => u = .int .i64 0 ∧ Hid (Pair w wq p3 F3 q b1 b2 b3 s D3)) (fun _ _ => 0)
        case atStart => exact ⟨rfl, P5⟩
        case round =>
          obtain ⟨rfl, HB⟩ := hrel
          go_wp2_with fail
          go_roundw
          case rel => exact ⟨i + 1, by omega, by go_num, p3, rfl, Lib.hid ⟨_, _, HB.out⟩⟩
          case measure => simp [intOf]; omega
      · obtain ⟨ga, ca, cur, rfl, hga, hca, hca2, hrA, hsA, hA⟩ := own_ints VA5.out (by omega)
        obtain ⟨gb, cb, cur2, rfl, hgb, hcb, hcb2, hrB, hsB, hB⟩ := own_ints VB.out (by omega)
        have hgl := (VAL.out ga rfl).2
        have I5 : Hid (EqI w w5 p3 F3 q b1 b2 b3 s D3 ga gb mm 0) := Lib.hid ⟨P5.out, ⟨cur, cur2, hrA, hrB, fun j _ hj => by
          obtain ⟨z, hz1, hz2⟩ := hA j hj
          obtain ⟨z', hz1', hz2'⟩ := hB j hj
          rw [hz1] at hz1'
          cases hz1'
          exact ⟨z, hz2, hz2'⟩⟩, fun hh => by have := PL.out ga (.inl hh); omega, fun hh => by have := PL.out ga (.inr hh); omega, by omega, by omega⟩
        have mz : (mm : Int) ≤ 65536 := by omega
        have mca : (mm : Int) ≤ (ca : Int) := by omega
        have mcb : (mm : Int) ≤ (cb : Int) := by omega
        clear VA5 VB VAL PL P5 hga hgb hrA hrB hsA hsB hA hB hgl l3 ls
        go_wp2_with fail
        rename World => w6
        go_loopw [15] (fun u wq => ∃ k : Nat, k ≤ mm ∧ u = .int .i64 k ∧ Hid (EqI w wq p3 F3 q b1 b2 b3 s D3 ga gb mm k)) (fun u _ => mm - (intOf u).toNat)
        case atStart => exact ⟨0, by omega, rfl, I5⟩
        case round =>
          clear I5
          obtain ⟨k, hk, rfl, HE⟩ := hrel
          have k0 : (0 : Int) ≤ (k : Int) := Int.natCast_nonneg _
          by_cases hkl : k < mm
          · have e2 : decide ((k : Int) < (mm : Int)) = true := decide_eq_true (by omega)
            have e2' : (k : Int) < (mm : Int) := by omega
            obtain ⟨cu, cu2, r1, r2, hh⟩ := HE.out.row
            obtain ⟨z, hz1, hz2⟩ := hh k (Nat.le_refl _) hkl
            have l1 : wr.cell? ⟨ga, k, none⟩ = some (.int .i64 z) := (r1.cell k).trans hz1
            have l2 : wr.cell? ⟨gb, k, none⟩ = some (.int .i64 z) := (r2.cell k).trans hz2
            have f1 := r1.free k
            clear r1 r2 hh hz1 hz2
            go_wp2_with fail
            go_quiet (fail)
            have F2 : Hid (EqI w ((wr.drewN nq).setCell ⟨ga, k, none⟩ (.int .i64 (-1))) p3 F3 q b1 b2 b3 s D3 ga gb mm (k + 1)) := Lib.hid (eqi_next (eqi_drew HE.out nq))
            have l1' : (wr.drewN nq).cell? ⟨ga, k, none⟩ = some (.int .i64 z) := l1
            have f1' : (wr.drewN nq).frozen? ⟨ga, k, none⟩ = false := f1
            clear l1 l2 f1
            generalize wr.drewN nq = wz at *
            go_wp2_with fail
            go_roundw
            case rel => exact ⟨k + 1, by omega, by go_num, F2⟩
            case measure => simp [intOf]; omega
          · have e2 : decide ((k : Int) < (mm : Int)) = false := decide_eq_false (by omega)
            go_wp2_with fail
            go_roundw
            case rel => exact ⟨i + 1, by omega, by go_num, p3, rfl, Lib.hid ⟨_, _, HE.out.pair⟩⟩
            case measure => simp [intOf]; omega
    · have e1 : decide ((i : Int) < (n : Int)) = false := decide_eq_false (by omega)
      go_wp2_with fail
      refine (known_any _).mono ?_
      rintro _ w9 ⟨rfl, hb9⟩
      have H9 := Lib.hid (PI.out.dev.bl.trans (hb9.mono PI.out.dev.bl.size))
      clear hb9
      go_wp2_with fail
      go_ret
      exact ⟨rfl, H9.out⟩
theorem walk (s m : Int) (a : Option Addr) (n c : Nat) (os : List OpV) (W : World) (_ : (Lit.int .i64 s).wf = true) (_ : (Lit.int .i64 m).wf = true) (hos : OpsIn W a n c os) (hbig : ∀ x ∈ os, x.pl ≤ 140737488351232) :
    Calls Try.prog 7 #[.int .i64 s, .int .i64 m, .slice a n c] W fun e w' => e = .returned (.bool true) ∧ Below W.heap.size W w' := by
  by_cases h1 : (40 < s ∧ s ≤ 65536) ∨ 300 < n
  · exact out s m a n c W h1 hos.2.1
  by_cases h2 : 1 ≤ s ∧ s ≤ 65536 ∧ 0 ≤ m ∧ m ≤ s
  · obtain ⟨k, rfl⟩ : ∃ k : Nat, s = (k : Int) := ⟨s.toNat, by omega⟩
    exact main k m a n c os W (by omega) (by omega) h2.2.2.1 h2.2.2.2 (by omega) hos hbig
  · exact refused s m a n c W h2 (fun h => h1 (.inl h)) (by omega)

theorem own : ownKnob Try.prog.godebug = none := by kernel_rfl
theorem laidOut : laidOutB Try.prog = true := by kernel_rfl

set_option maxRecDepth 100000 in
theorem contract (H : Type) (enc : TypeId × Value → H) (W : World) (base : Nat) (args : Array Value) (ds gs : List (DataW H)) (before : List MemPlace)
    (hval0 : ∀ (j : Nat) t v, Try.f7.params[j]? = some t → args[j]? = some v → Value.okWide Try.prog W .any base t v)
    (hW : DataW.Whole enc Try.prog Try.f7.params.toList Rows.diskPlaysSpec.vars false W args.toList ds gs before)
    (hsz0 : (DataW.weightsEach Try.prog (Try.f7.params.toList ++ Rows.diskPlaysSpec.plain.varTypes Try.prog) (ds ++ gs)).all (· ≤ reachBytes) = true) :
    Calls Try.prog 7 args W fun e W' => ∃ v, e = .returned v ∧ Rows.diskPlaysSpec.post enc Try.prog Try.f7 false true false false W args v W' := by
  have hval : ∀ (j : Nat) t v, Try.f7.params[j]? = some t → args[j]? = some v → Value.okWide Try.prog W .any base t v := hval0
  have hW' := hW
  obtain ⟨p, q, hA0, hV, rfl, hfz, hnd⟩ := hW
  have hA : DataW.TrodAll enc Try.prog W 0 (fun _ => true) true Try.f7.params.toList args.toList ds p := hA0
  have hsz : (DataW.weightsEach Try.prog (Try.f7.params.toList ++ Rows.diskPlaysSpec.plain.varTypes Try.prog) (ds ++ gs)).all (· ≤ reachBytes) = true := hsz0
  rw [Try.params7] at hA hval hsz
  obtain ⟨v0, vs0, d0, ds0, p0, q0, hargs, rfl, rfl, h0, r0'⟩ := trodAll_cons hA
  obtain ⟨v1, vs1, d1, ds1, p1, q1, rfl, rfl, rfl, h1, r1'⟩ := trodAll_cons r0'
  obtain ⟨v2, vs2, d2, ds2, p2, q2, rfl, rfl, rfl, h2, r2'⟩ := trodAll_cons r1'
  obtain ⟨rfl, rfl, rfl⟩ := trodAll_nil r2'
  obtain rfl : args = #[v0, v1, v2] := by cases args; simp_all
  obtain ⟨rfl, rfl⟩ := trodVars_none hV
  have k0 := h0
  have lt0 : ∀ x ∈ p0, x.block < W.heap.size := by obtain ⟨m, hm⟩ := k0; exact DataW.trod_lt m _ _ _ hm
  have k1 := h1
  have lt1 : ∀ x ∈ p1, x.block < W.heap.size := by obtain ⟨m, hm⟩ := k1; exact DataW.trod_lt m _ _ _ hm
  have k2 := h2
  have lt2 : ∀ x ∈ p2, x.block < W.heap.size := by obtain ⟨m, hm⟩ := k2; exact DataW.trod_lt m _ _ _ hm
  obtain ⟨x0, rfl, hd0, hp0, w0⟩ := open_int Try.underlying3 (hval 0 3 v0 rfl rfl) h0
  obtain ⟨x1, rfl, hd1, hp1, w1⟩ := open_int Try.underlying3 (hval 1 3 v1 rfl rfl) h1
  obtain ⟨a2, n2, c2, rfl⟩ := okWide_slice Try.underlying22 (hval 2 22 v2 rfl rfl)
  obtain ⟨z2, w2, g2⟩ : ∃ os, OpsIn W a2 n2 c2 os ∧ ∀ x ∈ os, x.pl ≤ 140737488351232 := by
    obtain ⟨fuel, hf⟩ := h2
    simp [Value.cells] at hf
    exact ops_in2 hf (fun k hk => by
      have := List.all_eq_true.1 hsz _ (DataW.weights_mem_each (j := 2) (t := 22) rfl rfl k hk)
      simpa using this)
  clear hA0 hval0 hsz0
  refine (walk x0 x1 a2 n2 c2 z2 W w0 w1 w2 g2).mono fun e W' ⟨he, bel⟩ => ?_
  subst he
  exact ⟨_, rfl, _, _, _, [], _, [], hW', trodAll_mk1 (shut_bool Try.underlying4 _), (trodAll_cons_mk (Below.trod laidOut (by kernel_rfl) (of_decide_eq_true (by kernel_rfl)) k0 bel lt0) (trodAll_cons_mk (Below.trod laidOut (by kernel_rfl) (of_decide_eq_true (by kernel_rfl)) k1 bel lt1) (trodAll_cons_mk (Below.trod laidOut (by kernel_rfl) (of_decide_eq_true (by kernel_rfl)) k2 bel lt2) trodAll_mk0))), rfl, bel.frame _, fun h => by cases h⟩

set_option maxRecDepth 100000 in
theorem lifted (os : Os) (started : os.Started) (H : Type) (enc : TypeId × Value → H) :
    ReturnsInHanded {} Try.checked os 7 .any (Rows.diskPlaysSpec.pre6 enc Try.prog Try.f7 Rows.diskPlaysRow.domain false) (Rows.diskPlaysSpec.post enc Try.prog Try.f7 false true false false) := by
  refine returnsInHanded_of_change_sized (C := Try.checked) own started (by kernel_rfl) Try.func7
    (ChangeSpec.witness6 (enc := enc) (C := Try.checked) false ⟨#[], #[.int .i64 0, .int .i64 0, .slice none 0 0], []⟩ 8 (by kernel_rfl) (by kernel_rfl) (by kernel_rfl) (by kernel_rfl)) ?_
  intro W base args ds gs before hval hW _ hsz _
  exact contract H enc W base args ds gs before hval hW hsz

theorem over : Rows.diskPlaysRow.holds Try.pinned (OpenSpec.ofChange Rows.diskPlaysSpec) :=
  OpenClaim.holds_of_wide 7 Try.f7 rfl rfl rfl rfl rfl rfl rfl ⟨rfl, rfl, rfl, rfl, rfl⟩ rfl rfl rfl rfl rfl (by kernel_rfl) Try.func7 (by kernel_rfl)
    (of_decide_eq_true (by kernel_rfl)) (by unfold Func.isWrapper; first | (rw [if_pos (by decide +kernel)]; kernel_rfl) | (rw [if_neg (by decide +kernel)]; exact ⟨rfl, rfl⟩))
    (fun os started H enc _ => lifted os started H enc)

theorem proved : Rows.DiskPlaysSaid := over
#print axioms proved
end Go.Proofs.Ytiheobbollpaaaa.diskPlays
