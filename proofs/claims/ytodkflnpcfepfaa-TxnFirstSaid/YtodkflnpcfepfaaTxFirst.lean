/- TxnFirst: of transactions that were open at one time, and wrote one key, at most one is committed; and one that wrote what nobody else wrote is: for every input. -/
import Derived.Test.YtodkflnpcfepfaaTxI
import Derived.Deep.Matrix
import Derived.OpenShut
import Derived.OwnWalk
import Derived.Outline
namespace Go.Proofs.Ytodkflnpcfepfaa.txnFirst
open Go.ChangeShapes Go.WideShapes Go.ChangeAt Go.RowKit Go.Joins
set_option linter.unusedVariables false

/-- A slice of rows of numbers that came in. -/
def RowsIn (w : World) (a : Option Addr) (n c : Nat) (ks : List (List Int)) : Prop := ks.length = n ∧ n ≤ 9223372036854775807 ∧ (n = 0 ∨ ∃ b off, a = some ⟨b, off, none⟩ ∧ ∀ j, j < n → ∃ ra rl rc, w.cell? ⟨b, off + j, none⟩ = some (.slice ra rl rc) ∧ Ints .u64 w (.slice ra rl rc) (rowL ks j) ∧ (rowL ks j).length = rl ∧ rl ≤ 9223372036854775807)
theorem rows_in {H : Type} {enc : TypeId × Value → H} {W : World} {base fuel : Nat} {a : Option Addr} {n c : Nat} {held : Bool} {x : DataW H × List MemPlace} (h : DataW.trod enc Try.prog W base (fun _ => true) held fuel 22 [.slice a n c] = some x) :
    ∃ ks, RowsIn W a n c ks := by
  rcases Go.Deep.open_int_rows Try.underlying22 Try.underlying28 Try.underlying29 (by kernel_rfl) (by kernel_rfl) h with ⟨hcs, _⟩ | ⟨a', len, cap, A, L, C, Z, hcs, _, hl, hm, _, hr⟩
  · simp only [List.cons.injEq, Value.slice.injEq, and_true] at hcs
    obtain ⟨rfl, rfl, rfl⟩ := hcs
    exact ⟨[], rfl, by omega, .inl rfl⟩
  · simp only [List.cons.injEq, Value.slice.injEq, and_true] at hcs
    obtain ⟨rfl, rfl, rfl⟩ := hcs
    refine ⟨(List.range n).map fun r => (Z r).take (L r), by simp, by unfold maxLen at hm; omega, ?_⟩
    by_cases h0 : n = 0
    · exact .inl h0
    · right
      obtain ⟨b, off, spot⟩ := a'
      have hspot : spot = none := by
        have := World.cell?_spot (hr 0 (by omega)).1
        simpa [Addr.add] using this
      subst hspot
      refine ⟨b, off, rfl, fun j hj => ⟨A j, L j, C j, ?_, ?_, ?_, ?_⟩⟩
      · have := (hr j (by omega)).1
        rwa [add_plain] at this
      · obtain ⟨_, r1, r2, r3, r4, r5, r6⟩ := hr j (by omega)
        have e : rowL ((List.range n).map fun r => (Z r).take (L r)) j = (Z j).take (L j) := by simp [rowL, hj]
        rw [e]
        by_cases hz : L j = 0
        · exact .inl ⟨by rw [hz]; rfl, _, _, by rw [hz]⟩
        · cases hA : A j with
          | none => have := r5 hA; omega
          | some q =>
            have hc := (r6 q hA).2
            obtain ⟨b', o', rfl, hc'⟩ := ints_at (zs := Z j) (by intro i hi; exact hc i (by omega)) (by omega)
            have hlen : ((Z j).take (L j)).length = L j := by simp; omega
            refine .inr ⟨b', o', C j, by rw [hlen], fun i hi => ?_⟩
            rw [hlen] at hi
            rw [hc' i (by omega), List.getElem?_take, if_pos hi, List.getD_eq_getElem?_getD]
      · obtain ⟨_, r1, r2, r3, r4, r5, r6⟩ := hr j (by omega)
        have e : rowL ((List.range n).map fun r => (Z r).take (L r)) j = (Z j).take (L j) := by simp [rowL, hj]
        rw [e]; simp; omega
      · obtain ⟨_, r1, r2, r3, r4, r5, r6⟩ := hr j (by omega)
        unfold maxLen at r2; omega
def Goal (a : Option Addr) (n c : Nat) (a' : Option Addr) (m c' : Nat) (w : World) : Prop := Calls Try.prog 3 #[.slice a n c, .slice a' m c'] w fun e w' => e = .returned (.bool true) ∧ Below w.heap.size w w'
set_option maxRecDepth 100000 in
set_option maxHeartbeats 2000000 in
theorem out (a : Option Addr) (n c : Nat) (a' : Option Addr) (m c' : Nat) (w : World) (h : n < 2 ∨ 8 < n ∨ 50 < m) (hn : n ≤ 9223372036854775807) (hm : m ≤ 9223372036854775807) : Goal a n c a' m c' w := by
  unfold Goal
  by_cases h1 : n < 2
  · go_enter Try.func3, Try.ntmps3
    go_wp2_with fail
    refine (known_any _).mono ?_
    rintro _ w9 ⟨rfl, hb9⟩
    have H9 := Lib.hid hb9
    clear hb9
    go_wp2_with fail
    go_ret
    exact ⟨rfl, H9.out⟩
  · by_cases h2 : 8 < n
    · go_enter Try.func3, Try.ntmps3
      go_wp2_with fail
      refine (known_any _).mono ?_
      rintro _ w9 ⟨rfl, hb9⟩
      have H9 := Lib.hid hb9
      clear hb9
      go_wp2_with fail
      go_ret
      exact ⟨rfl, H9.out⟩
    · have h3 : 50 < m := by omega
      go_enter Try.func3, Try.ntmps3
      go_wp2_with fail
      refine (known_any _).mono ?_
      rintro _ w9 ⟨rfl, hb9⟩
      have H9 := Lib.hid hb9
      clear hb9
      go_wp2_with fail
      go_ret
      exact ⟨rfl, H9.out⟩
theorem infoU64 : (Try.prog.info? 29).map (fun i => (i.zero, i.size, i.bytes)) = some (some (.int .u64 0), 1, 8) := by kernel_rfl
theorem infoBool : (Try.prog.info? 4).map (fun i => (i.zero, i.size, i.bytes)) = some (some (.bool false), 1, 1) := by kernel_rfl
/-- The numbers of the first i transactions. -/
def idsL (i : Nat) : List Int := (List.range i).map fun (j : Nat) => 30064771072 + (j : Int) + 1
theorem idsL_succ (i : Nat) : idsL (i + 1) = idsL i ++ [30064771072 + (i : Int) + 1] := by simp [idsL, List.range_succ]
theorem own_none64 (w : World) : w.ownsRow w.heap.size 29 1 (.slice none 0 0) 0 ((idsL 0).map (Value.int .u64)) := ⟨rfl, .inl ⟨rfl, rfl⟩⟩
/-- The first part: transactions begin, and write. B: where the call's own blocks begin. -/
structure Part1 (w wr : World) (ks : List (List Int)) (p i t : Nat) (idv : Value) (il : Nat) (M : Mg) (F : List Nat) : Prop where
  mg : MgF wr w.heap.size p M F
  wr_ : Writing 30064771072 ks i t M
  ids : wr.ownsRow w.heap.size 29 1 idv il ((idsL il).map (Value.int .u64))
  dj : ∀ g, idv.ownBlock = some g → g ∉ F
  bl : Below w.heap.size w wr
theorem Part1.ids_keep {w wr w2 : World} {F F2 : List Nat} {idv : Value} {il : Nat} (h : wr.ownsRow w.heap.size 29 1 idv il ((idsL il).map (Value.int .u64))) (dj : ∀ g, idv.ownBlock = some g → g ∉ F) (k : Only F wr w2) (kk : Kept F F2 wr) :
    w2.ownsRow w.heap.size 29 1 idv il ((idsL il).map (Value.int .u64)) ∧ ∀ g, idv.ownBlock = some g → g ∉ F2 := by
  refine ⟨own_keep h fun g hg => k.block g (h.lt g hg).2 (dj g hg), fun g hg hm => ?_⟩
  rcases kk g hm with h1 | h1
  · exact dj g hg h1
  · have := (h.lt g hg).2; omega
/-- The second part: they commit; D are those that are. -/
structure Part2 (w wr : World) (ks : List (List Int)) (p c : Nat) (idv : Value) (n dg : Nat) (M : Mg) (F : List Nat) (D : List Bool) : Prop where
  mg : MgF wr w.heap.size p M F
  go : Going 30064771072 ks D c M
  ids : wr.ownsRow w.heap.size 29 1 idv n ((idsL n).map (Value.int .u64))
  dj : ∀ g, idv.ownBlock = some g → g ∉ F
  dr : ∃ cap, wr.ownsRow w.heap.size 4 1 (.slice (some ⟨dg, 0, none⟩) ks.length cap) ks.length (D.map Value.bool)
  dn : dg ∉ F
  di : idv.ownBlock ≠ some dg
  bl : Below w.heap.size w wr
theorem own_row1 {w : World} {base : Nat} {e : TypeId} {v : Value} {n : Nat} {xs : List Value} (h : w.ownsRow base e 1 v n xs) (hn : 0 < n) : ∃ g c, v = .slice (some ⟨g, 0, none⟩) n c ∧ base ≤ g ∧ g < w.heap.size ∧ n ≤ c ∧ c ≤ 9223372036854775807 := by
  have hlt := h.lt
  rcases h.2 with ⟨rfl, h0⟩ | ⟨g, cap, cur, rfl, hb, hg, hnc, hcm, _⟩
  · omega
  · exact ⟨g, cap, rfl, hb, (hlt g rfl).2, hnc, by unfold maxLen at hcm; omega⟩
set_option maxRecDepth 100000 in
set_option maxHeartbeats 8000000 in
theorem main (kb ko n c : Nat) (a' : Option Addr) (m c' : Nat) (ks : List (List Int)) (ord : List Int) (w : World) (n2 : 2 ≤ n) (n8 : n ≤ 8) (m50 : m ≤ 50) (hks : ks.length = n)
    (hrow : ∀ j, j < n → ∃ ra rl rc, w.cell? ⟨kb, ko + j, none⟩ = some (.slice ra rl rc) ∧ Ints .u64 w (.slice ra rl rc) (rowL ks j) ∧ (rowL ks j).length = rl ∧ rl ≤ 9223372036854775807)
    (hord : ord.length = m) (hoi : Ints .i64 w (.slice a' m c') ord) (how : ∀ x ∈ ord, (Lit.int .i64 x).wf = true) : Goal (some ⟨kb, ko, none⟩) n c a' m c' w := by
  unfold Goal
  have HK := Lib.hid hks
  have HROW := Lib.hid hrow
  have HORD := Lib.hid hord
  have HOI := Lib.hid hoi
  have HOW := Lib.hid how
  have NW := Lib.hid (new_any 7 w (by omega) (by omega))
  obtain ⟨i0, hi0, hz0, hz1, hz2⟩ := info_parts infoU64
  clear hks hrow hord hoi how
  go_enter Try.func3, Try.ntmps3
  go_wp2_with fail
  refine NW.out.mono ?_
  rintro _ w1 ⟨p, F0, rfl, h1, b1⟩
  have P1 : Hid (Part1 w w1 ks p 0 30 (.slice none 0 0) 0 (newM 7) F0) := Lib.hid ⟨h1, writing_new ks 7, own_mono (own_none64 w1) b1.size, (fun g hg => by simp [Value.ownBlock] at hg), b1⟩
  clear h1 b1 NW
  go_wp2_with fail
  go_loopw [6, 7, 8, 9, 10] (fun s u _ _ _ wr => ∃ i : Nat, i ≤ n ∧ u = .int .i64 i ∧ Hid (∃ M F, Part1 w wr ks p i 30 s i M F)) (fun _ u _ _ _ _ => n - (intOf u).toNat)
  case atStart => exact ⟨0, by omega, rfl, Lib.hid ⟨_, _, P1.out⟩⟩
  case round =>
    obtain ⟨i, hin, rfl, HH⟩ := hrel
    obtain ⟨M, F, hP⟩ := HH.out
    have PP := Lib.hid hP
    clear hP HH
    by_cases hlt : i < n
    · have KB := Lib.hid (beginF PP.out.mg PP.out.bl.size (by rw [PP.out.wr_.len]; omega) (by rw [PP.out.wr_.begun]; omega))
      go_wp2_with fail
      refine KB.out.mono ?_
      rintro _ w2 ⟨bt, bk, F2, rfl, h2, o2, k2⟩
      have hn : M.base + (M.begun + 1) = 30064771072 + (i : Int) + 1 := by rw [PP.out.wr_.base, PP.out.wr_.begun]; omega
      rw [hn]
      have hk := Part1.ids_keep PP.out.ids PP.out.dj o2 k2
      have P2 : Hid (Part1 w w2 ks p (i + 1) 0 u6 i (beginM M bt bk) F2) := Lib.hid ⟨h2, PP.out.wr_.begins bt bk, hk.1, hk.2, PP.out.bl.trans (mg_below PP.out.mg o2 PP.out.bl.size)⟩
      clear h2 o2 k2 hk hn KB
      obtain ⟨ra, rl, rc, hcell, hints, hrl, hrm⟩ := HROW.out i hlt
      have HC := Lib.hid hcell
      have HI := Lib.hid hints
      have HRL := Lib.hid hrl
      clear hcell hints hrl
      rename World => w0
      go_wp2_with fail
      go_loopw [10] (fun u wr => ∃ t : Nat, t ≤ rl ∧ t ≤ 30 ∧ u = .int .i64 t ∧ Hid (∃ M F, Part1 w wr ks p (i + 1) t u6 i M F)) (fun u _ => rl - (intOf u).toNat)
      case atStart => exact ⟨0, by omega, by omega, rfl, Lib.hid ⟨_, _, P2.out⟩⟩
      case round =>
        obtain ⟨t, ht, ht30, rfl, HH⟩ := hrel
        obtain ⟨M3, F3, hP⟩ := HH.out
        have P3 := Lib.hid hP
        clear hP HH
        have ck : wr.cell? ⟨kb, ko + i, none⟩ = some (.slice ra rl rc) := by rw [P3.out.bl.cell (p := ⟨kb, ko + i, none⟩) (World.block_lt_of_cell? w _ HC.out)]; exact HC.out
        by_cases hlt2 : t < rl ∧ t < 30
        · obtain ⟨l1, l2⟩ := hlt2
          obtain ⟨rb, ro, rc', hv, hcells⟩ := HI.out.shape (by rw [HRL.out]; omega)
          rw [HRL.out] at hv
          simp only [Value.slice.injEq] at hv
          obtain ⟨rfl, _, rfl⟩ := hv
          have ce := hcells t (by rw [HRL.out]; omega)
          rw [← P3.out.bl.cell (p := ⟨rb, ro + t, none⟩) (World.block_lt_of_cell? w _ ce)] at ce
          clear hcells
          obtain ⟨o, ho⟩ := P3.out.wr_.now
          have KW := Lib.hid (wroteF (k := (rowL ks i)[t]?.getD 0) P3.out.mg ho)
          have PN := Lib.hid (P3.out.wr_.wrote (by rw [HRL.out]; exact l1))
          clear ho
          generalize (rowL ks i)[t]?.getD 0 = kv at ce KW PN
          go_wp2_with fail
          refine KW.out.mono ?_
          rintro _ w4 ⟨rfl, h4, o4⟩
          have hk := Part1.ids_keep P3.out.ids P3.out.dj o4 (Kept.refl _ _)
          have P4 : Hid (Part1 w w4 ks p (i + 1) (t + 1) u6 i (wroteM M3 (30064771072 + (i : Int) + 1) kv) F3) := Lib.hid ⟨h4, PN.out, hk.1, hk.2, P3.out.bl.trans (mg_below P3.out.mg o4 P3.out.bl.size)⟩
          clear h4 o4 hk KW PN
          go_wp2_with fail
          go_roundw
          case rel => exact ⟨t + 1, by omega, by omega, by go_num, Lib.hid ⟨_, _, P4.out⟩⟩
          case measure => simp [intOf]; omega
        · have WF := Lib.hid (P3.out.wr_.full (by rw [HRL.out]; omega) ht30)
          have hd : ¬ t < rl ∨ (t < rl ∧ t = 30) := by omega
          clear hlt2
          rcases hd with hd | ⟨hd1, hd2⟩
          all_goals
            go_wp2_with (at_builtin; refine wpList_append_at rfl (.tmp 70) (.tmp 72) 28 rfl w.heap.size 29 i0 (.int .u64 0) 1 8 Try.underlying28 hi0 hz0 hz1 hz2 rfl (by decide) u6 i ((idsL i).map (Value.int .u64)) rfl (P3.out.ids.alloc _) ⟨wr.heap.size, 0, none⟩ 1 1 [.int .u64 (30064771072 + (i : Int) + 1)] rfl rfl (fun q u hq => by rcases q with _ | q <;> simp at hq <;> subst hq <;> simp [go_sem]) (by simp [Value.oneCell']) (by unfold maxLen; omega) (by omega) (by have := P3.out.bl.size; simp; omega) ?_)
            intro v5 w5 hown5 hg5 hf5
            have k5 : Only (u6 : Value).ownBlock.toList wr w5 := ((Only.refl _ wr).alloc _).grown hg5 (fun k hk => .inl (by simp [hk]))
            have P5 : Hid (Part1 w w5 ks p (i + 1) 30 v5 (i + 1) M3 F3) := Lib.hid ⟨P3.out.mg.only k5 (fun b hb => P3.out.dj b (by simpa using hb)), WF.out, by
                rw [idsL_succ, List.map_append]; exact hown5, (fun g hg hm => by
                rcases hf5 with e | e
                · exact P3.out.dj g (e ▸ hg) hm
                · have h1 := e g hg
                  have h2 := P3.out.mg.lt g hm
                  first | omega | (simp at h1; omega)), P3.out.bl.trans (k5.toBelow P3.out.bl.size (fun b hb => (P3.out.ids.lt b (by simpa using hb)).1))⟩
            clear hown5 hg5 hf5 k5
            go_wp2_with fail
            go_roundw
            case rel => exact ⟨i + 1, by omega, by go_num, Lib.hid ⟨_, _, P5.out⟩⟩
            case measure => simp [intOf]; omega
    · obtain rfl : i = n := by omega
      obtain ⟨i1, hi1, hy0, hy1, hy2⟩ := info_parts infoBool
      go_wp2_with (refine wpList_make_full _ rfl (.tmp 75) (.tmp 75) 34 rfl wr.heap.size 4 i1 (.bool false) 1 Try.underlying34 hi1 hy0 hy1 .i64 .i64 (i : Int) (i : Int) i rfl rfl rfl rfl ?s1 ?s2 ?s3 ?s4)
      case s1 => rw [hy2]; omega
      case s2 => unfold maxLen; omega
      case s3 => exact Nat.le_refl _
      case s4 =>
        intro w2 hown2 hg2
        have hz2' : w2.ownsRow wr.heap.size 4 1 (.slice (some ⟨wr.heap.size, 0, none⟩) i i) i ((List.replicate i false).map Value.bool) := by
          have e : (madeCells #[Value.bool false] i).toList = (List.replicate i false).map Value.bool := by
            rw [List.map_replicate]
            apply List.ext_getElem
            · simp [madeCells]
            · intro j h1 h2; simp [madeCells, Nat.mod_one]
          rw [← e]; exact hown2
        have k2 : Only [] wr w2 := (Only.refl [] wr).grown hg2 (by simp)
        have Q2 : Hid (Part2 w w2 ks p 0 u6 i wr.heap.size M F (List.replicate ks.length false)) := Lib.hid ⟨PP.out.mg.only k2 (by simp), by
            have h := PP.out.wr_
            rw [← HK.out] at h
            exact h.going, own_keep PP.out.ids (fun g hg => k2.block g (PP.out.ids.lt g hg).2 (by simp)), PP.out.dj, ⟨i, by rw [HK.out]; exact own_mono hz2' PP.out.bl.size⟩, (fun hm => by have := PP.out.mg.lt _ hm; omega), (fun hm => by have := (PP.out.ids.lt _ hm).2; omega), PP.out.bl.trans (k2.toBelow PP.out.bl.size (by simp))⟩
        clear hown2 hg2 hz2' k2
        have G0 := Lib.hid (Nat.le_refl wr.heap.size)
        generalize wr.heap.size = dg at Q2 ⊢
        go_wp2_with fail
        go_loopw [12, 13, 14, 15, 16, 17] (fun u _ _ _ _ _ w3 => ∃ j : Nat, j ≤ m ∧ u = .int .i64 j ∧ Hid (∃ M F D, Part2 w w3 ks p j u6 i dg M F D)) (fun u _ _ _ _ _ _ => m - (intOf u).toNat)
        case atStart => exact ⟨0, by omega, rfl, Lib.hid ⟨_, _, _, Q2.out⟩⟩
        case round =>
          obtain ⟨j, hj, rfl, HH⟩ := hrel
          obtain ⟨M2, F2, D, hP⟩ := HH.out
          have QQ := Lib.hid hP
          clear hP HH Q2 PP
          rename World => w4
          by_cases hlt : j < m
          · obtain ⟨ob, oo, oc, hv, hcells⟩ := HOI.out.shape (by rw [HORD.out]; omega)
            rw [HORD.out] at hv
            simp only [Value.slice.injEq] at hv
            obtain ⟨rfl, _, rfl⟩ := hv
            have ce := hcells j (by rw [HORD.out]; omega)
            rw [← QQ.out.bl.cell (p := ⟨ob, oo + j, none⟩) (World.block_lt_of_cell? w _ ce)] at ce
            have hw := HOW.out (ord[j]?.getD 0) (by rw [List.getElem?_eq_getElem (by rw [HORD.out]; exact hlt)]; exact List.getElem_mem _)
            have hwb : -9223372036854775808 ≤ ord[j]?.getD 0 ∧ ord[j]?.getD 0 ≤ 9223372036854775807 := by simpa [Lit.wf, IntKind.min, IntKind.max, IntKind.signed, IntKind.bits] using hw
            obtain ⟨x1, x2⟩ := hwb
            clear hcells hw
            generalize ord[j]?.getD 0 = x at ce x1 x2
            obtain ⟨q, hat, hql⟩ : ∃ q : Nat, wrap64 ((IntKind.u64.wrap x).tmod (i : Int)) = (q : Int) ∧ q < i := by
              have hy : 0 ≤ IntKind.u64.wrap x := by
                simp only [IntKind.wrap, IntKind.bits, IntKind.signed]
                simp
                omega
              generalize IntKind.u64.wrap x = y at hy
              have h1 := Int.emod_nonneg y (show (i : Int) ≠ 0 by omega)
              have h2 := Int.emod_lt_of_pos y (show (0 : Int) < (i : Int) by omega)
              refine ⟨(y % (i : Int)).toNat, ?_, by omega⟩
              rw [Int.tmod_eq_emod_of_nonneg hy]
              unfold wrap64
              omega
            clear x1 x2
            have hDl : D.length = i := by rw [QQ.out.go.len, HK.out]
            obtain ⟨db, hdb⟩ : ∃ db, D[q]? = some db := ⟨_, List.getElem?_eq_getElem (by omega)⟩
            obtain ⟨dcap, hdr⟩ := QQ.out.dr
            have cd : w4.cell? ⟨dg, q, none⟩ = some (.bool db) := by rw [hdr.cellAt q (by rw [HK.out]; omega), List.getElem?_map, hdb]; rfl
            have HDR := Lib.hid hdr
            have HDB := Lib.hid hdb
            have HDL := Lib.hid hDl
            clear hdr hdb hDl
            cases db
            · go_wp2_with fail
              simp only [hat]
              clear hat
              go_loopw [14, 15] (fun cl u w5 => ∃ k : Nat, k ≤ i ∧ u = .int .i64 k ∧ ∃ cb : Bool, cl = .bool cb ∧ Hid (cb = true ↔ ∃ k', k' < k ∧ D[k']? = some true ∧ MeetL (rowL ks q) (rowL ks k')) ∧ Hid (∃ z, w5 = w4.drewN z)) (fun _ u _ => i - (intOf u).toNat)
              case atStart => exact ⟨0, by omega, rfl, false, rfl, Lib.hid ⟨(fun h => by cases h), (fun ⟨_, h, _⟩ => by omega)⟩, Lib.hid ⟨0, rfl⟩⟩
              case round =>
                obtain ⟨k, hk, rfl, cb, rfl, HCB, HZ⟩ := hrel
                rename World => w5
                have ZC : Hid (∀ b o, w5.cell? ⟨b, o, none⟩ = w4.cell? ⟨b, o, none⟩) := Lib.hid (by obtain ⟨z, hz⟩ := HZ.out; rw [hz]; exact fun _ _ => rfl)
                have ZB : Hid (∀ n, Below w.heap.size w (w5.drewN n)) := Lib.hid (by obtain ⟨z, hz⟩ := HZ.out; rw [hz]; exact fun n => below_drewN (below_drewN QQ.out.bl z) n)
                have ZN : Hid (∀ n, ∃ z, w5.drewN n = w4.drewN z) := Lib.hid (by obtain ⟨z, hz⟩ := HZ.out; rw [hz]; exact fun n => ⟨z + n, by rw [World.drewN_drewN]⟩)
                by_cases hlk : k < i
                · obtain ⟨dk, hdk⟩ : ∃ dk, D[k]? = some dk := ⟨_, List.getElem?_eq_getElem (by rw [HDL.out]; omega)⟩
                  have cdk : w5.cell? ⟨dg, k, none⟩ = some (.bool dk) := by rw [ZC.out, HDR.out.cellAt k (by rw [HK.out]; omega), List.getElem?_map, hdk]; rfl
                  have HDK := Lib.hid hdk
                  clear hdk
                  cases cb
                  · cases dk
                    · go_wp2_with fail
                      go_quiet (fail)
                      go_wp2_with fail
                      go_roundw
                      case rel =>
                        refine ⟨k + 1, by omega, by go_num, false, rfl, Lib.hid ⟨(fun h => by cases h), (fun ⟨k', h1, h2, h3⟩ => ?_)⟩, Lib.hid (ZN.out nq)⟩
                        by_cases e : k' = k
                        · subst e; rw [HDK.out] at h2; cases h2
                        · exact HCB.out.2 ⟨k', by omega, h2, h3⟩
                      case measure => simp [intOf]; omega
                    · obtain ⟨ra, rl, rc, hc1, hi1', hl1, hm1⟩ := HROW.out q hql
                      obtain ⟨sa, sl, sc, hc2, hi2', hl2, hm2⟩ := HROW.out k hlk
                      have cq : w5.cell? ⟨kb, ko + q, none⟩ = some (.slice ra rl rc) := by rw [ZC.out, QQ.out.bl.cell (p := ⟨kb, ko + q, none⟩) (World.block_lt_of_cell? w _ hc1)]; exact hc1
                      have ck : w5.cell? ⟨kb, ko + k, none⟩ = some (.slice sa sl sc) := by rw [ZC.out, QQ.out.bl.cell (p := ⟨kb, ko + k, none⟩) (World.block_lt_of_cell? w _ hc2)]; exact hc2
                      have KM := Lib.hid (fun n => meet_any ra sa rl sl rc sc (rowL ks q) (rowL ks k) (w5.drewN n) hl1 hl2 (hi1'.below' (ZB.out n)) (hi2'.below' (ZB.out n)) hm1 hm2)
                      clear hc1 hi1' hl1 hm1 hc2 hi2' hl2 hm2
                      have HC2 : Hid (decide (MeetL (rowL ks q) (rowL ks k)) = true ↔ ∃ k', k' < k + 1 ∧ D[k']? = some true ∧ MeetL (rowL ks q) (rowL ks k')) := Lib.hid (by
                        rw [decide_eq_true_eq]
                        constructor
                        · exact fun h => ⟨k, by omega, HDK.out, h⟩
                        · rintro ⟨k', h1, h2, h3⟩
                          by_cases e : k' = k
                          · subst e; exact h3
                          · have := HCB.out.2 ⟨k', by omega, h2, h3⟩; cases this)
                      generalize decide (MeetL (rowL ks q) (rowL ks k)) = mb at KM HC2
                      go_wp2_with fail
                      go_quiet ((go_at_call 11; exact Calls.quiet_of (KM.out _)))
                      go_wp2_with fail
                      go_roundw
                      case rel => exact ⟨k + 1, by omega, by go_num, mb, rfl, HC2, Lib.hid (ZN.out nq)⟩
                      case measure => simp [intOf]; omega
                  · go_wp2_with fail
                    go_quiet (fail)
                    go_wp2_with fail
                    go_roundw
                    case rel =>
                      obtain ⟨k', h1, h2⟩ := HCB.out.1 (by trivial)
                      exact ⟨k + 1, by omega, by go_num, true, rfl, Lib.hid ⟨(fun _ => ⟨k', by omega, h2⟩), (fun _ => rfl)⟩, Lib.hid (ZN.out nq)⟩
                    case measure => simp [intOf]; omega
                · obtain rfl : k = i := by omega
                  have HCL : Hid (cb = true ↔ Clashes ks D q) := Lib.hid (by
                    rw [HCB.out]
                    constructor
                    · rintro ⟨k', _, h2, h3⟩; exact ⟨k', h2, h3⟩
                    · rintro ⟨k', h2, h3⟩
                      refine ⟨k', ?_, h2, h3⟩
                      have := (List.getElem?_eq_some_iff.1 h2).1
                      rw [HDL.out] at this; exact this)
                  have Q5 : Hid (Part2 w w5 ks p j u6 k dg M2 F2 D) := Lib.hid (by
                    have ok : Only [] w4 w5 := by obtain ⟨z, hz⟩ := HZ.out; rw [hz]; exact (Only.refl [] w4).drewN z
                    refine ⟨QQ.out.mg.only ok (by simp), QQ.out.go, own_keep QQ.out.ids (fun g hg => ok.block g (QQ.out.ids.lt g hg).2 (by simp)), QQ.out.dj, ?_, QQ.out.dn, QQ.out.di, by have := ZB.out 0; exact this⟩
                    obtain ⟨cap, h⟩ := QQ.out.dr
                    exact ⟨cap, own_keep h (fun g hg => ok.block g (h.lt g hg).2 (by simp))⟩)
                  clear ce cd ZC ZN
                  obtain ⟨dcap6, hdr6⟩ := Q5.out.dr
                  have HDR6 := Lib.hid hdr6
                  clear hdr6
                  obtain ⟨ig, ic, hiv, _, hig, _, _⟩ := own_row1 Q5.out.ids (by omega)
                  obtain rfl := hiv
                  have ci : w5.cell? ⟨ig, q, none⟩ = some (.int .u64 (30064771072 + (q : Int) + 1)) := by rw [Q5.out.ids.cellAt q (by omega)]; simp [idsL, hql]
                  obtain ⟨o, ho1, ho2, ho3⟩ := Q5.out.go.op q HDB.out
                  have hcl : Clash M2 o ↔ Clashes ks D q := Q5.out.go.clash (by obtain ⟨bo, bw, dv, hh, _⟩ := Q5.out.mg; exact fun x hx => (hh.fine.ws1 x hx).1) ho2 ho3
                  have HO1 := Lib.hid ho1
                  have HO3 := Lib.hid ho3
                  clear ho1 ho2 ho3
                  by_cases hcc : Clashes ks D q
                  · have hcb : cb = true := HCL.out.2 hcc
                    subst hcb
                    have KC := Lib.hid (clashF Q5.out.mg HO1.out (hcl.2 hcc))
                    clear hcl hcc
                    go_wp2_with fail
                    refine KC.out.mono ?_
                    rintro _ w6 ⟨rfl, hb6⟩
                    have k6 : Only [] w5 w6 := ⟨hb6.os, hb6.tape, hb6.output, hb6.size, fun i hi _ => hb6.block i hi⟩
                    have own6 : w6.ownsRow w.heap.size 4 1 (.slice (some ⟨dg, 0, none⟩) ks.length dcap6) ks.length (D.map Value.bool) := own_keep HDR6.out (fun g hg => k6.block g (HDR6.out.lt g hg).2 (by simp))
                    have c6 : w6.cell? ⟨dg, q, none⟩ = some (.bool false) := by rw [own6.cellAt q (by rw [HK.out]; omega), List.getElem?_map, HDB.out]; rfl
                    have z6 := own6.frozenAt q
                    have fin : Hid (Part2 w (w6.setCell ⟨dg, q, none⟩ (.bool false)) ks p (j + 1) (.slice (some ⟨ig, 0, none⟩) k ic) k dg M2 F2 D) := Lib.hid (by
                      obtain ⟨s1, s2⟩ := own6.stored q (.bool false)
                      have e : (D.map Value.bool).set q (.bool false) = D.map Value.bool := by rw [← List.map_set, set_false HDB.out]
                      rw [e] at s1
                      have kk : Only [dg] w5 (w6.setCell ⟨dg, q, none⟩ (.bool false)) := (k6.mono (by simp)).grown s2 (by intro g hg; simp at hg; exact .inl (by simp [hg]))
                      exact ⟨Q5.out.mg.only kk (by intro b hb; simp at hb; rw [hb]; exact Q5.out.dn), Q5.out.go.more (by omega), own_keep Q5.out.ids (fun g hg => kk.block g (Q5.out.ids.lt g hg).2 (by simp; rintro rfl; exact Q5.out.di hg)), Q5.out.dj, ⟨_, s1⟩, Q5.out.dn, Q5.out.di, Q5.out.bl.trans (kk.toBelow Q5.out.bl.size (by intro b hb; simp at hb; rw [hb]; exact (HDR6.out.lt dg rfl).1))⟩)
                    clear hb6 k6 own6 KC
                    go_wp2_with fail
                    go_roundw
                    case rel => exact ⟨j + 1, by omega, by go_num, Lib.hid ⟨_, _, _, fin.out⟩⟩
                    case measure => simp [intOf]; omega
                  · have hcb : cb = false := by
                      cases hb : cb
                      · rfl
                      · exact absurd (HCL.out.1 hb) hcc
                    subst hcb
                    have KC := Lib.hid (commitF Q5.out.mg Q5.out.bl.size HO1.out (fun h => hcc (hcl.1 h)) (by have := Q5.out.go.last1; omega) (by have := Q5.out.go.dl; omega))
                    have GC := Lib.hid (Q5.out.go.commits HDB.out HO1.out HO3.out)
                    clear hcl hcc
                    go_wp2_with fail
                    refine KC.out.mono ?_
                    rintro _ w6 ⟨F6, rfl, h6, k6, kk6⟩
                    have own6 : w6.ownsRow w.heap.size 4 1 (.slice (some ⟨dg, 0, none⟩) ks.length dcap6) ks.length (D.map Value.bool) := own_keep HDR6.out (fun g hg => by
                      have : g = dg := by simpa [Value.ownBlock] using hg.symm
                      subst this
                      exact k6.block g (HDR6.out.lt g hg).2 Q5.out.dn)
                    have c6 : w6.cell? ⟨dg, q, none⟩ = some (.bool false) := by rw [own6.cellAt q (by rw [HK.out]; omega), List.getElem?_map, HDB.out]; rfl
                    have z6 := own6.frozenAt q
                    have fin : Hid (Part2 w (w6.setCell ⟨dg, q, none⟩ (.bool true)) ks p (j + 1) (.slice (some ⟨ig, 0, none⟩) k ic) k dg (commitM M2 o) F6 (D.set q true)) := Lib.hid (by
                      obtain ⟨s1, s2⟩ := own6.stored q (.bool true)
                      have e : (D.map Value.bool).set q (.bool true) = (D.set q true).map Value.bool := by rw [← List.map_set]
                      rw [e] at s1
                      have kk : Only [dg] w6 (w6.setCell ⟨dg, q, none⟩ (.bool true)) := (Only.refl [dg] w6).grown s2 (by intro g hg; simp at hg; exact .inl (by simp [hg]))
                      have hds := (HDR6.out.lt dg rfl)
                      have dn6 : dg ∉ F6 := fun hm => by
                        rcases kk6 dg hm with h | h
                        · exact Q5.out.dn h
                        · omega
                      have hid6 := Part1.ids_keep Q5.out.ids Q5.out.dj k6 kk6
                      exact ⟨h6.only kk (by intro b hb; simp at hb; rw [hb]; exact dn6), GC.out, own_keep hid6.1 (fun g hg => kk.block g (hid6.1.lt g hg).2 (by simp; rintro rfl; exact Q5.out.di hg)), hid6.2, ⟨_, s1⟩, dn6, Q5.out.di, (Q5.out.bl.trans (mg_below Q5.out.mg k6 Q5.out.bl.size)).trans (kk.toBelow (Nat.le_trans Q5.out.bl.size k6.size) (by intro b hb; simp at hb; rw [hb]; exact hds.1))⟩)
                    clear h6 k6 kk6 own6 KC GC
                    go_wp2_with fail
                    go_roundw
                    case rel => exact ⟨j + 1, by omega, by go_num, Lib.hid ⟨_, _, _, fin.out⟩⟩
                    case measure => simp [intOf]; omega
            · go_wp2_with fail
              go_roundw
              case rel => exact ⟨j + 1, by omega, by go_num, Lib.hid ⟨M2, F2, D, ⟨QQ.out.mg, QQ.out.go.more (by omega), QQ.out.ids, QQ.out.dj, QQ.out.dr, QQ.out.dn, QQ.out.di, QQ.out.bl⟩⟩⟩
              case measure => simp [intOf]; omega
          · obtain rfl : j = m := by omega
            go_wp2_with fail
            refine (known_any _).mono ?_
            rintro _ w9 ⟨rfl, hb9⟩
            have H9 := Lib.hid hb9
            clear hb9
            go_wp2_with fail
            go_ret
            exact ⟨rfl, QQ.out.bl.trans (H9.out.mono QQ.out.bl.size)⟩
theorem walk (a : Option Addr) (n c : Nat) (ks : List (List Int)) (a' : Option Addr) (m c' : Nat) (zs : List Int) (w : World) (h0 : RowsIn w a n c ks) (h1 : IsRow .i64 w a' m c' zs) (r1 : c' * 8 ≤ 140737488351232) : Goal a n c a' m c' w := by
  obtain ⟨k1, k2, k3⟩ := h0
  have l1 := h1.lec
  by_cases g : n < 2 ∨ 8 < n ∨ 50 < m
  · exact out a n c a' m c' w g k2 (by omega)
  · rcases k3 with k3 | ⟨b, off, rfl, k3⟩
    · omega
    · exact main b off n c a' m c' ks (zs.take m) w (by omega) (by omega) (by omega) k1 k3 h1.length h1.ints h1.wf

theorem own : ownKnob Try.prog.godebug = none := by kernel_rfl
theorem laidOut : laidOutB Try.prog = true := by kernel_rfl

set_option maxRecDepth 100000 in
theorem contract (H : Type) (enc : TypeId × Value → H) (W : World) (base : Nat) (args : Array Value) (ds gs : List (DataW H)) (before : List MemPlace)
    (hval0 : ∀ (j : Nat) t v, Try.f3.params[j]? = some t → args[j]? = some v → Value.okWide Try.prog W .any base t v)
    (hW : DataW.Whole enc Try.prog Try.f3.params.toList Rows.txnFirstSpec.vars false W args.toList ds gs before)
    (hsz0 : (DataW.weightsEach Try.prog (Try.f3.params.toList ++ Rows.txnFirstSpec.plain.varTypes Try.prog) (ds ++ gs)).all (· ≤ reachBytes) = true) :
    Calls Try.prog 3 args W fun e W' => ∃ v, e = .returned v ∧ Rows.txnFirstSpec.post enc Try.prog Try.f3 false true false false W args v W' := by
  have hval : ∀ (j : Nat) t v, Try.f3.params[j]? = some t → args[j]? = some v → Value.okWide Try.prog W .any base t v := hval0
  have hW' := hW
  obtain ⟨p, q, hA0, hV, rfl, hfz, hnd⟩ := hW
  have hA : DataW.TrodAll enc Try.prog W 0 (fun _ => true) true Try.f3.params.toList args.toList ds p := hA0
  have hsz : (DataW.weightsEach Try.prog (Try.f3.params.toList ++ Rows.txnFirstSpec.plain.varTypes Try.prog) (ds ++ gs)).all (· ≤ reachBytes) = true := hsz0
  rw [Try.params3] at hA hval hsz
  obtain ⟨v0, vs0, d0, ds0, p0, q0, hargs, rfl, rfl, h0, r0'⟩ := trodAll_cons hA
  obtain ⟨v1, vs1, d1, ds1, p1, q1, rfl, rfl, rfl, h1, r1'⟩ := trodAll_cons r0'
  obtain ⟨rfl, rfl, rfl⟩ := trodAll_nil r1'
  obtain rfl : args = #[v0, v1] := by cases args; simp_all
  obtain ⟨rfl, rfl⟩ := trodVars_none hV
  have k0 := h0
  have lt0 : ∀ x ∈ p0, x.block < W.heap.size := by obtain ⟨m, hm⟩ := k0; exact DataW.trod_lt m _ _ _ hm
  have k1 := h1
  have lt1 : ∀ x ∈ p1, x.block < W.heap.size := by obtain ⟨m, hm⟩ := k1; exact DataW.trod_lt m _ _ _ hm
  obtain ⟨a0, n0, c0, rfl⟩ := okWide_slice Try.underlying22 (hval 0 22 v0 rfl rfl)
  obtain ⟨z0, w0⟩ : ∃ ks, RowsIn W a0 n0 c0 ks := by
    obtain ⟨fuel, hf⟩ := h0
    simp [Value.cells] at hf
    exact rows_in hf
  obtain ⟨a1, n1, c1, rfl⟩ := okWide_slice Try.underlying23 (hval 1 23 v1 rfl rfl)
  obtain ⟨z1, w1, r1⟩ : ∃ zs, IsRow .i64 W a1 n1 c1 zs ∧ c1 * 8 ≤ 140737488351232 := by
    obtain ⟨fuel, hf⟩ := h1
    rcases open_ints Try.underlying23 Try.underlying3 (by kernel_rfl) hf with ⟨hcs, _⟩ | ⟨x, l, c, zs, hcs, _, hl, hm, hz, hx, hcell, hwz⟩
    · simp [Value.cells] at hcs
      obtain ⟨rfl, rfl, rfl⟩ := hcs
      exact ⟨[], .inl ⟨rfl, rfl, rfl, rfl⟩, by omega⟩
    · simp [Value.cells] at hcs
      obtain ⟨rfl, rfl, rfl⟩ := hcs
      simp only [Prod.mk.injEq] at hx
      have hz' : zs.length = c1 := by simpa using hz
      have hs := sized_slice hsz (j := 1) (t := 23) rfl (congrArg some hx.1) Try.underlying23
      rw [show Try.prog.bytesOf 3 = 8 from by kernel_rfl] at hs
      simp only [lits, List.length_map, List.length_take, List.length_drop, reachBytes] at hs
      exact ⟨zs, .inr ⟨_, rfl, hl, hm, hz', hcell, hwz⟩, by omega⟩
  clear hA0 hval0 hsz0
  refine (walk a0 n0 c0 z0 a1 n1 c1 z1 W w0 w1 r1).mono fun e W' ⟨he, bel⟩ => ?_
  subst he
  exact ⟨_, rfl, _, _, _, [], _, [], hW', trodAll_mk1 (shut_bool Try.underlying4 _), (trodAll_cons_mk (Below.trod laidOut (by kernel_rfl) (of_decide_eq_true (by kernel_rfl)) k0 bel lt0) (trodAll_cons_mk (Below.trod laidOut (by kernel_rfl) (of_decide_eq_true (by kernel_rfl)) k1 bel lt1) trodAll_mk0)), rfl, bel.frame _, fun h => by cases h⟩

set_option maxRecDepth 100000 in
theorem lifted (os : Os) (started : os.Started) (H : Type) (enc : TypeId × Value → H) :
    ReturnsInHanded {} Try.checked os 3 .any (Rows.txnFirstSpec.pre6 enc Try.prog Try.f3 Rows.txnFirstRow.domain false) (Rows.txnFirstSpec.post enc Try.prog Try.f3 false true false false) := by
  refine returnsInHanded_of_change_sized (C := Try.checked) own started (by kernel_rfl) Try.func3
    (ChangeSpec.witness6 (enc := enc) (C := Try.checked) false ⟨#[], #[.slice none 0 0, .slice none 0 0], []⟩ 8 (by kernel_rfl) (by kernel_rfl) (by kernel_rfl) (by kernel_rfl)) ?_
  intro W base args ds gs before hval hW _ hsz _
  exact contract H enc W base args ds gs before hval hW hsz

theorem over : Rows.txnFirstRow.holds Try.pinned (OpenSpec.ofChange Rows.txnFirstSpec) :=
  OpenClaim.holds_of_wide 3 Try.f3 rfl rfl rfl rfl rfl rfl rfl ⟨rfl, rfl, rfl, rfl, rfl⟩ rfl rfl rfl rfl rfl (by kernel_rfl) Try.func3 (by kernel_rfl)
    (of_decide_eq_true (by kernel_rfl)) (by unfold Func.isWrapper; first | (rw [if_pos (by decide +kernel)]; kernel_rfl) | (rw [if_neg (by decide +kernel)]; exact ⟨rfl, rfl⟩))
    (fun os started H enc _ => lifted os started H enc)

theorem proved : Rows.TxnFirstSaid := over
#print axioms proved
end Go.Proofs.Ytodkflnpcfepfaa.txnFirst
