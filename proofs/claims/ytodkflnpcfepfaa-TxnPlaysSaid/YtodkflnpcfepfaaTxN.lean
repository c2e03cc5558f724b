/- all: the open ones as an iterator. -/
import Derived.Test.YtodkflnpcfepfaaTxM
import Derived.Maps.OwnIn
namespace Go.Proofs.Ytodkflnpcfepfaa
open Go.RowKit Go.Shelf
set_option linter.unusedVariables false
set_option linter.unusedSimpArgs false
attribute [local go_sem] Oper.semAt_some

/-- What a round that goes on keeps: cells and maps, but those in G. -/
structure KeepC (G : List Nat) (W W' : World) : Prop where
  size : W.heap.size ≤ W'.heap.size
  same : ∀ (k : Nat) (o : Obj), W.heap[k]? = some o → (o.isCells = true ∨ o.isWalk = true) → (∀ cs fr, o ≠ .cells cs 42 fr) → k ∉ G → W'.heap[k]? = some o
theorem KeepC.trans {G : List Nat} {A B C : World} (h : KeepC G A B) (k : KeepC G B C) : KeepC G A C :=
  ⟨Nat.le_trans h.size k.size, fun i o hi ho hl hn => k.same i o (h.same i o hi ho hl hn) ho hl hn⟩
theorem KeepC.put {G : List Nat} {w : World} (W : World) (l : Nat) (o o' : Obj) (_ : w.heap.size ≤ l) (h : W.heap[l]? = some o) (hc : o.isCells = false) (hw : o.isWalk = false) : KeepC G W (W.putObj l o') :=
  ⟨(grownBy_putObj' W l o').size, fun k ok hk hok _ _ => by
    have hg := grownBy_putObj' W l o'
    have hne : k ≠ l := fun e => by subst e; rw [h] at hk; cases hk; rcases hok with e | e <;> simp_all
    exact (hg.block k (Array.getElem?_eq_some_iff.1 hk).1 (by simp; exact hne)).trans hk⟩
theorem KeepC.of_only {G : List Nat} {W W' : World} (h : Only G W W') : KeepC G W W' :=
  ⟨h.size, fun k o hk _ _ hn => (h.block k (Array.getElem?_eq_some_iff.1 hk).1 hn).trans hk⟩
theorem KeepC.row {G : List Nat} {W W' : World} (h : KeepC G W W') {b : Nat} {R : Array Value} {T : TypeId} (r : Row W b R T) (hb : b ∉ G) (hT : T ≠ 42 := by decide) : Row W' b R T := by
  unfold Row at r ⊢
  exact h.same b _ r (.inl rfl) (fun cs fr e => by injection e with _ e2 _; exact hT e2) hb
theorem KeepC.mapAt {G : List Nat} {W W' : World} (h : KeepC G W W') {b : Nat} {q : IntKind} {L : List (Int × Value)} (m : MapAt W b q L) (hb : b ∉ G) : MapAt W' b q L := by
  obtain ⟨es, clock, h1, h2⟩ := m
  exact ⟨es, clock, h.same b _ h1 (.inr rfl) (fun cs fr e => by cases e) hb, h2⟩
theorem KeepC.own {G : List Nat} {W W' : World} (h : KeepC G W W') {B n size : Nat} {e : TypeId} {v : Value} {xs : List Value} (o : W.ownsRow B e size v n xs) (hb : ∀ g, v.ownBlock = some g → g ∉ G) (hT : e ≠ 42 := by decide) : W'.ownsRow B e size v n xs := by
  refine ⟨o.1, ?_⟩
  rcases o.2 with hn | ⟨g, cap, cur, rfl, h1, h2, h3⟩
  · exact .inl hn
  · exact .inr ⟨g, cap, cur, rfl, h1, h.same g _ h2 (.inl rfl) (fun cs fr e => by injection e with _ e2 _; exact hT e2) (hb g rfl), h3⟩
theorem all_any (p : Nat) (w : World) : Calls Try.prog 41 #[.pointer (some ⟨p, 0, none⟩)] w fun e w' => e = .returned (.func (.func 46) #[] #[.pointer (some ⟨w.heap.size, 0, none⟩)]) ∧ w' = w.alloc (.cells #[.pointer (some ⟨p, 0, none⟩)] 25) := by
  go_enter Try.func41, Try.ntmps41
  go_wp2
  go_ret
  exact ⟨rfl, rfl⟩
theorem wpListIn_look_to {F : Fence} {nF : Nat} {P : Program} (w : World) {ops : Array Oper} {rest : List Oper} {o : Oper} {a : Act} {Q : Exit → Act → World → Prop} (hg : o.guard = none) (m x : Operand) (t : TypeId) (hop : o.op = Op.lookup t m x false) (kt et : TypeId) (q : IntKind) (ht : P.underlying t = some (.map kt et)) (hk : P.underlying kt = some (.int q)) (z : Value) (hz : ∀ w, (zeroValue et).run P w = .ok z w)
    (b : Nat) (L : List (Int × Value)) (hm : a.eval m = .map (some b)) (hown : MapAt w b q L) (key : Int) (hx : a.eval x = .int q key) (val : Value) (hv : (lk key L).getD z = val)
    (hK : wpListIn F nF P ops Q rest (a.put o.dst val) w) : wpListIn F nF P ops Q (o :: rest) a w :=
  wpListIn_look_at w hg m x t false hop kt et q ht hk z hz b L hm hown key hx (by rw [if_neg (by simp), hv]; exact hK)
abbrev OpenTx (M : Mg) := { o : Tx // o ∈ M.os }
def encT (M : Mg) (x : OpenTx M) : Array Value := #[.int .u64 x.1.n, .pointer (some ⟨x.1.bt, 0, none⟩)]
def numsT {M : Mg} (xs : List (OpenTx M)) : List Int := xs.map (·.1.n)
/-- Between two rounds of the iterator. -/
structure AllInv (M : Mg) (J : List (OpenTx M) → World → Prop) (p bo Bm : Nat) (G : List Nat) (R : Array Value) (B : Nat) (ys : List Int) (sl : Value) (i : Nat) (pre : List (OpenTx M)) (wr : World) : Prop where
  j : J pre wr
  box : Row wr Bm #[.pointer (some ⟨p, 0, none⟩)] 25
  row : Row wr p R tMg
  om : MapAt wr bo .u64 (osL M.os)
  own : ∀ m, ys.length = m → wr.ownsRow B tU 1 sl m (ys.map (Value.int .u64))
  come : numsT pre = ys.take i
set_option maxRecDepth 100000 in
set_option maxHeartbeats 4000000 in
theorem all1_in (n : Nat) (hn : 1 ≤ n) (l Bm B p bo bw : Nat) (dv : Value) (M : Mg) (G : List Nat) (J Jx : List (OpenTx M) → World → Prop) (W : World) (hJ : AbidesFrom W.heap.size J)
    (hG : ∀ b ∈ G, b < W.heap.size ∧ b ≠ Bm ∧ b ≠ p ∧ b ≠ bo)
    (hY : ∀ pre x W1, J pre W1 → pre.length < M.os.length → YieldAt Fence.wide (n - 1) Try.prog l (encT M x) W1 fun e W' =>
      (e = .returned (.bool true) ∧ J (pre ++ [x]) W' ∧ KeepC G W1 W') ∨ (e = .returned (.bool false) ∧ Jx (pre ++ [x]) W'))
    (hm : Row W Bm #[.pointer (some ⟨p, 0, none⟩)] 25) (hM : MgAt W B p bo bw dv M) (hl : M.os.length ≤ 12) (h0 : J [] W) :
    CallsIn Fence.wide n Try.prog 46 #[.func (.yield l) #[] #[], .pointer (some ⟨Bm, 0, none⟩)] W fun e W' => (∃ v, e = .returned v) ∧
      ((∃ ys, ((numsT ys).Perm (M.os.map (·.n)) ∧ SortedTo (numsT ys) (numsT ys).length) ∧ J ys W') ∨ (∃ pre, True ∧ Jx pre W')) := by
  have hro : Fence.wide.round = none := rfl
  have OP := Lib.hid (open_at (F := M.blocks p bo bw dv) ⟨bo, bw, dv, hM, rfl⟩ hl)
  have b0 : W.cell? ⟨Bm, 0, none⟩ = some (.pointer (some ⟨p, 0, none⟩)) := hm.cell 0
  unfold RowTo at OP
  refine callsIn_of_wp Try.func46 rfl trivial ?_ hro
  simp only [Try.ntmps46, List.size_toArray, List.length_cons, List.length_nil, Nat.reduceAdd, Nat.reduceSub, Array.replicate_succ, Array.replicate_zero, List.push_toArray, List.append_toArray, List.nil_append, List.cons_append]
  gi_wp2_with fail
  refine ⟨trivial, (callsIn_wide.2 OP.out).mono ?_⟩
  rintro _ w1 ⟨ys, a, c, rfl, hp, hs, ho, hb⟩
  have hp' : ys.Perm (M.os.map (·.n)) := by
    have e : (osL M.os).map (·.1) = M.os.map (·.n) := by simp [osL]
    rw [e] at hp; exact hp
  have J1 : J [] w1 := hJ [] W w1 none h0 ((Only.refl [] W).below hb).grownNone (fun r e => by cases e)
  have k1 : Only [] W w1 := (Only.refl [] W).below hb
  have YN : Hid (ys.length = M.os.length) := Lib.hid (by have := hp'.length_eq; rwa [List.length_map] at this)
  have I1 : Hid (AllInv M J p bo Bm G (M.cells bo bw dv) W.heap.size ys (.slice a ys.length c) 0 [] w1) := Lib.hid ⟨J1, hm.only k1 (by simp), hM.row.only k1 (by simp), hM.om.only k1 (by simp), fun m hm => hm ▸ ho, rfl⟩
  have HB := Lib.hid hb
  have HP := Lib.hid hp'
  have HS := Lib.hid hs
  have HJ := Lib.hid hJ
  have HG := Lib.hid hG
  have HY := Lib.hid hY
  have HL := Lib.hid hl
  have ND := Lib.hid hM.os_nodup
  have PL := Lib.hid hM.row.lt
  rcases ho.2 with ⟨e0, h00⟩ | ⟨g, cap, cur, e0, hbg, hgh, hnc, hcm, hcs, htake⟩
  · obtain rfl : ys = [] := by simpa using h00
    have e1 : a = none ∧ c = 0 := by simpa using e0
    obtain ⟨rfl, rfl⟩ := e1
    clear hp hs ho hb hp' J1 k1 hJ hG hY hm hM hl h0 OP b0 h00 e0
    gi_wp2_with fail
    gi_loopw [8] (fun u wr => u = .int .i64 0 ∧ Hid (J [] wr)) (fun _ _ => 0)
    case atStart => exact ⟨rfl, Lib.hid I1.out.j⟩
    case round =>
      obtain ⟨rfl, hj⟩ := hrel
      gi_wp2_with fail
      go_end0
      exact ⟨⟨_, rfl⟩, .inl ⟨[], ⟨by simpa [numsT] using HP.out, fun a b h1 h2 => by simp [numsT] at h2⟩, hj.out⟩⟩
  · obtain ⟨rfl, rfl⟩ : a = some ⟨g, 0, none⟩ ∧ c = cap := by simpa using e0
    obtain ⟨m, hm9⟩ : ∃ m, ys.length = m := ⟨_, rfl⟩
    have HM9 := Lib.hid hm9
    rw [hm9] at I1 ⊢
    have GW : Hid (W.heap.size ≤ g) := Lib.hid hbg
    clear hp hs ho hb hp' J1 k1 hJ hG hY hm hM hl h0 OP b0 hbg hgh hnc hcm hcs htake hm9 e0
    gi_wp2_with fail
    gi_loopw [8] (fun u wr => ∃ i : Nat, u = .int .i64 i ∧ Hid (i ≤ m ∧ ∃ pre, AllInv M J p bo Bm G (M.cells bo bw dv) W.heap.size ys (.slice (some ⟨g, 0, none⟩) m c) i pre wr)) (fun u _ => m - (intOf u).toNat)
    case atStart => exact ⟨0, rfl, Lib.hid ⟨Nat.zero_le _, _, I1.out⟩⟩
    case round =>
      obtain ⟨i, rfl, hi⟩ := hrel
      obtain ⟨him, pre, hI⟩ := hi.out
      have HI := Lib.hid hI
      have HIM := Lib.hid him
      have MB : Hid (m ≤ 12) := Lib.hid (by have := YN.out; have := HM9.out; have := HL.out; omega)
      have mb := MB.out
      clear hI him hi
      by_cases hlt : i < m
      · have d1 : decide (i < m) = true := decide_eq_true hlt
        have hx : ∃ x : OpenTx M, x.1.n = at0 ys i := by
          have hmem : at0 ys i ∈ ys := by
            unfold at0
            rw [List.getElem?_eq_getElem (by rw [HM9.out]; exact hlt)]
            exact List.getElem_mem _
          obtain ⟨o, ho, he⟩ := List.mem_map.1 (HP.out.mem_iff.1 hmem)
          exact ⟨⟨o, ho⟩, he⟩
        obtain ⟨x, hxn⟩ := hx
        have c1 : wr.cell? ⟨g, i, none⟩ = some (.int .u64 x.1.n) := by
          rw [hxn, World.ownsRow.cellAt (HI.out.own m HM9.out) i (by omega), List.getElem?_map]
          unfold at0
          rw [List.getElem?_eq_getElem (by rw [HM9.out]; exact hlt)]; rfl
        have c2 : wr.cell? ⟨Bm, 0, none⟩ = some (.pointer (some ⟨p, 0, none⟩)) := HI.out.box.cell 0
        have c3 : wr.cell? ⟨p, 3, none⟩ = some (.map (some bo)) := HI.out.row.cell 3
        have hlen : pre.length = i := by
          have := congrArg List.length HI.out.come
          rw [List.length_take, HM9.out] at this
          simp only [numsT, List.length_map] at this
          omega
        have LK : (lk x.1.n (osL M.os)).getD (.pointer none) = .pointer (some ⟨x.1.bt, 0, none⟩) := by
          unfold osL
          rw [lk_map]
          have hf : (M.os.find? fun o => decide (o.n = x.1.n)) = some x.1 := by
            obtain ⟨y, hy⟩ : ∃ y, (M.os.find? fun o => decide (o.n = x.1.n)) = some y := by
              rw [← Option.isSome_iff_exists, List.find?_isSome]
              exact ⟨x.1, x.2, by simp⟩
            have h1 : y ∈ M.os ∧ y.n = x.1.n := findT_some hy
            rw [hy, eq_of_map ND.out h1.1 x.2 h1.2]
          rw [hf]; rfl
        obtain ⟨fn, tmps, assign, body, hy, hR⟩ := HY.out pre x wr HI.out.j (by rw [hlen, ← YN.out, HM9.out]; exact hlt)
        have HXN := Lib.hid hxn
        have HLN := Lib.hid hlen
        have HLT := Lib.hid hlt
        have OM := Lib.hid HI.out.om
        unfold encT at hy
        clear hxn hlen
        clear hlt
        have LKH := Lib.hid LK
        clear LK
        gi_wp2_with (gi_at_lookup; refine wpListIn_look_to _ rfl (.tmp 17) (.tmp 18) 64 rfl 29 71 .u64 Try.underlying64 Try.underlying29 _ zeroOne bo (osL M.os) rfl OM.out x.1.n rfl _ LKH.out ?_)
        refine hR.mono ?_
        rintro e W3 (⟨rfl, hJ3, hk3⟩ | ⟨rfl, hJx3⟩)
        · have N3 : Hid (AllInv M J p bo Bm G (M.cells bo bw dv) W.heap.size ys (.slice (some ⟨g, 0, none⟩) m c) (i + 1) (pre ++ [x]) W3) := Lib.hid ⟨hJ3, hk3.row HI.out.box (fun h => (HG.out _ h).2.1 rfl), hk3.row HI.out.row (fun h => (HG.out _ h).2.2.1 rfl), hk3.mapAt HI.out.om (fun h => (HG.out _ h).2.2.2 rfl), fun m' h' => hk3.own (HI.out.own m' h') (fun b hb h => by simp [Value.ownBlock] at hb; subst hb; have := (HG.out _ h).1; have := GW.out; omega), by
            have hlt := HLT.out
            rw [List.take_succ_eq_append_getElem (by rw [HM9.out]; exact hlt)]
            show (pre ++ [x]).map (·.1.n) = _
            rw [List.map_append, ← HI.out.come]
            show _ ++ [x.1.n] = _
            rw [HXN.out]
            unfold at0
            rw [List.getElem?_eq_getElem (by rw [HM9.out]; exact hlt)]; rfl⟩
          clear hJ3 hk3 hR hy
          gi_wp2_with fail
          go_roundw
          case rel => exact ⟨i + 1, by go_num, Lib.hid ⟨by have := HLT.out; omega, _, N3.out⟩⟩
          case measure => simp [intOf]; have := HLT.out; omega
        · gi_wp2_with fail
          refine bodyPost_ret (results_none rfl _ _ _) rfl ?_
          exact ⟨⟨_, rfl⟩, .inr ⟨_, trivial, hJx3⟩⟩
      · have d1 : decide (i < m) = false := decide_eq_false hlt
        have HLT := Lib.hid hlt
        clear hlt
        gi_wp2_with fail
        go_end0
        have hc := HI.out.come
        rw [List.take_of_length_le (by rw [HM9.out]; have := HLT.out; omega)] at hc
        exact ⟨⟨_, rfl⟩, .inl ⟨pre, ⟨by rw [hc]; exact HP.out, by rw [hc]; exact HS.out⟩, HI.out.j⟩⟩
theorem all_stops (n : Nat) (hn : 1 ≤ n) (Bm B p bo bw : Nat) (dv : Value) (M : Mg) (G : List Nat) (w : World) (hm : Row w Bm #[.pointer (some ⟨p, 0, none⟩)] 25) (hM : MgAt w B p bo bw dv M) (hl : M.os.length ≤ 12)
    (hG : ∀ b ∈ G, b < w.heap.size ∧ b ≠ Bm ∧ b ≠ p ∧ b ≠ bo) :
    SeqStopsK Fence.wide n Try.prog 46 #[.pointer (some ⟨Bm, 0, none⟩)] (encT M) (KeepC G) (fun ys => (numsT ys).Perm (M.os.map (·.n)) ∧ SortedTo (numsT ys) (numsT ys).length) (fun _ => True) M.os.length w := fun l J Jx W hW hJ _ hY h0 =>
  all1_in n hn l Bm B p bo bw dv M G J Jx W hJ (fun b hb => ⟨Nat.lt_of_lt_of_le (hG b hb).1 hW.size, (hG b hb).2⟩) hY (hm.only ((Only.refl [] w).below hW) (by simp)) (hM.only ((Only.refl [] w).below hW) (by simp)) hl h0
end Go.Proofs.Ytodkflnpcfepfaa
