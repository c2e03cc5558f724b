/- maps.DeleteFunc with Forget's closure. -/
import Derived.Test.YtodkflnpcfepfaaTxN
namespace Go.Proofs.Ytodkflnpcfepfaa
open Go.RowKit
open Go.ChangeMaps (setBlock)
open Go.MapKept (Stamped)
set_option linter.unusedVariables false
set_option linter.unusedSimpArgs false

theorem filter_erase {α : Type} (p : α → Bool) : ∀ (l : List α) (j : Nat) (e : α), l[j]? = some e → p e = false → (l.eraseIdx j).filter p = l.filter p
  | [], _, _, h, _ => by simp at h
  | a :: l, 0, e, h, hp => by
    simp only [List.getElem?_cons_zero, Option.some.injEq] at h
    subst h
    simp [hp]
  | a :: l, j + 1, e, h, hp => by
    simp only [List.getElem?_cons_succ] at h
    simp only [List.eraseIdx_cons_succ, List.filter_cons, filter_erase p l j e h hp]
section
variable {P : Program} {w : World} {b r : Nat} {q : IntKind} {L left : List (Int × Value)} {t kt et : TypeId}
theorem Rng.ne (h : Rng w b r q L left) : r ≠ b := by
  obtain ⟨es, clock, since, seen, c0, hb, _, _, hr, _⟩ := h
  intro e
  rw [e, hb] at hr
  cases hr
/-- What a range has come by may be taken away. -/
theorem Rng.delete (h : Rng w b r q L left) (ht : P.underlying t = some (.map kt et)) (hk : P.underlying kt = some (.int q)) (ty : TypeId) (k : Int) (hn : ∀ p ∈ left, p.1 ≠ k) :
    ∃ o, (Builtin.delete_ #[t, kt] ty #[.map (some b), .int q k]).run P w = .ok (.tuple #[]) (setBlock w b o) ∧ Rng (setBlock w b o) b r q (rm k L) left := by
  have hnd := h.mapAt.nodup
  have hne := h.ne
  obtain ⟨es, clock, since, seen, c0, hb, hs, hL, hr, hold, hsc, hck, hl⟩ := h
  have hf := MapKept.run_findKey (P := P) (w := w) hk (findNow_kvs ⟨q, rfl⟩ k es.toList L 0 hL)
  have hc := fun e => MapKept.run_checkKey (P := P) (w := w) (k := .int q k) hk rfl e 9999
  have hr' : ∀ o : Obj, (setBlock w b o).heap[r]? = some (.mapIter (some b) since seen c0) := fun o => (turned_only.1 r hne).trans hr
  cases hi : ix k L 0 with
  | none =>
    rw [hi] at hf
    refine ⟨.map es clock, ?_, es, clock, since, seen, c0, (MapKept.heap_set hb).1, hs, by rw [rm_none (ix_none hi).2]; exact hL, hr' _, hold, hsc, hck, hl⟩
    simp [Builtin.delete_, run_underlying ht, MapKept.run_getObj_map hb, hc, hf, MapKept.run_setObj_map _ hb, Result.andThen, setBlock]
  | some p =>
    obtain ⟨j, u⟩ := p
    rw [hi] at hf
    obtain ⟨_, hj, _⟩ := ix_some hi
    rw [Nat.sub_zero] at hj
    obtain ⟨e0, he0, hk0, _⟩ := kvs_get hL hj
    have hjs : j < es.size := (Array.getElem?_eq_some_iff.1 he0).1
    have hsub : (es.eraseIdxIfInBounds j).toList = es.toList.eraseIdx j := by
      unfold Array.eraseIdxIfInBounds
      rw [dif_pos hjs]
      simp
    refine ⟨.map (es.eraseIdxIfInBounds j) clock, ?_, _, _, since, seen, c0, (MapKept.heap_set hb).1, MapKept.stamped_erase hs j, ?_, hr' _, fun x hx => hold x (by rw [hsub] at hx; exact List.mem_of_mem_eraseIdx hx), hsc, hck, ?_⟩
    · simp [Builtin.delete_, run_underlying ht, MapKept.run_getObj_map hb, hc, hf, MapKept.run_setObj_map _ hb, Result.andThen, setBlock]
    · rw [rm_some hnd hi, Nat.sub_zero]
      simp only [KVs]
      rw [hsub, map_erase, map_erase, hL]
    · rw [← hl]
      unfold leftOf
      simp only [Array.toList_filter]
      rw [hsub, filter_erase _ es.toList j e0 (by simpa using he0)]
      have hnot : e0 ∉ (leftOf es seen).toList := fun hm => by
        have h1 : (e0.key, e0.val) ∈ left.map (fun p => (Value.int q p.1, p.2)) := by rw [← hl]; exact List.mem_map.2 ⟨e0, hm, rfl⟩
        obtain ⟨p, hp, he⟩ := List.mem_map.1 h1
        simp only [Prod.mk.injEq] at he
        rw [hk0] at he
        exact hn p hp (by have := he.1; simpa using this)
      unfold leftOf at hnot
      simp only [Array.toList_filter, List.mem_filter, not_and, Bool.not_eq_true] at hnot
      exact hnot (by simpa using Array.mem_of_getElem? he0)
end
section
variable {P : Program} (w : World) {ops : Array Oper} {rest : List Oper} {o : Oper} {a : Act} {Q : Exit → Act → World → Prop}
theorem wpList_delete_rng (hg : o.guard = none) (m x : Operand) (t kt : TypeId) (hop : o.op = Op.call { callee := Callee.builtin Builtin.delete, args := #[m, x], argTypes := #[t, kt] }) (et : TypeId) (q : IntKind) (ht : P.underlying t = some (.map kt et)) (hk : P.underlying kt = some (.int q))
    (b r : Nat) (L left : List (Int × Value)) (hm : a.eval m = .map (some b)) (hown : Rng w b r q L left) (key : Int) (hx : a.eval x = .int q key) (hn : ∀ p ∈ left, p.1 ≠ key)
    (hK : ∀ w', Rng w' b r q (rm key L) left → Only [b] w w' → w'.heap.size = w.heap.size → wpList P ops Q rest (a.put o.dst (.tuple #[])) w') : wpList P ops Q (o :: rest) a w := by
  refine wpList_plain hg fun K' hK' => ?_
  obtain ⟨ob, hrun, hm'⟩ := hown.delete (P := P) ht hk o.type key hn
  unfold Oper.wp
  simp [execOp, hop, resolve, invoke, builtin, hm, hx, hrun, Result.andThen]
  exact hK' _ _ (hK _ hm' setBlock_only turned_only.2)
end
theorem closure_any (at_ least : Int) (v : Value) (bl : Nat) (w : World) (h : w.cell? ⟨bl, 0, none⟩ = some (.int .u64 least)) : Calls Try.prog 43 #[.int .u64 at_, v, .pointer (some ⟨bl, 0, none⟩)] w fun e w' => e = .returned (.bool (decide (at_ ≤ least))) ∧ w' = w := by
  go_enter Try.func43, Try.ntmps43
  go_wp2
  go_ret
  exact ⟨rfl, rfl⟩
def keepL (least : Int) (left L : List (Int × Value)) : List (Int × Value) := L.filter fun p => decide (least < p.1) || decide (p.1 ∈ left.map (·.1))
theorem keepL_all (least : Int) (L : List (Int × Value)) : keepL least L L = L := List.filter_eq_self.2 fun p hp => by
  simp only [Bool.or_eq_true, decide_eq_true_eq]
  exact .inr (List.mem_map.2 ⟨p, hp, rfl⟩)
theorem keepL_nil (least : Int) (L : List (Int × Value)) : keepL least [] L = L.filter fun p => decide (least < p.1) := by simp [keepL]
theorem mem_rm_key {k j : Int} {left : List (Int × Value)} : j ∈ (rm k left).map (·.1) ↔ j ∈ left.map (·.1) ∧ j ≠ k := by
  simp only [List.mem_map, mem_rm]
  constructor
  · rintro ⟨p, ⟨h1, h2⟩, rfl⟩; exact ⟨⟨p, h1, rfl⟩, h2⟩
  · rintro ⟨⟨p, h1, rfl⟩, h2⟩; exact ⟨p, ⟨h1, h2⟩, rfl⟩
theorem keepL_gone {least k : Int} {left L : List (Int × Value)} (h : k ≤ least) : rm k (keepL least left L) = keepL least (rm k left) L := by
  unfold rm keepL
  rw [List.filter_filter]
  refine List.filter_congr fun p _ => ?_
  have := @mem_rm_key k p.1 left
  unfold rm at this
  by_cases e : p.1 = k
  · simp only [e, decide_true, Bool.not_true, Bool.false_and]
    symm
    rw [Bool.or_eq_false_iff]
    rw [e] at this
    refine ⟨decide_eq_false (by omega), decide_eq_false fun hm => (this.1 hm).2 rfl⟩
  · simp only [e, decide_false, Bool.not_false, Bool.true_and]
    congr 1
    rw [decide_eq_decide, this]
    simp [e]
theorem keepL_stays {least k : Int} {left L : List (Int × Value)} (h : ¬ k ≤ least) : keepL least (rm k left) L = keepL least left L := by
  unfold keepL
  refine List.filter_congr fun p _ => ?_
  by_cases e : p.1 = k
  · rw [show decide (least < p.1) = true from decide_eq_true (by omega)]; rfl
  · congr 1
    rw [decide_eq_decide, mem_rm_key]
    simp [e]
structure DelInv (w wr : World) (bw r : Nat) (least : Int) (L left : List (Int × Value)) : Prop where
  rng : Rng wr bw r .u64 (keepL least left L) left
  only : Only [bw, r] w wr
  nd : (left.map (·.1)).Nodup
def DelTo (bw : Nat) (least : Int) (L : List (Int × Value)) (w : World) (e : Ending) (w' : World) : Prop := e = .returned (.tuple #[]) ∧ MapAt w' bw .u64 (L.filter fun p => decide (least < p.1)) ∧ Only [bw] w w'
set_option maxHeartbeats 2000000 in
theorem deleteFunc_at (bw bl : Nat) (least : Int) (L : List (Int × Value)) (w : World) (hM : MapAt w bw .u64 L) (hc : w.cell? ⟨bl, 0, none⟩ = some (.int .u64 least)) (hbl : bl < w.heap.size) (hne : bl ≠ bw) :
    Calls Try.prog 42 #[.map (some bw), .func (.func 43) #[] #[.pointer (some ⟨bl, 0, none⟩)]] w (DelTo bw least L w) := by
  have HM := Lib.hid hM
  have HC := Lib.hid hc
  have HB := Lib.hid hbl
  have HN := Lib.hid hne
  clear hM hc hbl hne
  go_enter Try.func42, Try.ntmps42
  go_wp2_with (at_range; refine wpList_range_at _ rfl (.tmp 6) 65 rfl 29 73 .u64 Try.underlying65 bw L rfl HM.out ?_)
  intro w1 r1 o1 s1
  have I0 : Hid (DelInv w w1 bw w.heap.size least L L) := Lib.hid ⟨by rw [keepL_all]; exact r1, o1.mono (by simp), HM.out.nodup⟩
  clear r1 o1 s1
  go_wp2_with fail
  go_loopw [4] (fun u wr => Hid (∃ left, DelInv w wr bw w.heap.size least L left)) (fun u wr => wr.rangeLeft bw w.heap.size)
  case atStart => exact Lib.hid ⟨_, I0.out⟩
  case round =>
    obtain ⟨left, hi⟩ := hrel.out
    have HI := Lib.hid hi
    have RG := Lib.hid hi.rng
    clear hi hrel
    go_wp2_with (at_next; refine wpList_next_at _ rfl (.tmp 7) rfl bw w.heap.size .u64 (keepL least left L) left rfl RG.out ?_ ?_)
    · intro hnil
      have HN := Lib.hid hnil
      clear hnil
      go_wp2_with fail
      go_end0
      have h := HI.out.rng.mapAt
      rw [HN.out, keepL_nil] at h
      exact ⟨rfl, h, HI.out.only.mono (by
        intro i hi
        simp at hi
        rcases hi with rfl | rfl
        · exact .inl (by simp)
        · exact .inr (Nat.le_refl _))⟩
    · intro k v w2 hmem hr2 ho2 hs2 hen
      have HMM := Lib.hid hmem
      have R2 := Lib.hid hr2
      have O2 : Hid (Only [bw, w.heap.size] w w2) := Lib.hid (HI.out.only.trans ho2 (by simp))
      have CL := Lib.hid (closure_any k least v bl w2 ((O2.out.cell HB.out (by have := HB.out; have := HN.out; simp; omega)).trans HC.out))
      have ND2 : Hid (((rm k left).map (·.1)).Nodup) := Lib.hid (by
        have : ((rm k left).map (·.1)).Sublist (left.map (·.1)) := (List.filter_sublist (l := left)).map _
        exact this.nodup HI.out.nd)
      clear hmem hr2 ho2 hs2
      by_cases hk : k ≤ least
      · have d1 : decide (k ≤ least) = true := decide_eq_true hk
        have HK := Lib.hid hk
        clear hk
        go_wp2_with fail
        refine CL.out.mono ?_
        rintro _ w3 ⟨rfl, hw3⟩
        subst w3
        go_wp2_with (at_delete; refine wpList_delete_rng _ rfl (.tmp 17) (.tmp 18) 65 29 rfl 73 .u64 Try.underlying65 Try.underlying29 bw w.heap.size (keepL least left L) (rm k left) rfl R2.out k rfl (fun p hp => (mem_rm.1 hp).2) ?_)
        intro w4 r4 o4 s4
        have N4 : Hid (DelInv w w4 bw w.heap.size least L (rm k left)) := Lib.hid ⟨by rw [← keepL_gone HK.out]; exact r4, O2.out.trans o4 (by simp), ND2.out⟩
        clear r4 o4 s4
        go_wp2_with fail
        go_roundw
        case rel => exact Lib.hid ⟨_, N4.out⟩
        case measure =>
          rw [N4.out.rng.left_eq, RG.out.left_eq]
          exact rm_lt HMM.out
      · have d1 : decide (k ≤ least) = false := decide_eq_false hk
        have N4 : Hid (DelInv w w2 bw w.heap.size least L (rm k left)) := Lib.hid ⟨by rw [keepL_stays hk]; exact R2.out, O2.out, ND2.out⟩
        clear hk
        go_wp2_with fail
        refine CL.out.mono ?_
        rintro _ w3 ⟨rfl, hw3⟩
        subst w3
        go_wp2_with fail
        go_roundw
        case rel => exact Lib.hid ⟨_, N4.out⟩
        case measure =>
          rw [N4.out.rng.left_eq, RG.out.left_eq]
          exact rm_lt HMM.out
end Go.Proofs.Ytodkflnpcfepfaa
