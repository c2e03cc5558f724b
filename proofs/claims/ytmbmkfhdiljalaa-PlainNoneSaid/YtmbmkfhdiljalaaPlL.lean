/- Plain: maps.Keys over the three maps of a DB, as iterators (printed by gen_keys.py). -/
import Derived.Test.YtmbmkfhdiljalaaPlK0
import Derived.Laws.IdiomRangeMap
namespace Go.Proofs.Ytmbmkfhdiljalaa
open Go.RowKit Go.Shelf
set_option linter.unusedVariables false
set_option linter.unusedSimpArgs false
attribute [local go_sem] Oper.semAt_some

theorem Only.grownBy {w w' : World} {r : Nat} (k : Only [r] w w') : w.grownBy w' (some r) := ⟨k.os, k.tape, k.output, k.size, fun i hi hn => k.block i hi (by simp; exact fun e => hn (by rw [e]))⟩
theorem Only.grownNone {w w' : World} (k : Only [] w w') : w.grownBy w' none := ⟨k.os, k.tape, k.output, k.size, fun i hi _ => k.block i hi (by simp)⟩
theorem Rng.walks {w w' : World} {b r : Nat} {q : IntKind} {L left : List (Int × Value)} (h : Rng w b r q L left) (k : KeepsWalks w w') : Rng w' b r q L left := by
  obtain ⟨es, clock, since, seen, c0, h1, h2, h3, h4, h5⟩ := h
  exact ⟨es, clock, since, seen, c0, k.same _ _ h1 rfl, h2, h3, k.same _ _ h4 rfl, h5⟩
theorem Rng.isWalk {w : World} {b r : Nat} {q : IntKind} {L left : List (Int × Value)} (h : Rng w b r q L left) : ∃ o : Obj, w.heap[r]? = some o ∧ o.isWalk = true := by
  obtain ⟨es, clock, since, seen, c0, h1, h2, h3, h4, h5⟩ := h
  exact ⟨_, h4, rfl⟩
/-- What has come, and what is left. -/
structure KeysInv (J : List Int → World → Prop) (L : List (Int × Value)) (b r B : Nat) (pre : List Int) (left : List (Int × Value)) (wr : World) : Prop where
  rng : Rng wr b r .u64 L left
  j : J pre wr
  perm : (pre ++ left.map (·.1)).Perm (L.map (·.1))
  r0 : B ≤ r
theorem perm_rm {k : Int} {v : Value} {left : List (Int × Value)} (hn : (left.map (·.1)).Nodup) (h : (k, v) ∈ left) : (left.map (·.1)).Perm (k :: (rm k left).map (·.1)) := by
  induction left with
  | nil => simp at h
  | cons p left ih =>
    simp only [List.map_cons, List.nodup_cons] at hn
    by_cases e : p.1 = k
    · have e1 : rm k (p :: left) = left := by
        simp only [rm, List.filter_cons, e, decide_true, Bool.not_true, Bool.false_eq_true, if_false]
        exact List.filter_eq_self.2 fun x hx => by simpa using fun hk : x.1 = k => hn.1 (e ▸ hk ▸ List.mem_map.2 ⟨x, hx, rfl⟩)
      rw [e1, List.map_cons, e]
    · have h' : (k, v) ∈ left := by
        rcases List.mem_cons.1 h with rfl | h
        · exact absurd rfl e
        · exact h
      have e1 : rm k (p :: left) = p :: rm k left := by simp [rm, List.filter_cons, e]
      rw [e1, List.map_cons, List.map_cons]
      exact ((ih hn.2 h').cons _).trans (List.Perm.swap _ _ _)
theorem Rng.nodup {w : World} {b r : Nat} {q : IntKind} {L left : List (Int × Value)} (h : Rng w b r q L left) (hp : ∃ pre : List Int, (pre ++ left.map (·.1)).Perm (L.map (·.1))) : (left.map (·.1)).Nodup := by
  obtain ⟨pre, hp⟩ := hp
  have := hp.nodup_iff.2 h.mapAt.nodup
  exact (List.nodup_append.1 this).2.1
/-- A map: nil, or a block. -/
def MapV (w : World) (v : Value) (q : IntKind) (L : List (Int × Value)) : Prop := (v = .map none ∧ L = []) ∨ ∃ b, v = .map (some b) ∧ MapAt w b q L
theorem MapV.only {G : List Nat} {w w' : World} {v : Value} {q : IntKind} {L : List (Int × Value)} (h : MapV w v q L) (k : Only G w w') (hG : ∀ b, v = .map (some b) → b ∉ G) : MapV w' v q L := by
  rcases h with h | ⟨b, rfl, h⟩
  · exact .inl h
  · exact .inr ⟨b, rfl, h.only k (hG b rfl)⟩
theorem MapV.shape {w : World} {v : Value} {q : IntKind} {L : List (Int × Value)} (h : MapV w v q L) : ∃ m, v = .map m := by
  rcases h with ⟨rfl, _⟩ | ⟨b, rfl, _⟩
  · exact ⟨_, rfl⟩
  · exact ⟨_, rfl⟩
theorem MapV.no (w : World) (q : IntKind) : MapV w (.map none) q [] := .inl ⟨rfl, rfl⟩

set_option maxRecDepth 100000 in
set_option maxHeartbeats 2000000 in
theorem keys1_px (n : Nat) (hn : 1 ≤ n) (l Bm b : Nat) (L : List (Int × Value)) (J Jx : List Int → World → Prop) (W : World) (hJ : AbidesFrom W.heap.size J)
    (hY : ∀ pre x W1, J pre W1 → pre.length < L.length → YieldAt Fence.wide (n - 1) Try.prog l #[.int .u64 x] W1 fun e W' =>
      (e = .returned (.bool true) ∧ J (pre ++ [x]) W' ∧ KeepsWalks W1 W') ∨ (e = .returned (.bool false) ∧ Jx (pre ++ [x]) W'))
    (hm : W.cell? ⟨Bm, 0, none⟩ = some (.map (some b))) (hM : MapAt W b .u64 L) (h0 : J [] W) :
    CallsIn Fence.wide n Try.prog 46 #[.func (.yield l) #[] #[], .pointer (some ⟨Bm, 0, none⟩)] W fun e W' => (∃ v, e = .returned v) ∧
      ((∃ ys, ys.Perm (L.map (·.1)) ∧ J ys W') ∨ (∃ pre, True ∧ Jx pre W')) := by
  have hro : Fence.wide.round = none := rfl
  refine callsIn_of_wp Try.func46 rfl trivial ?_ hro
  simp only [Try.ntmps46, List.size_toArray, List.length_cons, List.length_nil, Nat.reduceAdd, Nat.reduceSub, Array.replicate_succ, Array.replicate_zero, List.push_toArray, List.append_toArray, List.nil_append, List.cons_append]
  gi_wp2_with (gi_at_range; refine wpListIn_range_at _ rfl (.tmp 4) 24 rfl 22 55 .u64 Try.underlying24 b L rfl hM ?_; intro w1 hr1 ho1 hs1)
  have S1 := Lib.hid hs1
  have I0 : Hid (KeysInv J L b W.heap.size W.heap.size [] L w1) := Lib.hid ⟨hr1, hJ [] W w1 none h0 ho1.grownNone (fun r e => by cases e), by simp, Nat.le_refl _⟩
  clear hr1 ho1 hs1 h0 hm hM
  simp only [Act.put, List.setIfInBounds_toArray, List.set_cons_zero, List.set_cons_succ]
  gi_loopw [3] (fun u wr => Hid (∃ pre left, KeysInv J L b W.heap.size W.heap.size pre left wr)) (fun u wr => wr.rangeLeft b W.heap.size)
  case atStart => exact Lib.hid ⟨_, _, I0.out⟩
  case round =>
    obtain ⟨pre, left, hi⟩ := hrel.out
    have HI := Lib.hid hi
    have RG := Lib.hid hi.rng
    clear hi hrel
    gi_wp2_with (gi_at_next; refine wpListIn_next_at _ rfl (.tmp 5) rfl b W.heap.size .u64 L left rfl RG.out ?_ ?_)
    · intro hnil
      have HN := Lib.hid hnil
      clear hnil
      gi_wp2_with fail
      go_end0
      refine ⟨⟨_, rfl⟩, .inl ⟨pre, ?_, HI.out.j⟩⟩
      have h := HI.out.perm
      rw [HN.out] at h
      simpa using h
    · intro k v w2 hmem hr2 ho2 hs2 hen
      have PN := Lib.hid (perm_rm (RG.out.nodup ⟨pre, HI.out.perm⟩) hmem)
      have J2 : J pre w2 := hJ pre _ w2 (some W.heap.size) HI.out.j ho2.grownBy (fun r e => by cases e; exact ⟨Nat.le_refl _, RG.out.isWalk⟩)
      have hlen : pre.length < L.length := by
        have h1 := HI.out.perm.length_eq
        simp only [List.length_append, List.length_map] at h1
        have h2 : 0 < left.length := List.length_pos_of_mem hmem
        omega
      have HM := Lib.hid hmem
      have R2 := Lib.hid hr2
      obtain ⟨fn, tmps, assign, body, hy, hR⟩ := hY pre k w2 J2 hlen
      clear hmem hr2 ho2 hs2 J2 hlen
      gi_wp2_with fail
      refine hR.mono ?_
      rintro e W3 (⟨rfl, hJ3, hk3⟩ | ⟨rfl, hJx3⟩)
      · have N3 : Hid (KeysInv J L b W.heap.size W.heap.size (pre ++ [k]) (rm k left) W3) := Lib.hid ⟨R2.out.walks hk3, hJ3, by
          have h := HI.out.perm
          refine List.Perm.trans ?_ h
          rw [List.append_assoc]
          exact List.Perm.append_left _ PN.out.symm, Nat.le_refl _⟩
        clear hJ3 hk3 hR hy hen
        gi_wp2_with fail
        go_roundw
        case rel => exact Lib.hid ⟨_, _, N3.out⟩
        case measure =>
          rw [N3.out.rng.left_eq, RG.out.left_eq]
          exact rm_lt HM.out
      · gi_wp2_with fail
        refine bodyPost_ret (results_none rfl _ _ _) rfl ?_
        exact ⟨⟨_, rfl⟩, .inr ⟨_, trivial, hJx3⟩⟩
set_option maxRecDepth 100000 in
set_option maxHeartbeats 2000000 in
theorem keys1_px_nil (n : Nat) (l Bm : Nat) (J : List Int → World → Prop) (W : World) (hJ : AbidesFrom W.heap.size J)
    (hm : W.cell? ⟨Bm, 0, none⟩ = some (.map none)) (h0 : J [] W) :
    CallsIn Fence.wide n Try.prog 46 #[.func (.yield l) #[] #[], .pointer (some ⟨Bm, 0, none⟩)] W fun e W' => (∃ v, e = .returned v) ∧ J [] W' := by
  have hro : Fence.wide.round = none := rfl
  refine callsIn_of_wp Try.func46 rfl trivial ?_ hro
  simp only [Try.ntmps46, List.size_toArray, List.length_cons, List.length_nil, Nat.reduceAdd, Nat.reduceSub, Array.replicate_succ, Array.replicate_zero, List.push_toArray, List.append_toArray, List.nil_append, List.cons_append]
  have hrg := run_range_nilMap (P := Try.prog) W 24 22 55 Try.underlying24
  have hnx : ∀ ty, (Instr.next (.pointer (some ⟨W.heap.size, 0, none⟩)) false ty).run Try.prog (W.alloc (.mapIter none 0 #[] 0)) = _ := fun ty => run_next_nilMap _ ty 0 0 #[]
  gi_wp2
  refine wpIn_loop_rounds 1 ?_
  rw [roundsIn_succ]
  gi_wp2
  go_end0
  exact ⟨⟨_, rfl⟩, hJ [] W _ none h0 (World.grownBy_alloc W _ none) (fun r e => by cases e)⟩
theorem keys_stops_px (n : Nat) (hn : 1 ≤ n) (Bm : Nat) (v : Value) (L : List (Int × Value)) (w : World) (hBm : Bm < w.heap.size) (hm : w.cell? ⟨Bm, 0, none⟩ = some v) (hM : MapV w v .u64 L) :
    SeqStopsK Fence.wide n Try.prog 46 #[.pointer (some ⟨Bm, 0, none⟩)] (fun x : Int => #[Value.int .u64 x]) KeepsWalks (fun ys => ys.Perm (L.map (·.1))) (fun _ => True) L.length w := fun l J Jx W hW hJ _ hY h0 => by
  rcases hM with ⟨rfl, rfl⟩ | ⟨b, rfl, hM⟩
  · refine (keys1_px_nil n l Bm J W hJ ((hW.cell (p := ⟨Bm, 0, none⟩) hBm).trans hm) h0).mono ?_
    rintro e W' ⟨he, hj⟩
    exact ⟨he, .inl ⟨[], List.Perm.refl _, hj⟩⟩
  · exact keys1_px n hn l Bm b L J Jx W hJ hY ((hW.cell (p := ⟨Bm, 0, none⟩) hBm).trans hm) (hM.of_block (hW.block b hM.lt)) h0
/-- maps.Keys: the box, and the function over it. -/
theorem keys_px_any (m : Option Nat) (w : World) : Calls Try.prog 32 #[.map m] w fun e w' => e = .returned (.func (.func 46) #[] #[.pointer (some ⟨w.heap.size, 0, none⟩)]) ∧ w' = w.alloc (.cells #[.map m] 24) := by
  go_enter Try.func32, Try.ntmps32
  go_wp2
  go_ret
  exact ⟨rfl, rfl⟩
theorem keys_px_enters : ∀ args w, (callFunc 46 args).run Try.prog w = .ok (.enter 46 args) w := enters_of Try.func46 (by kernel_rfl) rfl

set_option maxRecDepth 100000 in
set_option maxHeartbeats 2000000 in
theorem keys1_vs (n : Nat) (hn : 1 ≤ n) (l Bm b : Nat) (L : List (Int × Value)) (J Jx : List Int → World → Prop) (W : World) (hJ : AbidesFrom W.heap.size J)
    (hY : ∀ pre x W1, J pre W1 → pre.length < L.length → YieldAt Fence.wide (n - 1) Try.prog l #[.int .u64 x] W1 fun e W' =>
      (e = .returned (.bool true) ∧ J (pre ++ [x]) W' ∧ KeepsWalks W1 W') ∨ (e = .returned (.bool false) ∧ Jx (pre ++ [x]) W'))
    (hm : W.cell? ⟨Bm, 0, none⟩ = some (.map (some b))) (hM : MapAt W b .u64 L) (h0 : J [] W) :
    CallsIn Fence.wide n Try.prog 59 #[.func (.yield l) #[] #[], .pointer (some ⟨Bm, 0, none⟩)] W fun e W' => (∃ v, e = .returned v) ∧
      ((∃ ys, ys.Perm (L.map (·.1)) ∧ J ys W') ∨ (∃ pre, True ∧ Jx pre W')) := by
  have hro : Fence.wide.round = none := rfl
  refine callsIn_of_wp Try.func59 rfl trivial ?_ hro
  simp only [Try.ntmps59, List.size_toArray, List.length_cons, List.length_nil, Nat.reduceAdd, Nat.reduceSub, Array.replicate_succ, Array.replicate_zero, List.push_toArray, List.append_toArray, List.nil_append, List.cons_append]
  gi_wp2_with (gi_at_range; refine wpListIn_range_at _ rfl (.tmp 4) 23 rfl 22 75 .u64 Try.underlying23 b L rfl hM ?_; intro w1 hr1 ho1 hs1)
  have S1 := Lib.hid hs1
  have I0 : Hid (KeysInv J L b W.heap.size W.heap.size [] L w1) := Lib.hid ⟨hr1, hJ [] W w1 none h0 ho1.grownNone (fun r e => by cases e), by simp, Nat.le_refl _⟩
  clear hr1 ho1 hs1 h0 hm hM
  simp only [Act.put, List.setIfInBounds_toArray, List.set_cons_zero, List.set_cons_succ]
  gi_loopw [3] (fun u wr => Hid (∃ pre left, KeysInv J L b W.heap.size W.heap.size pre left wr)) (fun u wr => wr.rangeLeft b W.heap.size)
  case atStart => exact Lib.hid ⟨_, _, I0.out⟩
  case round =>
    obtain ⟨pre, left, hi⟩ := hrel.out
    have HI := Lib.hid hi
    have RG := Lib.hid hi.rng
    clear hi hrel
    gi_wp2_with (gi_at_next; refine wpListIn_next_at _ rfl (.tmp 5) rfl b W.heap.size .u64 L left rfl RG.out ?_ ?_)
    · intro hnil
      have HN := Lib.hid hnil
      clear hnil
      gi_wp2_with fail
      go_end0
      refine ⟨⟨_, rfl⟩, .inl ⟨pre, ?_, HI.out.j⟩⟩
      have h := HI.out.perm
      rw [HN.out] at h
      simpa using h
    · intro k v w2 hmem hr2 ho2 hs2 hen
      have PN := Lib.hid (perm_rm (RG.out.nodup ⟨pre, HI.out.perm⟩) hmem)
      have J2 : J pre w2 := hJ pre _ w2 (some W.heap.size) HI.out.j ho2.grownBy (fun r e => by cases e; exact ⟨Nat.le_refl _, RG.out.isWalk⟩)
      have hlen : pre.length < L.length := by
        have h1 := HI.out.perm.length_eq
        simp only [List.length_append, List.length_map] at h1
        have h2 : 0 < left.length := List.length_pos_of_mem hmem
        omega
      have HM := Lib.hid hmem
      have R2 := Lib.hid hr2
      obtain ⟨fn, tmps, assign, body, hy, hR⟩ := hY pre k w2 J2 hlen
      clear hmem hr2 ho2 hs2 J2 hlen
      gi_wp2_with fail
      refine hR.mono ?_
      rintro e W3 (⟨rfl, hJ3, hk3⟩ | ⟨rfl, hJx3⟩)
      · have N3 : Hid (KeysInv J L b W.heap.size W.heap.size (pre ++ [k]) (rm k left) W3) := Lib.hid ⟨R2.out.walks hk3, hJ3, by
          have h := HI.out.perm
          refine List.Perm.trans ?_ h
          rw [List.append_assoc]
          exact List.Perm.append_left _ PN.out.symm, Nat.le_refl _⟩
        clear hJ3 hk3 hR hy hen
        gi_wp2_with fail
        go_roundw
        case rel => exact Lib.hid ⟨_, _, N3.out⟩
        case measure =>
          rw [N3.out.rng.left_eq, RG.out.left_eq]
          exact rm_lt HM.out
      · gi_wp2_with fail
        refine bodyPost_ret (results_none rfl _ _ _) rfl ?_
        exact ⟨⟨_, rfl⟩, .inr ⟨_, trivial, hJx3⟩⟩
set_option maxRecDepth 100000 in
set_option maxHeartbeats 2000000 in
theorem keys1_vs_nil (n : Nat) (l Bm : Nat) (J : List Int → World → Prop) (W : World) (hJ : AbidesFrom W.heap.size J)
    (hm : W.cell? ⟨Bm, 0, none⟩ = some (.map none)) (h0 : J [] W) :
    CallsIn Fence.wide n Try.prog 59 #[.func (.yield l) #[] #[], .pointer (some ⟨Bm, 0, none⟩)] W fun e W' => (∃ v, e = .returned v) ∧ J [] W' := by
  have hro : Fence.wide.round = none := rfl
  refine callsIn_of_wp Try.func59 rfl trivial ?_ hro
  simp only [Try.ntmps59, List.size_toArray, List.length_cons, List.length_nil, Nat.reduceAdd, Nat.reduceSub, Array.replicate_succ, Array.replicate_zero, List.push_toArray, List.append_toArray, List.nil_append, List.cons_append]
  have hrg := run_range_nilMap (P := Try.prog) W 23 22 75 Try.underlying23
  have hnx : ∀ ty, (Instr.next (.pointer (some ⟨W.heap.size, 0, none⟩)) false ty).run Try.prog (W.alloc (.mapIter none 0 #[] 0)) = _ := fun ty => run_next_nilMap _ ty 0 0 #[]
  gi_wp2
  refine wpIn_loop_rounds 1 ?_
  rw [roundsIn_succ]
  gi_wp2
  go_end0
  exact ⟨⟨_, rfl⟩, hJ [] W _ none h0 (World.grownBy_alloc W _ none) (fun r e => by cases e)⟩
theorem keys_stops_vs (n : Nat) (hn : 1 ≤ n) (Bm : Nat) (v : Value) (L : List (Int × Value)) (w : World) (hBm : Bm < w.heap.size) (hm : w.cell? ⟨Bm, 0, none⟩ = some v) (hM : MapV w v .u64 L) :
    SeqStopsK Fence.wide n Try.prog 59 #[.pointer (some ⟨Bm, 0, none⟩)] (fun x : Int => #[Value.int .u64 x]) KeepsWalks (fun ys => ys.Perm (L.map (·.1))) (fun _ => True) L.length w := fun l J Jx W hW hJ _ hY h0 => by
  rcases hM with ⟨rfl, rfl⟩ | ⟨b, rfl, hM⟩
  · refine (keys1_vs_nil n l Bm J W hJ ((hW.cell (p := ⟨Bm, 0, none⟩) hBm).trans hm) h0).mono ?_
    rintro e W' ⟨he, hj⟩
    exact ⟨he, .inl ⟨[], List.Perm.refl _, hj⟩⟩
  · exact keys1_vs n hn l Bm b L J Jx W hJ hY ((hW.cell (p := ⟨Bm, 0, none⟩) hBm).trans hm) (hM.of_block (hW.block b hM.lt)) h0
/-- maps.Keys: the box, and the function over it. -/
theorem keys_vs_any (m : Option Nat) (w : World) : Calls Try.prog 47 #[.map m] w fun e w' => e = .returned (.func (.func 59) #[] #[.pointer (some ⟨w.heap.size, 0, none⟩)]) ∧ w' = w.alloc (.cells #[.map m] 23) := by
  go_enter Try.func47, Try.ntmps47
  go_wp2
  go_ret
  exact ⟨rfl, rfl⟩
theorem keys_vs_enters : ∀ args w, (callFunc 59 args).run Try.prog w = .ok (.enter 59 args) w := enters_of Try.func59 (by kernel_rfl) rfl

set_option maxRecDepth 100000 in
set_option maxHeartbeats 2000000 in
theorem keys1_vr (n : Nat) (hn : 1 ≤ n) (l Bm b : Nat) (L : List (Int × Value)) (J Jx : List Int → World → Prop) (W : World) (hJ : AbidesFrom W.heap.size J)
    (hY : ∀ pre x W1, J pre W1 → pre.length < L.length → YieldAt Fence.wide (n - 1) Try.prog l #[.int .u64 x] W1 fun e W' =>
      (e = .returned (.bool true) ∧ J (pre ++ [x]) W' ∧ KeepsWalks W1 W') ∨ (e = .returned (.bool false) ∧ Jx (pre ++ [x]) W'))
    (hm : W.cell? ⟨Bm, 0, none⟩ = some (.map (some b))) (hM : MapAt W b .u64 L) (h0 : J [] W) :
    CallsIn Fence.wide n Try.prog 60 #[.func (.yield l) #[] #[], .pointer (some ⟨Bm, 0, none⟩)] W fun e W' => (∃ v, e = .returned v) ∧
      ((∃ ys, ys.Perm (L.map (·.1)) ∧ J ys W') ∨ (∃ pre, True ∧ Jx pre W')) := by
  have hro : Fence.wide.round = none := rfl
  refine callsIn_of_wp Try.func60 rfl trivial ?_ hro
  simp only [Try.ntmps60, List.size_toArray, List.length_cons, List.length_nil, Nat.reduceAdd, Nat.reduceSub, Array.replicate_succ, Array.replicate_zero, List.push_toArray, List.append_toArray, List.nil_append, List.cons_append]
  gi_wp2_with (gi_at_range; refine wpListIn_range_at _ rfl (.tmp 4) 56 rfl 22 74 .u64 Try.underlying56 b L rfl hM ?_; intro w1 hr1 ho1 hs1)
  have S1 := Lib.hid hs1
  have I0 : Hid (KeysInv J L b W.heap.size W.heap.size [] L w1) := Lib.hid ⟨hr1, hJ [] W w1 none h0 ho1.grownNone (fun r e => by cases e), by simp, Nat.le_refl _⟩
  clear hr1 ho1 hs1 h0 hm hM
  simp only [Act.put, List.setIfInBounds_toArray, List.set_cons_zero, List.set_cons_succ]
  gi_loopw [3] (fun u wr => Hid (∃ pre left, KeysInv J L b W.heap.size W.heap.size pre left wr)) (fun u wr => wr.rangeLeft b W.heap.size)
  case atStart => exact Lib.hid ⟨_, _, I0.out⟩
  case round =>
    obtain ⟨pre, left, hi⟩ := hrel.out
    have HI := Lib.hid hi
    have RG := Lib.hid hi.rng
    clear hi hrel
    gi_wp2_with (gi_at_next; refine wpListIn_next_at _ rfl (.tmp 5) rfl b W.heap.size .u64 L left rfl RG.out ?_ ?_)
    · intro hnil
      have HN := Lib.hid hnil
      clear hnil
      gi_wp2_with fail
      go_end0
      refine ⟨⟨_, rfl⟩, .inl ⟨pre, ?_, HI.out.j⟩⟩
      have h := HI.out.perm
      rw [HN.out] at h
      simpa using h
    · intro k v w2 hmem hr2 ho2 hs2 hen
      have PN := Lib.hid (perm_rm (RG.out.nodup ⟨pre, HI.out.perm⟩) hmem)
      have J2 : J pre w2 := hJ pre _ w2 (some W.heap.size) HI.out.j ho2.grownBy (fun r e => by cases e; exact ⟨Nat.le_refl _, RG.out.isWalk⟩)
      have hlen : pre.length < L.length := by
        have h1 := HI.out.perm.length_eq
        simp only [List.length_append, List.length_map] at h1
        have h2 : 0 < left.length := List.length_pos_of_mem hmem
        omega
      have HM := Lib.hid hmem
      have R2 := Lib.hid hr2
      obtain ⟨fn, tmps, assign, body, hy, hR⟩ := hY pre k w2 J2 hlen
      clear hmem hr2 ho2 hs2 J2 hlen
      gi_wp2_with fail
      refine hR.mono ?_
      rintro e W3 (⟨rfl, hJ3, hk3⟩ | ⟨rfl, hJx3⟩)
      · have N3 : Hid (KeysInv J L b W.heap.size W.heap.size (pre ++ [k]) (rm k left) W3) := Lib.hid ⟨R2.out.walks hk3, hJ3, by
          have h := HI.out.perm
          refine List.Perm.trans ?_ h
          rw [List.append_assoc]
          exact List.Perm.append_left _ PN.out.symm, Nat.le_refl _⟩
        clear hJ3 hk3 hR hy hen
        gi_wp2_with fail
        go_roundw
        case rel => exact Lib.hid ⟨_, _, N3.out⟩
        case measure =>
          rw [N3.out.rng.left_eq, RG.out.left_eq]
          exact rm_lt HM.out
      · gi_wp2_with fail
        refine bodyPost_ret (results_none rfl _ _ _) rfl ?_
        exact ⟨⟨_, rfl⟩, .inr ⟨_, trivial, hJx3⟩⟩
set_option maxRecDepth 100000 in
set_option maxHeartbeats 2000000 in
theorem keys1_vr_nil (n : Nat) (l Bm : Nat) (J : List Int → World → Prop) (W : World) (hJ : AbidesFrom W.heap.size J)
    (hm : W.cell? ⟨Bm, 0, none⟩ = some (.map none)) (h0 : J [] W) :
    CallsIn Fence.wide n Try.prog 60 #[.func (.yield l) #[] #[], .pointer (some ⟨Bm, 0, none⟩)] W fun e W' => (∃ v, e = .returned v) ∧ J [] W' := by
  have hro : Fence.wide.round = none := rfl
  refine callsIn_of_wp Try.func60 rfl trivial ?_ hro
  simp only [Try.ntmps60, List.size_toArray, List.length_cons, List.length_nil, Nat.reduceAdd, Nat.reduceSub, Array.replicate_succ, Array.replicate_zero, List.push_toArray, List.append_toArray, List.nil_append, List.cons_append]
  have hrg := run_range_nilMap (P := Try.prog) W 56 22 74 Try.underlying56
  have hnx : ∀ ty, (Instr.next (.pointer (some ⟨W.heap.size, 0, none⟩)) false ty).run Try.prog (W.alloc (.mapIter none 0 #[] 0)) = _ := fun ty => run_next_nilMap _ ty 0 0 #[]
  gi_wp2
  refine wpIn_loop_rounds 1 ?_
  rw [roundsIn_succ]
  gi_wp2
  go_end0
  exact ⟨⟨_, rfl⟩, hJ [] W _ none h0 (World.grownBy_alloc W _ none) (fun r e => by cases e)⟩
theorem keys_stops_vr (n : Nat) (hn : 1 ≤ n) (Bm : Nat) (v : Value) (L : List (Int × Value)) (w : World) (hBm : Bm < w.heap.size) (hm : w.cell? ⟨Bm, 0, none⟩ = some v) (hM : MapV w v .u64 L) :
    SeqStopsK Fence.wide n Try.prog 60 #[.pointer (some ⟨Bm, 0, none⟩)] (fun x : Int => #[Value.int .u64 x]) KeepsWalks (fun ys => ys.Perm (L.map (·.1))) (fun _ => True) L.length w := fun l J Jx W hW hJ _ hY h0 => by
  rcases hM with ⟨rfl, rfl⟩ | ⟨b, rfl, hM⟩
  · refine (keys1_vr_nil n l Bm J W hJ ((hW.cell (p := ⟨Bm, 0, none⟩) hBm).trans hm) h0).mono ?_
    rintro e W' ⟨he, hj⟩
    exact ⟨he, .inl ⟨[], List.Perm.refl _, hj⟩⟩
  · exact keys1_vr n hn l Bm b L J Jx W hJ hY ((hW.cell (p := ⟨Bm, 0, none⟩) hBm).trans hm) (hM.of_block (hW.block b hM.lt)) h0
/-- maps.Keys: the box, and the function over it. -/
theorem keys_vr_any (m : Option Nat) (w : World) : Calls Try.prog 49 #[.map m] w fun e w' => e = .returned (.func (.func 60) #[] #[.pointer (some ⟨w.heap.size, 0, none⟩)]) ∧ w' = w.alloc (.cells #[.map m] 56) := by
  go_enter Try.func49, Try.ntmps49
  go_wp2
  go_ret
  exact ⟨rfl, rfl⟩
theorem keys_vr_enters : ∀ args w, (callFunc 60 args).run Try.prog w = .ok (.enter 60 args) w := enters_of Try.func60 (by kernel_rfl) rfl
end Go.Proofs.Ytmbmkfhdiljalaa
