/- Lists of pages in memory: blanks; where pages lie; what a device holds behind a page that was written. -/
import Derived.Test.YtomhflkjnldeoaaPgP
namespace Go.Proofs.Ytomhflkjnldeoaa
open Go.RowKit Go.ChangeShapes Go.WideShapes Go.ChangeAt
open Go.Proofs.Ytomhflkjnldeoaa.dk (Dk Dev Bytes)
set_option linter.unusedVariables false

structure Pg where
  n : Int
  b : Nat
  xs : List Int
def cellsP (l : List Pg) : List Value := l.flatMap fun p => [.int .u64 p.n, .slice (some ⟨p.b, 0, none⟩) 500 500]
theorem cellsP_cons (p : Pg) (l : List Pg) : cellsP (p :: l) = .int .u64 p.n :: .slice (some ⟨p.b, 0, none⟩) 500 500 :: cellsP l := rfl
theorem cellsP_len : ∀ l : List Pg, (cellsP l).length = l.length * 2
  | [] => rfl
  | p :: l => by rw [cellsP_cons, List.length_cons, List.length_cons, cellsP_len l, List.length_cons]; omega
theorem cellsP_append (l m : List Pg) : cellsP (l ++ m) = cellsP l ++ cellsP m := by simp [cellsP]
theorem cellsP_one (l : List Pg) : ∀ u ∈ cellsP l, u.oneCell' = true := by
  intro u hu
  simp only [cellsP, List.mem_flatMap] at hu
  obtain ⟨p, _, hp⟩ := hu
  simp at hp
  rcases hp with rfl | rfl <;> rfl
theorem cellsP_at : ∀ (l : List Pg) (i : Nat) (p : Pg), l[i]? = some p → (cellsP l)[i * 2]? = some (.int .u64 p.n) ∧ (cellsP l)[i * 2 + 1]? = some (.slice (some ⟨p.b, 0, none⟩) 500 500)
  | [], i, p, h => by simp at h
  | q :: l, 0, p, h => by
    simp at h
    subst h
    exact ⟨rfl, rfl⟩
  | q :: l, i + 1, p, h => by
    rw [List.getElem?_cons_succ] at h
    have := cellsP_at l i p h
    rw [cellsP_cons, show (i + 1) * 2 = i * 2 + 1 + 1 by omega, List.getElem?_cons_succ, List.getElem?_cons_succ, List.getElem?_cons_succ, List.getElem?_cons_succ]
    exact this
theorem cellsP_set : ∀ (l : List Pg) (i : Nat) (p : Pg), ((cellsP l).set (i * 2) (.int .u64 p.n)).set (i * 2 + 1) (.slice (some ⟨p.b, 0, none⟩) 500 500) = cellsP (l.set i p)
  | [], i, p => by simp [cellsP]
  | q :: l, 0, p => by simp [cellsP_cons]
  | q :: l, i + 1, p => by
    have := cellsP_set l i p
    rw [cellsP_cons, show (i + 1) * 2 = i * 2 + 1 + 1 by omega, List.set_cons_succ, List.set_cons_succ, List.set_cons_succ, List.set_cons_succ, this, List.set_cons_succ, cellsP_cons]
structure Held (B : Nat) (w : World) (p : Pg) : Prop where
  cells : Bytes w p.b 0 p.xs
  len : p.xs.length = 500
  by_ : IsBy p.xs
  ge : B ≤ p.b
theorem Held.lt {B : Nat} {w : World} {p : Pg} (h : Held B w p) : p.b < w.heap.size :=
  World.block_lt_of_cell? w _ (h.cells 0 (.int .u8 (p.xs[0]?.getD 0)) (by rw [List.getElem?_map, List.getElem?_eq_getElem (by have := h.len; omega)]; rfl))
theorem Held.only {B : Nat} {F : List Nat} {w w' : World} {p : Pg} (h : Held B w p) (k : Only F w w') (hF : p.b ∉ F) : Held B w' p :=
  ⟨fun j v hj => by rw [k.cell h.lt hF]; exact h.cells j v hj, h.len, h.by_, h.ge⟩
theorem Held.ints {B : Nat} {w : World} {p : Pg} (h : Held B w p) : Ints .u8 w (.slice (some ⟨p.b, 0, none⟩) 500 500) p.xs :=
  .inr ⟨p.b, 0, 500, by rw [h.len], fun i hi => h.cells i _ (by rw [List.getElem?_map, List.getElem?_eq_getElem hi]; rfl)⟩
theorem Held.raise {B B' : Nat} {w : World} {p : Pg} (h : Held B w p) (hB : B' ≤ B) : Held B' w p := ⟨h.cells, h.len, h.by_, Nat.le_trans hB h.ge⟩
theorem held_zs {B : Nat} {w : World} {g : Nat} (h : Row w g zs500 5) (hB : B ≤ g) : Held B w ⟨0, g, List.replicate 500 0⟩ :=
  ⟨fun j v hj => by
    rw [Nat.zero_add, h.cell]
    rw [List.map_replicate, List.getElem?_replicate] at hj
    unfold zs500
    rw [Array.getElem?_replicate]
    exact hj, List.length_replicate, pageOpens.zs_by, hB⟩
/-- So many pages in a slice of the call's own. -/
structure PgsAt (B : Nat) (w : World) (v : Value) (l : List Pg) : Prop where
  own : w.ownsRow B 25 2 v l.length (cellsP l)
  held : ∀ p ∈ l, Held B w p ∧ v.ownBlock ≠ some p.b
theorem PgsAt.only {B : Nat} {F : List Nat} {w w' : World} {v : Value} {l : List Pg} (h : PgsAt B w v l) (k : Only F w w') (hF : ∀ b ∈ F, b < B) : PgsAt B w' v l :=
  ⟨own_keep h.own fun b hb => k.block _ (h.own.lt b hb).2 fun hf => by have := hF b hf; have := (h.own.lt b hb).1; omega, fun p hp => ⟨(h.held p hp).1.only k fun hf => by have := hF _ hf; have := (h.held p hp).1.ge; omega, (h.held p hp).2⟩⟩
theorem PgsAt.push {B : Nat} {wx w' : World} {u v' : Value} {l : List Pg} {p : Pg} (h : PgsAt B wx u l) (hp : Held B wx p) (hu : u.ownBlock ≠ some p.b)
    (ho : w'.ownsRow B 25 2 v' (l.length + 1) (cellsP l ++ [.int .u64 p.n, .slice (some ⟨p.b, 0, none⟩) 500 500])) (hg : wx.grownBy w' u.ownBlock) (hf : v'.ownBlock = u.ownBlock ∨ ∀ g, v'.ownBlock = some g → wx.heap.size ≤ g) : PgsAt B w' v' (l ++ [p]) := by
  have k1 : Only u.ownBlock.toList wx w' := (Only.refl _ wx).grown hg fun b hb => .inl (by simp [hb])
  have go : ∀ q : Pg, Held B wx q → u.ownBlock ≠ some q.b → Held B w' q ∧ v'.ownBlock ≠ some q.b := fun q hq hn => by
    refine ⟨hq.only k1 (by simpa using fun e => hn e), fun e => ?_⟩
    rcases hf with hf | hf
    · exact hn (hf ▸ e)
    · have := hf _ e; have := hq.lt; omega
  refine ⟨?_, fun q hq => ?_⟩
  · rw [cellsP_append, List.length_append]; exact ho
  · rcases List.mem_append.1 hq with hq | hq
    · exact go q (h.held q hq).1 (h.held q hq).2
    · simp at hq
      subst hq
      exact go q hp hu
def zeroPg (p : Pg) : Prop := p.n = 0 ∧ p.xs = List.replicate 500 0
def BlanksPost (n : Nat) (w : World) (e : Ending) (w' : World) : Prop := ∃ v l, e = .returned v ∧ l.length = n ∧ PgsAt w.heap.size w' v l ∧ (∀ p ∈ l, zeroPg p) ∧ Only [] w w'
theorem infoPaper : (Try.prog.info? 25).map (fun i => (i.zero, i.size, i.bytes)) = some (some (.agg #[.int .u64 0, .slice none 0 0]), 2, 32) := by kernel_rfl
set_option maxRecDepth 100000 in
set_option maxHeartbeats 4000000 in
theorem blanks_any (n : Nat) (hn : n ≤ 1000) (w : World) : Calls Try.prog 16 #[.int .i64 n] w (BlanksPost n w) := by
  obtain ⟨i0', hi0, hz0, hz1, hz2⟩ := info_parts infoPaper
  have HN := Lib.hid hn
  clear hn
  go_enter Try.func16, Try.ntmps16
  go_wp2_with fail
  go_loopw [3, 4] (fun u v wr => ∃ (i : Nat) (l : List Pg), i ≤ n ∧ v = .int .i64 i ∧ Hid (l.length = i ∧ PgsAt w.heap.size wr u l ∧ (∀ p ∈ l, zeroPg p) ∧ Only [] w wr)) (fun _ v _ => n - (intOf v).toNat)
  case atStart => exact ⟨0, [], by omega, rfl, Lib.hid ⟨rfl, ⟨World.ownsRow_nil _ _ _ _, by simp⟩, by simp, Only.refl _ _⟩⟩
  case round =>
    obtain ⟨i, l, hi, rfl, HF⟩ := hrel
    by_cases hlt : i < n
    · have d1 : decide ((i : Int) < (n : Int)) = true := decide_eq_true (by omega)
      have d2 : (i : Int) < (n : Int) := by omega
      have e1 : IntKind.i64.wrap ((i : Int) + 1) = (i : Int) + 1 := IntWalk.i64_in _ (by have := HN.out; omega)
      go_wp2_with fail
      refine (rblank_any wr).mono ?_
      rintro _ w1 ⟨g, rfl, hg, hr, k1⟩
      obtain ⟨hl, hP, hz, ho⟩ := HF.out
      have P1 : Hid (PgsAt w.heap.size (w1.alloc (.cells #[.int .u64 0, .slice (some ⟨g, 0, none⟩) 500 500] 25)) u3 l) := Lib.hid (hP.only (k1.alloc _) (by simp))
      have H1 : Hid (Held w.heap.size (w1.alloc (.cells #[.int .u64 0, .slice (some ⟨g, 0, none⟩) 500 500] 25)) ⟨0, g, List.replicate 500 0⟩) := Lib.hid (held_zs (hr.only ((Only.refl [] _).alloc _) (by simp)) (Nat.le_trans ho.size hg))
      have U1 : Hid (u3.ownBlock ≠ some g) := Lib.hid fun e => by have := (hP.own.lt g e).2; omega
      have O1 : Hid (Only [] w (w1.alloc (.cells #[.int .u64 0, .slice (some ⟨g, 0, none⟩) 500 500] 25))) := Lib.hid ((ho.and k1).alloc _)
      have R1 : Hid (Row (w1.alloc (.cells #[.int .u64 0, .slice (some ⟨g, 0, none⟩) 500 500] 25)) w1.heap.size #[.int .u64 0, .slice (some ⟨g, 0, none⟩) 500 500] 25) := Lib.hid (Row.made _ _ _)
      have HZ := Lib.hid hz
      have HL := Lib.hid hl
      have HI := Lib.hid hi
      have HLT := Lib.hid hlt
      clear hl hP hz ho hg hr k1 HF hi hlt
      go_wp2_with (at_builtin; refine wpList_append_at rfl (.tmp 10) (.tmp 12) 40 rfl w.heap.size 25 i0' (.agg #[.int .u64 0, .slice none 0 0]) 2 32 Try.underlying40 hi0 hz0 hz1 hz2 rfl (by decide) u3 l.length _ rfl P1.out.own ⟨w1.heap.size, 0, none⟩ 1 1 [.int .u64 0, .slice (some ⟨g, 0, none⟩) 500 500] rfl rfl (fun q' u hq => by rw [add_plain, Nat.zero_add, R1.out.cell]; simpa using hq) (by simp [Value.oneCell']) (by unfold maxLen; have := HL.out; have := HN.out; have := HLT.out; omega) (by have := HL.out; have := HN.out; have := HLT.out; omega) O1.out.size ?_)
      intro v7 w7 hown7 hg7 hf7
      have P7 : Hid (PgsAt w.heap.size w7 v7 (l ++ [⟨0, g, List.replicate 500 0⟩])) := Lib.hid (P1.out.push H1.out U1.out hown7 hg7 (by simpa [go_sem] using hf7))
      have O7 : Hid (Only [] w w7) := Lib.hid (O1.out.grown hg7 fun b hb => .inr (P1.out.own.lt b hb).1)
      clear hown7 hg7 hf7 P1 H1 U1 O1 R1
      go_wp2_with fail
      go_roundw
      case rel => exact ⟨i + 1, l ++ [⟨0, g, List.replicate 500 0⟩], HLT.out, by go_num, Lib.hid ⟨by rw [List.length_append, HL.out]; rfl, P7.out, fun p hp => by
        rcases List.mem_append.1 hp with hp | hp
        · exact HZ.out p hp
        · obtain rfl := List.mem_singleton.1 hp
          exact ⟨rfl, rfl⟩, O7.out⟩⟩
      case measure =>
        have := HLT.out
        simp [intOf, e1]
        omega
    · have d1 : decide ((i : Int) < (n : Int)) = false := decide_eq_false (by omega)
      have d2 : ¬ (i : Int) < (n : Int) := by omega
      obtain rfl : i = n := by omega
      go_wp2_with fail
      go_ret
      obtain ⟨hl, hP, hz, ho⟩ := HF.out
      exact ⟨u3, l, rfl, hl, hP, hz, ho⟩
theorem lies_yes {s b n : Int} (h : Lies s b n) (hs : s ≤ 65536) (w : World) : Calls Try.prog 19 #[.int .i64 s, .int .i64 b, .int .i64 n] w fun e w' => e = .returned (.bool true) ∧ w' = w := by
  obtain ⟨l0, l1, l2, l3⟩ := h
  have d1 : decide (0 ≤ b) = true := decide_eq_true l0
  have d2 : decide (0 ≤ n) = true := decide_eq_true l1
  have d3 : decide (b ≤ s) = true := decide_eq_true l2
  have e1 : IntKind.i64.wrap (s - b) = s - b := IntWalk.i64_in _ (by omega)
  have e2 : (s - b).tdiv 4 = (s - b) / 4 := Int.tdiv_eq_ediv_of_nonneg (by omega)
  have e3 : IntKind.i64.wrap ((s - b) / 4) = (s - b) / 4 := IntWalk.i64_in _ (by omega)
  have d4 : decide (n < (s - b) / 4) = true := decide_eq_true l3
  clear l0 l1 l2 l3 hs
  go_enter Try.func19, Try.ntmps19
  go_wp2_with fail
  go_ret
  exact ⟨rfl, rfl⟩
theorem lies_no {s b n : Int} (h : ¬ Lies s b n) (h0 : 0 ≤ s) (hs : s ≤ 65536) (w : World) : Calls Try.prog 19 #[.int .i64 s, .int .i64 b, .int .i64 n] w fun e w' => e = .returned (.bool false) ∧ w' = w := by
  by_cases q1 : 0 ≤ b
  · have d1 : decide (0 ≤ b) = true := decide_eq_true q1
    by_cases q2 : 0 ≤ n
    · have d2 : decide (0 ≤ n) = true := decide_eq_true q2
      by_cases q3 : b ≤ s
      · have d3 : decide (b ≤ s) = true := decide_eq_true q3
        have e1 : IntKind.i64.wrap (s - b) = s - b := IntWalk.i64_in _ (by omega)
        have e2 : (s - b).tdiv 4 = (s - b) / 4 := Int.tdiv_eq_ediv_of_nonneg (by omega)
        have e3 : IntKind.i64.wrap ((s - b) / 4) = (s - b) / 4 := IntWalk.i64_in _ (by omega)
        have d4 : decide (n < (s - b) / 4) = false := decide_eq_false fun h4 => h ⟨q1, q2, q3, h4⟩
        clear q1 q2 q3 h hs h0
        go_enter Try.func19, Try.ntmps19
        go_wp2_with fail
        go_ret
        exact ⟨rfl, rfl⟩
      · have d3 : decide (b ≤ s) = false := decide_eq_false q3
        clear q1 q2 h hs h0
        go_enter Try.func19, Try.ntmps19
        go_wp2_with fail
        go_ret
        exact ⟨rfl, rfl⟩
    · have d2 : decide (0 ≤ n) = false := decide_eq_false q2
      clear q1 h hs h0
      go_enter Try.func19, Try.ntmps19
      go_wp2_with fail
      go_ret
      exact ⟨rfl, rfl⟩
  · have d1 : decide (0 ≤ b) = false := decide_eq_false q1
    clear h hs h0
    go_enter Try.func19, Try.ntmps19
    go_wp2_with fail
    go_ret
    exact ⟨rfl, rfl⟩
end Go.Proofs.Ytomhflkjnldeoaa
