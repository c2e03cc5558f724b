/- Slices that are only read; rows of bytes of the call's own, at whatever place (printed by gen_sl.py). -/
import Derived.Test.YtekdogmhgijocaaMg15
import Derived.Test.YtekdogmhgijocaaMapB
import Derived.Laws.Slices
import Derived.Deep.Upon
namespace Go.Proofs.Ytekdogmhgijocaa.u64
open Go.RowKit Go.ChangeShapes Go.WideShapes Go.ChangeAt
set_option linter.unusedVariables false
set_option linter.unusedSimpArgs false

theorem infoQ : (Try.prog.info? 31).map (fun i => (i.zero, i.size, i.bytes)) = some (some (.int .u64 0), 1, 8) := by kernel_rfl
/-- A slice of integers that is only read. -/
structure Sl where
  a : Option Addr
  c : Nat
  xs : List Int
def Sl.v (s : Sl) : Value := .slice s.a s.xs.length s.c
def Sl.bs (s : Sl) : List Nat := (s.a.map (·.block)).toList
def Sl.no : Sl := ⟨none, 0, []⟩
structure SlAt (q : IntKind) (w : World) (s : Sl) : Prop where
  ints : Ints q w s.v s.xs
  lt : ∀ b ∈ s.bs, b < w.heap.size
  nn : s.a = none → s.xs = [] ∧ s.c = 0
  le : s.xs.length ≤ 1000000
  row : ∀ b ∈ s.bs, ∃ cs T, Row w b cs T
/-- The same, of a slice that came in: nothing is said of the objects it lies in. -/
structure SlRd (q : IntKind) (w : World) (s : Sl) : Prop where
  ints : Ints q w s.v s.xs
  lt : s.xs ≠ [] → ∀ b ∈ s.bs, b < w.heap.size
  nn : s.a = none → s.xs = [] ∧ s.c = 0
  le : s.xs.length ≤ 1000000
theorem SlAt.rd {q : IntKind} {w : World} {s : Sl} (h : SlAt q w s) : SlRd q w s := ⟨h.ints, fun _ => h.lt, h.nn, h.le⟩
instance SlAt.coe (q : IntKind) (w : World) (s : Sl) : Coe (SlAt q w s) (SlRd q w s) := ⟨SlAt.rd⟩
theorem SlRd.only {q : IntKind} {G : List Nat} {w w' : World} {s : Sl} (h : SlRd q w s) (k : Only G w w') (hG : s.xs ≠ [] → ∀ b ∈ s.bs, b ∉ G) : SlRd q w' s := by
  refine ⟨?_, fun he b hb => Nat.lt_of_lt_of_le (h.lt he b hb) k.size, h.nn, h.le⟩
  rcases h.ints with h1 | ⟨b, off, cap, e, hc⟩
  · exact .inl h1
  · refine .inr ⟨b, off, cap, e, fun i hi => ?_⟩
    have hb : b ∈ s.bs := by
      unfold Sl.v at e
      simp only [Value.slice.injEq] at e
      simp [Sl.bs, e.1]
    have he : s.xs ≠ [] := fun e => by rw [e] at hi; simp at hi
    rw [k.cell (h.lt he b hb) (hG he b hb)]
    exact hc i hi
theorem SlAt.no (q : IntKind) (w : World) : SlAt q w Sl.no := ⟨.inl ⟨rfl, _, _, rfl⟩, by simp [Sl.bs, Sl.no], fun _ => ⟨rfl, rfl⟩, by simp [Sl.no], by simp [Sl.bs, Sl.no]⟩
theorem SlAt.only {q : IntKind} {G : List Nat} {w w' : World} {s : Sl} (h : SlAt q w s) (k : Only G w w') (hG : ∀ b ∈ s.bs, b ∉ G) : SlAt q w' s := by
  refine ⟨?_, fun b hb => Nat.lt_of_lt_of_le (h.lt b hb) k.size, h.nn, h.le, fun b hb => by
    obtain ⟨cs, T, hr⟩ := h.row b hb
    exact ⟨cs, T, hr.only k (hG b hb)⟩⟩
  rcases h.ints with h1 | ⟨b, off, cap, e, hc⟩
  · exact .inl h1
  · refine .inr ⟨b, off, cap, e, fun i hi => ?_⟩
    have hb : b ∈ s.bs := by
      unfold Sl.v at e
      simp only [Value.slice.injEq] at e
      simp [Sl.bs, e.1]
    rw [k.cell (h.lt b hb) (hG b hb)]
    exact hc i hi
theorem SlRd.src {q : IntKind} {w : World} {s : Sl} (h : SlRd q w s) : SrcOf w s.v s.xs.length 1 (s.xs.map (Value.int q)) := by
  rcases h.ints with ⟨h1, a, c, e⟩ | ⟨b, off, cap, e, hc⟩
  · unfold Sl.v at e ⊢
    cases ha : s.a with
    | none =>
      obtain ⟨e1, e2⟩ := h.nn ha
      exact .inl ⟨by rw [e1, e2]; rfl, by rw [e1]; rfl, by rw [e1]; rfl⟩
    | some ad => exact .inr ⟨ad, s.c, rfl, by simp, fun j u hj => by rw [h1] at hj; simp at hj⟩
  · refine .inr ⟨⟨b, off, none⟩, cap, e, by simp, fun j u hj => ?_⟩
    rw [List.getElem?_map, Option.map_eq_some_iff] at hj
    obtain ⟨z, hz, rfl⟩ := hj
    have hj' := (List.getElem?_eq_some_iff.1 hz).1
    rw [add_plain, hc j hj', hz]
    rfl
theorem SlAt.src {q : IntKind} {w : World} {s : Sl} (h : SlAt q w s) : SrcOf w s.v s.xs.length 1 (s.xs.map (Value.int q)) := h.rd.src
/-- s[l:h]. -/
def Sl.cut (s : Sl) (l h : Nat) : Sl := ⟨if s.c = l then s.a else s.a.map (·.add l), s.c - l, (s.xs.drop l).take (h - l)⟩
theorem Sl.cut_bs (s : Sl) (l h : Nat) : (s.cut l h).bs = s.bs := by
  unfold Sl.cut Sl.bs
  simp only
  split
  · rfl
  · cases s.a with
    | none => rfl
    | some a => simp [Addr.add]; split <;> rfl
theorem Sl.cut_len (s : Sl) {l h : Nat} (hl : l ≤ h) (hh : h ≤ s.xs.length) : (s.cut l h).xs.length = h - l := by
  unfold Sl.cut
  simp
  omega
theorem sized1 {P : Program} {t e : TypeId} (ht : P.underlying t = some (.slice e)) (hz : (P.info? e).map (fun i => (i.zero, i.size, i.bytes)) = some (some (.int .u64 0), 1, 8)) (w : World) : P.underlying t = some (.slice (P.elem t)) ∧ (sizeOf (P.elem t)).run P w = .ok 1 w := by
  have he : P.elem t = e := by simp [Program.elem, ht]
  refine ⟨by rw [he]; exact ht, ?_⟩
  rw [he]
  obtain ⟨i, hi, h0, h1, h2⟩ := info_parts hz
  simp [sizeOf, typeInfo, hi, h1]
theorem run_cut {P : Program} {t e : TypeId} (ht : P.underlying t = some (.slice e)) (hz : (P.info? e).map (fun i => (i.zero, i.size, i.bytes)) = some (some (.int .u64 0), 1, 8)) (k1 k2 : IntKind) (s : Sl) {l h : Nat} (hl : l ≤ h) (hh : h ≤ s.xs.length) (hc : s.xs.length ≤ s.c) (w : World) :
    (Instr.slice t (.slice s.a s.xs.length s.c) (some (.int k1 (l : Int))) (some (.int k2 (h : Int))) none).run P w = .ok (s.cut l h).v w := by
  obtain ⟨h1, h2⟩ := sized1 ht hz w
  rw [run_slice_lh w t s.a s.xs.length s.c h1 k1 k2 l h (by omega) (by omega) (by omega), h2]
  simp only [Result.andThen, sliced, Int.toNat_natCast, Nat.mul_one]
  unfold Sl.v
  rw [Sl.cut_len s hl hh]
  rfl
theorem run_tail {P : Program} {t e : TypeId} (ht : P.underlying t = some (.slice e)) (hz : (P.info? e).map (fun i => (i.zero, i.size, i.bytes)) = some (some (.int .u64 0), 1, 8)) (k1 : IntKind) (s : Sl) {l : Nat} (hl : l ≤ s.xs.length) (w : World) :
    (Instr.slice t (.slice s.a s.xs.length s.c) (some (.int k1 (l : Int))) none none).run P w = .ok (s.cut l s.xs.length).v w := by
  obtain ⟨h1, h2⟩ := sized1 ht hz w
  rw [run_slice_l w t s.a s.xs.length s.c h1 k1 l (by omega) (by omega), h2]
  simp only [Result.andThen, sliced, Int.toNat_natCast, Nat.mul_one]
  unfold Sl.v
  rw [Sl.cut_len s hl (Nat.le_refl _)]
  rfl
theorem SlRd.cut {q : IntKind} {w : World} {s : Sl} (h : SlRd q w s) {l k : Nat} (hl : l ≤ k) (hk : k ≤ s.xs.length) (hc : s.xs.length ≤ s.c) : SlRd q w (s.cut l k) := by
  have hlen := Sl.cut_len s hl hk
  refine ⟨?_, fun hne b hb => ?_, fun ha => ?_, by have := h.le; omega⟩
  · rcases h.ints with ⟨h1, _⟩ | ⟨b, off, cap, e, hcell⟩
    · have : (s.cut l k).xs = [] := by unfold Sl.cut; simp [h1]
      refine .inl ⟨this, (s.cut l k).a, (s.cut l k).c, ?_⟩
      unfold Sl.v
      rw [this]; rfl
    · unfold Sl.v at e
      simp only [Value.slice.injEq] at e
      by_cases h0 : k - l = 0
      · have : (s.cut l k).xs = [] := List.length_eq_zero_iff.1 (by omega)
        refine .inl ⟨this, (s.cut l k).a, (s.cut l k).c, ?_⟩
        unfold Sl.v
        rw [this]; rfl
      · refine .inr ⟨b, off + l, s.c - l, ?_, fun i hi => ?_⟩
        · unfold Sl.v Sl.cut
          simp only [Value.slice.injEq, and_true]
          rw [if_neg (by omega), e.1]
          simp [add_plain]
        · rw [hlen] at hi
          rw [Nat.add_assoc, hcell (l + i) (by omega)]
          unfold Sl.cut
          simp only
          rw [List.getElem?_take_of_lt hi, List.getElem?_drop]
  · rw [Sl.cut_bs] at hb
    refine h.lt (fun e => hne ?_) b hb
    unfold Sl.cut
    simp [e]
  · have hn : s.a = none := by
      unfold Sl.cut at ha
      simp only at ha
      split at ha
      · exact ha
      · simpa using ha
    obtain ⟨e1, e2⟩ := h.nn hn
    unfold Sl.cut
    simp [e1, e2]
/-- The slice s lies in a row of its own, and goes up to the row's end. -/
structure Bk (w : World) (s : Sl) : Prop where
  le : s.xs.length ≤ 1000000
  cap : s.xs.length ≤ s.c ∧ s.c ≤ maxLen
  nn : s.a = none → s.xs = [] ∧ s.c = 0
  row : ∀ ad, s.a = some ad → ∃ b o cur, ad = ⟨b, o, none⟩ ∧ Row w b cur 31 ∧ (s.c ≠ 0 → o + s.c = cur.size) ∧ (cur.toList.drop o).take s.xs.length = s.xs.map (Value.int .u64)
theorem Bk.no (w : World) : Bk w Sl.no := ⟨by simp [Sl.no], by simp [Sl.no], fun _ => ⟨rfl, rfl⟩, by simp [Sl.no]⟩
theorem Bk.lt {w : World} {s : Sl} (h : Bk w s) : ∀ b ∈ s.bs, b < w.heap.size := by
  intro b hb
  unfold Sl.bs at hb
  cases ha : s.a with
  | none => rw [ha] at hb; simp at hb
  | some ad =>
    rw [ha] at hb
    obtain ⟨b', o, cur, rfl, hr, _⟩ := h.row ad ha
    simp at hb
    subst hb
    exact hr.lt
theorem Bk.tag {w : World} {s : Sl} (h : Bk w s) : ∀ b ∈ s.bs, ∃ cs, Row w b cs 31 := by
  intro b hb
  unfold Sl.bs at hb
  cases ha : s.a with
  | none => rw [ha] at hb; simp at hb
  | some ad =>
    rw [ha] at hb
    obtain ⟨b', o, cur, rfl, hr, _⟩ := h.row ad ha
    simp at hb
    subst hb
    exact ⟨_, hr⟩
theorem Bk.only {G : List Nat} {w w' : World} {s : Sl} (h : Bk w s) (k : Only G w w') (hG : ∀ b ∈ s.bs, b ∉ G) : Bk w' s := by
  refine ⟨h.le, h.cap, h.nn, fun ad ha => ?_⟩
  obtain ⟨b, o, cur, rfl, hr, h1, h2⟩ := h.row ad ha
  exact ⟨b, o, cur, rfl, hr.only k (hG b (by simp [Sl.bs, ha])), h1, h2⟩
theorem Bk.src {w : World} {s : Sl} (h : Bk w s) : SrcOf w s.v s.xs.length 1 (s.xs.map (Value.int .u64)) := by
  cases ha : s.a with
  | none =>
    obtain ⟨e1, e2⟩ := h.nn ha
    exact .inl ⟨by unfold Sl.v; rw [ha, e1, e2]; rfl, by rw [e1]; rfl, by rw [e1]; rfl⟩
  | some ad =>
    obtain ⟨b, o, cur, rfl, hr, h1, h2⟩ := h.row ad ha
    refine .inr ⟨⟨b, o, none⟩, s.c, by unfold Sl.v; rw [ha], by simp, fun j u hj => ?_⟩
    rw [← h2, List.getElem?_take] at hj
    split at hj
    · rw [add_plain, hr.cell]
      rw [List.getElem?_drop] at hj
      simpa using hj
    · simp at hj
theorem Bk.rd {w : World} {s : Sl} (h : Bk w s) : SlRd .u64 w s := by
  refine ⟨?_, fun _ => h.lt, h.nn, h.le⟩
  rcases h.src with ⟨e1, e2, e3⟩ | ⟨ad, c, e, hl, hc⟩
  · refine .inl ⟨by simpa using e3, none, 0, e1⟩
  · have ha : s.a = some ad := by
      unfold Sl.v at e
      simp only [Value.slice.injEq] at e
      exact e.1
    obtain ⟨b, o, cur, rfl, hr, h1, h2⟩ := h.row ad ha
    refine .inr ⟨b, o, c, e, fun i hi => ?_⟩
    have := hc i (.int .u64 s.xs[i]) (by simp [hi])
    rw [add_plain] at this
    rw [this, List.getElem?_eq_getElem hi]; rfl
theorem Bk.at_ {w : World} {s : Sl} (h : Bk w s) : SlAt .u64 w s := ⟨h.rd.ints, h.lt, h.nn, h.le, fun b hb => by
  obtain ⟨cs, hr⟩ := h.tag b hb
  exact ⟨cs, _, hr⟩⟩
theorem Bk.tail {w : World} {s : Sl} (h : Bk w s) {l : Nat} (hl : l ≤ s.xs.length) : Bk w (s.cut l s.xs.length) := by
  have hlen := Sl.cut_len s hl (Nat.le_refl _)
  have hcap := h.cap
  refine ⟨by have := h.le; omega, ⟨by unfold Sl.cut; simp; omega, by show s.c - l ≤ _; omega⟩, fun ha => ?_, fun ad ha => ?_⟩
  · have hn : s.a = none := by
      unfold Sl.cut at ha
      simp only at ha
      split at ha
      · exact ha
      · simpa using ha
    obtain ⟨e1, e2⟩ := h.nn hn
    unfold Sl.cut
    simp [e1, e2]
  · unfold Sl.cut at ha
    simp only at ha
    split at ha
    · rename_i hc
      obtain ⟨b, o, cur, rfl, hr, h1, h2⟩ := h.row ad ha
      refine ⟨b, o, cur, rfl, hr, fun hne => absurd (show s.c - l = 0 by omega) hne, ?_⟩
      have : (s.cut l s.xs.length).xs = [] := List.length_eq_zero_iff.1 (by omega)
      rw [this]; simp
    · cases hs : s.a with
      | none => rw [hs] at ha; simp at ha
      | some a0 =>
        obtain ⟨b, o, cur, rfl, hr, h1, h2⟩ := h.row a0 hs
        rw [hs] at ha
        simp only [Option.map_some, Option.some.injEq] at ha
        rw [add_plain] at ha
        subst ha
        refine ⟨b, o + l, cur, rfl, hr, fun hne => ?_, ?_⟩
        · show o + l + (s.c - l) = _
          have : s.c - l ≠ 0 := hne
          have := h1 (by omega)
          omega
        · rw [hlen]
          unfold Sl.cut
          simp only
          rw [← List.drop_drop, List.map_take, List.map_drop, ← h2, List.drop_take, List.take_take, Nat.min_self]
theorem run_append_room_off {P : Program} (w : World) (t ty e : TypeId) (i : TypeInfo) (ht : P.underlying t = some (.slice e)) (hi : P.info? e = some i) (hs : i.size = 1)
    (g o sLen sCap : Nat) (cur : Array Value) (hg : w.heap[g]? = some (.cells cur e (0, 0)))
    (a : Addr) (m c : Nat) (news : List Value) (hl : news.length = m) (hnews : ∀ j u, news[j]? = some u → w.cell? (a.add j) = some u) (h1 : ∀ u ∈ news, u.oneCell' = true)
    (hroom : sLen + m ≤ sCap) (hfit : o + sLen + news.length ≤ cur.size) :
    (Builtin.append_ #[t, t] ty #[.slice (some ⟨g, o, none⟩) sLen sCap, .slice (some a) m c]).run P w =
      .ok (.slice (some ⟨g, o, none⟩) (sLen + m) sCap) (w.setRow g (cur.toList.take (o + sLen) ++ news ++ cur.toList.drop (o + sLen + news.length)).toArray) := by
  have hf := run_firstCells_some (P := P) w i.size m a m c news (by rw [hs, hl, Nat.mul_one]) hnews
  rw [hs] at hf
  have hst := run_storeCells_at P g (o + sLen) e news 0 cur w hg (by simpa using hfit) h1
  simp only [Nat.add_zero] at hst
  have ha : ∀ n, (⟨g, o, none⟩ : Addr).add n = ⟨g, o + n, none⟩ := add_plain g o
  simp [Builtin.append_, run_underlying ht, sizeOf, typeInfo, hi, Builtin.lenOf, hroom, hf, ha, hs, hst]
/-- append behind it. -/
theorem Bk.append {w : World} {s : Sl} (h : Bk w s) {P : Program} (hP : P = Try.prog) (t ty : TypeId) (ht : P.underlying t = some (.slice 31)) {v : Value} {ys : List Int} (hv : SrcOf w v ys.length 1 (ys.map (Value.int .u64))) (hl : s.xs.length + ys.length ≤ 1000000) :
    ∃ s' w', (Builtin.append_ #[t, t] ty #[s.v, v]).run P w = .ok s'.v w' ∧ s'.xs = s.xs ++ ys ∧ Bk w' s' ∧ Only s.bs w w' ∧ ∀ b ∈ s'.bs, b ∈ s.bs ∨ w.heap.size ≤ b := by
  subst hP
  obtain ⟨i, hi, hz0, hz1, hz2⟩ := info_parts infoQ
  have hb := h.le
  have hsrc : Src Try.prog 1 t v ys.length (ys.map (Value.int .u64)) w := by
    rcases hv with ⟨rfl, e2, e3⟩ | ⟨ad, c, rfl, e2, e3⟩
    · rw [e3, e2]; exact Src.ofNil w ht 0
    · exact Src.ofSlice w ht ad _ c _ e2 e3 (by simp [Value.oneCell'])
  have hself : Src Try.prog 1 t s.v s.xs.length (s.xs.map (Value.int .u64)) w := by
    rcases h.src with ⟨e1, e2, e3⟩ | ⟨ad, c, e1, e2, e3⟩
    · rw [e3, e2, e1]; exact Src.ofNil w ht 0
    · rw [e1]; exact Src.ofSlice w ht ad _ c _ e2 e3 (by simp [Value.oneCell'])
  by_cases h0 : ys = []
  · subst h0
    refine ⟨s, w, ?_, by simp, h, Only.refl _ _, fun b hb => .inl hb⟩
    exact run_append_nothing w t t ty _ i ht hi s.a s.xs.length s.c h.cap.1 v (by rw [hz1]; exact hsrc)
  · have hpos : 0 < ys.length := List.length_pos_iff.2 h0
    by_cases hfit : s.xs.length + ys.length ≤ s.c
    · cases ha : s.a with
      | none => have := (h.nn ha).2; omega
      | some ad =>
        obtain ⟨b, o, cur, rfl, hr, h1, h2⟩ := h.row ad ha
        have hsz := h1 (by omega)
        rcases hv with ⟨_, e2, _⟩ | ⟨ad2, c2, rfl, e2, e3⟩
        · omega
        · have hrun := run_append_room_off (P := Try.prog) w t ty _ i ht hi hz1 b o s.xs.length s.c cur hr ad2 ys.length c2 (ys.map (Value.int .u64)) (by simp) e3 (by simp [Value.oneCell']) hfit (by simp; omega)
          have es : s.v = .slice (some ⟨b, o, none⟩) s.xs.length s.c := by unfold Sl.v; rw [ha]
          refine ⟨⟨some ⟨b, o, none⟩, s.c, s.xs ++ ys⟩, w.setRow b (cur.toList.take (o + s.xs.length) ++ (ys.map (Value.int .u64)) ++ cur.toList.drop (o + s.xs.length + (ys.map (Value.int .u64)).length)).toArray, ?_, rfl, ⟨by simp; omega, ⟨by simp; omega, h.cap.2⟩, fun h => by simp at h, fun ad hh => ?_⟩, ⟨rfl, rfl, rfl, by simp, fun k _ hk => setRow_other w b k _ (fun e => hk (by simp [Sl.bs, ha, e]))⟩, fun b' hb' => by simp [Sl.bs] at hb'; simp [Sl.bs, ha, hb']⟩
          · rw [es, hrun]; unfold Sl.v; simp
          · simp only [Option.some.injEq] at hh
            subst hh
            refine ⟨b, o, _, rfl, setRow_heap w b cur _ _ _ hr, fun _ => ?_, ?_⟩
            · simp; omega
            · have e4 : cur.toList.take (o + s.xs.length) = cur.toList.take o ++ s.xs.map (Value.int .u64) := by rw [List.take_add, h2]
              rw [e4]
              have e5 : (cur.toList.take o).length = o := by simp; omega
              simp only [List.append_assoc]
              rw [List.drop_append, e5, List.drop_of_length_le (by omega), Nat.sub_self, List.drop_zero, List.nil_append, ← List.append_assoc, ← List.map_append]
              exact List.take_left' (by simp)
    · have hge := grownCap_ge w (s.xs.length + ys.length) s.c 31
      have hcm := grownCap_le_maxLen w (s.xs.length + ys.length) s.c 31 (by unfold maxLen; omega)
      have hrun := run_append_grow_src (P := Try.prog) w t t ty _ i (.int .u64 0) ht hi hz0 s.a s.xs.length s.c (s.xs.map (Value.int .u64)) (by rw [hz1]; exact hself.cellsD) v ys.length (ys.map (Value.int .u64)) (by rw [hz1]; exact hsrc) (by omega) (by omega) (growslice_fits (by omega) (by rw [hz2]; omega))
      refine ⟨⟨some ⟨w.heap.size, 0, none⟩, grownCap w (s.xs.length + ys.length) s.c 31, s.xs ++ ys⟩, w.drew.alloc (.cells ((s.xs.map (Value.int .u64) ++ ys.map (Value.int .u64)).toArray ++ Builtin.zeroCells (Value.int .u64 0).cells (grownCap w (s.xs.length + ys.length) s.c 31 - (s.xs.length + ys.length))) 31), ?_, rfl, ⟨by simp; omega, ⟨by simp; omega, hcm⟩, fun h => by simp at h, fun ad hh => ?_⟩, ((Only.refl s.bs w).drew).alloc _, fun b' hb' => by simp [Sl.bs] at hb'; exact .inr (by omega)⟩
      · show (Builtin.append_ #[t, t] ty #[.slice s.a s.xs.length s.c, v]).run _ w = _
        rw [hrun]; unfold Sl.v; simp
      · simp only [Option.some.injEq] at hh
        subst hh
        refine ⟨w.heap.size, 0, _, rfl, Row.made w.drew _ _, fun _ => ?_, ?_⟩
        · simp [size_zeroCells, Value.cells]
          omega
        · rw [List.drop_zero, Array.toList_append, List.toList_toArray, ← List.map_append]
          exact List.take_left' (by simp)
theorem wpList_append_bk {ops : Array Oper} {rest : List Oper} {o : Oper} {a : Act} {Q : Exit → Act → World → Prop} (w : World) (hgd : o.guard = none) (s x : Operand) (t : TypeId)
    (ho : o.op = .call { callee := .builtin .append, args := #[s, x], argTypes := #[t, t] }) (ht : Try.prog.underlying t = some (.slice 31)) (sl : Sl) (hs : a.eval s = sl.v) (h : Bk w sl)
    (v : Value) (ys : List Int) (hx : a.eval x = v) (hv : SrcOf w v ys.length 1 (ys.map (Value.int .u64))) (hl : sl.xs.length + ys.length ≤ 1000000)
    (hK : ∀ (s' : Sl) w', s'.xs = sl.xs ++ ys → Bk w' s' → Only sl.bs w w' → (∀ b ∈ s'.bs, b ∈ sl.bs ∨ w.heap.size ≤ b) → wpList Try.prog ops Q rest (a.put o.dst s'.v) w') : wpList Try.prog ops Q (o :: rest) a w := by
  refine wpList_plain hgd fun K hK' => ?_
  obtain ⟨s', w', hrun, h1, h2, h3, h4⟩ := h.append rfl t o.type ht hv hl
  unfold Oper.wp
  simp [execOp, ho, resolve, invoke, builtin, hs, hx, hrun, Result.andThen]
  exact hK' _ _ (hK s' w' h1 h2 h3 h4)
end Go.Proofs.Ytekdogmhgijocaa.u64
