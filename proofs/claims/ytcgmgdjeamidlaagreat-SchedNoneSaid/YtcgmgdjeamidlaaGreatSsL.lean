/- Frames: numbers as bytes, Put32, the frame of bytes. -/
import Derived.Test.YtcgmgdjeamidlaaGreatSsK
import Derived.Laws.CopyOwn
namespace Go.Proofs.YtcgmgdjeamidlaaGreat
open Go.RowKit Go.ChangeShapes Go.WideShapes Go.ChangeAt
set_option linter.unusedVariables false
set_option linter.unusedSimpArgs false

/-! ### numbers as bytes -/
theorem madeCells_one (z : Value) (n : Nat) : madeCells #[z] n = Array.replicate n z := by
  refine Array.ext (by simp [size_madeCells]) fun i h1 h2 => ?_
  simp [madeCells, Nat.mod_one]
theorem infoBy : (Tryz.prog.info? 5).map (fun i => (i.zero, i.size, i.bytes)) = some (some (.int .u8 0), 1, 1) := by kernel_rfl
def leAt (n : Int) (i : Nat) : Int := n / 2 ^ (8 * i) % 256
def leB (n : Int) (k : Nat) : List Int := (List.range k).map (leAt n)
theorem leB_succ (n : Int) (k : Nat) : leB n (k + 1) = leB n k ++ [leAt n k] := by simp [leB, List.range_succ]
theorem leB_len (n : Int) (k : Nat) : (leB n k).length = k := by simp [leB]
theorem leB_by (n : Int) (k : Nat) : IsBy (leB n k) := fun x hx => by
  obtain ⟨i, _, rfl⟩ := List.mem_map.1 hx
  unfold leAt; omega
theorem copy_none (x : World) (a : Option Addr) (c : Nat) : (Builtin.copy_ #[30, 30] 3 #[.slice a 0 c, .slice none 0 0]).run Tryz.prog x = .ok (.int .i64 0) x := by
  obtain ⟨i0', hi0, hz0, hz1, hz2⟩ := info_parts infoBy
  exact run_copy_none x 30 30 3 5 a none 0 c 0 0 Tryz.underlying30 (by rw [hi0]; simp [hz1]) rfl
/-- make([]byte, 0, k). -/
theorem wpList_make0 {P : Program} {w : World} {ops : Array Oper} {rest : List Oper} {o : Oper} {a : Act} {Q : Exit → Act → World → Prop} (hg : o.guard = none) (l c : Operand) (t : TypeId) (hop : o.op = Op.makeSlice t l c) (e : TypeId) (i : TypeInfo) (z : Value) (h1 : P.underlying t = some (.slice e)) (h2 : P.info? e = some i) (h3 : i.zero = some z) (h4 : i.size = 1) (hz : z.cells = #[z])
    (kl kc : IntKind) (n : Nat) (hl : a.eval l = .int kl 0) (hc : a.eval c = .int kc (n : Int)) (b2 : i.bytes * n ≤ 281474976710656) (b3 : n ≤ maxLen)
    (hK : ∀ w', w'.ownsRow w.heap.size e 1 (.slice (some ⟨w.heap.size, 0, none⟩) 0 n) 0 [] → Only [] w w' → w'.heap.size = w.heap.size + 1 → wpList P ops Q rest (a.put o.dst (.slice (some ⟨w.heap.size, 0, none⟩) 0 n)) w') : wpList P ops Q (o :: rest) a w := by
  refine wpList_plain hg fun K hK' => ?_
  have hb' : (i.bytes : Int) * (n : Int) ≤ 281474976710656 := by
    have h : ((i.bytes * n : Nat) : Int) ≤ 281474976710656 := by omega
    rwa [Int.natCast_mul] at h
  have hr := run_make (P := P) w t e i z h1 h2 h3 kl kc 0 n (Int.le_refl _) (by omega) hb' (by unfold maxLen at b3; omega)
  simp only [Int.toNat_natCast, h4, Nat.mul_one, hz, madeCells_one, Int.toNat_zero] at hr
  unfold Oper.wp
  simp [execOp, hop, hl, hc, hr, Result.andThen]
  refine hK' _ _ (hK _ ⟨rfl, .inr ⟨w.heap.size, n, Array.replicate n z, rfl, Nat.le_refl _, Row.made _ _ _, Nat.zero_le _, b3, by simp, by simp⟩⟩ ((Only.refl _ _).alloc _) (by simp))
def PutPost (n : Int) (k : Nat) (w : World) (e : Ending) (w' : World) : Prop := ∃ v, e = .returned v ∧ w'.ownsRow w.heap.size 5 1 v k ((leB n k).map (Value.int .u8)) ∧ Below w.heap.size w w'
structure PInv (n : Int) (w wr : World) (v : Value) (i : Nat) : Prop where
  own : wr.ownsRow w.heap.size 5 1 v i ((leB n i).map (Value.int .u8))
  bl : Below w.heap.size w wr
theorem PInv.push {n : Int} {w wr w5 : World} {v v5 : Value} {i : Nat} (h : PInv n w wr v i) (ho : w5.ownsRow w.heap.size 5 1 v5 (i + 1) ((leB n i).map (Value.int .u8) ++ [.int .u8 (leAt n i)])) (k : Only v.ownBlock.toList wr w5) : PInv n w w5 v5 (i + 1) :=
  ⟨by rw [leB_succ, List.map_append]; exact ho, h.bl.trans (k.toBelow h.bl.size fun b hb => (h.own.lt b (by simpa using hb)).1)⟩
set_option maxRecDepth 100000 in
set_option maxHeartbeats 2000000 in
theorem put32_any (n : Int) (h0 : 0 ≤ n) (h1 : n < 4294967296) (w : World) : Calls Tryz.prog 174 #[.slice none 0 0, .int .u32 n, .int .i64 4] w (PutPost n 4 w) := by
  obtain ⟨i0', hi0, hz0, hz1, hz2⟩ := info_parts infoBy
  have H1 := Lib.hid h1
  have cp := copy_none
  have wn : IntKind.u64.wrap n = n := by rw [show IntKind.u64.wrap n = n % 18446744073709551616 from rfl]; omega
  clear h1
  go_enter Tryz.func174, Tryz.ntmps174
  go_wp2_with (refine wpList_make0 rfl _ _ _ rfl _ i0' _ Tryz.underlying30 hi0 hz0 hz1 rfl .i64 .i64 4 rfl rfl (by omega) (by unfold maxLen; omega) ?_; intro w1 hr1 ho1 hs1)
  have I0 : Hid (PInv n w w1 (.slice (some ⟨w.heap.size, 0, none⟩) 0 4) 0) := Lib.hid ⟨hr1, ho1.toBelow (Nat.le_refl _) (by simp)⟩
  clear hr1 ho1 hs1
  go_wp2_with fail
  go_loopw [7, 8, 20] (fun v _ u wr => ∃ i : Nat, i ≤ 4 ∧ u = .int .i64 i ∧ Hid (PInv n w wr v i)) (fun _ _ u _ => 4 - (intOf u).toNat)
  case atStart => exact ⟨0, by omega, rfl, I0⟩
  case round =>
    clear I0
    obtain ⟨i, hi, rfl, HI⟩ := hrel
    have i0 : (0 : Int) ≤ (i : Int) := Int.natCast_nonneg _
    by_cases hlt : i < 4
    · have d1 : decide ((i : Int) < 4) = true := decide_eq_true (by omega)
      have i2 : (i : Int) < 4 := by omega
      go_wp2_with (at_builtin; refine wpList_append_at rfl (.tmp 23) (.tmp 30) 30 rfl w.heap.size 5 i0' (.int .u8 0) 1 1 Tryz.underlying30 hi0 hz0 hz1 hz2 rfl (by decide) u7 i ((leB n i).map (Value.int .u8)) rfl (HI.out.own.alloc _) ⟨wr.heap.size, 0, none⟩ 1 1 [.int .u8 (leAt n i)] rfl rfl (fun q u hq => by rcases q with _ | q <;> simp at hq <;> subst hq <;> simp [go_sem, leAt]) (by simp [Value.oneCell']) (by unfold maxLen; omega) (by omega) (by have := HI.out.bl.size; simp; omega) ?_)
      intro v5 w5 hown5 hg5 hf5
      have F2 : Hid (PInv n w w5 v5 (i + 1)) := Lib.hid (HI.out.push hown5 (((Only.refl _ wr).alloc _).grown hg5 (fun k hk => .inl (by simp [hk]))))
      clear hown5 hg5 hf5
      go_wp2_with fail
      go_roundw
      case rel => exact ⟨i + 1, by omega, by go_num, F2⟩
      case measure => simp [intOf]; omega
    · have d1 : decide ((i : Int) < 4) = false := decide_eq_false (by omega)
      have E : Hid (i = 4) := Lib.hid (by omega)
      go_wp2_with fail
      go_ret
      have hh := HI.out
      rw [E.out] at hh
      exact ⟨_, rfl, hh.own, hh.bl⟩
theorem Put32_any (n : Int) (h0 : 0 ≤ n) (h1 : n < 4294967296) (w : World) : Calls Tryz.prog 110 #[.slice none 0 0, .int .u32 n] w (PutPost n 4 w) := by
  have K := Lib.hid (put32_any n h0 h1 w)
  clear h0 h1
  go_enter Tryz.func110, Tryz.ntmps110
  go_wp2_with fail
  refine K.out.mono ?_
  rintro _ w2 ⟨v, rfl, hv, hb⟩
  have OV := Lib.hid hv
  have B2 := Lib.hid hb
  clear hv hb
  go_wp2_with fail
  go_ret
  exact ⟨v, rfl, OV.out, B2.out⟩

set_option maxRecDepth 100000 in
set_option maxHeartbeats 4000000 in
theorem frame_on {s : Sl} {w : World} (h : SlRd .u8 w s) (hl : s.xs.length ≤ 20000) : Calls Tryz.prog 60 #[s.v] w (AskTo (leB (s.xs.length : Int) 4 ++ s.xs) w) := by
  obtain ⟨i0', hi0, hz0, hz1, hz2⟩ := info_parts infoBy
  obtain ⟨n, hn⟩ : ∃ n, s.xs.length = n := ⟨_, rfl⟩
  have HN := Lib.hid hn
  have HL : Hid (n ≤ 20000) := Lib.hid (by omega)
  have d1 : decide ((20000 : Int) < (n : Int)) = false := decide_eq_false (by omega)
  have d1' : decide (20000 < n) = false := decide_eq_false (by omega)
  have wn : IntKind.u32.wrap (n : Int) = (n : Int) := by rw [show IntKind.u32.wrap (n : Int) = (n : Int) % 4294967296 from rfl]; omega
  have PK := Lib.hid (Put32_any (n : Int) (by omega) (by omega) w)
  have SR := Lib.hid fun (y : World) (hy : Below w.heap.size w y) => (h.only ((Only.refl [] w).below hy) (by simp)).src
  unfold PutPost at PK
  unfold Sl.v at SR ⊢
  rw [hn] at SR ⊢
  clear h hl hn
  go_enter Tryz.func60, Tryz.ntmps60
  go_wp2_with fail
  refine PK.out.mono ?_
  rintro _ w2 ⟨v, rfl, ho, hb2⟩
  have O2 := Lib.hid ho
  have B2 := Lib.hid hb2
  clear ho hb2 PK
  go_wp2_with (at_builtin; refine wpList_append_src rfl (.tmp 10) (.tmp 11) 30 rfl w.heap.size 5 i0' (.int .u8 0) 1 1 Tryz.underlying30 hi0 hz0 hz1 hz2 rfl (by decide) _ 4 ((leB (n : Int) 4).map (Value.int .u8)) rfl O2.out _ n (s.xs.map (Value.int .u8)) rfl ?s1 ?s2 ?s3 ?s4 ?s5 ?s6)
  case s1 => exact SR.out _ B2.out
  case s2 => simp [Value.oneCell']
  case s3 => have := HL.out; unfold maxLen; omega
  case s4 => have := HL.out; omega
  case s5 => exact B2.out.size
  case s6 =>
    intro v1 w3 hown1 hg1
    have N3 : Hid (w3.ownsRow w.heap.size 5 1 v1 (leB (n : Int) 4 ++ s.xs).length ((leB (n : Int) 4 ++ s.xs).map (Value.int .u8)) ∧ Below w.heap.size w w3) := Lib.hid ⟨by
      rw [List.length_append, leB_len, HN.out, List.map_append]; exact hown1, B2.out.grown hg1 B2.out.size (fun k hk => (O2.out.lt k hk).1)⟩
    clear hown1 hg1
    go_wp2_with fail
    go_ret2
    exact ⟨v1, rfl, N3.out.1, N3.out.2⟩
end Go.Proofs.YtcgmgdjeamidlaaGreat
