/- wal: a piece's bytes. -/
import Derived.Test.YtekdogmhgijocaaWbA
import Derived.Test.YtekdogmhgijocaaWaX
import Derived.Deep.RegionHeld3
import Derived.Laws.Bits64b
import Derived.Test.YtekdogmhgijocaaWaT
set_option linter.unusedSimpArgs false
namespace Go.Proofs.Ytekdogmhgijocaa
open Go.RowKit Go.ChangeShapes Go.WideShapes Go.ChangeAt
set_option linter.unusedVariables false
set_option maxRecDepth 100000
set_option maxHeartbeats 8000000

/-- A piece's 64 bytes. -/
def fpiece (n ep : Int) (bs : List Int) : List Int := leB (n * 256 + (bs.length : Int)) 8 ++ leB ep 4 ++ bs ++ List.replicate (52 - bs.length) 0
theorem fpiece_len {n ep : Int} {bs : List Int} (h : bs.length ≤ 52) : (fpiece n ep bs).length = 64 := by
  unfold fpiece
  simp only [List.length_append, leB_len, List.length_replicate]
  omega
theorem fpiece_by {n ep : Int} {bs : List Int} (h : IsBy bs) : IsBy (fpiece n ep bs) := by_append (by_append (by_append (leB_by _ _) (leB_by _ _)) h) (fun x hx => by have := (List.mem_replicate.1 hx).2; omega)
theorem or_low (n : Int) (l : Nat) (h0 : 0 ≤ n) (h1 : n < 72057594037927936) (hl : l < 256) : bits .or .u64 (n * 256) (l : Int) = n * 256 + (l : Int) := by
  obtain ⟨m, rfl⟩ := Int.eq_ofNat_of_zero_le h0
  have e : ((m : Int) * 256) = ((m * 256 : Nat) : Int) := by omega
  rw [e, bits_or_u64_nat (m * 256) l (by omega) (by omega)]
  have : m * 256 ||| l = m * 256 + l := by
    have := Nat.shiftLeft_add_eq_or_of_lt (show l < 2 ^ 8 by omega) m
    rw [Nat.shiftLeft_eq] at this
    exact this.symm
  rw [this]
  omega
def PBytes (n ep : Int) (bs : List Int) (w : World) (e : Ending) (w' : World) : Prop := ∃ g c, e = .returned (.slice (some ⟨g, 0, none⟩) 64 c) ∧ Ints .u8 w' (.slice (some ⟨g, 0, none⟩) 64 c) (fpiece n ep bs) ∧ Below w.heap.size w w' ∧ w.heap.size ≤ g
theorem pbytes_on {n ep : Int} {bs : List Int} {a : Option Addr} {l c : Nat} {w : World} (h0 : 0 ≤ n) (h1 : n < 72057594037927936) (e0 : 0 ≤ ep) (e1 : ep < 4294967296) (hl : bs.length = l) (hp : 0 < l) (h52 : l ≤ 52) (hi : Ints .u8 w (.slice a l c) bs) :
    Calls Try.prog 37 #[.agg #[.int .u64 n, .int .u32 ep, .slice a l c]] w (PBytes n ep bs w) := by
  have B0 := Lib.hid (show (0 ≤ n * 256 + (l : Int) ∧ n * 256 + (l : Int) < 18446744073709551616) ∧ (0 ≤ ep ∧ ep < 4294967296) ∧ bs.length = l ∧ 0 < l ∧ l ≤ 52 by omega)
  have es : IntKind.u64.wrap (n * 256) = n * 256 := u64w _ (by omega) (by omega)
  have eo := or_low n l h0 h1 (by omega)
  have el : IntKind.u64.wrap (l : Int) = (l : Int) := u64w _ (by omega) (by omega)
  have R1 := Lib.hid (Row.made w #[.int .u64 n, .int .u32 ep, .slice a l c] 75)
  have B1 : Hid (Below w.heap.size w (w.alloc (.cells #[.int .u64 n, .int .u32 ep, .slice a l c] 75))) := Lib.hid ((Below.refl _ _).alloc (Nat.le_refl _) _)
  have HI := Lib.hid hi
  clear h0 h1 e0 e1 hl hp h52 hi
  go_enter Try.func37, Try.ntmps37
  go_upto_region 1 with fail
  generalize w.alloc (.cells #[.int .u64 n, .int .u32 ep, .slice a l c] 75) = w1 at *
  have SO : Hid (∀ y, Below w1.heap.size w1 y → y.cell? ⟨w.heap.size, 0, none⟩ = some (.int .u64 n) ∧ y.cell? ⟨w.heap.size, 1, none⟩ = some (.int .u32 ep) ∧ y.cell? ⟨w.heap.size, 2, none⟩ = some (.slice a l c)) := Lib.hid fun y k => ⟨(k.cell (p := ⟨w.heap.size, _, none⟩) R1.out.lt).trans (R1.out.cell 0), (k.cell (p := ⟨w.heap.size, _, none⟩) R1.out.lt).trans (R1.out.cell 1), (k.cell (p := ⟨w.heap.size, _, none⟩) R1.out.lt).trans (R1.out.cell 2)⟩
  go_region_held3 (fun x => x.cell? ⟨w.heap.size, 0, none⟩ = some (.int .u64 n) ∧ x.cell? ⟨w.heap.size, 1, none⟩ = some (.int .u32 ep) ∧ x.cell? ⟨w.heap.size, 2, none⟩ = some (.slice a l c))
    (first
      | exact S5.out
      | exact SO.out _ X2.out
      | exact SO.out _ X1.out
      | exact SO.out _ (Below.refl _ w1).drew)
    (first
      | (go_at_call 58; refine (Put32_x ep B0.out.2.1.1 B0.out.2.1.2 (some ⟨g1, 0, none⟩) 8 8 ([] ++ leB (n * 256 + (l : Int)) 8) w1x1 (by simp [leB_len]) J1.out (by omega)).mono ?_; rintro _ w1x2 ⟨g2, rfl, o, b⟩; have X2 : Hid (Below w1.heap.size w1 w1x2) := Lib.hid (X1.out.trans (b.mono X1.out.size)); have N2 : ([] ++ leB (n * 256 + (l : Int)) 8 ++ leB ep 4).length = 12 := (by simp [leB_len]); have O2 := Lib.hid (own_lower (gx_shape o N2) (Nat.le_trans B1.out.size X1.out.size)); rw [N2]; obtain ⟨tv, w5, hrun, ho5, _, hg5, hnew⟩ := append_ints O2.out a l c bs (HI.out.below' (B1.out.trans (X2.out.mono B1.out.size))) B0.out.2.2.1 B0.out.2.2.2.1 (by have := B0.out.2.2; omega) (by have := B1.out.size; have := X2.out.size; omega); obtain ⟨g5, c5, hv5⟩ := own_pos ho5 (by omega); subst hv5; have O5 := Lib.hid ho5; have K5 : Hid (Only [g2] w1x2 w5) := Lib.hid ((Only.refl _ w1x2).grown hg5 fun k hk => .inl (by simpa [Value.ownBlock] using hk.symm)); have GL : Hid (w.heap.size < g2) := Lib.hid (by have h1 := (o.lt g2 rfl).1; have h2 := X1.out.size; have h3 := R1.out.lt; omega); have S5 : Hid (w5.cell? ⟨w.heap.size, 0, none⟩ = some (.int .u64 n) ∧ w5.cell? ⟨w.heap.size, 1, none⟩ = some (.int .u32 ep) ∧ w5.cell? ⟨w.heap.size, 2, none⟩ = some (.slice a l c)) := Lib.hid ⟨(K5.out.cell (Nat.lt_of_lt_of_le R1.out.lt X2.out.size) (by have := GL.out; simp; omega)).trans (SO.out _ X2.out).1, (K5.out.cell (Nat.lt_of_lt_of_le R1.out.lt X2.out.size) (by have := GL.out; simp; omega)).trans (SO.out _ X2.out).2.1, (K5.out.cell (Nat.lt_of_lt_of_le R1.out.lt X2.out.size) (by have := GL.out; simp; omega)).trans (SO.out _ X2.out).2.2⟩; clear o b N2 ho5 hg5 hnew)
      | (go_at_call 59; refine (Put64_x (n * 256 + (l : Int)) B0.out.1.1 B0.out.1.2 none 0 0 [] w1.drew rfl (.inl ⟨rfl, none, 0, rfl⟩) (by omega)).mono ?_; rintro _ w1x1 ⟨g1, rfl, o, b⟩; have X1 : Hid (Below w1.heap.size w1 w1x1) := Lib.hid ((Below.refl _ w1).drew.trans b); have N1 : ([] ++ leB (n * 256 + (l : Int)) 8).length = 8 := (by simp [leB_len]); have O1 := Lib.hid (gx_shape o N1); have J1 : Hid (Ints .u8 w1x1 (.slice (some ⟨g1, 0, none⟩) 8 8) ([] ++ leB (n * 256 + (l : Int)) 8)) := Lib.hid (ints_own' O1.out N1); rw [N1]; clear o b N1)
      | (refine step_append_eq rfl (.tmp 15) (.tmp 17) 32 rfl (.slice (some ⟨g2, 0, none⟩) 12 12) (.slice a l c) (.slice (some ⟨g5, 0, none⟩) (12 + l) c5) w5 (by simp [Act.eval, Act.put]) (by simp [Act.eval, Act.put]) hrun ?_; clear hrun)
      | fail)
  have W5 : Hid (Below w.heap.size w w5) := Lib.hid ((B1.out.trans (X2.out.mono B1.out.size)).trans (K5.out.toBelow (by have := B1.out.size; have := X2.out.size; omega) (by have := GL.out; simp; omega)))
  obtain ⟨k, hk⟩ : ∃ k : Nat, 52 - l = k := ⟨_, rfl⟩
  obtain ⟨v7, w7, run7, o7, g7, n7⟩ := zeros_any O5.out (by omega) k (by have := B0.out; omega) W5.out.size
  obtain ⟨g8, c8, hv8⟩ := own_pos o7 (by omega)
  subst hv8
  have ek : ((12 : Int) + (l : Int)) + (k : Int) = 64 := by have := B0.out; omega
  have em : (64 : Int) - ((12 : Int) + (l : Int)) = (k : Int) := by omega
  have ew : IntKind.i64.wrap ((64 : Int) - ((12 : Int) + (l : Int))) = (k : Int) := by rw [em]; exact IntWalk.i64_in _ (by have := B0.out; omega)
  have em' : (64 : Int) - ((12 + l : Nat) : Int) = (k : Int) := by omega
  have ew' : IntKind.i64.wrap ((64 : Int) - ((12 + l : Nat) : Int)) = (k : Int) := by rw [em']; exact IntWalk.i64_in _ (by have := B0.out; omega)
  have N : Hid (PBytes n ep bs w (.returned (.slice (some ⟨g8, 0, none⟩) (12 + l + k) c8)) w7) := Lib.hid (by
    have e64 : 12 + l + k = 64 := by omega
    have hi := ints_own' (n := 12 + l + k) o7 (by simp [leB_len, B0.out.2.2.1, hk]; omega)
    rw [e64] at hi ⊢
    refine ⟨g8, c8, rfl, ?_, W5.out.grown g7 W5.out.size (fun g hg => (O5.out.lt g hg).1), ?_⟩
    · unfold fpiece
      rw [B0.out.2.2.1, hk]
      simpa using hi
    · rcases n7 with h | h
      · obtain rfl : g8 = g5 := by simpa [Value.ownBlock] using h
        exact (O5.out.lt g8 rfl).1
      · have := h g8 rfl; have := W5.out.size; omega)
  have R7 := Lib.hid run7
  clear run7 o7 g7 n7 hk ek X1 X2 J1 SO
  go_upto_region 2 with fail
  go_wp2_with (at_builtin; refine Lib.wpList_append_run _ rfl (.tmp 19) (.tmp 22) 32 3 rfl (.slice (some ⟨g5, 0, none⟩) (12 + l) c5) (.int .i64 (k : Int)) rfl rfl (.slice (some ⟨g8, 0, none⟩) (12 + l + k) c8) w7 R7.out ?_)
  go_ret
  exact N.out
end Go.Proofs.Ytekdogmhgijocaa

/- wal: pieces in sectors, and what a flush writes (plain Lean). -/
namespace Go.Proofs.Ytekdogmhgijocaa
open Go.RowKit Go.ChangeShapes Go.WideShapes Go.ChangeAt
open Go.Proofs.Ytekdogmhgijocaa.dk (Dk Dev sectorD stepW putD opD writeD)
set_option linter.unusedVariables false
set_option linter.unusedSimpArgs false

theorem fpiece_head {n ep : Int} {bs : List Int} : (fpiece n ep bs).take 8 = leB (n * 256 + (bs.length : Int)) 8 := by
  unfold fpiece
  rw [List.append_assoc, List.append_assoc, List.take_left' (leB_len _ _)]
theorem fpiece_drop8 {n ep : Int} {bs : List Int} : (fpiece n ep bs).drop 8 = leB ep 4 ++ (bs ++ List.replicate (52 - bs.length) 0) := by
  unfold fpiece
  rw [List.append_assoc, List.append_assoc, List.drop_left' (leB_len _ _)]
section
variable {n ep : Int} {bs : List Int}
theorem fpiece_N (h0 : 0 ≤ n) (h1 : n < 72057594037927936) (hl : bs.length ≤ 52) : pieN (fpiece n ep bs) = n := by
  unfold pieN
  rw [fpiece_head, leN_leB 8 _ (by omega) (by omega)]
  omega
theorem fpiece_L (h0 : 0 ≤ n) (h1 : n < 72057594037927936) (hl : bs.length ≤ 52) : pieL (fpiece n ep bs) = bs.length := by
  unfold pieL
  rw [fpiece_head, leN_leB 8 _ (by omega) (by omega)]
  omega
theorem fpiece_E (e0 : 0 ≤ ep) (e1 : ep < 4294967296) : pieE (fpiece n ep bs) = ep := by
  unfold pieE fld
  rw [fpiece_drop8, List.take_left' (leB_len _ _), leN_leB 4 _ e0 (by omega)]
theorem fpiece_B (h0 : 0 ≤ n) (h1 : n < 72057594037927936) (hl : bs.length ≤ 52) : pieB (fpiece n ep bs) = bs := by
  unfold pieB
  rw [fpiece_L h0 h1 hl, show (12 : Nat) = 8 + 4 from rfl, ← List.drop_drop, fpiece_drop8, List.drop_left' (leB_len _ _), List.take_left' rfl]
end
/-- A half of a sector is put. -/
def patch (s p : List Int) (h : Int) : List Int := if h = 0 then p ++ s.drop 64 else s.take 64 ++ p
def halfOf (s : List Int) (h : Int) : List Int := (s.drop (64 * h).toNat).take 64
theorem patch_len {s p : List Int} {h : Int} (hs : s.length = 128) (hp : p.length = 64) : (patch s p h).length = 128 := by
  unfold patch
  split <;> simp [hs, hp]
theorem patch_by {s p : List Int} {h : Int} (hs : IsBy s) (hp : IsBy p) : IsBy (patch s p h) := by
  unfold patch
  split
  · exact by_append hp fun x hx => hs x (List.mem_of_mem_drop hx)
  · exact by_append (fun x hx => hs x (List.mem_of_mem_take hx)) hp
theorem half_patch {s p : List Int} {h h' : Int} (hs : s.length = 128) (hp : p.length = 64) (h0 : h = 0 ∨ h = 1) (h1 : h' = 0 ∨ h' = 1) : halfOf (patch s p h) h' = if h' = h then p else halfOf s h' := by
  unfold halfOf patch
  rcases h0 with rfl | rfl <;> rcases h1 with rfl | rfl
  · simp [List.take_left' hp]
  · simp [List.drop_left' hp]
  · simp [List.drop_append, List.take_append, hs]
  · simp [List.drop_append, hs, List.take_of_length_le (Nat.le_of_eq hp)]
theorem half_halfD (D : Dk) (L : Lg) (n : Int) : halfD D L n = halfOf (sectorD D (secL L n)) (n % 2) := rfl
theorem sectorD_opD (D : Dk) (k : Int) : sectorD (opD D) k = sectorD D k := by
  unfold sectorD
  rw [dk.opD_waits, dk.opD_last]
theorem sectorD_step {D : Dk} (ho : D.off = false) (k : Int) (s : List Int) (k' : Int) : sectorD (stepW D k s) k' = if k' = k then s else sectorD D k' := by
  unfold stepW
  rw [if_neg (by simp [ho])]
  unfold writeD
  rw [sectorD_opD, sectorD_put]
theorem stepW_last (D : Dk) (k : Int) (s : List Int) : (stepW D k s).last = D.last := by
  unfold stepW
  split
  · rfl
  · unfold writeD; rw [dk.opD_last]; rfl
theorem stepW_size (D : Dk) (k : Int) (s : List Int) : (stepW D k s).sectors = D.sectors ∧ (stepW D k s).most = D.most := by
  unfold stepW
  split
  · exact ⟨rfl, rfl⟩
  · unfold writeD; exact ⟨by rw [dk.opD_sectors]; rfl, by rw [dk.opD_most]; rfl⟩
/-- The i-th chunk of the tail. -/
def chunk (zs : List Int) (i : Nat) : List Int := (zs.drop (52 * i)).take 52
theorem chunk_len (zs : List Int) (i : Nat) : (chunk zs i).length ≤ 52 := by unfold chunk; rw [List.length_take]; omega
theorem chunk_pos {zs : List Int} {i : Nat} (h : 52 * i < zs.length) : 0 < (chunk zs i).length := by unfold chunk; rw [List.length_take, List.length_drop]; omega
theorem chunk_by {zs : List Int} (h : IsBy zs) (i : Nat) : IsBy (chunk zs i) := fun x hx => h x (List.mem_of_mem_drop (List.mem_of_mem_take hx))
/-- The piece of the i-th chunk. -/
def pieF (L : Lg) (zs : List Int) (i : Nat) : List Int := fpiece (L.fl / 52 + (i : Int)) L.ep (chunk zs i)
theorem pieF_len (L : Lg) (zs : List Int) (i : Nat) : (pieF L zs i).length = 64 := fpiece_len (chunk_len zs i)
/-- How many pieces go into the sector of the i-th. -/
def cntF (L : Lg) (zs : List Int) (i : Nat) : Nat := if (L.fl / 52 + (i : Int)) % 2 = 0 ∧ 52 * (i + 1) < zs.length then 2 else 1
/-- The sector, j pieces put. -/
def secJ (L : Lg) (zs : List Int) (i : Nat) (s : List Int) : Nat → List Int
  | 0 => s
  | j + 1 => patch (secJ L zs i s j) (pieF L zs (i + j)) ((L.fl / 52 + ((i + j : Nat) : Int)) % 2)
theorem secJ_is {L : Lg} {zs : List Int} {i : Nat} {s : List Int} (hs : dk.IsSec s) (hz : IsBy zs) (j : Nat) : dk.IsSec (secJ L zs i s j) := by
  induction j with
  | zero => exact hs
  | succ j ih => exact ⟨patch_len ih.1 (pieF_len _ _ _), fun x hx => by have := patch_by (h := (L.fl / 52 + ((i + j : Nat) : Int)) % 2) (s := secJ L zs i s j) (p := pieF L zs (i + j)) (fun y hy => by have := ih.2 y hy; omega) (fpiece_by (chunk_by hz _)) x hx; omega⟩
def flW (L : Lg) (zs : List Int) : Nat → Nat → Dk → Dk
  | 0, _, D => D
  | f + 1, i, D => if zs.length ≤ 52 * i then D else
    let D' := stepW D (secL L (L.fl / 52 + (i : Int))) (secJ L zs i (sectorD D (secL L (L.fl / 52 + (i : Int)))) (cntF L zs i))
    if D'.off = true then D' else flW L zs f (i + cntF L zs i) D'
theorem cntF_cases (L : Lg) (zs : List Int) (i : Nat) : (cntF L zs i = 2 ∧ (L.fl / 52 + (i : Int)) % 2 = 0 ∧ 52 * (i + 1) < zs.length) ∨ (cntF L zs i = 1 ∧ ((L.fl / 52 + (i : Int)) % 2 = 1 ∨ zs.length ≤ 52 * (i + 1))) := by
  unfold cntF
  split
  · rename_i h; exact .inl ⟨rfl, h⟩
  · rename_i h; exact .inr ⟨rfl, by omega⟩
theorem slot_iff {L : Lg} (hc : 0 < L.count) (n m : Int) : (secL L n = secL L m ∧ n % 2 = m % 2) ↔ n % (2 * L.count) = m % (2 * L.count) := by
  unfold secL
  have key : ∀ x : Int, x % (2 * L.count) = 2 * (x / 2 % L.count) + x % 2 := fun x => by
    have h1 : x % 2 + 2 * (x / 2) = x := by omega
    have h2 := Int.mul_ediv_add_emod (x / 2) L.count
    have h3 := Int.emod_nonneg (x / 2) (show L.count ≠ 0 by omega)
    have h4 := Int.emod_lt_of_pos (x / 2) hc
    have e : x = 2 * (x / 2 % L.count) + x % 2 + 2 * L.count * (x / 2 / L.count) := by
      have : 2 * L.count * (x / 2 / L.count) = 2 * (L.count * (x / 2 / L.count)) := by rw [Int.mul_assoc]
      omega
    conv => lhs; rw [e]
    rw [Int.add_mul_emod_self_left]
    exact Int.emod_eq_of_lt (by omega) (by omega)
  rw [key n, key m]
  omega
/-- What a sector's writing leaves in the halves. -/
theorem step_half {L : Lg} {zs : List Int} {D : Dk} {i : Nat} (hf : D.Fine) (ho : D.off = false) (hc : 0 < L.count) (hi : 52 * i < zs.length) (m : Int) :
    (halfD (stepW D (secL L (L.fl / 52 + (i : Int))) (secJ L zs i (sectorD D (secL L (L.fl / 52 + (i : Int)))) (cntF L zs i))) L m = halfD D L m ∧ ∀ j, i ≤ j → j < i + cntF L zs i → m % (2 * L.count) ≠ (L.fl / 52 + (j : Int)) % (2 * L.count)) ∨
    ∃ j, i ≤ j ∧ j < i + cntF L zs i ∧ m % (2 * L.count) = (L.fl / 52 + (j : Int)) % (2 * L.count) ∧ halfD (stepW D (secL L (L.fl / 52 + (i : Int))) (secJ L zs i (sectorD D (secL L (L.fl / 52 + (i : Int)))) (cntF L zs i))) L m = pieF L zs j := by
  have hsl := slot_iff hc (L := L)
  obtain ⟨n, hn⟩ : ∃ n, L.fl / 52 + (i : Int) = n := ⟨_, rfl⟩
  have hs := (dk.sectorD_is hf (secL L n)).1
  rw [half_halfD, half_halfD, hn, sectorD_step ho]
  rcases cntF_cases L zs i with ⟨hc2, he, hl⟩ | ⟨hc1, he⟩
  · rw [hc2]
    have e1 : secL L (n + 1) = secL L n := by unfold secL; rw [show (n + 1) / 2 = n / 2 by omega]
    have p1 : secJ L zs i (sectorD D (secL L n)) 2 = patch (patch (sectorD D (secL L n)) (pieF L zs i) 0) (pieF L zs (i + 1)) 1 := by
      show patch (patch _ (pieF L zs (i + 0)) ((L.fl / 52 + ((i + 0 : Nat) : Int)) % 2)) (pieF L zs (i + 1)) ((L.fl / 52 + ((i + 1 : Nat) : Int)) % 2) = _
      rw [show (L.fl / 52 + ((i + 0 : Nat) : Int)) % 2 = 0 by omega, show (L.fl / 52 + ((i + 1 : Nat) : Int)) % 2 = 1 by omega]
      rfl
    rw [p1]
    by_cases hk : secL L m = secL L n
    · rw [if_pos hk]
      right
      rcases (show m % 2 = 0 ∨ m % 2 = 1 by omega) with h2 | h2
      · refine ⟨i, Nat.le_refl _, by omega, ?_, ?_⟩
        · rw [hn]; exact (hsl m n).1 ⟨hk, by omega⟩
        · rw [h2, half_patch (patch_len hs (pieF_len _ _ _)) (pieF_len _ _ _) (.inr rfl) (.inl rfl), if_neg (by omega), half_patch hs (pieF_len _ _ _) (.inl rfl) (.inl rfl), if_pos rfl]
      · refine ⟨i + 1, by omega, by omega, ?_, ?_⟩
        · rw [show L.fl / 52 + ((i + 1 : Nat) : Int) = n + 1 by omega]
          exact (hsl m (n + 1)).1 ⟨by rw [hk, e1], by omega⟩
        · rw [h2, half_patch (patch_len hs (pieF_len _ _ _)) (pieF_len _ _ _) (.inr rfl) (.inr rfl), if_pos rfl]
    · rw [if_neg hk]
      refine .inl ⟨rfl, fun j h1 h2 h3 => hk ?_⟩
      have := ((hsl m (L.fl / 52 + (j : Int))).2 h3).1
      rw [this]
      rcases (show j = i ∨ j = i + 1 by omega) with rfl | rfl
      · rw [hn]
      · rw [show L.fl / 52 + ((i + 1 : Nat) : Int) = n + 1 by omega, e1]
  · rw [hc1]
    have p1 : secJ L zs i (sectorD D (secL L n)) 1 = patch (sectorD D (secL L n)) (pieF L zs i) (n % 2) := by
      show patch _ (pieF L zs (i + 0)) ((L.fl / 52 + ((i + 0 : Nat) : Int)) % 2) = _
      rw [Nat.add_zero, hn]
      rfl
    rw [p1]
    by_cases hk : secL L m = secL L n
    · rw [if_pos hk, half_patch hs (pieF_len _ _ _) (by omega) (by omega)]
      by_cases h2 : m % 2 = n % 2
      · rw [if_pos h2]
        exact .inr ⟨i, Nat.le_refl _, by omega, by rw [hn]; exact (hsl m n).1 ⟨hk, h2⟩, rfl⟩
      · rw [if_neg h2]
        refine .inl ⟨by rw [hk], fun j h1 h3 h4 => h2 ?_⟩
        have e := ((hsl m (L.fl / 52 + (j : Int))).2 h4).2
        rw [show j = i by omega, hn] at e
        exact e
    · rw [if_neg hk]
      refine .inl ⟨rfl, fun j h1 h3 h4 => hk ?_⟩
      have e := ((hsl m (L.fl / 52 + (j : Int))).2 h4).1
      rw [show j = i by omega, hn] at e
      exact e
theorem stepW_fine' {D : Dk} (hf : D.Fine) {k : Int} {s : List Int} (h0 : 0 ≤ k) (h1 : k < D.sectors) (hs : dk.IsSec s) : (stepW D k s).Fine := by
  unfold stepW
  split
  · exact hf
  · exact dk.opD_fine (dk.putD_fine hf h0 h1 hs)
theorem secL_in {L : Lg} {D : Dk} (hc : 0 < L.count) (ha : 0 ≤ L.at_ ∧ L.at_ + 2 + L.count ≤ D.sectors) (n : Int) : 0 ≤ secL L n ∧ secL L n < D.sectors := by
  unfold secL
  have h1 := Int.emod_nonneg (n / 2) (show L.count ≠ 0 by omega)
  have h2 := Int.emod_lt_of_pos (n / 2) hc
  omega
/-- What a flush leaves in the halves. -/
structure FlTo (L : Lg) (zs : List Int) (i : Nat) (D D' : Dk) : Prop where
  fine : D'.Fine
  last : D'.last = D.last
  secs : D'.sectors = D.sectors
  most : D'.most = D.most
  half : ∀ m, halfD D' L m = halfD D L m ∨ ∃ j, i ≤ j ∧ 52 * j < zs.length ∧ m % (2 * L.count) = (L.fl / 52 + (j : Int)) % (2 * L.count) ∧ halfD D' L m = pieF L zs j
  new : D'.off = false → ∀ j, i ≤ j → 52 * j < zs.length → halfD D' L (L.fl / 52 + (j : Int)) = pieF L zs j
theorem cnt_in {L : Lg} {zs : List Int} {i j : Nat} (hi : 52 * i < zs.length) (h : j < i + cntF L zs i) : 52 * j < zs.length := by
  rcases cntF_cases L zs i with ⟨h1, _, h2⟩ | ⟨h1, _⟩ <;> omega
theorem flW_to {L : Lg} {zs : List Int} (hc : 0 < L.count) (hz : IsBy zs) (hK : (zs.length : Int) ≤ 104 * L.count) : ∀ (f i : Nat) (D : Dk), D.Fine → D.off = false → (0 ≤ L.at_ ∧ L.at_ + 2 + L.count ≤ D.sectors) → zs.length ≤ 52 * (i + f) → FlTo L zs i D (flW L zs f i D)
  | 0, i, D, hf, ho, ha, hl => ⟨hf, rfl, rfl, rfl, fun m => .inl rfl, fun _ j h1 h2 => by omega⟩
  | f + 1, i, D, hf, ho, ha, hl => by
    unfold flW
    by_cases hi : zs.length ≤ 52 * i
    · rw [if_pos hi]
      exact ⟨hf, rfl, rfl, rfl, fun m => .inl rfl, fun _ j h1 h2 => by omega⟩
    rw [if_neg hi]
    simp only
    have hi' : 52 * i < zs.length := by omega
    have hS := step_half hf ho hc hi'
    obtain ⟨n, hn⟩ : ∃ n, L.fl / 52 + (i : Int) = n := ⟨_, rfl⟩
    have hin := secL_in hc ha n
    have hfn := stepW_fine' hf hin.1 hin.2 (secJ_is (L := L) (zs := zs) (i := i) (dk.sectorD_is hf (secL L n)) hz (cntF L zs i))
    have hla := stepW_last D (secL L n) (secJ L zs i (sectorD D (secL L n)) (cntF L zs i))
    have hsz := stepW_size D (secL L n) (secJ L zs i (sectorD D (secL L n)) (cntF L zs i))
    rw [hn] at hS ⊢
    generalize stepW D (secL L n) (secJ L zs i (sectorD D (secL L n)) (cntF L zs i)) = D1 at *
    have hcp : 0 < cntF L zs i := by rcases cntF_cases L zs i with ⟨h1, _⟩ | ⟨h1, _⟩ <;> omega
    have half1 : ∀ m, halfD D1 L m = halfD D L m ∨ ∃ j, i ≤ j ∧ 52 * j < zs.length ∧ m % (2 * L.count) = (L.fl / 52 + (j : Int)) % (2 * L.count) ∧ halfD D1 L m = pieF L zs j := fun m => by
      rcases hS m with ⟨h1, _⟩ | ⟨j, h1, h2, h3, h4⟩
      · exact .inl h1
      · exact .inr ⟨j, h1, cnt_in hi' h2, h3, h4⟩
    by_cases hoff : D1.off = true
    · rw [if_pos hoff]
      exact ⟨hfn, hla, hsz.1, hsz.2, half1, fun h => by rw [hoff] at h; cases h⟩
    rw [if_neg hoff]
    have ih := flW_to hc hz hK f (i + cntF L zs i) D1 hfn (by simpa using hoff) (by rw [hsz.1]; exact ha) (by omega)
    refine ⟨ih.fine, ih.last.trans hla, ih.secs.trans hsz.1, ih.most.trans hsz.2, fun m => ?_, fun h0 j h1 h2 => ?_⟩
    · rcases ih.half m with h | ⟨j, h1, h2, h3, h4⟩
      · rw [h]; exact half1 m
      · exact .inr ⟨j, by omega, h2, h3, h4⟩
    · by_cases hj : i + cntF L zs i ≤ j
      · exact ih.new h0 j hj h2
      · have hne : ∀ j', i + cntF L zs i ≤ j' → 52 * j' < zs.length → (L.fl / 52 + (j : Int)) % (2 * L.count) ≠ (L.fl / 52 + (j' : Int)) % (2 * L.count) := fun j' q1 q2 q3 => by
          have hd : (L.fl / 52 + (j' : Int) - (L.fl / 52 + (j : Int))) % (2 * L.count) = 0 := Int.emod_eq_emod_iff_emod_sub_eq_zero.1 q3.symm
          have hlt : (L.fl / 52 + (j' : Int) - (L.fl / 52 + (j : Int))) % (2 * L.count) = L.fl / 52 + (j' : Int) - (L.fl / 52 + (j : Int)) := Int.emod_eq_of_lt (by omega) (by omega)
          omega
        rcases ih.half (L.fl / 52 + (j : Int)) with h | ⟨j', q1, q2, q3, q4⟩
        · rw [h]
          rcases hS (L.fl / 52 + (j : Int)) with ⟨_, h5⟩ | ⟨j', r1, r2, r3, r4⟩
          · exact absurd rfl (h5 j h1 (by omega))
          · have : j' = j := by
              rcases cntF_cases L zs i with ⟨k1, k2, _⟩ | ⟨k1, _⟩
              · have := (slot_iff hc (L := L) _ _).2 r3
                omega
              · omega
            rw [r4, this]
        · exact absurd q3 (hne j' q1 q2)
end Go.Proofs.Ytekdogmhgijocaa
