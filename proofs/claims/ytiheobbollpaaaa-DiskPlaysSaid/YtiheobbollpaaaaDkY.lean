/- The device's calls whatever is asked: Write, Read, Arm. -/
import Derived.Test.YtiheobbollpaaaaDkX
namespace Go.Proofs.Ytiheobbollpaaaa
open Go.RowKit Go.ChangeShapes Go.WideShapes Go.ChangeAt
set_option linter.unusedVariables false

def Same2 (r : Int) (w : World) (e : Ending) (w' : World) : Prop := e = .returned (.int .i64 r) ∧ w' = w
theorem there_on {w : World} {p bl bw bn : Nat} {D : Dk} (h : DkAt w p bl bw bn D) (ho : D.off = false) : Calls Try.prog 26 #[.pointer (some ⟨p, 0, none⟩)] w fun e w' => e = .returned (.int .i64 0) ∧ w' = w := by
  have T := there_at _ p bl bw bn _ h
  rw [ho] at T
  exact T
theorem write_arg (w : World) (p bl bw bn : Nat) (D : Dk) (x : Int) (ad : Option Addr) (len cap : Nat) (h : DkAt w p bl bw bn D) (ho : D.off = false) (hb : x < 0 ∨ D.sectors ≤ x ∨ len ≠ 128) (hl : len ≤ 128) :
    Calls Try.prog 10 #[.pointer (some ⟨p, 0, none⟩), .int .i64 x, .slice ad len cap] w (Same2 2 w) := by
  have T := Lib.hid (there_on h ho)
  have c3 := h.c3
  clear h ho
  by_cases h1 : x < 0
  · have d1 : decide (x < 0) = true := decide_eq_true h1
    clear hb
    go_enter Try.func10, Try.ntmps10
    go_wp2_with fail
    refine T.out.mono ?_
    rintro _ w' ⟨rfl, hw'⟩
    subst hw'
    go_wp2_with fail
    go_ret
    exact ⟨rfl, rfl⟩
  have d1 : decide (x < 0) = false := decide_eq_false h1
  by_cases h2 : D.sectors ≤ x
  · have d2 : decide (D.sectors ≤ x) = true := decide_eq_true h2
    clear hb
    go_enter Try.func10, Try.ntmps10
    go_wp2_with fail
    refine T.out.mono ?_
    rintro _ w' ⟨rfl, hw'⟩
    subst hw'
    go_wp2_with fail
    go_ret
    exact ⟨rfl, rfl⟩
  have d2 : decide (D.sectors ≤ x) = false := decide_eq_false h2
  have d3 : ¬ (len : Int) = 128 := by omega
  clear hb
  go_enter Try.func10, Try.ntmps10
  go_wp2_with fail
  refine T.out.mono ?_
  rintro _ w' ⟨rfl, hw'⟩
  subst hw'
  go_wp2_with fail
  go_ret
  exact ⟨rfl, rfl⟩
def Drew2 (r : Int) (w : World) (e : Ending) (w' : World) : Prop := e = .returned (.int .i64 r) ∧ ∃ n, w' = w.drewN n
set_option maxRecDepth 100000 in
set_option maxHeartbeats 2000000 in
theorem write_full (w : World) (p bl bw bn : Nat) (D : Dk) (at_ : Int) (ad : Option Addr) (cap : Nat) (h : DkAt w p bl bw bn D) (ho : D.off = false) (h0 : 0 ≤ at_) (h1 : at_ < D.sectors) (hm : ¬ at_ ∈ D.seen) (hf : D.most ≤ (D.seen.length : Int)) :
    Calls Try.prog 10 #[.pointer (some ⟨p, 0, none⟩), .int .i64 at_, .slice ad 128 cap] w (Drew2 5 w) := by
  have T := Lib.hid (there_on h ho)
  have c1 := h.c1
  have c2 := h.c2
  have c3 := h.c3
  have c4 := h.c4
  have H := Lib.hid h
  have d1 : decide (at_ < 0) = false := decide_eq_false (by omega)
  have d2 : decide (D.sectors ≤ at_) = false := decide_eq_false (by omega)
  have d3 : decide (D.most ≤ (D.seen.length : Int)) = true := decide_eq_true hf
  have hlook : ∀ x : World, (MapAt x bn .i64 (seL D.seen)) → (Instr.lookup 55 (.map (some bn)) (.int .i64 at_) false).run Try.prog x = .ok (.bool false) x := fun x hx => by
    have := hx.look (P := Try.prog) Try.underlying55 Try.underlying3 (zeroBool x) at_ false
    rw [this, lk_seL, if_neg hm]
    simp
  have L0 : ∀ n, (Instr.lookup 55 (.map (some bn)) (.int .i64 at_) false).run Try.prog (w.drewN n) = .ok (.bool false) (w.drewN n) := fun n => hlook _ (h.nm.only ((Only.refl [] w).drewN n) (by simp))
  clear hlook h ho hm hf
  go_enter Try.func10, Try.ntmps10
  go_wp2_with fail
  refine T.out.mono ?_
  rintro _ w' ⟨rfl, hw'⟩
  subst hw'
  go_wp2_with fail
  refine wp_region_quiet_lit (by kernel_rfl) (by kernel_rfl) ?_
  repeat (go_big_quiet_step (fail))
  refine wpQuiet_len_at rfl (.tmp 41) 55 rfl 3 4 .i64 Try.underlying55 bn (seL D.seen) rfl (by rintro _ ⟨n, rfl⟩; exact H.out.nm.only ((Only.refl [] _).drewN n) (by simp)) ?_
  rw [show (seL D.seen).length = D.seen.length by simp [seL]]
  simp only [Act.put, List.setIfInBounds_toArray, List.set_cons_succ, List.set_cons_zero]
  repeat (go_big_quiet_step (fail))
  refine wpQuiet_nil ?_
  intro _ hw2
  obtain ⟨nq, rfl⟩ := hw2
  go_wp2_with fail
  go_ret
  exact ⟨rfl, nq, rfl⟩
theorem write_total {W w : World} {p : Nat} {D : Dk} {F : List Nat} (h : Dev W w p D F) (x : Int) {g off len cap : Nat} (s : List Int) (hl : len ≤ 128) (hb : len = 128 → Bytes w g off s ∧ IsSec s) (hc : len ≤ cap) :
    Calls Try.prog 10 #[.pointer (some ⟨p, 0, none⟩), .int .i64 x, .slice (some ⟨g, off, none⟩) len cap] w (DoneTo W p F (writeR D x len s).2 (writeR D x len s).1 w) := by
  obtain ⟨bl, bw, bn, hd, rfl, hB⟩ := h.dk
  unfold writeR
  by_cases ho : D.off = true
  · rw [if_pos ho]
    refine (write_off w p bl bw bn D x _ hd ho).mono ?_
    rintro e w' ⟨rfl, rfl⟩
    exact ⟨rfl, h, Only.refl _ _⟩
  · have ho' : D.off = false := by simpa using ho
    rw [if_neg ho]
    by_cases ha : x < 0 ∨ D.sectors ≤ x ∨ len ≠ 128
    · rw [if_pos ha]
      refine (write_arg w p bl bw bn D x _ len cap hd ho' ha hl).mono ?_
      rintro e w' ⟨rfl, rfl⟩
      exact ⟨rfl, h, Only.refl _ _⟩
    · rw [if_neg ha]
      obtain rfl : len = 128 := by omega
      obtain ⟨hB1, hS⟩ := hb rfl
      by_cases hf : ¬ x ∈ D.seen ∧ D.most ≤ (D.seen.length : Int)
      · rw [if_pos hf]
        refine (write_full w p bl bw bn D x _ cap hd ho' (by omega) (by omega) hf.1 hf.2).mono ?_
        rintro e w' ⟨rfl, n, rfl⟩
        exact ⟨rfl, h.none ((Only.refl [] w).drewN n), (Only.refl _ _).drewN n⟩
      · rw [if_neg hf]
        refine (write_ok w p bl bw bn D x g off cap s hd ho' (by omega) (by omega) hS hB1 hc (by
          by_cases hm : x ∈ D.seen
          · exact .inl hm
          · right
            rcases Int.lt_or_le (D.seen.length : Int) D.most with h1 | h1
            · exact h1
            · exact absurd ⟨hm, h1⟩ hf)).mono ?_
        rintro e w' ⟨rfl, hd', k'⟩
        exact ⟨rfl, h.to hd' k' (by simp)⟩
def ReadNo (r : Int) (w : World) (e : Ending) (w' : World) : Prop := e = .returned (.tuple #[.slice none 0 0, .int .i64 r]) ∧ w' = w
theorem read_arg (w : World) (p bl bw bn : Nat) (D : Dk) (x : Int) (h : DkAt w p bl bw bn D) (ho : D.off = false) (hb : x < 0 ∨ D.sectors ≤ x) :
    Calls Try.prog 15 #[.pointer (some ⟨p, 0, none⟩), .int .i64 x] w (ReadNo 2 w) := by
  have T := Lib.hid (there_on h ho)
  have c3 := h.c3
  clear h ho
  by_cases h1 : x < 0
  · have d1 : decide (x < 0) = true := decide_eq_true h1
    clear hb
    go_enter Try.func15, Try.ntmps15
    go_wp2_with fail
    refine T.out.mono ?_
    rintro _ w' ⟨rfl, hw'⟩
    subst hw'
    go_wp2_with fail
    go_ret2
    exact ⟨rfl, rfl⟩
  have d1 : decide (x < 0) = false := decide_eq_false h1
  have d2 : decide (D.sectors ≤ x) = true := decide_eq_true (by omega)
  clear hb
  go_enter Try.func15, Try.ntmps15
  go_wp2_with fail
  refine T.out.mono ?_
  rintro _ w' ⟨rfl, hw'⟩
  subst hw'
  go_wp2_with fail
  go_ret2
  exact ⟨rfl, rfl⟩
theorem read_no {W w : World} {p : Nat} {D : Dk} {F : List Nat} (h : Dev W w p D F) (x : Int) (hr : readR D x ≠ 0) : Calls Try.prog 15 #[.pointer (some ⟨p, 0, none⟩), .int .i64 x] w (ReadNo (readR D x) w) := by
  obtain ⟨bl, bw, bn, hd, rfl, hB⟩ := h.dk
  unfold readR at hr ⊢
  by_cases ho : D.off = true
  · rw [if_pos ho]
    exact read_off w p bl bw bn D x hd ho
  · have ho' : D.off = false := by simpa using ho
    rw [if_neg ho] at hr ⊢
    by_cases ha : x < 0 ∨ D.sectors ≤ x
    · rw [if_pos ha]
      exact read_arg w p bl bw bn D x hd ho' ha
    · rw [if_neg ha] at hr; exact absurd rfl hr
theorem read_yes {W w : World} {p : Nat} {D : Dk} {F : List Nat} (h : Dev W w p D F) (x : Int) (hr : readR D x = 0) : Calls Try.prog 15 #[.pointer (some ⟨p, 0, none⟩), .int .i64 x] w (ReadTo W p F D x w) := by
  unfold readR at hr
  by_cases ho : D.off = true
  · rw [if_pos ho] at hr; cases hr
  · rw [if_neg ho] at hr
    by_cases ha : x < 0 ∨ D.sectors ≤ x
    · rw [if_pos ha] at hr; cases hr
    · exact read_dev h (by simpa using ho) (by omega) (by omega)
theorem arm_arg (w : World) (p bl bw bn : Nat) (D : Dk) (x : Int) (h : DkAt w p bl bw bn D) (ho : D.off = false) (hb : x < 0 ∨ 1073741824 < x) :
    Calls Try.prog 17 #[.pointer (some ⟨p, 0, none⟩), .int .i64 x] w (Same2 2 w) := by
  have T := Lib.hid (there_on h ho)
  clear h ho
  by_cases h1 : x < 0
  · have d1 : decide (x < 0) = true := decide_eq_true h1
    clear hb
    go_enter Try.func17, Try.ntmps17
    go_wp2_with fail
    refine T.out.mono ?_
    rintro _ w' ⟨rfl, hw'⟩
    subst hw'
    go_wp2_with fail
    go_ret
    exact ⟨rfl, rfl⟩
  have d1 : decide (x < 0) = false := decide_eq_false h1
  have d2 : decide (1073741824 < x) = true := decide_eq_true (by omega)
  clear hb
  go_enter Try.func17, Try.ntmps17
  go_wp2_with fail
  refine T.out.mono ?_
  rintro _ w' ⟨rfl, hw'⟩
  subst hw'
  go_wp2_with fail
  go_ret
  exact ⟨rfl, rfl⟩
theorem arm_total {W w : World} {p : Nat} {D : Dk} {F : List Nat} (h : Dev W w p D F) (x : Int) : Calls Try.prog 17 #[.pointer (some ⟨p, 0, none⟩), .int .i64 x] w (DoneTo W p F (armR D x).2 (armR D x).1 w) := by
  obtain ⟨bl, bw, bn, hd, rfl, hB⟩ := h.dk
  unfold armR
  by_cases ho : D.off = true
  · rw [if_pos ho]
    refine (arm_off w p bl bw bn D x hd ho).mono ?_
    rintro e w' ⟨rfl, rfl⟩
    exact ⟨rfl, h, Only.refl _ _⟩
  · have ho' : D.off = false := by simpa using ho
    rw [if_neg ho]
    by_cases ha : x < 0 ∨ 1073741824 < x
    · rw [if_pos ha]
      refine (arm_arg w p bl bw bn D x hd ho' ha).mono ?_
      rintro e w' ⟨rfl, rfl⟩
      exact ⟨rfl, h, Only.refl _ _⟩
    · rw [if_neg ha]
      refine (arm_ok w p bl bw bn D x hd ho' (by omega) (by omega)).mono ?_
      rintro e w' ⟨rfl, hd', k', _⟩
      exact ⟨rfl, h.to hd' k' (by simp)⟩
/-! ### both devices -/
/-- The device and the document's, both D, apart. -/
structure Pair (W w : World) (p : Nat) (F : List Nat) (q b1 b2 b3 n : Nat) (D : Dk) : Prop where
  dev : Dev W w p D F
  rf : RfAt w q b1 b2 b3 n D
  dj : ∀ b ∈ F, b ∉ [q, b1, b2, b3]
  rge : ∀ b ∈ [q, b1, b2, b3], W.heap.size ≤ b
theorem RfAt.onlyL {G : List Nat} {w w' : World} {q b1 b2 b3 n : Nat} {D : Dk} (h : RfAt w q b1 b2 b3 n D) (k : Only G w w') (hG : ∀ b ∈ G, b ∉ [q, b1, b2, b3]) : RfAt w' q b1 b2 b3 n D :=
  h.only k (fun hh => hG _ hh (by simp)) (fun hh => hG _ hh (by simp)) (fun hh => hG _ hh (by simp)) (fun hh => hG _ hh (by simp))
section
variable {W w w' : World} {p : Nat} {F : List Nat} {q b1 b2 b3 n : Nat} {D D' : Dk}
theorem Pair.none (h : Pair W w p F q b1 b2 b3 n D) (k : Only [] w w') : Pair W w' p F q b1 b2 b3 n D := ⟨h.dev.none k, h.rf.nil k, h.dj, h.rge⟩
theorem Pair.both {w2 : World} (h : Pair W w p F q b1 b2 b3 n D) (hd : Dev W w' p D' F) (k : Only F w w') (hr : RfAt w' q b1 b2 b3 n D → RfAt w2 q b1 b2 b3 n D' ∧ Only [q, b1, b2, b3] w' w2) : Pair W w2 p F q b1 b2 b3 n D' := by
  obtain ⟨h2, k2⟩ := hr (h.rf.onlyL k h.dj)
  exact ⟨hd.only k2 (fun b hb hf => h.dj b hf hb) h.rge, h2, h.dj, h.rge⟩
theorem Pair.lt (h : Pair W w p F q b1 b2 b3 n D) : ∀ b, b ∈ F ∨ b ∈ [q, b1, b2, b3] → b < w.heap.size := fun b hb => hb.elim (h.dev.lt b) (h.rf.lt b)
/-- What is newer than w is apart. -/
theorem Pair.new {G : List Nat} {w2 : World} (h : Pair W w p F q b1 b2 b3 n D) (k : Only [] w w') (k2 : Only G w' w2) (hG : ∀ b ∈ G, w.heap.size ≤ b) : Pair W w2 p F q b1 b2 b3 n D := by
  have h1 := h.none k
  have hl := h.lt
  have hs := h.dev.bl.size
  exact ⟨h1.dev.only k2 (fun b hb hf => by have := hl b (.inl hf); have := hG b hb; omega) (fun b hb => Nat.le_trans hs (hG b hb)), h1.rf.onlyL k2 (fun b hb hf => by have := hl b (.inr hf); have := hG b hb; omega), h.dj, h.rge⟩
end
end Go.Proofs.Ytiheobbollpaaaa
