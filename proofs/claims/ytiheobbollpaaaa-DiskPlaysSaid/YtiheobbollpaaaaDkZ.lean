/- do: both devices the same call. -/
import Derived.Test.YtiheobbollpaaaaDkY
namespace Go.Proofs.Ytiheobbollpaaaa
open Go.RowKit Go.ChangeShapes Go.WideShapes Go.ChangeAt
set_option linter.unusedVariables false

def DoPost (W : World) (q b1 b2 b3 n : Nat) (D' : Dk) (e : Ending) (w' : World) : Prop := ∃ p' F', e = .returned (.tuple #[.pointer (some ⟨p', 0, none⟩), .bool true]) ∧ Pair W w' p' F' q b1 b2 b3 n D'
def notKind (k : Int) : Prop := ¬ k = 0 ∧ ¬ k = 1 ∧ ¬ k = 2 ∧ ¬ k = 3 ∧ ¬ k = 4 ∧ ¬ k = 5
set_option maxRecDepth 100000 in
set_option maxHeartbeats 4000000 in
theorem do_else {W w : World} {p : Nat} {F : List Nat} {q b1 b2 b3 n : Nat} {D : Dk} (h : Pair W w p F q b1 b2 b3 n D) (x f : Int) (sh : Bool) (pa : Option Addr) (pl pc : Nat) (k : Int) (hk : notKind k) : Calls Try.prog 21 #[.pointer (some ⟨p, 0, none⟩), .pointer (some ⟨q, 0, none⟩), .agg #[.int .i64 k, .int .i64 x, .int .i64 f, .bool sh, .slice pa pl pc]] w (DoPost W q b1 b2 b3 n D) := by
  obtain ⟨k0, k1, k2, k3, k4, k5⟩ := hk
  have H := Lib.hid h
  clear h
  go_enter Try.func21, Try.ntmps21
  go_wp2_with fail
  have K1 : Only [] w (w.alloc (.cells #[.int .i64 k, .int .i64 x, .int .i64 f, .bool sh, .slice pa pl pc] 31)) := (Only.refl [] w).alloc _
  have P1 := Lib.hid (H.out.none K1)
  have BX := Lib.hid (Row.made w #[.int .i64 k, .int .i64 x, .int .i64 f, .bool sh, .slice pa pl pc] 31)
  have HBX : Hid (w.heap.size ∉ F ∧ w.heap.size ∉ [q, b1, b2, b3]) := Lib.hid ⟨fun hh => by have := H.out.lt _ (.inl hh); omega, fun hh => by have := H.out.lt _ (.inr hh); omega⟩

  go_ret2
  exact ⟨p, F, rfl, P1.out⟩
set_option maxRecDepth 100000 in
set_option maxHeartbeats 4000000 in
theorem do_sync {W w : World} {p : Nat} {F : List Nat} {q b1 b2 b3 n : Nat} {D : Dk} (h : Pair W w p F q b1 b2 b3 n D) (x f : Int) (sh : Bool) (pa : Option Addr) (pl pc : Nat) : Calls Try.prog 21 #[.pointer (some ⟨p, 0, none⟩), .pointer (some ⟨q, 0, none⟩), .agg #[.int .i64 2, .int .i64 x, .int .i64 f, .bool sh, .slice pa pl pc]] w (DoPost W q b1 b2 b3 n (stepS D)) := by
  have H := Lib.hid h
  clear h
  go_enter Try.func21, Try.ntmps21
  go_wp2_with fail
  have K1 : Only [] w (w.alloc (.cells #[.int .i64 2, .int .i64 x, .int .i64 f, .bool sh, .slice pa pl pc] 31)) := (Only.refl [] w).alloc _
  have P1 := Lib.hid (H.out.none K1)
  have BX := Lib.hid (Row.made w #[.int .i64 2, .int .i64 x, .int .i64 f, .bool sh, .slice pa pl pc] 31)
  have HBX : Hid (w.heap.size ∉ F ∧ w.heap.size ∉ [q, b1, b2, b3]) := Lib.hid ⟨fun hh => by have := H.out.lt _ (.inl hh); omega, fun hh => by have := H.out.lt _ (.inr hh); omega⟩

  refine (sync_dev P1.out.dev).mono ?_
  rintro _ w2 ⟨rfl, hd2, k2⟩
  have R2 := Lib.hid (P1.out.rf.onlyL k2 P1.out.dj)
  have D2 := Lib.hid hd2
  have K2 := Lib.hid k2
  clear hd2 k2
  go_wp2_with fail
  refine (rsync_at R2.out).mono ?_
  rintro _ w3 ⟨rfl, hr3, k3⟩
  have P3 := Lib.hid (P1.out.both D2.out K2.out fun _ => ⟨hr3, k3⟩)
  clear hr3 k3
  go_wp2_with fail
  go_ret2
  exact ⟨p, F, rfl, P3.out⟩
set_option maxRecDepth 100000 in
set_option maxHeartbeats 4000000 in
theorem do_arm {W w : World} {p : Nat} {F : List Nat} {q b1 b2 b3 n : Nat} {D : Dk} (h : Pair W w p F q b1 b2 b3 n D) (x f : Int) (sh : Bool) (pa : Option Addr) (pl pc : Nat) : Calls Try.prog 21 #[.pointer (some ⟨p, 0, none⟩), .pointer (some ⟨q, 0, none⟩), .agg #[.int .i64 3, .int .i64 x, .int .i64 f, .bool sh, .slice pa pl pc]] w (DoPost W q b1 b2 b3 n (armR D x).2) := by
  have H := Lib.hid h
  clear h
  go_enter Try.func21, Try.ntmps21
  go_wp2_with fail
  have K1 : Only [] w (w.alloc (.cells #[.int .i64 3, .int .i64 x, .int .i64 f, .bool sh, .slice pa pl pc] 31)) := (Only.refl [] w).alloc _
  have P1 := Lib.hid (H.out.none K1)
  have BX := Lib.hid (Row.made w #[.int .i64 3, .int .i64 x, .int .i64 f, .bool sh, .slice pa pl pc] 31)
  have HBX : Hid (w.heap.size ∉ F ∧ w.heap.size ∉ [q, b1, b2, b3]) := Lib.hid ⟨fun hh => by have := H.out.lt _ (.inl hh); omega, fun hh => by have := H.out.lt _ (.inr hh); omega⟩

  generalize hw1 : w.alloc (.cells #[.int .i64 3, .int .i64 x, .int .i64 f, .bool sh, .slice pa pl pc] 31) = w1 at *
  have P2 := Lib.hid (P1.out.none (Only.refl [] w1).drew)
  have c1 : w1.drew.cell? ⟨w.heap.size, 1, none⟩ = some (.int .i64 x) := BX.out.cell 1
  clear hw1 K1
  go_region_with (first
    | (go_at_call 17; refine (arm_total P2.out.dev x).mono ?_; rintro _ y ⟨rfl, hdy, ky⟩; have RY := Lib.hid (P2.out.rf.onlyL ky P2.out.dj); have DY := Lib.hid hdy; have KY := Lib.hid ky; have c2 : y.cell? ⟨w.heap.size, 1, none⟩ = some (.int .i64 x) := (ky.cell (BX.out.only ((Only.refl [] w1).drew) (by simp)).lt HBX.out.1).trans c1; clear hdy ky)
    | (go_at_call 37; refine (rarm_at RY.out x).mono ?_; rintro _ z ⟨rfl, hrz, kz⟩; have P3 := Lib.hid (P2.out.both DY.out KY.out fun _ => ⟨hrz, kz⟩); clear hrz kz))
  all_goals
    go_wp2_with fail
    go_ret2
    exact ⟨p, F, rfl, P3.out⟩
set_option maxRecDepth 100000 in
set_option maxHeartbeats 4000000 in
theorem do_copy {W w : World} {p : Nat} {F : List Nat} {q b1 b2 b3 n : Nat} {D : Dk} (h : Pair W w p F q b1 b2 b3 n D) (x f : Int) (sh : Bool) (pa : Option Addr) (pl pc : Nat) : Calls Try.prog 21 #[.pointer (some ⟨p, 0, none⟩), .pointer (some ⟨q, 0, none⟩), .agg #[.int .i64 5, .int .i64 x, .int .i64 f, .bool sh, .slice pa pl pc]] w (DoPost W q b1 b2 b3 n D) := by
  have H := Lib.hid h
  clear h
  go_enter Try.func21, Try.ntmps21
  go_wp2_with fail
  have K1 : Only [] w (w.alloc (.cells #[.int .i64 5, .int .i64 x, .int .i64 f, .bool sh, .slice pa pl pc] 31)) := (Only.refl [] w).alloc _
  have P1 := Lib.hid (H.out.none K1)
  have BX := Lib.hid (Row.made w #[.int .i64 5, .int .i64 x, .int .i64 f, .bool sh, .slice pa pl pc] 31)
  have HBX : Hid (w.heap.size ∉ F ∧ w.heap.size ∉ [q, b1, b2, b3]) := Lib.hid ⟨fun hh => by have := H.out.lt _ (.inl hh); omega, fun hh => by have := H.out.lt _ (.inr hh); omega⟩

  refine (copy_dev P1.out.dev).mono ?_
  rintro _ w2 ⟨pc2, C, rfl, hc, kc, bc⟩
  have D2 := Lib.hid (P1.out.dev.none kc)
  have P2 : Hid (Pair W w2 pc2 C q b1 b2 b3 n D) := Lib.hid ⟨hc, P1.out.rf.nil kc, fun b hb hf => by have := bc b hb; have := P1.out.lt b (.inr hf); omega, P1.out.rge⟩
  have FC : Hid (∀ b ∈ F, b ∉ C) := Lib.hid (fun b hb hf => by have := bc b hf; have := P1.out.lt b (.inl hb); omega)
  have FR : Hid (∀ b ∈ F, b ∉ [q, b1, b2, b3]) := Lib.hid P1.out.dj
  clear hc kc bc P1
  go_wp2_with fail
  have Q3 : Hid (Row (w2.alloc (.cells #[.int .u8 1, .int .u8 2, .int .u8 3] 5)) w2.heap.size #[.int .u8 1, .int .u8 2, .int .u8 3] 5) := Lib.hid (Row.made _ _ _)
  have D3 := Lib.hid (D2.out.none ((Only.refl [] w2).alloc (.cells #[.int .u8 1, .int .u8 2, .int .u8 3] 5)))
  have P3 := Lib.hid (P2.out.none ((Only.refl [] w2).alloc (.cells #[.int .u8 1, .int .u8 2, .int .u8 3] 5)))
  have NF : Hid (w2.heap.size ∉ F) := Lib.hid (fun hh => by have := D2.out.lt _ hh; omega)
  refine (crash_dev D3.out (ap := some ⟨w2.heap.size, 0, none⟩) (m := 3) (cp := 3) (pk := [1, 2, 3]) rfl (.inr ⟨w2.heap.size, 0, 3, rfl, fun i hi => ?_⟩) ?_ ?_).mono ?_
  · rw [Q3.out.cell, Nat.zero_add]
    rcases (by simp at hi; omega : i = 0 ∨ i = 1 ∨ i = 2) with rfl | rfl | rfl <;> rfl
  · intro x hx
    simp only [List.mem_cons, List.not_mem_nil, or_false] at hx
    omega
  · rintro _ a ha
    cases ha
    exact NF.out
  rintro _ w4 ⟨rfl, hd4, k4⟩
  have D4 := Lib.hid hd4
  have P4 : Hid (Pair W w4 pc2 C q b1 b2 b3 n D) := Lib.hid ⟨P3.out.dev.only k4 FC.out D3.out.ge, P3.out.rf.onlyL k4 FR.out, P3.out.dj, P3.out.rge⟩
  clear hd4 k4 D3 P3 Q3 NF D2 P2
  go_wp2_with fail
  refine (sector_to 200 w4).mono ?_
  rintro _ w5 ⟨rfl, hr5, k5, hs5⟩
  have D5 := Lib.hid (D4.out.none k5)
  have P5 := Lib.hid (P4.out.none k5)
  have B5 := Lib.hid hr5
  clear hr5 k5 hs5 D4 P4
  go_wp2_with fail
  refine (write_total D5.out 0 (secOf 200) (Nat.le_refl _) (fun _ => ⟨B5.out, secOf_is 200⟩) (Nat.le_refl _)).mono ?_
  rintro _ w6 ⟨rfl, hd6, k6⟩
  have D6 := Lib.hid hd6
  have P6 : Hid (Pair W w6 pc2 C q b1 b2 b3 n D) := Lib.hid ⟨P5.out.dev.only k6 FC.out D5.out.ge, P5.out.rf.onlyL k6 FR.out, P5.out.dj, P5.out.rge⟩
  clear hd6 k6 D5 P5
  go_wp2_with fail
  refine (sync_dev D6.out).mono ?_
  rintro _ w7 ⟨rfl, hd7, k7⟩
  have P7 : Hid (Pair W w7 pc2 C q b1 b2 b3 n D) := Lib.hid ⟨P6.out.dev.only k7 FC.out D6.out.ge, P6.out.rf.onlyL k7 FR.out, P6.out.dj, P6.out.rge⟩
  clear hd7 k7 D6 P6
  go_wp2_with fail
  go_ret2
  exact ⟨pc2, C, rfl, P7.out⟩
end Go.Proofs.Ytiheobbollpaaaa
