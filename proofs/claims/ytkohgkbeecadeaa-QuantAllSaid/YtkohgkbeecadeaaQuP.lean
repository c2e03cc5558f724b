/- lent, kept, count. -/
import Derived.Test.YtkohgkbeecadeaaQuO
namespace Go.Proofs.Ytkohgkbeecadeaa
open Go.RowKit Go.ChangeShapes Go.WideShapes Go.ChangeAt
set_option linter.unusedVariables false

theorem infoU64 : (Try.prog.info? 22).map (fun i => (i.zero, i.size, i.bytes)) = some (some (.int .u64 0), 1, 8) := by kernel_rfl
theorem one_u64 (xs : List Int) : ∀ u ∈ xs.map (Value.int .u64), u.oneCell' = true := by
  intro u hu
  obtain ⟨x, _, rfl⟩ := List.mem_map.1 hu
  rfl
theorem src_of_ints {w : World} {v : Value} {xs : List Int} {n : Nat} (h : Ints .u64 w v xs) (hn : xs.length = n) (h0 : 0 < n) : SrcOf w v n 1 (xs.map (Value.int .u64)) := by
  obtain ⟨b, off, cap, rfl, hc⟩ := h.shape (by omega)
  subst hn
  refine .inr ⟨_, cap, rfl, by simp, fun j u hj => ?_⟩
  rw [List.getElem?_map, Option.map_eq_some_iff] at hj
  obtain ⟨z, hz, rfl⟩ := hj
  have hlt := (List.getElem?_eq_some_iff.1 hz).1
  rw [add_plain, hc j hlt, hz]; rfl

set_option maxHeartbeats 1000000 in
theorem lent_any (a : Option Addr) (n c : Nat) (xs : List Int) (w : World) (hl : xs.length = n) (hsrc : SrcOf w (.slice a n c) n 1 (xs.map (Value.int .u64))) (hn : n ≤ 5000) :
    Calls Try.prog 16 #[.slice a n c] w fun e w' => ∃ g cap, e = .returned (.slice (some ⟨g, 0, none⟩) n cap) ∧ n + 1 ≤ cap ∧ cap ≤ 9223372036854775807 ∧ w.heap.size ≤ g ∧ g < w'.heap.size ∧ Ints .u64 w' (.slice (some ⟨g, 0, none⟩) n cap) xs ∧ w'.cell? ⟨g, n, none⟩ = some (.int .u64 77) ∧ Below w.heap.size w w' := by
  have L := Lib.hid hl
  have S := Lib.hid hsrc
  clear hl hsrc
  obtain ⟨i0, hi, hz0, hz1, hz2⟩ := info_parts infoU64
  go_enter Try.func16, Try.ntmps16
  go_wp2_with (at_builtin; refine wpList_append_src rfl (.tmp 3) (.tmp 4) 36 rfl w.heap.size 22 i0 (.int .u64 0) 1 8 Try.underlying36 hi hz0 hz1 hz2 rfl (by decide) _ 0 [] rfl (World.ownsRow_made w #[] 0 (Nat.le_refl _) (by decide) rfl) _ n (xs.map (Value.int .u64)) rfl ?s1 ?s2 ?s3 ?s4 ?s5 ?s6)
  case s1 => exact S.out.below ((Below.refl _ _).alloc (Nat.le_refl _) _)
  case s2 => exact one_u64 xs
  case s3 => unfold maxLen; omega
  case s4 => omega
  case s5 => simp
  case s6 =>
    intro v1 w1 hown1 hg1
    have b1 : Below w.heap.size w w1 := ((Below.refl _ _).alloc (Nat.le_refl _) _).grown hg1 (by simp) (by simp [Value.ownBlock])
    have O1 := Lib.hid hown1
    have B1 := Lib.hid b1
    clear hown1 hg1 b1
    go_wp2_with (at_builtin; refine wpList_append_src rfl (.tmp 5) (.tmp 6) 36 rfl w.heap.size 22 i0 (.int .u64 0) 1 8 Try.underlying36 hi hz0 hz1 hz2 rfl (by decide) _ n (xs.map (Value.int .u64)) rfl (O1.out.alloc _) _ 1 [.int .u64 77] rfl ?s1 ?s2 ?s3 ?s4 ?s5 ?s6)
    case s1 => exact .inr ⟨_, _, rfl, rfl, fun q u hq => by rcases q with _ | q <;> simp at hq <;> subst hq <;> simp [go_sem]⟩
    case s2 => simp [Value.oneCell']
    case s3 => unfold maxLen; omega
    case s4 => omega
    case s5 => have := B1.out.size; simp; omega
    case s6 =>
      intro v2 w2 hown2 hg2
      obtain ⟨g, cap, rfl, gb, gl, gc, gm, gi, gt⟩ := ints_of_own hown2 L.out (by omega)
      have b2 : Below w.heap.size w w2 := (B1.out.alloc B1.out.size _).grown hg2 (by have := B1.out.size; simp; omega) (fun k hk => (O1.out.lt k hk).1)
      have t1 := gt 0 (by simp)
      have F := Lib.hid (And.intro gi (And.intro (show w2.cell? ⟨g, n, none⟩ = some (.int .u64 77) by simpa using t1) b2))
      unfold maxLen at gm
      clear hown2 hg2 gi gt t1 b2
      go_wp2_with fail
      go_ret
      exact ⟨g, cap, rfl, gc, by omega, gb, gl, F.out.1, F.out.2.1, F.out.2.2⟩

set_option maxHeartbeats 1000000 in
theorem kept_any (g cap n c : Nat) (a : Option Addr) (xs : List Int) (w : World) (hl : xs.length = n) (h1 : Ints .u64 w (.slice (some ⟨g, 0, none⟩) n cap) xs) (h2 : Ints .u64 w (.slice a n c) xs) (hc : n + 1 ≤ cap) (hm : cap ≤ 9223372036854775807) (h77 : w.cell? ⟨g, n, none⟩ = some (.int .u64 77)) :
    Calls Try.prog 19 #[.slice (some ⟨g, 0, none⟩) n cap, .slice a n c] w fun e w' => e = .returned (.bool true) ∧ ∃ q, w' = w.drewN q := by
  have L := Lib.hid hl
  have H1 := Lib.hid h1
  have H2 := Lib.hid h2
  clear hl h1 h2
  go_enter Try.func19, Try.ntmps19
  go_wp2_with fail
  go_loopw [6] (fun i wr => ∃ k : Nat, k ≤ n ∧ i = .int .i64 k ∧ ∃ q, wr = w.drewN q) (fun i _ => n - (intOf i).toNat)
  case atStart => exact ⟨0, Nat.zero_le _, rfl, 0, rfl⟩
  case round =>
    obtain ⟨k, hk, rfl, q, rfl⟩ := hrel
    by_cases hlt : k < n
    · obtain ⟨b1, o1, c1, e1, x1⟩ := H1.out.shape (by have := L.out; omega)
      obtain ⟨b2, o2, c2, e2, x2⟩ := H2.out.shape (by have := L.out; omega)
      have y1 := x1 k (by have := L.out; omega)
      have y2 := x2 k (by have := L.out; omega)
      simp only [Value.slice.injEq, Option.some.injEq, Addr.mk.injEq, and_true] at e1 e2
      obtain ⟨⟨rfl, rfl⟩, -, rfl⟩ := e1
      obtain ⟨rfl, -, rfl⟩ := e2
      rw [Nat.zero_add] at y1
      clear x1 x2
      generalize xs[k]?.getD 0 = z at y1 y2
      go_wp2
      go_quiet (fail)
      go_wp2
      go_roundw
      case rel => exact ⟨k + 1, by omega, by go_num, _, rfl⟩
      case measure => simp [intOf]; omega
    · obtain rfl : n = k := by omega
      have y : (w.drewN q).cell? ⟨g, n, none⟩ = some (.int .u64 77) := h77
      go_wp2
      go_ret
      exact ⟨rfl, _, rfl⟩

set_option maxHeartbeats 1000000 in
theorem count_any (n c : Nat) (a : Option Addr) (xs : List Int) (x : Int) (w : World) (hl : xs.length = n) (h1 : Ints .u64 w (.slice a n c) xs) (hn : n ≤ 5000) :
    Calls Try.prog 23 #[.slice a n c, .int .u64 x] w fun e w' => e = .returned (.int .i64 (xs.count x : Nat)) ∧ w' = w := by
  have L := Lib.hid hl
  have H1 := Lib.hid h1
  clear hl h1
  go_enter Try.func23, Try.ntmps23
  go_wp2_with fail
  go_loop [5, 6] (fun s i => ∃ k : Nat, k ≤ n ∧ i = .int .i64 k ∧ s = .int .i64 ((xs.take k).count x : Nat)) (fun _ i => n - (intOf i).toNat)
  case atStart => exact ⟨0, Nat.zero_le _, rfl, by simp⟩
  case round =>
    obtain ⟨k, hk, rfl, rfl⟩ := hrel
    have hle : (xs.take k).count x ≤ 5000 := Nat.le_trans List.count_le_length (by rw [List.length_take]; omega)
    by_cases hlt : k < n
    · obtain ⟨b1, o1, c1, e1, x1⟩ := H1.out.shape (by have := L.out; omega)
      have y1 := x1 k (by have := L.out; omega)
      simp only [Value.slice.injEq] at e1
      obtain ⟨rfl, -, rfl⟩ := e1
      clear x1
      have hs : (xs.take (k + 1)).count x = (xs.take k).count x + if xs[k]?.getD 0 = x then 1 else 0 := by
        have hk' : k < xs.length := by have := L.out; omega
        rw [List.take_add_one, List.getElem?_eq_getElem hk', List.count_append]
        simp [List.count_cons]
      generalize xs[k]?.getD 0 = z at y1 hs
      generalize (xs.take k).count x = d at hle hs ⊢
      by_cases he : z = x
      · subst he
        rw [if_pos rfl] at hs
        have HS := Lib.hid hs
        clear hs
        go_wp2
        go_round
        case rel => exact ⟨k + 1, by omega, by go_num, by rw [HS.out]; go_num⟩
        case measure => simp [intOf]; omega
      · rw [if_neg he] at hs
        have he' : (z == x) = false := by simpa using he
        have HS := Lib.hid hs
        clear hs
        go_wp2
        go_round
        case rel => exact ⟨k + 1, by omega, by go_num, by rw [HS.out]; rfl⟩
        case measure => simp [intOf]; omega
    · obtain rfl : n = k := by omega
      have ht : xs.take n = xs := List.take_of_length_le (by rw [L.out]; exact Nat.le_refl _)
      rw [ht]
      have HT := Lib.hid ht
      clear ht hle
      go_wp2
      go_ret
      exact ⟨rfl, rfl⟩
end Go.Proofs.Ytkohgkbeecadeaa
