/- The document's page's bytes. -/
import Derived.Test.YtomhflkjnldeoaaPgF
namespace Go.Proofs.Ytomhflkjnldeoaa
open Go.RowKit Go.ChangeShapes Go.WideShapes Go.ChangeAt
set_option linter.unusedVariables false

set_option maxHeartbeats 2000000 in
theorem rbytes_bad (n : Int) (a : Option Addr) (m c : Nat) (w : World) (hm : m ≠ 500) :
    Calls Try.prog 9 #[.agg #[.int .u64 n, .slice a m c]] w fun e w' => e = .returned (.tuple #[.slice none 0 0, .int .i64 2]) ∧ Below w.heap.size w w' := by
  have d1 : decide ((m : Int) = 500) = false := decide_eq_false (by omega)
  go_enter Try.func9, Try.ntmps9
  go_wp2_with fail
  go_ret2
  exact ⟨rfl, (Below.refl _ _).alloc (Nat.le_refl _) _⟩
set_option maxHeartbeats 2000000 in
theorem rbytes_ok (n : Int) (h0 : 0 ≤ n) (h1 : n < 18446744073709551616) (a : Option Addr) (c : Nat) (xs : List Int) (w : World) (hx : xs.length = 500) (hi : Ints .u8 w (.slice a 500 c) xs) (hb : IsBy xs) :
    Calls Try.prog 9 #[.agg #[.int .u64 n, .slice a 500 c]] w (BytesPost n xs w) := by
  have H0 := Lib.hid h0
  have H1 := Lib.hid h1
  have HI := Lib.hid hi
  have HB := Lib.hid hb
  have HX := Lib.hid hx
  clear h0 h1 hi hb hx
  go_enter Try.func9, Try.ntmps9
  go_wp2_with fail
  have BA : Hid (Below w.heap.size w (w.alloc (Obj.cells #[Value.int IntKind.u64 n, Value.slice a 500 c] 25)).drew) := Lib.hid (((Below.refl _ _).alloc (Nat.le_refl _) _).drew)
  go_region_law (first
    | (refine step_append_eq rfl (.tmp 12) (.tmp 14) 23 rfl v1 (.slice a 500 c) (.slice (some ⟨g, 0, none⟩) 508 cc) w2 (by simp [Act.eval, Act.put]) (by simp [Act.eval, Act.put]) hrun ?_)
    | (go_simp; go_at_call 28; refine (fixed8_any n H0.out H1.out _).mono ?_; rintro _ w1 ⟨v1, rfl, hv1, hb1⟩; have l1 : w1.cell? ⟨w.heap.size, 1, none⟩ = some (.slice a 500 c) := (hb1.cell (p := ⟨w.heap.size, 1, none⟩) (by simp [go_sem])).trans (by simp [go_sem]); obtain ⟨g, cc, w2, hrun, ho2, hb2, hg2⟩ := joined BA.out hv1 hb1 a 500 c xs (HI.out.below' ((BA.out.trans (hb1.mono BA.out.size)))) HX.out (by omega) (by omega); have HO := Lib.hid ho2; have HB2 := Lib.hid hb2; have HG := Lib.hid hg2; clear hv1 hb1 ho2 hb2 hg2))
  all_goals
    have RI : Hid (Ints .u8 w2 (.slice (some ⟨g, 0, none⟩) 508 cc) (restB n xs)) := Lib.hid (ints_own HO.out)
    have su := rsum_any (some ⟨g, 0, none⟩) 508 cc (restB n xs) w2 (by rw [restB_len, HX.out]) RI.out (restB_by HB.out) (by omega)
    have PL := Lib.hid (sumI_lt (restB n xs))
    obtain ⟨S, hS⟩ : ∃ S, sumI (restB n xs) = S := ⟨_, rfl⟩
    rw [hS] at PL su
    have SU := Lib.hid su
    have HS := Lib.hid hS
    clear l1 hrun hS su
    go_wp2_with fail
    refine SU.out.mono ?_
    rintro _ w3 ⟨rfl, hw3⟩
    subst w3
    have ws : (S : Int) % 18446744073709551616 = (S : Int) := by have := PL.out; omega
    go_wp2_with fail
    refine (fixed4_any S (Int.natCast_nonneg _) (by have := PL.out; omega) w2).mono ?_
    rintro _ w4 ⟨v4, rfl, hv4, hb4⟩
    obtain ⟨g5, c5, w5, hrun5, ho5, hb5, hg5⟩ := joined HB2.out hv4 hb4 (some ⟨g, 0, none⟩) 508 cc (restB n xs) (RI.out.below' hb4) (by rw [restB_len, HX.out]) (by omega) (by omega)
    have HO5 := Lib.hid ho5
    have HB5 := Lib.hid hb5
    have HG5 := Lib.hid hg5
    clear hv4 hb4 ho5 hb5 hg5
    go_wp2_with (at_builtin; refine wpList_append_eq rfl (.tmp 20) (.tmp 21) 23 rfl v4 (.slice (some ⟨g, 0, none⟩) 508 cc) (.slice (some ⟨g5, 0, none⟩) 512 c5) w5 rfl rfl hrun5 ?_)
    go_ret2
    exact ⟨g5, c5, rfl, by have := HO5.out; rw [← HS.out] at this; exact this, HB5.out, HG5.out⟩
end Go.Proofs.Ytomhflkjnldeoaa
