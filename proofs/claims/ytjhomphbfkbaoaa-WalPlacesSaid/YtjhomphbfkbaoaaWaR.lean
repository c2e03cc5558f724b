/- wal's law: done, known. -/
import Derived.Test.YtjhomphbfkbaoaaWaQ
namespace Go.Proofs.Ytjhomphbfkbaoaa
open Go.RowKit Go.ChangeShapes Go.WideShapes Go.ChangeAt
open Go.Proofs.Ytjhomphbfkbaoaa.dk (Dk Dev new_dev newD calm_new Calm)
set_option linter.unusedVariables false

theorem results_rec {fn : Func} {p : Tmp} (h : fn.results = #[.cell p 43]) (tmps : Array Value) (w : World) (g : Nat) (R : Array Value) (hR : R.size = 15) (hp : tmps.getD p undef = .pointer (some ⟨g, 0, none⟩)) (hg : Row w g R 43) : (results fn tmps).run Try.prog w = .ok (.agg R) w := by
  have hp' : tmps[p]?.getD undef = .pointer (some ⟨g, 0, none⟩) := by simpa using hp
  simp only [results, h]
  simp [Sem.run_bind, hp', asAddr, Result.andThen, run_loadVar_row w g _ _ _ _ _ hg Try.underlying43 rfl (by rw [recSize, hR])]
set_option maxHeartbeats 4000000 in
theorem done_any (txn : Int) (w : World) : Calls Try.prog 18 #[.int .u64 txn] w fun e w' => e = .returned (.agg #[Value.int .i64 4, .int .u64 0, .int .u32 0, .int .u64 txn, .int .u32 0, .int .u16 0, .slice none 0 0, .slice none 0 0, .slice none 0 0, .int .u64 0, .int .u64 0, .bool false, .int .u64 0, .slice none 0 0, .slice none 0 0]) ∧ Only [] w w' := by
  go_enter Try.func18, Try.ntmps18
  go_wp2_with fail
  refine bodyPost_ret (results_rec rfl _ _ w.heap.size (recR 4 0 0 txn 0 0 (.slice none 0 0) (.slice none 0 0)) rfl rfl ?_) rfl ?_
  · exact Row.made _ _ _
  · exact ⟨rfl, (Only.refl [] w).alloc _⟩
theorem append_done {W w : World} {p q : Nat} {D : Dk} {F : List Nat} {L : Lg} {tail : Value} {zs : List Int} (h : LgAt W w p q D F L tail) (ht : TailAt W w q F tail zs) (ok : LgOk L) (hd : L.down = false) (txn : Int) (h4 : 0 < txn) (h5 : txn < 18446744073709551616) (hz : zs.length ≤ 1000000) (hl : 27 ≤ leftL L) :
    Calls Try.prog 12 #[.pointer (some ⟨q, 0, none⟩), .agg (recR 4 0 0 txn 0 0 (.slice none 0 0) (.slice none 0 0))] w (AppPost W p q D F L tail zs (formD L.end_ L.ep txn) w) := by
  have he := ok.e0
  have hs := ok.s0
  have hn := ok.n0
  have hlim : limL L ≤ 1200000000000000 := by unfold limL; omega
  refine (append_on (b := formD L.end_ L.ep txn) h ht ok hd 4 txn 0 0 (.slice none 0 0) (.slice none 0 0) (by rw [formD_len]; omega) (by rw [formD_len]; omega) hz fun y _ => bytes_done L.end_ L.ep txn y he.1 (by omega) ok.p0.1 ok.p0.2 h4 h5).mono fun e w' h' => ?_
  rw [if_neg (by rw [formD_len]; omega)] at h'
  exact h'
def KnownPost (w : World) (e : Ending) (w' : World) : Prop := e = .returned (.bool true) ∧ Below w.heap.size w w'
set_option maxRecDepth 100000 in
set_option maxHeartbeats 8000000 in
theorem known_any (w : World) : Calls Try.prog 7 #[] w (KnownPost w) := by
  have NW := Lib.hid (new_dev (Below.refl w.heap.size w) 20 20 (by omega) (by omega) (by omega) (by omega))
  unfold dk.NewTo at NW
  go_enter Try.func7, Try.ntmps7
  go_wp2_with fail
  refine NW.out.mono ?_
  rintro _ w1 ⟨p, F, rfl, d1, k1, _⟩
  have MK : Hid (Calls Try.prog 9 #[.pointer (some ⟨p, 0, none⟩), .int .i64 0, .int .i64 16] w1 (MakePost w p F (newD 20 20) 0 16 w1)) := Lib.hid (make_on d1 (calm_new 20 20) rfl 0 16 ⟨by decide, by decide, by decide, by decide, by decide⟩)
  unfold MakePost at MK
  clear d1 k1 NW
  go_wp2_with fail
  refine MK.out.mono ?_
  rintro _ w2 ⟨D2, rfl, l2, _, _, _, k2⟩
  generalize w1.heap.size = q at *
  have L2 := Lib.hid l2
  have OK2 : Hid (LgOk (madeL 0 16)) := Lib.hid ⟨by decide, by decide, by decide, by decide⟩
  have LF : Hid (Calls Try.prog 10 #[.pointer (some ⟨q, 0, none⟩)] w2 fun e w' => e = .returned (.int .i64 1664) ∧ Below w2.heap.size w2 w') := Lib.hid (left_on l2.row OK2.out)
  clear l2 k2 MK
  go_wp2_with fail
  refine LF.out.mono ?_
  rintro _ w3 ⟨rfl, b3⟩
  have L3 := Lib.hid (L2.out.only ((Only.refl [] w2).below b3) (by simp))
  clear b3 LF L2
  go_wp2_with fail
  refine (done_any 7 w3).mono ?_
  rintro _ w4 ⟨rfl, k4⟩
  have L4 := Lib.hid (L3.out.only k4 (by simp))
  have T4 : Hid (TailAt w w4 q F (.slice none 0 0) []) := Lib.hid ⟨World.ownsRow_nil _ _ _ _, fun g hg => by simp [Value.ownBlock] at hg⟩
  have AP : Hid (Calls Try.prog 12 #[.pointer (some ⟨q, 0, none⟩), .agg (recR 4 0 0 7 0 0 (.slice none 0 0) (.slice none 0 0))] w4 fun e w' => ∃ t, e = .returned (.tuple #[.int .u64 52, .int .i64 0]) ∧ LgAt w w' p q D2 F (endL (madeL 0 16) 27) t ∧ TailAt w w' q F t (formD 52 1 7)) := Lib.hid ((append_done L4.out T4.out OK2.out rfl 7 (by decide) (by decide) (by decide) (by decide)).mono fun e w' ⟨t, h1, h2, h3, _⟩ => ⟨t, h1, by rw [formD_len] at h2; exact h2, h3⟩)
  clear k4 L3
  go_wp2_with fail
  refine AP.out.mono ?_
  rintro _ w5 ⟨t5, rfl, l5, ta5⟩
  have L5 := Lib.hid l5
  have T5 := Lib.hid ta5
  clear l5 ta5 AP L4 T4
  go_wp2_with fail
  refine (done_any 8 w5).mono ?_
  rintro _ w6 ⟨rfl, k6⟩
  have L6 := Lib.hid (L5.out.only k6 (by simp))
  have T6 := Lib.hid (T5.out.only k6 (by simp))
  have AP : Hid (Calls Try.prog 12 #[.pointer (some ⟨q, 0, none⟩), .agg (recR 4 0 0 8 0 0 (.slice none 0 0) (.slice none 0 0))] w6 fun e w' => ∃ t, e = .returned (.tuple #[.int .u64 79, .int .i64 0]) ∧ LgAt w w' p q D2 F (endL (endL (madeL 0 16) 27) 27) t ∧ TailAt w w' q F t (formD 52 1 7 ++ formD 79 1 8)) := Lib.hid ((append_done L6.out T6.out ⟨by decide, by decide, by decide, by decide⟩ rfl 8 (by decide) (by decide) (by rw [formD_len]; omega) (by decide)).mono fun e w' ⟨t, h1, h2, h3, _⟩ => ⟨t, h1, by rw [formD_len] at h2; exact h2, h3⟩)
  clear k6 L5 T5
  go_wp2_with fail
  refine AP.out.mono ?_
  rintro _ w7 ⟨t7, rfl, l7, ta7⟩
  have RD : Hid (Calls Try.prog 15 #[.pointer (some ⟨q, 0, none⟩), .int .u64 79] w7 fun e w' => e = .returned (.tuple #[.agg #[Value.int .i64 4, .int .u64 79, .int .u32 1, .int .u64 8, .int .u32 0, .int .u16 0, .slice none 0 0, .slice none 0 0, .slice none 0 0, .int .u64 0, .int .u64 0, .bool false, .int .u64 0, .slice none 0 0, .slice none 0 0], .int .u64 106, .int .i64 0]) ∧ Below w7.heap.size w7 w') := Lib.hid (lread_tail l7 ta7 rfl 79 1 8 52 27 [] (by decide) (by decide) (by decide) (by decide) (by decide) (by decide) (by decide) (by decide) (by decide) (by decide) (by decide) (by decide) (by rw [List.length_append, formD_len, formD_len]; omega) (by rw [List.append_nil, List.drop_left' (formD_len _ _ _)]))
  have B7 := Lib.hid l7.dev.bl
  clear l7 ta7 L6 T6 AP
  go_wp2_with fail
  refine RD.out.mono ?_
  rintro _ w8 ⟨rfl, b8⟩
  have B8 := Lib.hid (B7.out.trans (b8.mono B7.out.size))
  clear b8 RD
  go_wp2_with fail
  go_ret
  exact ⟨rfl, B8.out.alloc B8.out.size _⟩
end Go.Proofs.Ytjhomphbfkbaoaa
