/- Sessions: New, how, done (printed by gen_sso.py). -/
import Derived.Test.YtcgmgdjeamidlaaGreatSsN
namespace Go.Proofs.YtcgmgdjeamidlaaGreat
open Go.RowKit Go.ChangeShapes Go.WideShapes Go.ChangeAt
set_option linter.unusedVariables false
set_option linter.unusedSimpArgs false

abbrev tSs : TypeId := 74
abbrev tHow : TypeId := 221
abbrev tDo : TypeId := 162
theorem sess_new (base : Value) (hb : ∃ t v, base = .iface t v) (w : World) : Calls Tryz.prog 13 #[base] w fun e w' => e = .returned (.pointer (some ⟨w.heap.size, 0, none⟩)) ∧ w' = w.alloc (.cells #[base, .int .u64 0] tSs) := by
  obtain ⟨t, v, rfl⟩ := hb
  go_enter Tryz.func13, Tryz.ntmps13
  go_wp2_with fail
  go_ret
  exact ⟨rfl, rfl⟩
def howL : List (Int × Value) := [(1, .func (.func 141) #[] #[]), (2, .func (.func 142) #[] #[]), (3, .func (.func 143) #[] #[]), (4, .func (.func 144) #[] #[]), (5, .func (.func 145) #[] #[]), (6, .func (.func 146) #[] #[]), (7, .func (.func 147) #[] #[]), (8, .func (.func 148) #[] #[]), (9, .func (.func 149) #[] #[]), (10, .func (.func 150) #[] #[]), (11, .func (.func 151) #[] #[])]
theorem zeroDo (w : World) : (zeroValue tDo).run Tryz.prog w = .ok .nilFunc w := by kernel_rfl
set_option maxRecDepth 100000 in
set_option maxHeartbeats 4000000 in
theorem how_on (k : Int) (w : World) : Calls Tryz.prog 77 #[.int .i64 k] w fun e w' => e = .returned ((lk k howL).getD .nilFunc) ∧ Below w.heap.size w w' := by
  have hmm := @run_makeMap Tryz.prog
  have M0 := Lib.hid (MapAt.made w .i64)
  have P0 : Hid (Only [w.heap.size] w (w.alloc (.map #[] 0))) := Lib.hid ((Only.refl _ w).alloc _)
  go_enter Tryz.func77, Tryz.ntmps77
  go_wp2_with (refine wpList_insert_at _ rfl (.tmp 3) (.const (.int .i64 1)) (.func 141) tHow rfl 47 tDo .i64 Tryz.underlying221 Tryz.underlying47 _ [] rfl M0.out 1 (.func (.func 141) #[] #[]) rfl rfl ?_)
  intro m1 hm1 ho1 hz1
  have N1 := Lib.hid hm1
  have P1 := Lib.hid ((P0.out).trans ho1 (by simp))
  clear hm1 ho1 hz1
  go_wp2_with (refine wpList_insert_at _ rfl (.tmp 3) (.const (.int .i64 2)) (.func 142) tHow rfl 47 tDo .i64 Tryz.underlying221 Tryz.underlying47 _ (up 1 (.func (.func 141) #[] #[]) []) rfl N1.out 2 (.func (.func 142) #[] #[]) rfl rfl ?_)
  intro m2 hm2 ho2 hz2
  have N2 := Lib.hid hm2
  have P2 := Lib.hid ((P1.out).trans ho2 (by simp))
  clear hm2 ho2 hz2
  go_wp2_with (refine wpList_insert_at _ rfl (.tmp 3) (.const (.int .i64 3)) (.func 143) tHow rfl 47 tDo .i64 Tryz.underlying221 Tryz.underlying47 _ (up 2 (.func (.func 142) #[] #[]) (up 1 (.func (.func 141) #[] #[]) [])) rfl N2.out 3 (.func (.func 143) #[] #[]) rfl rfl ?_)
  intro m3 hm3 ho3 hz3
  have N3 := Lib.hid hm3
  have P3 := Lib.hid ((P2.out).trans ho3 (by simp))
  clear hm3 ho3 hz3
  go_wp2_with (refine wpList_insert_at _ rfl (.tmp 3) (.const (.int .i64 4)) (.func 144) tHow rfl 47 tDo .i64 Tryz.underlying221 Tryz.underlying47 _ (up 3 (.func (.func 143) #[] #[]) (up 2 (.func (.func 142) #[] #[]) (up 1 (.func (.func 141) #[] #[]) []))) rfl N3.out 4 (.func (.func 144) #[] #[]) rfl rfl ?_)
  intro m4 hm4 ho4 hz4
  have N4 := Lib.hid hm4
  have P4 := Lib.hid ((P3.out).trans ho4 (by simp))
  clear hm4 ho4 hz4
  go_wp2_with (refine wpList_insert_at _ rfl (.tmp 3) (.const (.int .i64 5)) (.func 145) tHow rfl 47 tDo .i64 Tryz.underlying221 Tryz.underlying47 _ (up 4 (.func (.func 144) #[] #[]) (up 3 (.func (.func 143) #[] #[]) (up 2 (.func (.func 142) #[] #[]) (up 1 (.func (.func 141) #[] #[]) [])))) rfl N4.out 5 (.func (.func 145) #[] #[]) rfl rfl ?_)
  intro m5 hm5 ho5 hz5
  have N5 := Lib.hid hm5
  have P5 := Lib.hid ((P4.out).trans ho5 (by simp))
  clear hm5 ho5 hz5
  go_wp2_with (refine wpList_insert_at _ rfl (.tmp 3) (.const (.int .i64 6)) (.func 146) tHow rfl 47 tDo .i64 Tryz.underlying221 Tryz.underlying47 _ (up 5 (.func (.func 145) #[] #[]) (up 4 (.func (.func 144) #[] #[]) (up 3 (.func (.func 143) #[] #[]) (up 2 (.func (.func 142) #[] #[]) (up 1 (.func (.func 141) #[] #[]) []))))) rfl N5.out 6 (.func (.func 146) #[] #[]) rfl rfl ?_)
  intro m6 hm6 ho6 hz6
  have N6 := Lib.hid hm6
  have P6 := Lib.hid ((P5.out).trans ho6 (by simp))
  clear hm6 ho6 hz6
  go_wp2_with (refine wpList_insert_at _ rfl (.tmp 3) (.const (.int .i64 7)) (.func 147) tHow rfl 47 tDo .i64 Tryz.underlying221 Tryz.underlying47 _ (up 6 (.func (.func 146) #[] #[]) (up 5 (.func (.func 145) #[] #[]) (up 4 (.func (.func 144) #[] #[]) (up 3 (.func (.func 143) #[] #[]) (up 2 (.func (.func 142) #[] #[]) (up 1 (.func (.func 141) #[] #[]) [])))))) rfl N6.out 7 (.func (.func 147) #[] #[]) rfl rfl ?_)
  intro m7 hm7 ho7 hz7
  have N7 := Lib.hid hm7
  have P7 := Lib.hid ((P6.out).trans ho7 (by simp))
  clear hm7 ho7 hz7
  go_wp2_with (refine wpList_insert_at _ rfl (.tmp 3) (.const (.int .i64 8)) (.func 148) tHow rfl 47 tDo .i64 Tryz.underlying221 Tryz.underlying47 _ (up 7 (.func (.func 147) #[] #[]) (up 6 (.func (.func 146) #[] #[]) (up 5 (.func (.func 145) #[] #[]) (up 4 (.func (.func 144) #[] #[]) (up 3 (.func (.func 143) #[] #[]) (up 2 (.func (.func 142) #[] #[]) (up 1 (.func (.func 141) #[] #[]) []))))))) rfl N7.out 8 (.func (.func 148) #[] #[]) rfl rfl ?_)
  intro m8 hm8 ho8 hz8
  have N8 := Lib.hid hm8
  have P8 := Lib.hid ((P7.out).trans ho8 (by simp))
  clear hm8 ho8 hz8
  go_wp2_with (refine wpList_insert_at _ rfl (.tmp 3) (.const (.int .i64 9)) (.func 149) tHow rfl 47 tDo .i64 Tryz.underlying221 Tryz.underlying47 _ (up 8 (.func (.func 148) #[] #[]) (up 7 (.func (.func 147) #[] #[]) (up 6 (.func (.func 146) #[] #[]) (up 5 (.func (.func 145) #[] #[]) (up 4 (.func (.func 144) #[] #[]) (up 3 (.func (.func 143) #[] #[]) (up 2 (.func (.func 142) #[] #[]) (up 1 (.func (.func 141) #[] #[]) [])))))))) rfl N8.out 9 (.func (.func 149) #[] #[]) rfl rfl ?_)
  intro m9 hm9 ho9 hz9
  have N9 := Lib.hid hm9
  have P9 := Lib.hid ((P8.out).trans ho9 (by simp))
  clear hm9 ho9 hz9
  go_wp2_with (refine wpList_insert_at _ rfl (.tmp 3) (.const (.int .i64 10)) (.func 150) tHow rfl 47 tDo .i64 Tryz.underlying221 Tryz.underlying47 _ (up 9 (.func (.func 149) #[] #[]) (up 8 (.func (.func 148) #[] #[]) (up 7 (.func (.func 147) #[] #[]) (up 6 (.func (.func 146) #[] #[]) (up 5 (.func (.func 145) #[] #[]) (up 4 (.func (.func 144) #[] #[]) (up 3 (.func (.func 143) #[] #[]) (up 2 (.func (.func 142) #[] #[]) (up 1 (.func (.func 141) #[] #[]) []))))))))) rfl N9.out 10 (.func (.func 150) #[] #[]) rfl rfl ?_)
  intro m10 hm10 ho10 hz10
  have N10 := Lib.hid hm10
  have P10 := Lib.hid ((P9.out).trans ho10 (by simp))
  clear hm10 ho10 hz10
  go_wp2_with (refine wpList_insert_at _ rfl (.tmp 3) (.const (.int .i64 11)) (.func 151) tHow rfl 47 tDo .i64 Tryz.underlying221 Tryz.underlying47 _ (up 10 (.func (.func 150) #[] #[]) (up 9 (.func (.func 149) #[] #[]) (up 8 (.func (.func 148) #[] #[]) (up 7 (.func (.func 147) #[] #[]) (up 6 (.func (.func 146) #[] #[]) (up 5 (.func (.func 145) #[] #[]) (up 4 (.func (.func 144) #[] #[]) (up 3 (.func (.func 143) #[] #[]) (up 2 (.func (.func 142) #[] #[]) (up 1 (.func (.func 141) #[] #[]) [])))))))))) rfl N10.out 11 (.func (.func 151) #[] #[]) rfl rfl ?_)
  intro m11 hm11 ho11 hz11
  have N11 := Lib.hid hm11
  have P11 := Lib.hid ((P10.out).trans ho11 (by simp))
  clear hm11 ho11 hz11
  have LK : Hid ((lk k (up 11 (.func (.func 151) #[] #[]) (up 10 (.func (.func 150) #[] #[]) (up 9 (.func (.func 149) #[] #[]) (up 8 (.func (.func 148) #[] #[]) (up 7 (.func (.func 147) #[] #[]) (up 6 (.func (.func 146) #[] #[]) (up 5 (.func (.func 145) #[] #[]) (up 4 (.func (.func 144) #[] #[]) (up 3 (.func (.func 143) #[] #[]) (up 2 (.func (.func 142) #[] #[]) (up 1 (.func (.func 141) #[] #[]) [])))))))))))).getD .nilFunc = (lk k howL).getD .nilFunc) := Lib.hid rfl
  have NK : Hid (MapAt m11 w.heap.size .i64 (up 11 (.func (.func 151) #[] #[]) (up 10 (.func (.func 150) #[] #[]) (up 9 (.func (.func 149) #[] #[]) (up 8 (.func (.func 148) #[] #[]) (up 7 (.func (.func 147) #[] #[]) (up 6 (.func (.func 146) #[] #[]) (up 5 (.func (.func 145) #[] #[]) (up 4 (.func (.func 144) #[] #[]) (up 3 (.func (.func 143) #[] #[]) (up 2 (.func (.func 142) #[] #[]) (up 1 (.func (.func 141) #[] #[]) [])))))))))))) := N11
  have BK : Hid (Below w.heap.size w m11) := Lib.hid (P11.out.toBelow (Nat.le_refl _) (by simp))
  clear N1 P1 N2 P2 N3 P3 N4 P4 N5 P5 N6 P6 N7 P7 N8 P8 N9 P9 N10 P10 N11 P11 M0 P0
  generalize (up 11 (.func (.func 151) #[] #[]) (up 10 (.func (.func 150) #[] #[]) (up 9 (.func (.func 149) #[] #[]) (up 8 (.func (.func 148) #[] #[]) (up 7 (.func (.func 147) #[] #[]) (up 6 (.func (.func 146) #[] #[]) (up 5 (.func (.func 145) #[] #[]) (up 4 (.func (.func 144) #[] #[]) (up 3 (.func (.func 143) #[] #[]) (up 2 (.func (.func 142) #[] #[]) (up 1 (.func (.func 141) #[] #[]) []))))))))))) = L at *
  obtain ⟨fv, hfv⟩ : ∃ fv, (lk k howL).getD .nilFunc = fv := ⟨_, rfl⟩
  have FE := Lib.hid hfv
  rw [hfv] at LK
  clear hfv
  go_wp2_with (at_lookup; refine wpList_look_to _ rfl (.tmp 4) (.tmp 5) tHow rfl 47 tDo .i64 Tryz.underlying221 Tryz.underlying47 .nilFunc zeroDo w.heap.size L rfl NK.out k rfl fv LK.out ?_)
  go_ret
  exact ⟨by rw [FE.out]; rfl, BK.out⟩
theorem results_rp_one {fn : Func} {p : Tmp} (h : fn.results = #[.cell p tRp]) (tmps : Array Value) (w : World) (g : Nat) (R : Array Value) (hR : R.size = 9) (hp : tmps.getD p undef = .pointer (some ⟨g, 0, none⟩)) (hg : Row w g R tRp) : (results fn tmps).run Tryz.prog w = .ok (.agg R) w := by
  have hp' : tmps[p]?.getD undef = .pointer (some ⟨g, 0, none⟩) := by simpa using hp
  simp only [results, h]
  simp [Sem.run_bind, hp', asAddr, Result.andThen, run_loadVar_row w g _ _ _ _ _ hg Tryz.underlying41 rfl (by rw [show (Tryz.prog.info? tRp).map (·.size) = some 9 from by kernel_rfl, hR])]
theorem done_ok (m : Int) (w : World) : Calls Tryz.prog 186 #[.int .i64 0, .int .i64 m] w fun e w' => e = .returned (.agg (doneCells m)) ∧ Below w.heap.size w w' := by
  go_enter Tryz.func186, Tryz.ntmps186
  go_wp2_with fail
  refine bodyPost_ret (results_rp_one rfl _ _ w.heap.size (doneCells m) rfl rfl (Row.made w _ _)) rfl ?_
  exact ⟨rfl, (Below.refl _ w).alloc (Nat.le_refl _) _⟩
end Go.Proofs.YtcgmgdjeamidlaaGreat
