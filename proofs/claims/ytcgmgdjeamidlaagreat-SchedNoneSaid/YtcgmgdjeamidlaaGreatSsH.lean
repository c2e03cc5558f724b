/- ReadAsk of a request that says its kind alone. -/
import Derived.Test.YtcgmgdjeamidlaaGreatSsG
namespace Go.Proofs.YtcgmgdjeamidlaaGreat
open Go.RowKit Go.ChangeShapes Go.WideShapes Go.ChangeAt
set_option linter.unusedVariables false
set_option linter.unusedSimpArgs false

theorem results_rq_tmp {fn : Func} {p u : Tmp} (h : fn.results = #[.cell p tRq, .tmp u]) (tmps : Array Value) (w : World) (g : Nat) (R : Array Value) (hR : R.size = 10) (hp : tmps.getD p undef = .pointer (some ⟨g, 0, none⟩)) (hg : Row w g R tRq) : (results fn tmps).run Tryz.prog w = .ok (.tuple #[.agg R, tmps.getD u undef]) w := by
  have hp' : tmps[p]?.getD undef = .pointer (some ⟨g, 0, none⟩) := by simpa using hp
  simp only [results, h]
  simp [Sem.run_bind, hp', asAddr, Result.andThen, run_loadVar_row w g _ _ _ _ _ hg Tryz.underlying50 rfl (by rw [show (Tryz.prog.info? tRq).map (·.size) = some 10 from by kernel_rfl, hR])]
abbrev tMk : TypeId := 218
theorem zeroFn (w : World) : (zeroValue 1).run Tryz.prog w = .ok .nilFunc w := by kernel_rfl
theorem wpList_look_to {P : Program} (w : World) {ops : Array Oper} {rest : List Oper} {o : Oper} {a : Act} {Q : Exit → Act → World → Prop} (hg : o.guard = none) (m x : Operand) (t : TypeId) (hop : o.op = Op.lookup t m x false) (kt et : TypeId) (q : IntKind) (ht : P.underlying t = some (.map kt et)) (hk : P.underlying kt = some (.int q)) (z : Value) (hz : ∀ w, (zeroValue et).run P w = .ok z w)
    (b : Nat) (L : List (Int × Value)) (hm : a.eval m = .map (some b)) (hown : MapAt w b q L) (key : Int) (hx : a.eval x = .int q key) (val : Value) (hv : (lk key L).getD z = val)
    (hK : wpList P ops Q rest (a.put o.dst val) w) : wpList P ops Q (o :: rest) a w :=
  wpList_look_at w hg m x t false hop kt et q ht hk z hz b L hm hown key hx (by rw [if_neg (by simp), hv]; exact hK)
def ReadTo (k : Int) (w : World) (e : Ending) (w' : World) : Prop := e = .returned (.tuple #[.agg (bareCells k), .int .i64 0]) ∧ Below w.heap.size w w'
/-- The readers of ReadAsk, by their kinds. -/
def readL (g1 g4 g5 : Nat) : List (Int × Value) := [(2, .func (.func 129) #[] #[.pointer (some ⟨g1, 0, none⟩), .pointer (some ⟨g5, 0, none⟩)]),
  (3, .func (.func 130) #[] #[.pointer (some ⟨g4, 0, none⟩), .pointer (some ⟨g5, 0, none⟩)]),
  (4, .func (.func 131) #[] #[.pointer (some ⟨g4, 0, none⟩), .pointer (some ⟨g5, 0, none⟩)]),
  (5, .func (.func 132) #[] #[.pointer (some ⟨g4, 0, none⟩), .pointer (some ⟨g5, 0, none⟩)]),
  (6, .func (.func 133) #[] #[.pointer (some ⟨g4, 0, none⟩), .pointer (some ⟨g5, 0, none⟩)]),
  (10, .func (.func 137) #[] #[.pointer (some ⟨g4, 0, none⟩), .pointer (some ⟨g5, 0, none⟩)]),
  (11, .func (.func 139) #[] #[.pointer (some ⟨g4, 0, none⟩), .pointer (some ⟨g5, 0, none⟩)])]
set_option maxRecDepth 100000 in
set_option maxHeartbeats 4000000 in
theorem readask_bare {s : Sl} {w : World} (k : Int) (hk : k = 1 ∨ k = 7 ∨ k = 8 ∨ k = 9) (h : SlRd .u8 w s) (hx : s.xs = [k]) : Calls Tryz.prog 76 #[s.v] w (ReadTo k w) := by
  have HK := Lib.hid hk
  have HS := Lib.hid (And.intro h hx)
  have hmm := @run_makeMap Tryz.prog
  have hmf : ∀ (fn : Fn) (first cap : Array Value) (w : World), (Instr.makeFunc fn first cap).run Tryz.prog w = .ok (.func fn first cap) w := fun _ _ _ _ => rfl
  have NR := Lib.hid fun (y : World) (hy : Below w.heap.size w y) => newrd_on (h.only ((Only.refl [] w).below hy) (by simp))
  have AK := Lib.hid (ask_bare k hk)
  have nf : ∀ w : World, (binOp .neq 1 .nilFunc .nilFunc).run Tryz.prog w = .ok (.bool false) w := fun w => by first | rfl | kernel_rfl
  have wk : IntKind.i64.wrap k = k := IntWalk.i64_in _ (by omega)
  unfold NewRdTo at NR
  unfold AskTo at AK
  rw [hx] at NR
  have B1 : Hid (Below w.heap.size w ((w.alloc (.cells #[s.v] 30)).alloc (.cells (bareCells 0) tRq))) := Lib.hid (((Below.refl _ w).alloc (Nat.le_refl _) _).alloc (by simp) _)
  have R1 : Hid (Row ((w.alloc (.cells #[s.v] 30)).alloc (.cells (bareCells 0) tRq)) w.heap.size #[s.v] 30) := Lib.hid ((Row.made w _ _).only ((Only.refl [] _).alloc _) (by simp))
  have R2 : Hid (Row ((w.alloc (.cells #[s.v] 30)).alloc (.cells (bareCells 0) tRq)) (w.heap.size + 1) (bareCells 0) tRq) := Lib.hid (by
    have h := Row.made (w.alloc (.cells #[s.v] 30)) (bareCells 0) tRq
    rwa [World.size_alloc] at h)
  have ES : Hid (s.v = .slice s.a 1 s.c) := Lib.hid (by unfold Sl.v; rw [hx]; rfl)
  rw [ES.out] at NR B1 R1 R2 ⊢
  clear h hx hk
  go_enter Tryz.func76, Tryz.ntmps76
  go_wp2_with fail
  refine (NR.out _ B1.out).mono ?_
  unfold bareCells at B1 R1 R2
  generalize (w.alloc (.cells #[.slice s.a 1 s.c] 30)).alloc _ = w1 at *
  rintro _ w2 ⟨r, rfl, hr, hb2, hr2⟩
  have O12 : Hid (Only [] w1 w2) := Lib.hid ((Only.refl [] w1).below hb2)
  have HR := Lib.hid (And.intro hr hr2)
  clear hr hb2 hr2 NR
  go_wp2_with fail
  have U8 := Lib.hid (u8_first (x := k) (xs := []) (HR.out.1.below ((Below.refl _ w2).alloc (Nat.le_refl _) (.cells #[.pointer (some ⟨r, 0, none⟩)] 191))) (by rcases HK.out with h | h | h | h <;> omega))
  have R4 := Lib.hid (Row.made w2 #[.pointer (some ⟨r, 0, none⟩)] 191)
  have O24 : Hid (Only [] w2 (w2.alloc (.cells #[.pointer (some ⟨r, 0, none⟩)] 191))) := Lib.hid ((Only.refl [] w2).alloc _)
  unfold U8To at U8
  refine U8.out.mono ?_
  generalize w2.alloc (.cells #[.pointer (some ⟨r, 0, none⟩)] 191) = w3 at *
  rintro _ w4 ⟨rfl, hr4, h4⟩
  have O34 : Hid (Only [r] w3 w4) := Lib.hid h4
  clear hr4 h4 U8
  obtain ⟨g5, hg5⟩ : ∃ g5, w4.heap.size = g5 := ⟨_, rfl⟩
  have G5 := Lib.hid hg5
  have R5 : Hid (Row ((w4.alloc (.cells (bareCells k) tRq)).alloc (.map #[] 0)) g5 (bareCells k) tRq) := Lib.hid (by rw [← hg5]; exact (Row.made w4 _ _).only ((Only.refl [] _).alloc _) (by simp))
  have M5 : Hid (MapAt ((w4.alloc (.cells (bareCells k) tRq)).alloc (.map #[] 0)) (g5 + 1) .i64 []) := Lib.hid (by
    have h := MapAt.made (w4.alloc (.cells (bareCells k) tRq)) .i64
    rw [World.size_alloc, hg5] at h
    exact h)
  have O45 : Hid (Only [] w4 ((w4.alloc (.cells (bareCells k) tRq)).alloc (.map #[] 0))) := Lib.hid (((Only.refl [] w4).alloc _).alloc _)
  unfold bareCells at R5 M5 O45
  go_wp2_with (refine wpList_insert_at _ rfl (.tmp 16) (.const (.int .i64 2)) (.tmp 17) 218 rfl 47 1 .i64 Tryz.underlying218 Tryz.underlying47 _ [] rfl M5.out 2 (.func (.func 129) #[] #[.pointer (some ⟨w.heap.size, 0, none⟩), .pointer (some ⟨g5, 0, none⟩)]) rfl rfl ?_)
  intro m1 hm1 ho1 hz1
  have N1 := Lib.hid hm1
  have P1 := Lib.hid ho1
  clear hm1 ho1 hz1
  go_wp2_with (refine wpList_insert_at _ rfl (.tmp 16) (.const (.int .i64 3)) (.tmp 18) 218 rfl 47 1 .i64 Tryz.underlying218 Tryz.underlying47 _ (up 2 (.func (.func 129) #[] #[.pointer (some ⟨w.heap.size, 0, none⟩), .pointer (some ⟨g5, 0, none⟩)]) []) rfl N1.out 3 (.func (.func 130) #[] #[.pointer (some ⟨w2.heap.size, 0, none⟩), .pointer (some ⟨g5, 0, none⟩)]) rfl rfl ?_)
  intro m2 hm2 ho2 hz2
  have N2 := Lib.hid hm2
  have P2 := Lib.hid ho2
  clear hm2 ho2 hz2
  go_wp2_with (refine wpList_insert_at _ rfl (.tmp 16) (.const (.int .i64 4)) (.tmp 19) 218 rfl 47 1 .i64 Tryz.underlying218 Tryz.underlying47 _ (up 3 (.func (.func 130) #[] #[.pointer (some ⟨w2.heap.size, 0, none⟩), .pointer (some ⟨g5, 0, none⟩)]) (up 2 (.func (.func 129) #[] #[.pointer (some ⟨w.heap.size, 0, none⟩), .pointer (some ⟨g5, 0, none⟩)]) [])) rfl N2.out 4 (.func (.func 131) #[] #[.pointer (some ⟨w2.heap.size, 0, none⟩), .pointer (some ⟨g5, 0, none⟩)]) rfl rfl ?_)
  intro m3 hm3 ho3 hz3
  have N3 := Lib.hid hm3
  have P3 := Lib.hid ho3
  clear hm3 ho3 hz3
  go_wp2_with (refine wpList_insert_at _ rfl (.tmp 16) (.const (.int .i64 5)) (.tmp 20) 218 rfl 47 1 .i64 Tryz.underlying218 Tryz.underlying47 _ (up 4 (.func (.func 131) #[] #[.pointer (some ⟨w2.heap.size, 0, none⟩), .pointer (some ⟨g5, 0, none⟩)]) (up 3 (.func (.func 130) #[] #[.pointer (some ⟨w2.heap.size, 0, none⟩), .pointer (some ⟨g5, 0, none⟩)]) (up 2 (.func (.func 129) #[] #[.pointer (some ⟨w.heap.size, 0, none⟩), .pointer (some ⟨g5, 0, none⟩)]) []))) rfl N3.out 5 (.func (.func 132) #[] #[.pointer (some ⟨w2.heap.size, 0, none⟩), .pointer (some ⟨g5, 0, none⟩)]) rfl rfl ?_)
  intro m4 hm4 ho4 hz4
  have N4 := Lib.hid hm4
  have P4 := Lib.hid ho4
  clear hm4 ho4 hz4
  go_wp2_with (refine wpList_insert_at _ rfl (.tmp 16) (.const (.int .i64 6)) (.tmp 21) 218 rfl 47 1 .i64 Tryz.underlying218 Tryz.underlying47 _ (up 5 (.func (.func 132) #[] #[.pointer (some ⟨w2.heap.size, 0, none⟩), .pointer (some ⟨g5, 0, none⟩)]) (up 4 (.func (.func 131) #[] #[.pointer (some ⟨w2.heap.size, 0, none⟩), .pointer (some ⟨g5, 0, none⟩)]) (up 3 (.func (.func 130) #[] #[.pointer (some ⟨w2.heap.size, 0, none⟩), .pointer (some ⟨g5, 0, none⟩)]) (up 2 (.func (.func 129) #[] #[.pointer (some ⟨w.heap.size, 0, none⟩), .pointer (some ⟨g5, 0, none⟩)]) [])))) rfl N4.out 6 (.func (.func 133) #[] #[.pointer (some ⟨w2.heap.size, 0, none⟩), .pointer (some ⟨g5, 0, none⟩)]) rfl rfl ?_)
  intro m5 hm5 ho5 hz5
  have N5 := Lib.hid hm5
  have P5 := Lib.hid ho5
  clear hm5 ho5 hz5
  go_wp2_with (refine wpList_insert_at _ rfl (.tmp 16) (.const (.int .i64 10)) (.tmp 22) 218 rfl 47 1 .i64 Tryz.underlying218 Tryz.underlying47 _ (up 6 (.func (.func 133) #[] #[.pointer (some ⟨w2.heap.size, 0, none⟩), .pointer (some ⟨g5, 0, none⟩)]) (up 5 (.func (.func 132) #[] #[.pointer (some ⟨w2.heap.size, 0, none⟩), .pointer (some ⟨g5, 0, none⟩)]) (up 4 (.func (.func 131) #[] #[.pointer (some ⟨w2.heap.size, 0, none⟩), .pointer (some ⟨g5, 0, none⟩)]) (up 3 (.func (.func 130) #[] #[.pointer (some ⟨w2.heap.size, 0, none⟩), .pointer (some ⟨g5, 0, none⟩)]) (up 2 (.func (.func 129) #[] #[.pointer (some ⟨w.heap.size, 0, none⟩), .pointer (some ⟨g5, 0, none⟩)]) []))))) rfl N5.out 10 (.func (.func 137) #[] #[.pointer (some ⟨w2.heap.size, 0, none⟩), .pointer (some ⟨g5, 0, none⟩)]) rfl rfl ?_)
  intro m6 hm6 ho6 hz6
  have N6 := Lib.hid hm6
  have P6 := Lib.hid ho6
  clear hm6 ho6 hz6
  go_wp2_with (refine wpList_insert_at _ rfl (.tmp 16) (.const (.int .i64 11)) (.tmp 23) 218 rfl 47 1 .i64 Tryz.underlying218 Tryz.underlying47 _ (up 10 (.func (.func 137) #[] #[.pointer (some ⟨w2.heap.size, 0, none⟩), .pointer (some ⟨g5, 0, none⟩)]) (up 6 (.func (.func 133) #[] #[.pointer (some ⟨w2.heap.size, 0, none⟩), .pointer (some ⟨g5, 0, none⟩)]) (up 5 (.func (.func 132) #[] #[.pointer (some ⟨w2.heap.size, 0, none⟩), .pointer (some ⟨g5, 0, none⟩)]) (up 4 (.func (.func 131) #[] #[.pointer (some ⟨w2.heap.size, 0, none⟩), .pointer (some ⟨g5, 0, none⟩)]) (up 3 (.func (.func 130) #[] #[.pointer (some ⟨w2.heap.size, 0, none⟩), .pointer (some ⟨g5, 0, none⟩)]) (up 2 (.func (.func 129) #[] #[.pointer (some ⟨w.heap.size, 0, none⟩), .pointer (some ⟨g5, 0, none⟩)]) [])))))) rfl N6.out 11 (.func (.func 139) #[] #[.pointer (some ⟨w2.heap.size, 0, none⟩), .pointer (some ⟨g5, 0, none⟩)]) rfl rfl ?_)
  intro m7 hm7 ho7 hz7
  have N7 := Lib.hid hm7
  have P7 := Lib.hid ho7
  clear hm7 ho7 hz7
  have RL := Lib.hid ((((((((R5.out.only P1.out (by simp)).only P2.out (by simp)).only P3.out (by simp)).only P4.out (by simp)).only P5.out (by simp)).only P6.out (by simp)).only P7.out (by simp)))
  have TT : ∀ {x y : World}, Only [] w4 x → Only [g5 + 1] x y → Only [] w4 y := fun h k => h.trans k (by intro i hi; right; simp at hi; have := G5.out; omega)
  have OL : Hid (Only [] w4 m7) := Lib.hid (TT (TT (TT (TT (TT (TT (TT O45.out P1.out) P2.out) P3.out) P4.out) P5.out) P6.out) P7.out)
  clear TT
  have LK : Hid ((lk k (up 11 (.func (.func 139) #[] #[.pointer (some ⟨w2.heap.size, 0, none⟩), .pointer (some ⟨g5, 0, none⟩)]) (up 10 (.func (.func 137) #[] #[.pointer (some ⟨w2.heap.size, 0, none⟩), .pointer (some ⟨g5, 0, none⟩)]) (up 6 (.func (.func 133) #[] #[.pointer (some ⟨w2.heap.size, 0, none⟩), .pointer (some ⟨g5, 0, none⟩)]) (up 5 (.func (.func 132) #[] #[.pointer (some ⟨w2.heap.size, 0, none⟩), .pointer (some ⟨g5, 0, none⟩)]) (up 4 (.func (.func 131) #[] #[.pointer (some ⟨w2.heap.size, 0, none⟩), .pointer (some ⟨g5, 0, none⟩)]) (up 3 (.func (.func 130) #[] #[.pointer (some ⟨w2.heap.size, 0, none⟩), .pointer (some ⟨g5, 0, none⟩)]) (up 2 (.func (.func 129) #[] #[.pointer (some ⟨w.heap.size, 0, none⟩), .pointer (some ⟨g5, 0, none⟩)]) [])))))))).getD .nilFunc = .nilFunc) := Lib.hid (by rcases HK.out with h | h | h | h <;> subst h <;> rfl)
  have lk0 : m7.cell? ⟨g5, 0, none⟩ = some (.int .i64 k) := RL.out.cell 0
  have lk1 : m7.cell? ⟨g5, 1, none⟩ = some (.int .u64 0) := RL.out.cell 1
  have lk2 : m7.cell? ⟨g5, 2, none⟩ = some (.slice none 0 0) := RL.out.cell 2
  have lk3 : m7.cell? ⟨g5, 3, none⟩ = some (.slice none 0 0) := RL.out.cell 3
  have lk4 : m7.cell? ⟨g5, 4, none⟩ = some (.int .u64 0) := RL.out.cell 4
  have lk5 : m7.cell? ⟨g5, 5, none⟩ = some (.int .u64 0) := RL.out.cell 5
  have lk6 : m7.cell? ⟨g5, 6, none⟩ = some (.int .i64 0) := RL.out.cell 6
  have lk7 : m7.cell? ⟨g5, 7, none⟩ = some (.slice none 0 0) := RL.out.cell 7
  have lk8 : m7.cell? ⟨g5, 8, none⟩ = some (.slice none 0 0) := RL.out.cell 8
  have lk9 : m7.cell? ⟨g5, 9, none⟩ = some (.int .i64 0) := RL.out.cell 9
  have NK : Hid (MapAt m7 (g5 + 1) .i64 (up 11 (.func (.func 139) #[] #[.pointer (some ⟨w2.heap.size, 0, none⟩), .pointer (some ⟨g5, 0, none⟩)]) (up 10 (.func (.func 137) #[] #[.pointer (some ⟨w2.heap.size, 0, none⟩), .pointer (some ⟨g5, 0, none⟩)]) (up 6 (.func (.func 133) #[] #[.pointer (some ⟨w2.heap.size, 0, none⟩), .pointer (some ⟨g5, 0, none⟩)]) (up 5 (.func (.func 132) #[] #[.pointer (some ⟨w2.heap.size, 0, none⟩), .pointer (some ⟨g5, 0, none⟩)]) (up 4 (.func (.func 131) #[] #[.pointer (some ⟨w2.heap.size, 0, none⟩), .pointer (some ⟨g5, 0, none⟩)]) (up 3 (.func (.func 130) #[] #[.pointer (some ⟨w2.heap.size, 0, none⟩), .pointer (some ⟨g5, 0, none⟩)]) (up 2 (.func (.func 129) #[] #[.pointer (some ⟨w.heap.size, 0, none⟩), .pointer (some ⟨g5, 0, none⟩)]) [])))))))) := N7
  clear N1 N2 N3 N4 N5 N6 N7 P1 P2 P3 P4 P5 P6 P7 R5 M5
  generalize (up 11 (.func (.func 139) #[] #[.pointer (some ⟨w2.heap.size, 0, none⟩), .pointer (some ⟨g5, 0, none⟩)]) (up 10 (.func (.func 137) #[] #[.pointer (some ⟨w2.heap.size, 0, none⟩), .pointer (some ⟨g5, 0, none⟩)]) (up 6 (.func (.func 133) #[] #[.pointer (some ⟨w2.heap.size, 0, none⟩), .pointer (some ⟨g5, 0, none⟩)]) (up 5 (.func (.func 132) #[] #[.pointer (some ⟨w2.heap.size, 0, none⟩), .pointer (some ⟨g5, 0, none⟩)]) (up 4 (.func (.func 131) #[] #[.pointer (some ⟨w2.heap.size, 0, none⟩), .pointer (some ⟨g5, 0, none⟩)]) (up 3 (.func (.func 130) #[] #[.pointer (some ⟨w2.heap.size, 0, none⟩), .pointer (some ⟨g5, 0, none⟩)]) (up 2 (.func (.func 129) #[] #[.pointer (some ⟨w.heap.size, 0, none⟩), .pointer (some ⟨g5, 0, none⟩)]) []))))))) = L at *
  go_wp2_with (at_lookup; refine wpList_look_to _ rfl (.tmp 25) (.tmp 27) 218 rfl 47 1 .i64 Tryz.underlying218 Tryz.underlying47 .nilFunc zeroFn (g5 + 1) L rfl NK.out k rfl .nilFunc LK.out ?_)
  have O1 : Hid (Only [] w1 m7) := Lib.hid (by
    have h1 : Only [] w1 w3 := (O12.out.trans O24.out (by simp))
    have h2 : Only [] w1 w4 := h1.trans O34.out (by intro i hi; right; simp at hi; have := HR.out.2; omega)
    exact h2.trans OL.out (by simp))
  have R1' := Lib.hid (R1.out.only O1.out (by simp))
  have R2' := Lib.hid (R2.out.only O1.out (by simp))
  have BM : Hid (Below w.heap.size w m7) := Lib.hid (B1.out.trans (O1.out.toBelow B1.out.size (by simp)))
  have AK7 := Lib.hid (AK.out m7)
  unfold bareCells at AK7
  clear R1 R2 O1 O12 O24 O34 O45 OL AK B1 R4 HR NK LK
  go_wp2_with fail
  refine AK7.out.mono ?_
  rintro _ w8 ⟨v, rfl, ho, hb8⟩
  have K8 := (Only.refl [] m7).below hb8
  have RL8 := Lib.hid (RL.out.only K8 (by simp))
  have R1'' := Lib.hid (R1'.out.only K8 (by simp))
  have R2'' := Lib.hid (R2'.out.only K8 (by simp))
  have B8 : Hid (Below w.heap.size w w8) := Lib.hid (BM.out.trans (hb8.mono BM.out.size))
  obtain ⟨s2, rfl, e2, hs2, _, _⟩ := own_sl ho (by simp)
  have BE := Lib.hid (byeq hs2 (HS.out.1.only ((Only.refl [] w).below B8.out) (by simp)) (by rw [e2]; intro x hx; simp at hx; subst hx; rcases HK.out with h | h | h | h <;> omega) (by rw [HS.out.2]; intro x hx; simp at hx; subst hx; rcases HK.out with h | h | h | h <;> omega))
  rw [show decide (s2.xs = s.xs) = true from decide_eq_true (by rw [e2, HS.out.2]), ES.out] at BE
  have b1 : w8.cell? ⟨w.heap.size, 0, none⟩ = some (.slice s.a 1 s.c) := R1''.out.cell 0
  obtain ⟨v2, hv2⟩ : ∃ v2, s2.v = v2 := ⟨_, rfl⟩
  rw [hv2] at BE ⊢
  clear hv2 hs2 e2 ho hb8 K8 AK7 R1' R2' RL lk0 lk1 lk2 lk3 lk4 lk5 lk6 lk7 lk8 lk9
  go_wp2_with fail
  refine BE.out.mono ?_
  rintro _ w9 ⟨rfl, hb9⟩
  have K9 := (Only.refl [] w8).below hb9
  have B9 : Hid (Below w.heap.size w w9) := Lib.hid (B8.out.trans (hb9.mono B8.out.size))
  have RL9 := RL8.out.only K9 (by simp)
  have R29 := R2''.out.only K9 (by simp)
  have n0 : w9.cell? ⟨g5, 0, none⟩ = some (.int .i64 k) := RL9.cell 0
  have z0 : w9.cell? ⟨w.heap.size + 1, 0, none⟩ = some (.int .i64 0) := R29.cell 0
  have f0 := R29.free 0
  have n1 : w9.cell? ⟨g5, 1, none⟩ = some (.int .u64 0) := RL9.cell 1
  have z1 : w9.cell? ⟨w.heap.size + 1, 1, none⟩ = some (.int .u64 0) := R29.cell 1
  have f1 := R29.free 1
  have n2 : w9.cell? ⟨g5, 2, none⟩ = some (.slice none 0 0) := RL9.cell 2
  have z2 : w9.cell? ⟨w.heap.size + 1, 2, none⟩ = some (.slice none 0 0) := R29.cell 2
  have f2 := R29.free 2
  have n3 : w9.cell? ⟨g5, 3, none⟩ = some (.slice none 0 0) := RL9.cell 3
  have z3 : w9.cell? ⟨w.heap.size + 1, 3, none⟩ = some (.slice none 0 0) := R29.cell 3
  have f3 := R29.free 3
  have n4 : w9.cell? ⟨g5, 4, none⟩ = some (.int .u64 0) := RL9.cell 4
  have z4 : w9.cell? ⟨w.heap.size + 1, 4, none⟩ = some (.int .u64 0) := R29.cell 4
  have f4 := R29.free 4
  have n5 : w9.cell? ⟨g5, 5, none⟩ = some (.int .u64 0) := RL9.cell 5
  have z5 : w9.cell? ⟨w.heap.size + 1, 5, none⟩ = some (.int .u64 0) := R29.cell 5
  have f5 := R29.free 5
  have n6 : w9.cell? ⟨g5, 6, none⟩ = some (.int .i64 0) := RL9.cell 6
  have z6 : w9.cell? ⟨w.heap.size + 1, 6, none⟩ = some (.int .i64 0) := R29.cell 6
  have f6 := R29.free 6
  have n7 : w9.cell? ⟨g5, 7, none⟩ = some (.slice none 0 0) := RL9.cell 7
  have z7 : w9.cell? ⟨w.heap.size + 1, 7, none⟩ = some (.slice none 0 0) := R29.cell 7
  have f7 := R29.free 7
  have n8 : w9.cell? ⟨g5, 8, none⟩ = some (.slice none 0 0) := RL9.cell 8
  have z8 : w9.cell? ⟨w.heap.size + 1, 8, none⟩ = some (.slice none 0 0) := R29.cell 8
  have f8 := R29.free 8
  have n9 : w9.cell? ⟨g5, 9, none⟩ = some (.int .i64 0) := RL9.cell 9
  have z9 : w9.cell? ⟨w.heap.size + 1, 9, none⟩ = some (.int .i64 0) := R29.cell 9
  have f9 := R29.free 9
  have NE : Hid (Row ((((((((((w9.setCell ⟨w.heap.size + 1, 0, none⟩ (.int .i64 k)).setCell ⟨w.heap.size + 1, 1, none⟩ (.int .u64 0)).setCell ⟨w.heap.size + 1, 2, none⟩ (.slice none 0 0)).setCell ⟨w.heap.size + 1, 3, none⟩ (.slice none 0 0)).setCell ⟨w.heap.size + 1, 4, none⟩ (.int .u64 0)).setCell ⟨w.heap.size + 1, 5, none⟩ (.int .u64 0)).setCell ⟨w.heap.size + 1, 6, none⟩ (.int .i64 0)).setCell ⟨w.heap.size + 1, 7, none⟩ (.slice none 0 0)).setCell ⟨w.heap.size + 1, 8, none⟩ (.slice none 0 0)).setCell ⟨w.heap.size + 1, 9, none⟩ (.int .i64 0)) (w.heap.size + 1) (bareCells k) tRq ∧ Below w.heap.size w ((((((((((w9.setCell ⟨w.heap.size + 1, 0, none⟩ (.int .i64 k)).setCell ⟨w.heap.size + 1, 1, none⟩ (.int .u64 0)).setCell ⟨w.heap.size + 1, 2, none⟩ (.slice none 0 0)).setCell ⟨w.heap.size + 1, 3, none⟩ (.slice none 0 0)).setCell ⟨w.heap.size + 1, 4, none⟩ (.int .u64 0)).setCell ⟨w.heap.size + 1, 5, none⟩ (.int .u64 0)).setCell ⟨w.heap.size + 1, 6, none⟩ (.int .i64 0)).setCell ⟨w.heap.size + 1, 7, none⟩ (.slice none 0 0)).setCell ⟨w.heap.size + 1, 8, none⟩ (.slice none 0 0)).setCell ⟨w.heap.size + 1, 9, none⟩ (.int .i64 0))) := Lib.hid ⟨by
    have h := ((((((((((R29.set 0 (.int .i64 k)).set 1 (.int .u64 0)).set 2 (.slice none 0 0)).set 3 (.slice none 0 0)).set 4 (.int .u64 0)).set 5 (.int .u64 0)).set 6 (.int .i64 0)).set 7 (.slice none 0 0)).set 8 (.slice none 0 0)).set 9 (.int .i64 0))
    simpa using h, by
    have h : Only [w.heap.size + 1] w9 ((((((((((w9.setCell ⟨w.heap.size + 1, 0, none⟩ (.int .i64 k)).setCell ⟨w.heap.size + 1, 1, none⟩ (.int .u64 0)).setCell ⟨w.heap.size + 1, 2, none⟩ (.slice none 0 0)).setCell ⟨w.heap.size + 1, 3, none⟩ (.slice none 0 0)).setCell ⟨w.heap.size + 1, 4, none⟩ (.int .u64 0)).setCell ⟨w.heap.size + 1, 5, none⟩ (.int .u64 0)).setCell ⟨w.heap.size + 1, 6, none⟩ (.int .i64 0)).setCell ⟨w.heap.size + 1, 7, none⟩ (.slice none 0 0)).setCell ⟨w.heap.size + 1, 8, none⟩ (.slice none 0 0)).setCell ⟨w.heap.size + 1, 9, none⟩ (.int .i64 0)) := (((((((((((Only.refl [w.heap.size + 1] w9).setCell (.inl (by simp)) _).setCell (.inl (by simp)) _).setCell (.inl (by simp)) _).setCell (.inl (by simp)) _).setCell (.inl (by simp)) _).setCell (.inl (by simp)) _).setCell (.inl (by simp)) _).setCell (.inl (by simp)) _).setCell (.inl (by simp)) _).setCell (.inl (by simp)) _)
    exact B9.out.trans (h.toBelow B9.out.size (by simp))⟩
  clear BE hb9 K9 RL9 R29 RL8 R1'' R2'' b1
  go_wp2_with fail
  refine bodyPost_ret (results_rq_tmp rfl _ _ (w.heap.size + 1) (bareCells k) rfl rfl NE.out.1) rfl ?_
  exact ⟨rfl, NE.out.2⟩
end Go.Proofs.YtcgmgdjeamidlaaGreat
