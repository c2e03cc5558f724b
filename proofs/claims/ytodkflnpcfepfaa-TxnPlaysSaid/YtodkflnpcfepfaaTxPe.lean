/- TxnPlays: Look. -/
import Derived.Test.YtodkflnpcfepfaaTxP0
import Derived.Test.YtodkflnpcfepfaaTxZm
namespace Go.Proofs.Ytodkflnpcfepfaa
open Go.RowKit Go.ChangeShapes Go.WideShapes Go.ChangeAt
set_option linter.unusedVariables false
set_option linter.unusedSimpArgs false

set_option maxRecDepth 1000000 in
set_option maxHeartbeats 4000000 in
theorem kind5 (s0 s2 s3 s4 s9 s10 s11 s12 s13 s14 s15 s16 s17 s18 s19 s20 s21 s22 s23 s24 s25 s26 s27 s28 s29 s30 s31 s32 s33 s34 s35 s36 s37 s38 s39 s40 s41 s42 s43 s44 s45 s46 s47 s48 s49 s50 s51 s52 s53 s54 s55 s56 s57 s58 s59 s60 s61 s62 s63 s64 s65 s66 s67 s68 s69 s70 s71 s72 s73 s74 s75 s76 s77 s78 s79 s80 s81 s82 s83 s85 s86 s87 s88 s89 s90 s91 s92 s93 s94 s95 s96 s97 s98 s99 s100 s101 s102 s103 s104 s105 s106 s107 s108 s109 s110 s111 s112 s113 s114 s115 s116 s117 s118 s119 s120 s121 s122 s123 s124 s125 s126 s127 s128 s129 s130 s131 s132 s133 s134 s135 s136 s137 s138 s139 s140 s141 s142 s143 s144 s145 s146 s147 s148 s149 s150 s151 s152 s153 s154 s155 s156 s157 s158 s159 s160 s161 s162 s163 s164 s165 s166 s167 s168 s169 s170 s171 s172 s173 s174 s175 s176 s177 s178 s179 s180 s181 s182 s183 s184 s185 s186 s187 s188 s189 s190 s191 s192 s193 s194 s195 s196 s197 s198 s199 s200 s201 s202 s203 s204 s205 s206 s207 s208 s209 s210 s211 s212 s213 s214 s215 s216 s217 s218 s219 s220 s221 s222 s223 s224 s225 s226 s227 s228 s229 s230 s231 s232 s233 s234 s235 s236 s237 s238 s239 s240 s241 s242 s243 s244 s245 s246 s247 s248 : Value) (W wr : World) (p q i b off n c : Nat) (nn : Int) (M : Mg) (F : List Nat) (R : Rf) (G : List Nat) (K : Act → World → Prop) (Q0 : Exit → Act → World → Prop) (T : TwoAt W wr p M F q R G i) (hi : i < 200)
    (HK : Hid (∀ (v4 v9 v10 v11 v12 v13 v14 v15 v16 v17 v18 v19 v20 v21 v22 v23 v24 v85 v86 v87 v88 v89 v90 v91 v92 v93 v94 v95 v96 v97 v98 v99 v100 v101 v102 v103 v104 v105 v106 v107 v108 v109 v110 v111 v112 v113 v114 v115 v116 v117 v118 v119 v120 v121 v122 v123 v124 v125 v126 v127 v128 v129 v130 v131 v132 v133 v134 v135 v136 v137 v138 v139 v140 v141 v142 v143 v144 v145 v146 v147 v148 v149 v150 v151 v152 v153 v154 v155 v156 v157 v158 v159 v160 v161 v162 v163 v164 v165 v166 v167 v168 v169 v170 v171 v172 v173 v174 v175 v176 v177 v178 v179 v180 v181 v182 v183 v184 v185 v186 v187 v188 v189 v190 v191 v192 v193 v194 v195 v196 v197 v198 v199 v200 v201 v202 v203 v204 v205 v206 v207 v208 v209 v210 v211 v212 v213 v214 v215 v216 v217 v218 v219 v220 v221 v222 v223 v224 v225 v226 v227 v228 v229 v230 v231 v232 : Value) (w' : World), Two W w' p q (i + 1) → K ⟨#[s0, .slice (some ⟨b, off, none⟩) n c, s2, s3, v4, .pointer (some ⟨p, 0, none⟩), .pointer (some ⟨q, 0, none⟩), .int .i64 (i : Int), .int .u64 nn, v9, v10, v11, v12, v13, v14, v15, v16, v17, v18, v19, v20, v21, v22, v23, v24, s25, s26, s27, s28, s29, s30, s31, s32, s33, s34, s35, s36, s37, s38, s39, s40, s41, s42, s43, s44, s45, s46, s47, s48, s49, s50, s51, s52, s53, s54, s55, s56, s57, s58, s59, s60, s61, s62, s63, s64, s65, s66, s67, s68, s69, s70, s71, s72, s73, s74, s75, s76, s77, s78, s79, s80, s81, s82, s83, .int .i64 (5 : Int), v85, v86, v87, v88, v89, v90, v91, v92, v93, v94, v95, v96, v97, v98, v99, v100, v101, v102, v103, v104, v105, v106, v107, v108, v109, v110, v111, v112, v113, v114, v115, v116, v117, v118, v119, v120, v121, v122, v123, v124, v125, v126, v127, v128, v129, v130, v131, v132, v133, v134, v135, v136, v137, v138, v139, v140, v141, v142, v143, v144, v145, v146, v147, v148, v149, v150, v151, v152, v153, v154, v155, v156, v157, v158, v159, v160, v161, v162, v163, v164, v165, v166, v167, v168, v169, v170, v171, v172, v173, v174, v175, v176, v177, v178, v179, v180, v181, v182, v183, v184, v185, v186, v187, v188, v189, v190, v191, v192, v193, v194, v195, v196, v197, v198, v199, v200, v201, v202, v203, v204, v205, v206, v207, v208, v209, v210, v211, v212, v213, v214, v215, v216, v217, v218, v219, v220, v221, v222, v223, v224, v225, v226, v227, v228, v229, v230, v231, v232, s233, s234, s235, s236, s237, s238, s239, s240, s241, s242, s243, s244, s245, s246, s247, s248], []⟩ w')) :
    Code.wp Try.prog blk2 (Exit.then K Q0) ⟨#[s0, .slice (some ⟨b, off, none⟩) n c, s2, s3, s4, .pointer (some ⟨p, 0, none⟩), .pointer (some ⟨q, 0, none⟩), .int .i64 (i : Int), .int .u64 nn, s9, s10, s11, s12, s13, s14, s15, s16, s17, s18, s19, s20, s21, s22, s23, s24, s25, s26, s27, s28, s29, s30, s31, s32, s33, s34, s35, s36, s37, s38, s39, s40, s41, s42, s43, s44, s45, s46, s47, s48, s49, s50, s51, s52, s53, s54, s55, s56, s57, s58, s59, s60, s61, s62, s63, s64, s65, s66, s67, s68, s69, s70, s71, s72, s73, s74, s75, s76, s77, s78, s79, s80, s81, s82, s83, .int .i64 (5 : Int), s85, s86, s87, s88, s89, s90, s91, s92, s93, s94, s95, s96, s97, s98, s99, s100, s101, s102, s103, s104, s105, s106, s107, s108, s109, s110, s111, s112, s113, s114, s115, s116, s117, s118, s119, s120, s121, s122, s123, s124, s125, s126, s127, s128, s129, s130, s131, s132, s133, s134, s135, s136, s137, s138, s139, s140, s141, s142, s143, s144, s145, s146, s147, s148, s149, s150, s151, s152, s153, s154, s155, s156, s157, s158, s159, s160, s161, s162, s163, s164, s165, s166, s167, s168, s169, s170, s171, s172, s173, s174, s175, s176, s177, s178, s179, s180, s181, s182, s183, s184, s185, s186, s187, s188, s189, s190, s191, s192, s193, s194, s195, s196, s197, s198, s199, s200, s201, s202, s203, s204, s205, s206, s207, s208, s209, s210, s211, s212, s213, s214, s215, s216, s217, s218, s219, s220, s221, s222, s223, s224, s225, s226, s227, s228, s229, s230, s231, s232, s233, s234, s235, s236, s237, s238, s239, s240, s241, s242, s243, s244, s245, s246, s247, s248], []⟩ wr := by
  obtain ⟨sf, st, bs, er, ds, hds, CT⟩ := look_pair T (by omega) nn
  have C1 := Lib.hid CT
  have TT := Lib.hid T
  have HDS := Lib.hid hds
  clear CT T hds
  unfold Look1 at C1
  conv => arg 2; whnf
  go_wp2_with fail
  refine C1.out.mono ?_
  rintro _ w1 ⟨⟨a1, c1, rfl, o1, b1⟩, C2⟩
  obtain ⟨nd, hnd⟩ : ∃ nd, ds.length = nd := ⟨_, rfl⟩
  have HND := Lib.hid hnd
  rw [hnd] at o1
  rw [hnd]
  have O1 := Lib.hid o1
  have B1 := Lib.hid b1
  have D2 := Lib.hid (C2 _ ((Below.refl _ _).alloc (Nat.le_refl _) (.cells #[.int .u64 sf, .int .u64 st, .int .u64 bs, .slice a1 nd c1] tLk)))
  unfold Look2 at D2
  rw [hnd] at D2
  clear C1 C2 o1 b1 hnd
  go_wp2_with fail
  refine D2.out.mono ?_
  rintro _ w2 ⟨a2, c2, rfl, o2, b2⟩
  have O2 := Lib.hid o2
  have B2 := Lib.hid b2
  have r1 : Row w2 w1.heap.size #[.int .u64 sf, .int .u64 st, .int .u64 bs, .slice a1 nd c1] tLk := (Row.made w1 _ _).only ((Only.refl [] _).below b2) (by simp)
  have R1 : Hid (Row (w2.alloc (.cells #[.int .u64 sf, .int .u64 st, .int .u64 bs, .slice a2 nd c2] tLk)) w1.heap.size #[.int .u64 sf, .int .u64 st, .int .u64 bs, .slice a1 nd c1] tLk) := Lib.hid (r1.only ((Only.refl [] _).alloc _) (by simp))
  have S1 : Hid (StAt (w2.alloc (.cells #[.int .u64 sf, .int .u64 st, .int .u64 bs, .slice a2 nd c2] tLk)) a1 nd ds) := Lib.hid (StAt.of_own ((own_keep (O1.out.alloc _) fun g hg => b2.block g ((O1.out.alloc _).lt g hg).2).alloc _) HND.out).2
  have S2 : Hid (StAt (w2.alloc (.cells #[.int .u64 sf, .int .u64 st, .int .u64 bs, .slice a2 nd c2] tLk)) a2 nd ds) := Lib.hid (StAt.of_own (o2.alloc _) HND.out).2
  have OW : Hid ((w2.alloc (.cells #[.int .u64 sf, .int .u64 st, .int .u64 bs, .slice a2 nd c2] tLk)).ownsRow wr.heap.size tSt 2 (.slice a1 nd c1) nd (dsL ds)) := Lib.hid ((own_keep (O1.out.alloc _) fun g hg => b2.block g ((O1.out.alloc _).lt g hg).2).alloc _)
  have KW : Hid (Only [] wr (w2.alloc (.cells #[.int .u64 sf, .int .u64 st, .int .u64 bs, .slice a2 nd c2] tLk))) := Lib.hid (((((Only.refl [] wr).below B1.out).alloc _).below b2).alloc _)
  have e0 := r1.cell 0
  have e1 := r1.cell 1
  have e2 := r1.cell 2
  have e3 := r1.cell 3
  have f0 := R1.out.cell 0
  have f1 := R1.out.cell 1
  have f2 := R1.out.cell 2
  have f3 := R1.out.cell 3
  clear r1 D2 o2 b2 O1 B1 O2 B2
  go_wp2_with fail
  clear e0 e1 e2 e3
  have SM := Lib.hid (same_true sf st bs a1 a2 nd c1 c2 ds _ S1.out S2.out (by have := HDS.out; have := HND.out; omega))
  unfold lookR at SM
  generalize w2.alloc (.cells #[.int .u64 sf, .int .u64 st, .int .u64 bs, .slice a2 nd c2] tLk) = w3 at *
  refine SM.out.mono ?_
  rintro _ w4 ⟨rfl, hb⟩
  obtain ⟨x1, hx1⟩ : ∃ x1, w1.heap.size = x1 := ⟨_, rfl⟩
  rw [hx1] at R1
  rw [hx1]
  have R4 : Hid (Row w4 x1 #[.int .u64 sf, .int .u64 st, .int .u64 bs, .slice a1 nd c1] tLk) := Lib.hid (R1.out.only ((Only.refl [] w3).below hb) (by simp))
  have I0 : Hid (∃ xs, w4.ownsRow wr.heap.size tSt 2 (.slice a1 nd c1) nd xs) := Lib.hid ⟨_, own_keep OW.out fun g hg => hb.block g (OW.out.lt g hg).2⟩
  have T4 : Hid (TwoAt W w4 p M F q R G i) := Lib.hid (TT.out.only ((KW.out).below hb) (by simp))
  have FG : Hid (∀ b, wr.heap.size ≤ b → b ∉ F ∧ b ∉ G ∧ W.heap.size ≤ b) := Lib.hid fun b hb => ⟨fun hh => by have := TT.out.mg.lt b hh; omega, fun hh => by have := TT.out.rf.lt b hh; omega, Nat.le_trans TT.out.bl.size hb⟩
  clear hb hx1 f0 f1 f2 f3 SM S1 S2 OW KW R1 TT
  have hnd2 : nd ≤ 1000 := by have := HDS.out; have := HND.out; omega
  go_wp2_with fail
  go_loopw [21] (fun u wx => ∃ k : Nat, k ≤ nd ∧ u = .int .i64 k ∧ Hid (Row wx x1 #[.int .u64 sf, .int .u64 st, .int .u64 bs, .slice a1 nd c1] tLk ∧ (∃ xs, wx.ownsRow wr.heap.size tSt 2 (.slice a1 nd c1) nd xs) ∧ TwoAt W wx p M F q R G i)) (fun u _ => nd - (intOf u).toNat)
  case atStart => exact ⟨0, by omega, rfl, Lib.hid ⟨R4.out, I0.out, T4.out⟩⟩
  case round =>
    obtain ⟨k, hk, rfl, HI⟩ := hrel
    rename World => w5
    have f3 : w5.cell? ⟨x1, 3, none⟩ = some (.slice a1 nd c1) := HI.out.1.cell 3
    by_cases hlt : k < nd
    · have d1 : decide ((k : Int) < (nd : Int)) = true := decide_eq_true (by omega)
      have d1' : decide (k < nd) = true := decide_eq_true hlt
      obtain ⟨xs, ho⟩ := HI.out.2.1
      obtain ⟨g, rfl⟩ : ∃ g, a1 = some ⟨g, 0, none⟩ := by
        rcases ho.2 with ⟨e, h0⟩ | ⟨g, cap, cur, e, _⟩
        · omega
        · simp only [Value.slice.injEq] at e
          exact ⟨g, e.1⟩
      have hg := (ho.lt g rfl).1
      have hl : xs.length = nd * 2 := ho.1
      have cc : w5.cell? ⟨g, k * 2 + 1, none⟩ = some (xs[k * 2 + 1]'(by omega)) := by rw [ho.cellAt (k * 2 + 1) (by omega), List.getElem?_eq_getElem]
      have fz := ho.frozenAt (k * 2 + 1)
      have ks : Only [g] w5 (w5.setCell ⟨g, k * 2 + 1, none⟩ (.int .u64 99)) := (Only.refl _ _).setCell (by simp) _
      have NX : Hid (Row (w5.setCell ⟨g, k * 2 + 1, none⟩ (.int .u64 99)) x1 #[.int .u64 sf, .int .u64 st, .int .u64 bs, .slice (some ⟨g, 0, none⟩) nd c1] tLk ∧ (∃ xs, (w5.setCell ⟨g, k * 2 + 1, none⟩ (.int .u64 99)).ownsRow wr.heap.size tSt 2 (.slice (some ⟨g, 0, none⟩) nd c1) nd xs) ∧ TwoAt W (w5.setCell ⟨g, k * 2 + 1, none⟩ (.int .u64 99)) p M F q R G i) := Lib.hid ⟨HI.out.1.only ks (by
        simp only [List.mem_singleton]
        rintro rfl
        exact own_ne_row ho HI.out.1 (by decide) rfl), ⟨_, (ho.stored (k * 2 + 1) (.int .u64 99)).1⟩, HI.out.2.2.only ks (by
        intro b hb
        simp only [List.mem_singleton] at hb
        subst hb
        exact FG.out b hg)⟩
      generalize xs[k * 2 + 1]'(by omega) = ov at cc
      clear ho hl hg ks
      go_wp2_with fail
      go_roundw
      case rel => exact ⟨k + 1, by omega, by go_num, NX⟩
      case measure => simp [intOf]; omega
    · have d1 : decide ((k : Int) < (nd : Int)) = false := decide_eq_false (by omega)
      have d1' : decide (k < nd) = false := decide_eq_false hlt
      have N2 : Hid (Two W w5 p q (i + 1)) := Lib.hid ⟨_, _, _, _, HI.out.2.2.more (Nat.le_succ i)⟩
      clear HI hlt
      go_wp2_with fail
      exact HK.out _ _ _ _ _ _ _ _ _ _ _ _ _ _ _ _ _ _ _ _ _ _ _ _ _ _ _ _ _ _ _ _ _ _ _ _ _ _ _ _ _ _ _ _ _ _ _ _ _ _ _ _ _ _ _ _ _ _ _ _ _ _ _ _ _ _ _ _ _ _ _ _ _ _ _ _ _ _ _ _ _ _ _ _ _ _ _ _ _ _ _ _ _ _ _ _ _ _ _ _ _ _ _ _ _ _ _ _ _ _ _ _ _ _ _ _ _ _ _ _ _ _ _ _ _ _ _ _ _ _ _ _ _ _ _ _ _ _ _ _ _ _ _ _ _ _ _ _ _ _ _ _ _ _ _ _ _ _ _ _ _ _ _ _ _ w5 N2.out
end Go.Proofs.Ytodkflnpcfepfaa
