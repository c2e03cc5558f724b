/- TxnPlays: a round, of one that was begun. -/
import Derived.Test.YtodkflnpcfepfaaTxPh
import Derived.Test.YtodkflnpcfepfaaTxPg
namespace Go.Proofs.Ytodkflnpcfepfaa
open Go.RowKit Go.ChangeShapes Go.WideShapes Go.ChangeAt
set_option linter.unusedVariables false
set_option linter.unusedSimpArgs false

set_option maxRecDepth 1000000 in
set_option maxHeartbeats 4000000 in
theorem roundC {s0 s2 s3 s4 s8 s9 s10 s11 s12 s13 s14 s15 s16 s17 s18 s19 s20 s21 s22 s23 s24 s25 s26 s27 s28 s29 s30 s31 s32 s33 s34 s35 s36 s37 s38 s39 s40 s41 s42 s43 s44 s45 s46 s47 s48 s49 s50 s51 s52 s53 s54 s55 s56 s57 s58 s59 s60 s61 s62 s63 s64 s65 s66 s67 s68 s69 s70 s71 s72 s73 s74 s75 s76 s77 s78 s79 s80 s81 s82 s83 s84 s85 s86 s87 s88 s89 s90 s91 s92 s93 s94 s95 s96 s97 s98 s99 s100 s101 s102 s103 s104 s105 s106 s107 s108 s109 s110 s111 s112 s113 s114 s115 s116 s117 s118 s119 s120 s121 s122 s123 s124 s125 s126 s127 s128 s129 s130 s131 s132 s133 s134 s135 s136 s137 s138 s139 s140 s141 s142 s143 s144 s145 s146 s147 s148 s149 s150 s151 s152 s153 s154 s155 s156 s157 s158 s159 s160 s161 s162 s163 s164 s165 s166 s167 s168 s169 s170 s171 s172 s173 s174 s175 s176 s177 s178 s179 s180 s181 s182 s183 s184 s185 s186 s187 s188 s189 s190 s191 s192 s193 s194 s195 s196 s197 s198 s199 s200 s201 s202 s203 s204 s205 s206 s207 s208 s209 s210 s211 s212 s213 s214 s215 s216 s217 s218 s219 s220 s221 s222 s223 s224 s225 s226 s227 s228 s229 s230 s231 s232 s233 s234 s235 s236 s237 s238 s239 s240 s241 s242 s243 s244 s245 s246 s247 s248 : Value} {W wr : World} {p q i b off n c : Nat} {M : Mg} {F : List Nat} {R : Rf} {G : List Nat} {K : Act → World → Prop} {Q0 : Exit → Act → World → Prop} {x : OpV} (T : TwoAt W wr p M F q R G i) (hi : i < 200) (hin : i < n) (hop : OpAt W b (off + i * 4) x) (ho : x.odd = false) (hz : 0 < R.all.length)
    (HK : Hid (∀ (v4 v8 v9 v10 v11 v12 v13 v14 v15 v16 v17 v18 v19 v20 v21 v22 v23 v24 v40 v41 v42 v43 v44 v45 v46 v47 v48 v49 v50 v51 v52 v53 v54 v55 v56 v57 v58 v59 v60 v61 v62 v63 v64 v65 v66 v67 v68 v69 v70 v71 v72 v73 v74 v75 v76 v77 v78 v79 v80 v81 v82 v83 v84 v85 v86 v87 v88 v89 v90 v91 v92 v93 v94 v95 v96 v97 v98 v99 v100 v101 v102 v103 v104 v105 v106 v107 v108 v109 v110 v111 v112 v113 v114 v115 v116 v117 v118 v119 v120 v121 v122 v123 v124 v125 v126 v127 v128 v129 v130 v131 v132 v133 v134 v135 v136 v137 v138 v139 v140 v141 v142 v143 v144 v145 v146 v147 v148 v149 v150 v151 v152 v153 v154 v155 v156 v157 v158 v159 v160 v161 v162 v163 v164 v165 v166 v167 v168 v169 v170 v171 v172 v173 v174 v175 v176 v177 v178 v179 v180 v181 v182 v183 v184 v185 v186 v187 v188 v189 v190 v191 v192 v193 v194 v195 v196 v197 v198 v199 v200 v201 v202 v203 v204 v205 v206 v207 v208 v209 v210 v211 v212 v213 v214 v215 v216 v217 v218 v219 v220 v221 v222 v223 v224 v225 v226 v227 v228 v229 v230 v231 v232 v233 v234 v235 v236 v237 v238 v239 v240 v241 v242 v243 v244 v245 v246 v247 : Value) (w' : World), Two W w' p q (i + 1) → K ⟨#[s0, .slice (some ⟨b, off, none⟩) n c, s2, s3, v4, .pointer (some ⟨p, 0, none⟩), .pointer (some ⟨q, 0, none⟩), .int .i64 (i : Int), v8, v9, v10, v11, v12, v13, v14, v15, v16, v17, v18, v19, v20, v21, v22, v23, v24, s25, s26, s27, s28, s29, s30, s31, s32, s33, s34, s35, s36, s37, s38, s39, v40, v41, v42, v43, v44, v45, v46, v47, v48, v49, v50, v51, v52, v53, v54, v55, v56, v57, v58, v59, v60, v61, v62, v63, v64, v65, v66, v67, v68, v69, v70, v71, v72, v73, v74, v75, v76, v77, v78, v79, v80, v81, v82, v83, v84, v85, v86, v87, v88, v89, v90, v91, v92, v93, v94, v95, v96, v97, v98, v99, v100, v101, v102, v103, v104, v105, v106, v107, v108, v109, v110, v111, v112, v113, v114, v115, v116, v117, v118, v119, v120, v121, v122, v123, v124, v125, v126, v127, v128, v129, v130, v131, v132, v133, v134, v135, v136, v137, v138, v139, v140, v141, v142, v143, v144, v145, v146, v147, v148, v149, v150, v151, v152, v153, v154, v155, v156, v157, v158, v159, v160, v161, v162, v163, v164, v165, v166, v167, v168, v169, v170, v171, v172, v173, v174, v175, v176, v177, v178, v179, v180, v181, v182, v183, v184, v185, v186, v187, v188, v189, v190, v191, v192, v193, v194, v195, v196, v197, v198, v199, v200, v201, v202, v203, v204, v205, v206, v207, v208, v209, v210, v211, v212, v213, v214, v215, v216, v217, v218, v219, v220, v221, v222, v223, v224, v225, v226, v227, v228, v229, v230, v231, v232, v233, v234, v235, v236, v237, v238, v239, v240, v241, v242, v243, v244, v245, v246, v247, s248], []⟩ w')) :
    Code.wp Try.prog blk1 (Exit.then K Q0) ⟨#[s0, .slice (some ⟨b, off, none⟩) n c, s2, s3, s4, .pointer (some ⟨p, 0, none⟩), .pointer (some ⟨q, 0, none⟩), .int .i64 (i : Int), s8, s9, s10, s11, s12, s13, s14, s15, s16, s17, s18, s19, s20, s21, s22, s23, s24, s25, s26, s27, s28, s29, s30, s31, s32, s33, s34, s35, s36, s37, s38, s39, s40, s41, s42, s43, s44, s45, s46, s47, s48, s49, s50, s51, s52, s53, s54, s55, s56, s57, s58, s59, s60, s61, s62, s63, s64, s65, s66, s67, s68, s69, s70, s71, s72, s73, s74, s75, s76, s77, s78, s79, s80, s81, s82, s83, s84, s85, s86, s87, s88, s89, s90, s91, s92, s93, s94, s95, s96, s97, s98, s99, s100, s101, s102, s103, s104, s105, s106, s107, s108, s109, s110, s111, s112, s113, s114, s115, s116, s117, s118, s119, s120, s121, s122, s123, s124, s125, s126, s127, s128, s129, s130, s131, s132, s133, s134, s135, s136, s137, s138, s139, s140, s141, s142, s143, s144, s145, s146, s147, s148, s149, s150, s151, s152, s153, s154, s155, s156, s157, s158, s159, s160, s161, s162, s163, s164, s165, s166, s167, s168, s169, s170, s171, s172, s173, s174, s175, s176, s177, s178, s179, s180, s181, s182, s183, s184, s185, s186, s187, s188, s189, s190, s191, s192, s193, s194, s195, s196, s197, s198, s199, s200, s201, s202, s203, s204, s205, s206, s207, s208, s209, s210, s211, s212, s213, s214, s215, s216, s217, s218, s219, s220, s221, s222, s223, s224, s225, s226, s227, s228, s229, s230, s231, s232, s233, s234, s235, s236, s237, s238, s239, s240, s241, s242, s243, s244, s245, s246, s247, s248], []⟩ wr := by
  have d1 : decide ((i : Int) < (n : Int)) = true := decide_eq_true (by omega)
  have up : ∀ o v, W.cell? ⟨b, o, none⟩ = some v → wr.cell? ⟨b, o, none⟩ = some v := fun o v hv => (T.bl.cell (p := ⟨b, o, none⟩) (cell_lt hv)).trans hv
  have HUP := Lib.hid up
  have hc0 := up _ _ hop.c0
  have hc1 := up _ _ hop.c1
  have hc2 := up _ _ hop.c2
  have hc3 := up _ _ hop.c3
  have HC := Lib.hid hop.c2
  have HW2 := Lib.hid hop.w2
  have HC0 := Lib.hid hop.c0
  have TT := Lib.hid T
  obtain ⟨av, hra, hG⟩ := T.rf
  have RA := Lib.hid hra
  obtain ⟨a1, c1, hav⟩ := hra.av_shape
  have HAV := Lib.hid hav
  obtain ⟨m, hm⟩ : ∃ m, R.all.length = m := ⟨_, rfl⟩
  have q1 : wr.cell? ⟨q, 1, none⟩ = some (.slice a1 m c1) := by rw [← hm, ← hav]; exact hra.row.cell 1
  have hml := hra.fine.len
  rw [hm] at hml
  have HM := Lib.hid hm
  clear hra hG hav up T
  rw [ho] at hc3
  have hm0 : 0 < m := by omega
  have e2 : decide ((0 : Int) < (m : Int)) = true := decide_eq_true (by omega)
  have e1 : decide (0 < m) = true := decide_eq_true hm0
  have HW0 := Lib.hid hop.w0
  obtain ⟨j, hidx, hjm⟩ : ∃ j : Nat, wrap64 ((IntKind.u64.wrap x.at_).tmod (m : Int)) = (j : Int) ∧ j < m := by
    have hy : 0 ≤ IntKind.u64.wrap x.at_ := by
      simp only [IntKind.wrap, IntKind.bits, IntKind.signed]
      simp
      omega
    generalize IntKind.u64.wrap x.at_ = y at hy
    have h1 := Int.emod_nonneg y (show (m : Int) ≠ 0 by omega)
    have h2 := Int.emod_lt_of_pos y (show (0 : Int) < (m : Int) by omega)
    refine ⟨(y % (m : Int)).toNat, ?_, by omega⟩
    rw [Int.tmod_eq_emod_of_nonneg hy]
    unfold wrap64
    omega
  obtain ⟨y, hy⟩ : ∃ y, R.all[j]? = some y := ⟨_, List.getElem?_eq_getElem (by omega)⟩
  obtain ⟨g, cap, e3, _, _, hR⟩ := RA.out.at_ hy
  rw [HAV.out] at e3
  simp only [Value.slice.injEq] at e3
  obtain ⟨rfl, _, rfl⟩ := e3
  have r0 := hR.c0
  clear hR hy hz
  clear hm hop
  obtain ⟨key, hkey⟩ : ∃ key, x.key = key := ⟨_, rfl⟩
  rw [hkey] at hc2 HC HW2
  obtain ⟨at_, hat⟩ : ∃ at_, x.at_ = at_ := ⟨_, rfl⟩
  rw [hat] at hc1 hidx
  obtain ⟨kd, hkd⟩ : ∃ kd, x.kind = kd := ⟨_, rfl⟩
  rw [hkd] at hc0 HC0
  clear hkey hat hkd
  conv => arg 2; whnf
  go_upto_region 10 with fail
  refine wp_calm ?_
  go_quiet (fail)
  have TD : TwoAt W (wr.drewN nq) p M F q R G i := TT.out.only ((Only.refl [] wr).drewN nq) (by simp)
  have TDH := Lib.hid TD
  clear TD r0 hidx
  go_upto_block 2 with fail
  clear hc1 hc2 hc3 q1
  refine switch TDH.out hi hin HC.out ?_
  refine Lib.hid ?_
  intro v4 v9 v10 v11 v12 v13 v14 v15 v16 v17 v18 v19 v20 v21 v22 v23 v24 v85 v86 v87 v88 v89 v90 v91 v92 v93 v94 v95 v96 v97 v98 v99 v100 v101 v102 v103 v104 v105 v106 v107 v108 v109 v110 v111 v112 v113 v114 v115 v116 v117 v118 v119 v120 v121 v122 v123 v124 v125 v126 v127 v128 v129 v130 v131 v132 v133 v134 v135 v136 v137 v138 v139 v140 v141 v142 v143 v144 v145 v146 v147 v148 v149 v150 v151 v152 v153 v154 v155 v156 v157 v158 v159 v160 v161 v162 v163 v164 v165 v166 v167 v168 v169 v170 v171 v172 v173 v174 v175 v176 v177 v178 v179 v180 v181 v182 v183 v184 v185 v186 v187 v188 v189 v190 v191 v192 v193 v194 v195 v196 v197 v198 v199 v200 v201 v202 v203 v204 v205 v206 v207 v208 v209 v210 v211 v212 v213 v214 v215 v216 v217 v218 v219 v220 v221 v222 v223 v224 v225 v226 v227 v228 v229 v230 v231 v232 w2 T2
  go_upto_region 52 with fail
  refine last52 T2 ?_
  refine Lib.hid ?_
  intro v233 v234 v235 v236 v237 v238 v239 v240 v241 v242 v243 v244 v245 v246 w3 T3
  go_wp2_with fail
  exact HK.out _ _ _ _ _ _ _ _ _ _ _ _ _ _ _ _ _ _ _ _ _ _ _ _ _ _ _ _ _ _ _ _ _ _ _ _ _ _ _ _ _ _ _ _ _ _ _ _ _ _ _ _ _ _ _ _ _ _ _ _ _ _ _ _ _ _ _ _ _ _ _ _ _ _ _ _ _ _ _ _ _ _ _ _ _ _ _ _ _ _ _ _ _ _ _ _ _ _ _ _ _ _ _ _ _ _ _ _ _ _ _ _ _ _ _ _ _ _ _ _ _ _ _ _ _ _ _ _ _ _ _ _ _ _ _ _ _ _ _ _ _ _ _ _ _ _ _ _ _ _ _ _ _ _ _ _ _ _ _ _ _ _ _ _ _ _ _ _ _ _ _ _ _ _ _ _ _ _ _ _ _ _ _ _ _ _ _ _ _ _ _ _ _ _ _ _ _ _ _ _ _ _ _ _ _ _ _ _ _ _ _ _ _ _ _ _ _ _ _ _ _ _ _ _ _ _ w3 T3
end Go.Proofs.Ytodkflnpcfepfaa
