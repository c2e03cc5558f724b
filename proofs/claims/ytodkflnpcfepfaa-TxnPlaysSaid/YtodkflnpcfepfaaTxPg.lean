/- TxnPlays: the look at the end of each round. -/
import Derived.Test.YtodkflnpcfepfaaTxP0
import Derived.Test.YtodkflnpcfepfaaTxZm
namespace Go.Proofs.Ytodkflnpcfepfaa
open Go.RowKit Go.ChangeShapes Go.WideShapes Go.ChangeAt
set_option linter.unusedVariables false
set_option linter.unusedSimpArgs false

theorem osL_keys (os : List Tx) : (osL os).map (·.1) = os.map (·.n) := by simp [osL]
set_option maxRecDepth 1000000 in
set_option maxHeartbeats 4000000 in
theorem last52 {s0 s1 s2 s3 s4 s7 s8 s9 s10 s11 s12 s13 s14 s15 s16 s17 s18 s19 s20 s21 s22 s23 s24 s25 s26 s27 s28 s29 s30 s31 s32 s33 s34 s35 s36 s37 s38 s39 s40 s41 s42 s43 s44 s45 s46 s47 s48 s49 s50 s51 s52 s53 s54 s55 s56 s57 s58 s59 s60 s61 s62 s63 s64 s65 s66 s67 s68 s69 s70 s71 s72 s73 s74 s75 s76 s77 s78 s79 s80 s81 s82 s83 s84 s85 s86 s87 s88 s89 s90 s91 s92 s93 s94 s95 s96 s97 s98 s99 s100 s101 s102 s103 s104 s105 s106 s107 s108 s109 s110 s111 s112 s113 s114 s115 s116 s117 s118 s119 s120 s121 s122 s123 s124 s125 s126 s127 s128 s129 s130 s131 s132 s133 s134 s135 s136 s137 s138 s139 s140 s141 s142 s143 s144 s145 s146 s147 s148 s149 s150 s151 s152 s153 s154 s155 s156 s157 s158 s159 s160 s161 s162 s163 s164 s165 s166 s167 s168 s169 s170 s171 s172 s173 s174 s175 s176 s177 s178 s179 s180 s181 s182 s183 s184 s185 s186 s187 s188 s189 s190 s191 s192 s193 s194 s195 s196 s197 s198 s199 s200 s201 s202 s203 s204 s205 s206 s207 s208 s209 s210 s211 s212 s213 s214 s215 s216 s217 s218 s219 s220 s221 s222 s223 s224 s225 s226 s227 s228 s229 s230 s231 s232 s233 s234 s235 s236 s237 s238 s239 s240 s241 s242 s243 s244 s245 s246 s247 s248 : Value} {W wr : World} {p q c : Nat} {K : Act → World → Prop} {Q0 : Exit → Act → World → Prop} (T : Two W wr p q c)
    (HK : Hid (∀ (v233 v234 v235 v236 v237 v238 v239 v240 v241 v242 v243 v244 v245 v246 : Value) (w' : World), Two W w' p q c → K ⟨#[s0, s1, s2, s3, s4, .pointer (some ⟨p, 0, none⟩), .pointer (some ⟨q, 0, none⟩), s7, s8, s9, s10, s11, s12, s13, s14, s15, s16, s17, s18, s19, s20, s21, s22, s23, s24, s25, s26, s27, s28, s29, s30, s31, s32, s33, s34, s35, s36, s37, s38, s39, s40, s41, s42, s43, s44, s45, s46, s47, s48, s49, s50, s51, s52, s53, s54, s55, s56, s57, s58, s59, s60, s61, s62, s63, s64, s65, s66, s67, s68, s69, s70, s71, s72, s73, s74, s75, s76, s77, s78, s79, s80, s81, s82, s83, s84, s85, s86, s87, s88, s89, s90, s91, s92, s93, s94, s95, s96, s97, s98, s99, s100, s101, s102, s103, s104, s105, s106, s107, s108, s109, s110, s111, s112, s113, s114, s115, s116, s117, s118, s119, s120, s121, s122, s123, s124, s125, s126, s127, s128, s129, s130, s131, s132, s133, s134, s135, s136, s137, s138, s139, s140, s141, s142, s143, s144, s145, s146, s147, s148, s149, s150, s151, s152, s153, s154, s155, s156, s157, s158, s159, s160, s161, s162, s163, s164, s165, s166, s167, s168, s169, s170, s171, s172, s173, s174, s175, s176, s177, s178, s179, s180, s181, s182, s183, s184, s185, s186, s187, s188, s189, s190, s191, s192, s193, s194, s195, s196, s197, s198, s199, s200, s201, s202, s203, s204, s205, s206, s207, s208, s209, s210, s211, s212, s213, s214, s215, s216, s217, s218, s219, s220, s221, s222, s223, s224, s225, s226, s227, s228, s229, s230, s231, s232, v233, v234, v235, v236, v237, v238, v239, v240, v241, v242, v243, v244, v245, v246, .bool false, s248], []⟩ w')) :
    Code.wp Try.prog rg52 (Exit.then K Q0) ⟨#[s0, s1, s2, s3, s4, .pointer (some ⟨p, 0, none⟩), .pointer (some ⟨q, 0, none⟩), s7, s8, s9, s10, s11, s12, s13, s14, s15, s16, s17, s18, s19, s20, s21, s22, s23, s24, s25, s26, s27, s28, s29, s30, s31, s32, s33, s34, s35, s36, s37, s38, s39, s40, s41, s42, s43, s44, s45, s46, s47, s48, s49, s50, s51, s52, s53, s54, s55, s56, s57, s58, s59, s60, s61, s62, s63, s64, s65, s66, s67, s68, s69, s70, s71, s72, s73, s74, s75, s76, s77, s78, s79, s80, s81, s82, s83, s84, s85, s86, s87, s88, s89, s90, s91, s92, s93, s94, s95, s96, s97, s98, s99, s100, s101, s102, s103, s104, s105, s106, s107, s108, s109, s110, s111, s112, s113, s114, s115, s116, s117, s118, s119, s120, s121, s122, s123, s124, s125, s126, s127, s128, s129, s130, s131, s132, s133, s134, s135, s136, s137, s138, s139, s140, s141, s142, s143, s144, s145, s146, s147, s148, s149, s150, s151, s152, s153, s154, s155, s156, s157, s158, s159, s160, s161, s162, s163, s164, s165, s166, s167, s168, s169, s170, s171, s172, s173, s174, s175, s176, s177, s178, s179, s180, s181, s182, s183, s184, s185, s186, s187, s188, s189, s190, s191, s192, s193, s194, s195, s196, s197, s198, s199, s200, s201, s202, s203, s204, s205, s206, s207, s208, s209, s210, s211, s212, s213, s214, s215, s216, s217, s218, s219, s220, s221, s222, s223, s224, s225, s226, s227, s228, s229, s230, s231, s232, s233, s234, s235, s236, s237, s238, s239, s240, s241, s242, s243, s244, s245, s246, s247, s248], []⟩ wr := by
  obtain ⟨M, F, R, G, h⟩ := T
  have h1 : TwoAt W wr.drew p M F q R G c := h.only (Only.refl [] _).drew (by simp)
  have TT := Lib.hid h1
  have c2 : wr.cell? ⟨q, 2, none⟩ = some (.int .u64 M.last) := by
    obtain ⟨av, ra, _⟩ := h.rf
    rw [h.rel.last]
    exact ra.row.cell 2
  have LA := Lib.hid (last_at h1.mg)
  have OA := Lib.hid (open_at h1.mg (by have := h1.cnt.os; omega))
  have HOR : Hid (∀ w1, Below wr.drew.heap.size wr.drew w1 → Calls Try.prog 31 #[.pointer (some ⟨q, 0, none⟩)] w1 (OpenRTo (openR R.all) w1)) := Lib.hid fun w1 hb => by
    obtain ⟨av, ra, _⟩ := (h1.only ((Only.refl [] _).below hb) (by simp)).rf
    exact open_ref ra
  have HSO : Hid (∀ ys : List Int, ys.Perm ((osL M.os).map (·.1)) → SortedTo ys ys.length → ys = openR R.all) := Lib.hid fun ys hp hs => sorted_same (by rw [osL_keys, h.rel.opens] at hp; exact hp) hs (opens_sorted h.rel)
  have HLN : Hid ((openR R.all).length ≤ 8) := Lib.hid (by have h2 := h.cnt.os; have h3 := congrArg List.length h.rel.opens; simp at h3; omega)
  clear h h1
  conv => arg 2; whnf
  refine wp_calm ?_
  go_region_with
    (first
      | (go_at_call 28; refine LA.out.mono ?_; rintro _ x1 ⟨rfl, hz⟩; subst x1)
      | (go_at_call 30; refine OA.out.mono ?_; rintro _ w1 ⟨ys, oa, oc, rfl, hp, hs, ho, hb⟩; have hys := HSO.out ys hp hs; subst hys; have HO1 := Lib.hid ho; have HB1 := Lib.hid hb; have OR := Lib.hid (HOR.out w1 hb); clear hp hs ho hb)
      | (go_at_call 31; refine OR.out.mono ?_; rintro _ w2 ⟨pa, pc, rfl, ho, hb⟩; have HB2 := Lib.hid hb; have SM := Lib.hid (same_any oa pa _ oc pc _ _ w2 rfl ((ints_own HO1.out).below' hb) (ints_own ho) rfl (by have := HLN.out; omega)); clear ho hb)
      | (go_at_call 29; refine SM.out.mono ?_; rintro _ w3 ⟨rfl, hb⟩; have HB3 := Lib.hid hb; clear hb))
  all_goals
    have N3 : Hid (Two W w3 p q c) := Lib.hid ⟨_, _, _, _, TT.out.only ((((Only.refl [] _).below HB1.out).below HB2.out).below HB3.out) (by simp)⟩
    exact HK.out _ _ _ _ _ _ _ _ _ _ _ _ _ _ w3 N3.out
end Go.Proofs.Ytodkflnpcfepfaa
