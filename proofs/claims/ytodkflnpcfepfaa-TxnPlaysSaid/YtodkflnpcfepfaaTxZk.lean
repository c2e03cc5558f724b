/- The manager and the document's, call by call. -/
import Derived.Test.YtodkflnpcfepfaaTxZj
namespace Go.Proofs.Ytodkflnpcfepfaa
open Go.RowKit Go.ChangeShapes Go.WideShapes Go.ChangeAt
set_option linter.unusedVariables false
set_option linter.unusedSimpArgs false

structure TwoAt (W w : World) (p : Nat) (M : Mg) (F : List Nat) (q : Nat) (R : Rf) (G : List Nat) (c : Nat) : Prop where
  mg : MgF w W.heap.size p M F
  rf : RfF w W.heap.size q R G
  ap : ∀ b ∈ F, b ∉ G
  bl : Below W.heap.size W w
  rel : Rel M R
  cnt : Cnt M c
def Two (W w : World) (p q c : Nat) : Prop := ∃ M F R G, TwoAt W w p M F q R G c
theorem TwoAt.code {W w w1 : World} {p q c : Nat} {M M1 : Mg} {F F1 G : List Nat} {R : Rf} (h : TwoAt W w p M F q R G c) (m : MgF w1 W.heap.size p M1 F1) (k : Only F w w1) (kp : Kept F F1 w) : RfF w1 W.heap.size q R G ∧ (∀ b ∈ F1, b ∉ G) ∧ Below W.heap.size W w1 :=
  ⟨h.rf.only k h.ap, fun b hb hg => by
    rcases kp b hb with h1 | h1
    · exact h.ap b h1 hg
    · have := h.rf.lt b hg; omega, h.bl.trans (k.toBelow h.bl.size h.mg.ge)⟩
theorem two_ref {W w1 w2 : World} {p q c : Nat} {M : Mg} {F G G' : List Nat} {R' : Rf} (m : MgF w1 W.heap.size p M F) (ap : ∀ b ∈ F, b ∉ G) (bl : Below W.heap.size W w1) (ge : ∀ b ∈ G, W.heap.size ≤ b) (rel : Rel M R') (cnt : Cnt M c) (r : RfF w2 W.heap.size q R' G') (k : Only G w1 w2) (kp : ∀ b ∈ G', b ∈ G ∨ w1.heap.size ≤ b) : Two W w2 p q c :=
  ⟨M, F, R', G', m.only k (fun b hb hf => ap b hf hb), r, fun b hb hg => by
    rcases kp b hg with h1 | h1
    · exact ap b hb h1
    · have := m.lt b hb; omega, bl.trans (k.toBelow bl.size ge), rel, cnt⟩
theorem TwoAt.only {W w w' : World} {p q c : Nat} {M : Mg} {F G K : List Nat} {R : Rf} (h : TwoAt W w p M F q R G c) (k : Only K w w') (hK : ∀ b ∈ K, b ∉ F ∧ b ∉ G ∧ W.heap.size ≤ b) : TwoAt W w' p M F q R G c :=
  ⟨h.mg.only k (fun b hb => (hK b hb).1), h.rf.only k (fun b hb => (hK b hb).2.1), h.ap, h.bl.trans (k.toBelow h.bl.size (fun b hb => (hK b hb).2.2)), h.rel, h.cnt⟩
theorem TwoAt.more {W w : World} {p q c c' : Nat} {M : Mg} {F G : List Nat} {R : Rf} (h : TwoAt W w p M F q R G c) (hc : c ≤ c') : TwoAt W w p M F q R G c' := by
  obtain ⟨h1, h2, h3, h4, h5, ⟨k1, k2, k3, k4, k5, k6, k7⟩⟩ := h
  exact ⟨h1, h2, h3, h4, h5, ⟨by omega, by omega, by omega, fun o ho => Nat.le_trans (k4 o ho) hc, fun x hx => Nat.le_trans (k5 x hx) hc, by omega, k7⟩⟩
theorem Two.below {W w w' : World} {p q c : Nat} (h : Two W w p q c) (k : Below w.heap.size w w') : Two W w' p q c := by
  obtain ⟨M, F, R, G, h⟩ := h
  exact ⟨M, F, R, G, h.only ((Only.refl [] w).below k) (by simp)⟩
/-- The second call answers as the first, and they are alike again. -/
def PairTo (W : World) (p q c : Nat) (g : FuncId) (args2 : Array Value) (v : Value) (e : Ending) (w1 : World) : Prop := e = .returned v ∧ Below W.heap.size W w1 ∧ Calls Try.prog g args2 w1 fun e w2 => e = .returned v ∧ Two W w2 p q c
theorem begin_pair {W w : World} {p q c : Nat} {M : Mg} {F G : List Nat} {R : Rf} (h : TwoAt W w p M F q R G c) (hc : c < 900) :
    ∃ a e : Int, Calls Try.prog 9 #[.pointer (some ⟨p, 0, none⟩)] w (PairTo W p q (c + 1) 16 #[.pointer (some ⟨q, 0, none⟩)] (.tuple #[.int .u64 a, .int .i64 e])) := by
  have hol : M.os.length = (openR R.all).length := by rw [← h.rel.opens]; simp
  have hbl := h.cnt.begun
  have hrb := h.rel.begun
  by_cases hl : M.os.length < 8
  · refine ⟨M.base + (M.begun + 1), 0, (beginF h.mg h.bl.size hl (by omega)).mono ?_⟩
    rintro e w1 ⟨bt, bk, F1, rfl, m1, k1, kp1⟩
    obtain ⟨r1, ap1, bl1⟩ := h.code m1 k1 kp1
    refine ⟨rfl, bl1, ?_⟩
    obtain ⟨av, ra, rfl⟩ := r1
    refine (begin_ref ra (by omega) (by omega)).mono ?_
    rintro e w2 ⟨rfl, G', r2, k2, kp2⟩
    have en : (freshT R).n = M.base + (M.begun + 1) := by
      show R.base + ((R.all.length + 1 : Nat) : Int) = _
      rw [h.rel.base, hrb]
      omega
    exact ⟨by rw [en], two_ref m1 ap1 bl1 ra.ge (h.rel.fresh bt bk) (h.cnt.step (.begin_ M bt bk hl)) r2 k2 kp2⟩
  · refine ⟨0, 5, (begin_full h.mg (by omega)).mono ?_⟩
    rintro e w1 ⟨rfl, hw⟩
    subst w1
    refine ⟨rfl, h.bl, ?_⟩
    obtain ⟨av, ra, hG⟩ := h.rf
    refine (begin_ref_full ra (by omega)).mono ?_
    rintro e w2 ⟨rfl, hb⟩
    exact ⟨rfl, Two.below ⟨_, _, _, _, h.more (Nat.le_succ c)⟩ hb⟩
theorem wrote_pair {W w : World} {p q c : Nat} {M : Mg} {F G : List Nat} {R : Rf} (h : TwoAt W w p M F q R G c) (hc : c < 900) (n k : Int) :
    ∃ e : Int, Calls Try.prog 10 #[.pointer (some ⟨p, 0, none⟩), .int .u64 n, .int .u64 k] w (PairTo W p q (c + 1) 17 #[.pointer (some ⟨q, 0, none⟩), .int .u64 n, .int .u64 k] (.int .i64 e)) := by
  rcases h.rel.find n with ⟨i, x, o, hf, hx, hn, hop, ho, hon, hos, hok⟩ | ⟨hf, ho⟩
  · subst hn
    refine ⟨0, (wroteF h.mg ho).mono ?_⟩
    rintro e w1 ⟨rfl, m1, k1⟩
    obtain ⟨r1, ap1, bl1⟩ := h.code m1 k1 (Kept.refl _ _)
    refine ⟨rfl, bl1, ?_⟩
    obtain ⟨av, ra, rfl⟩ := r1
    have hkl := h.cnt.ok o (findT_some ho).1
    by_cases hk : k ∈ x.keys
    · refine (wrote_refold hf hx ra hk).mono ?_
      rintro e w2 ⟨rfl, hw⟩
      subst w2
      exact ⟨rfl, _, _, _, _, m1, ⟨av, ra, rfl⟩, ap1, bl1, h.rel.wroteOld hx hk, h.cnt.step (.wrote M x.n k)⟩
    · refine (wrote_refnew hf hx ra hk (by rw [← hok]; omega)).mono ?_
      rintro e w2 ⟨rfl, a', c', G', r2, k2, kp2⟩
      exact ⟨rfl, two_ref m1 ap1 bl1 ra.ge (h.rel.wroteNew hx hop hk a' c') (h.cnt.step (.wrote M x.n k)) r2 k2 kp2⟩
  · obtain ⟨bo, bw, dv, hm, hF⟩ := h.mg
    refine ⟨12, (wrote_no W.heap.size p bo bw dv M w n k hm ho).mono ?_⟩
    rintro e w1 ⟨rfl, hw⟩
    subst w1
    refine ⟨rfl, h.bl, ?_⟩
    obtain ⟨av, ra, hG⟩ := h.rf
    refine (wrote_refno hf ra k).mono ?_
    rintro e w2 ⟨rfl, hw⟩
    subst w2
    exact ⟨rfl, _, _, _, _, h.more (Nat.le_succ c)⟩
theorem check_pair {W w : World} {p q c : Nat} {M : Mg} {F G : List Nat} {R : Rf} (h : TwoAt W w p M F q R G c) (n : Int) :
    ∃ e : Int, Calls Try.prog 18 #[.pointer (some ⟨p, 0, none⟩), .int .u64 n] w (PairTo W p q (c + 1) 19 #[.pointer (some ⟨q, 0, none⟩), .int .u64 n] (.int .i64 e)) := by
  obtain ⟨bo, bw, dv, hm, hF⟩ := h.mg
  rcases h.rel.find n with ⟨i, x, o, hf, hx, hn, hop, ho, hon, hos, hok⟩ | ⟨hf, ho⟩
  · have hcl := h.rel.clash (List.mem_of_getElem? hx) hop hos hok
    refine ⟨chkR R x, (check_yes W.heap.size p bo bw dv M w n o hm ho).mono ?_⟩
    rintro e w1 ⟨rfl, hb⟩
    have e1 : (if Clash M o then (11 : Int) else 0) = chkR R x := by
      unfold chkR
      by_cases hc : Clash M o
      · rw [if_pos hc, if_pos (hcl.1 hc)]
      · rw [if_neg hc, if_neg (fun hh => hc (hcl.2 hh))]
    have h1 := h.only ((Only.refl [] w).below hb) (by simp)
    refine ⟨by rw [e1], h1.bl, ?_⟩
    obtain ⟨av, ra, hG⟩ := h1.rf
    refine (check_ref hf hx ra).mono ?_
    rintro e w2 ⟨rfl, k2⟩
    exact ⟨rfl, _, _, _, _, (h1.only k2 (by simp)).more (Nat.le_succ c)⟩
  · refine ⟨12, (check_no W.heap.size p bo bw dv M w n hm ho).mono ?_⟩
    rintro e w1 ⟨rfl, hw⟩
    subst w1
    refine ⟨rfl, h.bl, ?_⟩
    obtain ⟨av, ra, hG⟩ := h.rf
    refine (check_refno hf ra).mono ?_
    rintro e w2 ⟨rfl, hw⟩
    subst w2
    exact ⟨rfl, _, _, _, _, h.more (Nat.le_succ c)⟩
theorem commit_pair {W w : World} {p q c : Nat} {M : Mg} {F G : List Nat} {R : Rf} (h : TwoAt W w p M F q R G c) (hc : c < 900) (n : Int) :
    ∃ a e : Int, Calls Try.prog 12 #[.pointer (some ⟨p, 0, none⟩), .int .u64 n] w (PairTo W p q (c + 1) 20 #[.pointer (some ⟨q, 0, none⟩), .int .u64 n] (.tuple #[.int .u64 a, .int .i64 e])) := by
  rcases h.rel.find n with ⟨i, x, o, hf, hx, hn, hop, ho, hon, hos, hok⟩ | ⟨hf, ho⟩
  · have hcl := h.rel.clash (List.mem_of_getElem? hx) hop hos hok
    have hl := h.cnt.last
    have hd := h.cnt.ds
    have hrl := h.rel.last
    by_cases hk : Clash M o
    · refine ⟨0, 11, (clashF h.mg ho hk).mono ?_⟩
      rintro e w1 ⟨rfl, hb⟩
      have h1 := h.only ((Only.refl [] w).below hb) (by simp)
      refine ⟨rfl, h1.bl, ?_⟩
      obtain ⟨av, ra, hG⟩ := h1.rf
      refine (commit_refclash hf hx ra (hcl.1 hk)).mono ?_
      rintro e w2 ⟨rfl, k2⟩
      exact ⟨rfl, _, _, _, _, (h1.only k2 (by simp)).more (Nat.le_succ c)⟩
    · refine ⟨M.last + 1, 0, (commitF h.mg h.bl.size ho hk (by omega) (by omega)).mono ?_⟩
      rintro e w1 ⟨F1, rfl, m1, k1, kp1⟩
      obtain ⟨r1, ap1, bl1⟩ := h.code m1 k1 kp1
      refine ⟨rfl, bl1, ?_⟩
      obtain ⟨av, ra, rfl⟩ := r1
      refine (commit_ref hf hx ra (fun hh => hk (hcl.2 hh)) (by omega)).mono ?_
      rintro e w2 ⟨rfl, G', r2, k2, kp2⟩
      exact ⟨by rw [hrl], two_ref m1 ap1 bl1 ra.ge (h.rel.commit hx hop (by rw [hon, hn]) hok) (h.cnt.step (.commit M o (findT_some ho).1)) r2 k2 kp2⟩
  · obtain ⟨bo, bw, dv, hm, hF⟩ := h.mg
    refine ⟨0, 12, (commit_no W.heap.size p bo bw dv M w n hm ho).mono ?_⟩
    rintro e w1 ⟨rfl, hw⟩
    subst w1
    refine ⟨rfl, h.bl, ?_⟩
    obtain ⟨av, ra, hG⟩ := h.rf
    refine (commit_refno hf ra).mono ?_
    rintro e w2 ⟨rfl, hw⟩
    subst w2
    exact ⟨rfl, _, _, _, _, h.more (Nat.le_succ c)⟩
theorem abort_refno {w : World} {B p : Nat} {av : Value} {R : Rf} {n : Int} (hf : NotFound R n) (h : RfAt w B p av R) :
    Calls Try.prog 22 #[.pointer (some ⟨p, 0, none⟩), .int .u64 n] w fun e w' => e = .returned (.int .i64 12) ∧ w' = w := by
  have FI := Lib.hid (find_none hf h)
  clear h hf
  go_enter Try.func22, Try.ntmps22
  go_wp2_with fail
  refine FI.out.mono ?_
  rintro _ w1 ⟨rfl, rfl⟩
  go_wp2_with fail
  go_ret
  exact ⟨rfl, rfl⟩
theorem abort_pair {W w : World} {p q c : Nat} {M : Mg} {F G : List Nat} {R : Rf} (h : TwoAt W w p M F q R G c) (n : Int) :
    ∃ e : Int, Calls Try.prog 21 #[.pointer (some ⟨p, 0, none⟩), .int .u64 n] w (PairTo W p q (c + 1) 22 #[.pointer (some ⟨q, 0, none⟩), .int .u64 n] (.int .i64 e)) := by
  rcases h.rel.find n with ⟨i, x, o, hf, hx, hn, hop, ho, hon, hos, hok⟩ | ⟨hf, ho⟩
  · subst hn
    refine ⟨0, (abort_yes h.mg ho).mono ?_⟩
    rintro e w1 ⟨F1, rfl, m1, k1, kp1⟩
    obtain ⟨r1, ap1, bl1⟩ := h.code m1 k1 kp1
    refine ⟨rfl, bl1, ?_⟩
    refine (abort_ref hf hx r1).mono ?_
    rintro e w2 ⟨rfl, G', r2, k2, kp2⟩
    exact ⟨rfl, two_ref m1 ap1 bl1 r1.ge (h.rel.abort hx hop) (h.cnt.step (.abort M x.n)) r2 k2 kp2⟩
  · refine ⟨12, (abort_no h.mg ho).mono ?_⟩
    rintro e w1 ⟨rfl, hw⟩
    subst w1
    refine ⟨rfl, h.bl, ?_⟩
    obtain ⟨av, ra, hG⟩ := h.rf
    refine (abort_refno hf ra).mono ?_
    rintro e w2 ⟨rfl, hw⟩
    subst w2
    exact ⟨rfl, _, _, _, _, h.more (Nat.le_succ c)⟩
theorem forget_pair {W w : World} {p q c : Nat} {M : Mg} {F G : List Nat} {R : Rf} (h : TwoAt W w p M F q R G c) (hc : c < 900) :
    ∃ e : Int, Calls Try.prog 26 #[.pointer (some ⟨p, 0, none⟩)] w (PairTo W p q (c + 1) 27 #[.pointer (some ⟨q, 0, none⟩)] (.int .i64 e)) := by
  refine ⟨forgetL R, (forget_at h.mg (by have := h.cnt.os; omega) (fun o ho => by have := h.cnt.ok o ho; omega) (fun x hx => by have := h.cnt.wk x hx; omega) (by have := h.cnt.ws; omega)).mono ?_⟩
  rintro e w1 ⟨F1, rfl, m1, k1, kp1⟩
  obtain ⟨r1, ap1, bl1⟩ := h.code m1 k1 kp1
  refine ⟨by rw [h.rel.count], bl1, ?_⟩
  obtain ⟨av, ra, rfl⟩ := r1
  refine (forget_ref ra).mono ?_
  rintro e w2 ⟨rfl, hw⟩
  subst w2
  exact ⟨rfl, _, _, _, _, m1, ⟨av, ra, rfl⟩, ap1, bl1, h.rel.forget, h.cnt.step (.forget M)⟩
theorem sorted_same {xs ys : List Int} (h : xs.Perm ys) (h1 : SortedTo xs xs.length) (h2 : SortedTo ys ys.length) : xs = ys := by
  have pw : ∀ {zs : List Int}, SortedTo zs zs.length → zs.Pairwise (fun a b => a ≤ b) := fun {zs} hz => by
    rw [List.pairwise_iff_getElem]
    intro i j hi hj hij
    have := hz i j hij hj
    unfold at0 at this
    rw [List.getElem?_eq_getElem hi, List.getElem?_eq_getElem hj] at this
    exact this
  exact h.eq_of_pairwise (fun a b _ _ h1 h2 => by omega) (pw h1) (pw h2)
theorem opens_sorted {M : Mg} {R : Rf} (h : Rel M R) : SortedTo (openR R.all) (openR R.all).length := by
  have key : ∀ (l : List RT) (b : Int), (∀ (j : Nat) x, l[j]? = some x → x.n = b + (j : Int) + 1) → (openR l).Pairwise (fun a b => a ≤ b) ∧ ∀ y ∈ openR l, b < y := by
    intro l
    induction l with
    | nil => intro b _; exact ⟨List.Pairwise.nil, by simp [openR]⟩
    | cons x l ih =>
      intro b hb
      have hx := hb 0 x rfl
      obtain ⟨i1, i2⟩ := ih (b + 1) (fun j y hy => by have := hb (j + 1) y (by simpa using hy); omega)
      have e : openR (x :: l) = (if x.op then [x.n] else []) ++ openR l := by
        unfold openR
        rw [List.filter_cons]
        cases x.op <;> simp
      rw [e]
      cases x.op with
      | false => simpa using ⟨i1, fun y hy => by have := i2 y hy; omega⟩
      | true =>
        simp only [if_true, List.singleton_append, List.pairwise_cons, List.mem_cons]
        refine ⟨⟨fun y hy => by have := i2 y hy; omega, i1⟩, fun y hy => ?_⟩
        rcases hy with rfl | hy
        · omega
        · have := i2 y hy; omega
  have hp := (key R.all R.base h.ns).1
  rw [List.pairwise_iff_getElem] at hp
  intro a b hab hb
  have := hp a b (by omega) hb hab
  unfold at0
  rw [List.getElem?_eq_getElem (show a < _ by omega), List.getElem?_eq_getElem hb]
  exact this
theorem looks_alike {M : Mg} {R : Rf} (h : Rel M R) {w : World} {B p bo bw : Nat} {dv : Value} (hm : MgAt w B p bo bw dv M) {ys : List (OpenTx M)} (h1 : (numsT ys).Perm (M.os.map (·.n))) (h2 : SortedTo (numsT ys) (numsT ys).length) : looksM M (txsT ys) = looksK R := by
  have hn : numsT ys = openR R.all := sorted_same (by rw [← h.opens]; exact h1) h2 (opens_sorted h)
  unfold looksM looksK
  rw [h.last, ← hn]
  congr 1
  unfold txsT numsT
  rw [List.map_map, List.map_map]
  refine List.map_congr_left fun x _ => ?_
  simp only [Function.comp_apply]
  congr 1
  rcases h.find x.1.n with ⟨i, y, o, hf, hy, _, _, ho, _, hos, _⟩ | ⟨_, ho⟩
  · rw [findT_mem hm.os_nodup x.2] at ho
    simp only [Option.some.injEq] at ho
    subst ho
    rw [found_start hf hy, hos]
  · rw [findT_mem hm.os_nodup x.2] at ho
    cases ho
end Go.Proofs.Ytodkflnpcfepfaa
