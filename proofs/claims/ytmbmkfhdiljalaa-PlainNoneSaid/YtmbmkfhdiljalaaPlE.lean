/- Plain: Put. -/
import Derived.Test.YtmbmkfhdiljalaaPlD
namespace Go.Proofs.Ytmbmkfhdiljalaa
open Go.RowKit Go.ChangeShapes Go.WideShapes Go.ChangeAt
set_option linter.unusedVariables false
set_option linter.unusedSimpArgs false

def upV (k : Int) (v : Ver) : List (Int × Ver) → List (Int × Ver)
  | [] => [(k, v)]
  | x :: l => if k = x.1 then (k, v) :: l else x :: upV k v l
theorem up_wrL (k : Int) (v : Ver) : ∀ l, up k v.val (wrL l) = wrL (upV k v l)
  | [] => rfl
  | x :: l => by
    have ih := up_wrL k v l
    unfold wrL at ih ⊢
    simp only [List.map_cons, up, upV]
    by_cases h : k = x.1
    · rw [if_pos h, if_pos h]; simp [h]
    · rw [if_neg h, if_neg h, ih]; rfl
theorem mem_upV {k : Int} {v : Ver} {y : Int × Ver} : ∀ {l}, y ∈ upV k v l → y = (k, v) ∨ y ∈ l
  | [], h => .inl (by simpa [upV] using h)
  | x :: l, h => by
    unfold upV at h
    split at h
    · rcases List.mem_cons.1 h with h | h
      · exact .inl h
      · exact .inr (List.mem_cons_of_mem _ h)
    · rcases List.mem_cons.1 h with h | h
      · exact .inr (by rw [h]; exact List.mem_cons_self ..)
      · rcases mem_upV h with h | h
        · exact .inl h
        · exact .inr (List.mem_cons_of_mem _ h)
def wroteP (D : PDB) (n k : Int) (v : Ver) : PDB := { D with op := D.op.map fun o => if o.n = n then { o with wr := upV k v o.wr } else o }
theorem eq_of_map {α : Type} {f : α → Int} : ∀ {l : List α} {x y : α}, (l.map f).Nodup → x ∈ l → y ∈ l → f x = f y → x = y
  | a :: l, x, y, hn, hx, hy, h => by
    simp only [List.map_cons, List.nodup_cons] at hn
    rcases List.mem_cons.1 hx with rfl | hx' <;> rcases List.mem_cons.1 hy with rfl | hy'
    · rfl
    · exact absurd (List.mem_map.2 ⟨y, hy', h.symm⟩) hn.1
    · exact absurd (List.mem_map.2 ⟨x, hx', h⟩) hn.1
    · exact eq_of_map hn.2 hx' hy' h
theorem DbAt.ops_nodup {w : World} {B p ba bo : Nat} {D : PDB} (h : DbAt w B p ba bo D) : (D.op.map (·.n)).Nodup := by
  have := h.om.nodup
  unfold pxL at this
  rw [List.map_map] at this
  exact this
theorem wroteP_own (D : PDB) (n k : Int) (v : Ver) (p ba bo : Nat) : (wroteP D n k v).own p ba bo = D.own p ba bo := by
  unfold PDB.own wroteP pxB
  congr 3
  rw [List.flatMap_map]
  refine congrArg (fun f => List.flatMap f D.op) (funext fun o => ?_)
  by_cases e : o.n = n
  · simp [e]
  · simp [e]
theorem wroteP_px (D : PDB) (n k : Int) (v : Ver) : pxL (wroteP D n k v).op = pxL D.op := by
  unfold pxL wroteP
  rw [List.map_map]
  refine List.map_congr_left fun o _ => ?_
  simp only [Function.comp_apply]
  by_cases e : o.n = n
  · simp [e]
  · simp [e]
theorem px_apart {l : List PTx} (hn : (pxB l).Nodup) {o x : PTx} (ho : o ∈ l) (hx : x ∈ l) : o.bm ≠ x.bt ∧ (x ≠ o → o.bm ≠ x.bm) := by
  induction l with
  | nil => simp at ho
  | cons a l ih =>
    have e : pxB (a :: l) = a.bt :: a.bm :: pxB l := by simp [pxB]
    rw [e, List.nodup_cons, List.nodup_cons] at hn
    simp only [List.mem_cons, not_or] at hn
    obtain ⟨⟨n1, n2⟩, n3, n4⟩ := hn
    rcases List.mem_cons.1 ho with rfl | ho' <;> rcases List.mem_cons.1 hx with rfl | hx'
    · exact ⟨fun e => n1 e.symm, fun hh => absurd rfl hh⟩
    · exact ⟨fun e => n3 (e ▸ (mem_pxB hx').1), fun _ e => n3 (e ▸ (mem_pxB hx').2)⟩
    · exact ⟨fun e => n2 (e ▸ (mem_pxB ho').2), fun _ e => n3 (e ▸ (mem_pxB ho').2)⟩
    · exact ih n4 ho' hx'
theorem DbAt.wrote {w w' : World} {B p ba bo : Nat} {D : PDB} {o : PTx} {k : Int} {v : Ver} (h : DbAt w B p ba bo D) (ho : o ∈ D.op) (kO : Only [o.bm] w w') (hm : MapAt w' o.bm .u64 (wrL (upV k v o.wr))) (hv : VerAt w' v) (hB : ∀ b ∈ v.bs, B ≤ b) (hap : ∀ b ∈ v.bs, b ∉ D.own p ba bo) :
    DbAt w' B p ba bo (wroteP D o.n k v) ∧ ∀ b ∈ (wroteP D o.n k v).reads, b ∈ D.reads ∨ b ∈ v.bs := by
  obtain ⟨a1, a2, a3, a4⟩ := own_apart h.nd
  have hnd := h.ops_nodup
  have hpn : (pxB D.op).Nodup := by
    have := h.nd
    simp only [PDB.own, List.nodup_cons] at this
    exact this.2.2.2
  have hob : o.bm ∈ D.own p ba bo := by simp [PDB.own, (mem_pxB ho).2]
  have k1 : ∀ b, b ∈ D.reads → b ∉ [o.bm] := fun b hb => by simp; rintro rfl; exact h.ap _ hob hb
  have hrd : ∀ b ∈ (wroteP D o.n k v).reads, b ∈ D.reads ∨ b ∈ v.bs := by
    intro b hb
    rcases List.mem_append.1 hb with hb | hb
    · exact .inl (List.mem_append_left _ hb)
    · obtain ⟨x, hx, hb⟩ := List.mem_flatMap.1 hb
      obtain ⟨x0, hx0, rfl⟩ := List.mem_map.1 hx
      obtain ⟨y, hy, hb⟩ := List.mem_flatMap.1 hb
      split at hy
      · rcases mem_upV hy with rfl | hy
        · exact .inr hb
        · exact .inl (mem_reads2 hx0 hy hb)
      · exact .inl (mem_reads2 hx0 hy hb)
  have bm4 := a4 _ (mem_pxB ho).2
  refine ⟨⟨h.row.only kO (by simp; exact fun e => bm4.1 e.symm), h.am.only kO (by simp; exact fun e => bm4.2.1 e.symm), by rw [wroteP_px]; exact h.om.only kO (by simp; exact fun e => bm4.2.2 e.symm), ?_, fun x hx => (h.vsd x hx).only kO fun b hb => k1 b (List.mem_append_left _ (List.mem_flatMap.2 ⟨x, hx, hb⟩)), ?_, by rw [wroteP_own]; exact h.nd, by rw [wroteP_own]; exact h.ge, ?_, ?_, ⟨h.fine.dim, h.fine.begun, h.fine.last, ?_⟩⟩, hrd⟩
  · intro x hx
    obtain ⟨x0, hx0, rfl⟩ := List.mem_map.1 hx
    have ap := px_apart hpn ho hx0
    by_cases e : x0.n = o.n
    · have : x0 = o := eq_of_map hnd hx0 ho e
      subst this
      simp only [if_pos]
      exact ⟨(h.oa x0 hx0).1.only kO (by simp; exact fun e => ap.1 e.symm), hm⟩
    · simp only [if_neg e]
      have hne : x0 ≠ o := fun hh => e (by rw [hh])
      exact ⟨(h.oa x0 hx0).1.only kO (by simp; exact fun e => ap.1 e.symm), (h.oa x0 hx0).2.only kO (by simp; exact fun e => ap.2 hne e.symm)⟩
  · intro x hx y hy
    obtain ⟨x0, hx0, rfl⟩ := List.mem_map.1 hx
    split at hy
    · rcases mem_upV hy with rfl | hy
      · exact hv
      · exact (h.wrd x0 hx0 y hy).only kO fun b hb => k1 b (mem_reads2 hx0 hy hb)
    · exact (h.wrd x0 hx0 y hy).only kO fun b hb => k1 b (mem_reads2 hx0 hy hb)
  · intro b hb
    rcases hrd b hb with hb | hb
    · exact h.gr b hb
    · exact hB b hb
  · rw [wroteP_own]
    intro b hb hr
    rcases hrd b hr with hr | hr
    · exact h.ap b hb hr
    · exact hap b hr hb
  · intro x hx
    obtain ⟨x0, hx0, rfl⟩ := List.mem_map.1 hx
    have := h.fine.ops x0 hx0
    split
    · exact this
    · exact this
def PutTo (B p : Nat) (D : PDB) (n key : Int) (xs ys : List Int) (F H : List Nat) (w : World) (e : Ending) (w' : World) : Prop := ∃ (v : Ver) (H' : List Nat), e = .returned (.int .i64 0) ∧ v.at_ = 0 ∧ v.gone = false ∧ v.key = key ∧ v.vec.xs = xs ∧ v.tag.xs = ys ∧ DbF w' B p (wroteP D n key v) F H' ∧ Only F w w' ∧ Kept H H' w
set_option maxHeartbeats 2000000 in
theorem put_on {w : World} {B p : Nat} {D : PDB} {F H : List Nat} {n key : Int} {o : PTx} {va ta : Sl} (h : DbF w B p D F H) (hB : B ≤ w.heap.size) (ho : findP n D.op = some o) (h1 : SlAt .i32 w va) (h2 : SlAt .u8 w ta) (hd : (va.xs.length : Int) = D.dim) (ht : ta.xs.length ≤ 1024) :
    Calls Try.prog 8 #[.pointer (some ⟨p, 0, none⟩), .int .u64 n, .agg #[.int .u64 key, va.v, ta.v]] w (PutTo B p D n key va.xs ta.xs F H w) := by
  obtain ⟨ba, bo, h, rfl, rfl⟩ := h
  obtain ⟨hom, rfl⟩ := findP_some ho
  have hdim := h.fine.dim
  have FI : Hid (∀ y, Only [] w y → Calls Try.prog 20 #[.pointer (some ⟨p, 0, none⟩), .int .u64 o.n] y fun e w' => e = .returned (.tuple #[.pointer (some ⟨o.bt, 0, none⟩), .int .i64 0]) ∧ w' = y) := Lib.hid fun y k => find_yes (h.only k (by simp)) ho
  have IM : Hid (∀ y : World, Calls Try.prog 28 #[.agg #[.int .u64 key, va.v, ta.v]] y fun e w' => e = .returned (.int .i64 0) ∧ Below y.heap.size y w') := Lib.hid fun y => item_ok (by omega) (by omega) ht
  have OW : Hid (∀ y, Only [] w y → Calls Try.prog 22 #[.agg #[.int .u64 key, va.v, ta.v]] y (OwnTo key va.xs ta.xs y)) := Lib.hid fun y k => own_on (h1.only k (by simp)) (h2.only k (by simp))
  have HH := Lib.hid h
  have HM := Lib.hid hom
  have HB := Lib.hid hB
  have C0 : Hid (∀ y, Only [] w y → y.cell? ⟨p, 0, none⟩ = some (.int .i64 D.dim) ∧ y.cell? ⟨o.bt, 1, none⟩ = some (.map (some o.bm))) := Lib.hid fun y k => ⟨(h.row.only k (by simp)).cell 0, ((h.oa o hom).1.only k (by simp)).cell 1⟩
  obtain ⟨a1, n1, c1, hv1⟩ : ∃ a n c, va.v = .slice a n c := ⟨_, _, _, rfl⟩
  obtain ⟨a2, n2, c2, hv2⟩ : ∃ a n c, ta.v = .slice a n c := ⟨_, _, _, rfl⟩
  have hn1 : n1 = va.xs.length := by unfold Sl.v at hv1; simp only [Value.slice.injEq] at hv1; exact hv1.2.1.symm
  rw [hv1, hv2] at IM OW ⊢
  generalize va.xs = xs at *
  generalize ta.xs = ys at *
  subst hn1
  obtain ⟨dim, hdm⟩ : ∃ dim, D.dim = dim := ⟨_, rfl⟩
  rw [hdm] at hd C0
  subst hd
  clear h ho hom hB h1 h2 hv1 hv2 hdim ht hdm
  go_enter Try.func8, Try.ntmps8
  go_wp2_with fail
  have R1 : Hid (Row (w.alloc (.cells #[.int .u64 key, .slice a1 xs.length c1, .slice a2 n2 c2] tIt)) w.heap.size #[.int .u64 key, .slice a1 xs.length c1, .slice a2 n2 c2] tIt) := Lib.hid (Row.made w _ _)
  have K1 : Hid (Only [] w (w.alloc (.cells #[.int .u64 key, .slice a1 xs.length c1, .slice a2 n2 c2] tIt))) := Lib.hid ((Only.refl [] w).alloc _)
  refine (FI.out _ K1.out).mono ?_
  rintro _ w2 ⟨rfl, hw⟩
  subst w2
  generalize w.alloc (.cells #[.int .u64 key, .slice a1 xs.length c1, .slice a2 n2 c2] tIt) = w1 at *
  have e1 : w1.cell? ⟨w.heap.size, 1, none⟩ = some (.slice a1 xs.length c1) := R1.out.cell 1
  obtain ⟨e2, _⟩ := C0.out w1 K1.out
  go_wp2_with fail
  go_quiet (fail)
  have K2 : Hid (Only [] w (w1.drewN nq)) := Lib.hid (K1.out.drewN nq)
  have R2 : Hid (Row (w1.drewN nq) w.heap.size #[.int .u64 key, .slice a1 xs.length c1, .slice a2 n2 c2] tIt) := Lib.hid (R1.out.only ((Only.refl [] _).drewN nq) (by simp))
  clear e1 e2 R1 K1 FI
  generalize w1.drewN nq = w2 at *
  have e0 := R2.out.cell 0
  have e1 := R2.out.cell 1
  have e2 := R2.out.cell 2
  simp only [List.getElem?_toArray, List.getElem?_cons_zero, List.getElem?_cons_succ] at e0 e1 e2
  go_wp2_with fail
  refine (IM.out _).mono ?_
  rintro _ w3 ⟨rfl, hb⟩
  have K3 : Hid (Only [] w w3) := Lib.hid (K2.out.below hb)
  have R3 : Hid (Row w3 w.heap.size #[.int .u64 key, .slice a1 xs.length c1, .slice a2 n2 c2] tIt) := Lib.hid (R2.out.only ((Only.refl [] _).below hb) (by simp))
  clear e0 e1 e2 hb R2 K2 IM
  go_upto_region 9 with fail
  have bt_ne : w.heap.size ≠ o.bm := fun e => by have := HH.out.lt o.bm (by simp [PDB.own, (mem_pxB HM.out).2]); omega
  have SO : Hid (∀ y, Only [o.bm] w3 y → y.cell? ⟨o.bt, 1, none⟩ = some (.map (some o.bm)) ∧ y.cell? ⟨w.heap.size, 0, none⟩ = some (.int .u64 key) ∧ y.cell? ⟨w.heap.size, 1, none⟩ = some (.slice a1 xs.length c1) ∧ y.cell? ⟨w.heap.size, 2, none⟩ = some (.slice a2 n2 c2)) := Lib.hid fun y k => by
    have hpn : (pxB D.op).Nodup := by
      have := HH.out.nd
      simp only [PDB.own, List.nodup_cons] at this
      exact this.2.2.2
    have hr := (((HH.out.oa o HM.out).1.only K3.out (by simp)).only k (by simp; exact fun e => (px_apart hpn HM.out HM.out).1 e.symm)).cell 1
    have hx := R3.out.only k (by simpa using bt_ne)
    exact ⟨hr, hx.cell 0, hx.cell 1, hx.cell 2⟩
  clear bt_ne
  go_region_held3 (fun y => y.cell? ⟨o.bt, 1, none⟩ = some (.map (some o.bm)) ∧ y.cell? ⟨w.heap.size, 0, none⟩ = some (.int .u64 key) ∧ y.cell? ⟨w.heap.size, 1, none⟩ = some (.slice a1 xs.length c1) ∧ y.cell? ⟨w.heap.size, 2, none⟩ = some (.slice a2 n2 c2))
    (first
      | exact SO.out _ ((X4.out.mono (by simp)).trans setBlock_only (by simp))
      | exact SO.out _ (X4.out.mono (by simp))
      | exact SO.out _ ((Only.refl [] w3).drew.mono (by simp)))
    ((go_at_call 22; refine (OW.out w3.drew (K3.out.drew)).mono ?_; rintro _ w4 ⟨s1, s2, rfl, x1, x2, m1, m2, fr, hb⟩; have X4 : Hid (Only [] w3 w4) := Lib.hid ((Only.refl [] w3).drew.below hb); have N1 := Lib.hid m1; have N2 := Lib.hid m2; have E1 := Lib.hid x1; have E2 := Lib.hid x2; have FR : Hid (∀ b ∈ s1.bs ++ s2.bs, w3.heap.size ≤ b) := Lib.hid fr; obtain ⟨es, clock, hb0, hs0, hL0⟩ : MapAt w4 o.bm .u64 (wrL o.wr) := ((HH.out.oa o HM.out).2.only K3.out (by simp)).only X4.out (by simp); have hup := run_update (P := Try.prog) (w := w4) hb0 hL0 Try.underlying56 Try.underlying22 key (Value.agg #[.int .u64 0, .bool false, .int .u64 key, .slice s1.a s1.xs.length s1.c, .slice s2.a s2.xs.length s2.c]); have hset := Lib.hid (MapAt.set hb0 hs0 hL0 key (Value.agg #[.int .u64 0, .bool false, .int .u64 key, .slice s1.a s1.xs.length s1.c, .slice s2.a s2.xs.length s2.c])); generalize upObj es clock .u64 key (Value.agg #[.int .u64 0, .bool false, .int .u64 key, .slice s1.a s1.xs.length s1.c, .slice s2.a s2.xs.length s2.c]) (wrL o.wr) = ob at hup hset; clear x1 x2 m1 m2 fr hb hb0 hs0 hL0; unfold Sl.v))
  all_goals
    have KS : Hid (Only [o.bm] w4 (ChangeMaps.setBlock w4 o.bm ob)) := Lib.hid setBlock_only
    have K4 : Hid (Only [] w w4) := Lib.hid (K3.out.trans X4.out (by simp))
    clear hup
    generalize ChangeMaps.setBlock w4 o.bm ob = w5 at *
    go_wp2_with fail
    go_ret
    have hm := hset.out
    have ev : (Value.agg #[.int .u64 0, .bool false, .int .u64 key, .slice s1.a s1.xs.length s1.c, .slice s2.a s2.xs.length s2.c]) = (⟨0, false, key, s1, s2⟩ : Ver).val := rfl
    rw [ev, up_wrL] at hm
    have hlt := HH.out.lt
    have hltr := HH.out.ltr
    have hk3 := K3.out.size
    have hbm : o.bm < w.heap.size := hlt o.bm (by simp [PDB.own, (mem_pxB HM.out).2])
    have fr : ∀ b ∈ (⟨0, false, key, s1, s2⟩ : Ver).bs, w3.heap.size ≤ b := FR.out
    obtain ⟨r1, r2⟩ := (HH.out.only K4.out (by simp)).wrote (k := key) (v := ⟨0, false, key, s1, s2⟩) HM.out KS.out hm ⟨N1.out.only KS.out fun b hb => by have := FR.out b (List.mem_append_left _ hb); simp; omega, N2.out.only KS.out fun b hb => by have := FR.out b (List.mem_append_right _ hb); simp; omega⟩ (fun b hb => by have := fr b hb; have := HB.out; omega) (fun b hb hh => by have := fr b hb; have := hlt b hh; omega)
    refine ⟨⟨0, false, key, s1, s2⟩, _, rfl, rfl, rfl, rfl, E1.out, E2.out, ⟨ba, bo, r1, (wroteP_own D o.n key _ p ba bo).symm, rfl⟩, (K4.out.mono (by simp)).trans KS.out (by intro b hb; simp at hb; subst hb; exact .inl (by simp [PDB.own, (mem_pxB HM.out).2])), fun b hb => ?_⟩
    rcases r2 b hb with hb | hb
    · exact .inl hb
    · exact .inr (Nat.le_trans hk3 (fr b hb))
theorem Vs.at_ {w : World} {V : Vs} (h : VsAt w V) {j : Nat} {x : Ver} (hx : V.vs[j]? = some x) : ∃ b o, V.a = some ⟨b, o, none⟩ ∧ ∀ i, i < 5 → w.cell? ⟨b, o + (j * 5 + i), none⟩ = x.cells[i]? := by
  have hj := (List.getElem?_eq_some_iff.1 hx).1
  rcases h.src with ⟨_, h0, _⟩ | ⟨ad, c, e, hl, hc⟩
  · omega
  · have ha : V.a = some ad := by
      unfold Vs.v at e
      simp only [Value.slice.injEq] at e
      exact e.1
    have hsp := h.plain ad ha
    obtain ⟨b, o, s⟩ := ad
    simp only at hsp
    subst hsp
    refine ⟨b, o, ha, fun i hi => ?_⟩
    have hg := verL_get V.vs j x hx i hi
    obtain ⟨u, hu⟩ : ∃ u, x.cells[i]? = some u := ⟨_, List.getElem?_eq_getElem (by simp [Ver.cells]; omega)⟩
    rw [hu] at hg ⊢
    have := hc (j * 5 + i) u hg
    rwa [add_plain] at this
theorem Below.only {B : Nat} {w w' : World} (h : Below B w w') {G : List Nat} (hG : ∀ b, B ≤ b → b < w.heap.size → b ∈ G) : Only G w w' :=
  ⟨h.os, h.tape, h.output, h.size, fun i hi hn => h.block i (Nat.lt_of_not_le fun hb => hn (hG i hb hi))⟩
theorem VsAt.below {w w' : World} {V : Vs} {n0 : Nat} (h : VsAt w V) (hb : Below n0 w w') (hV : ∀ b ∈ V.bs, b < n0) : VsAt w' V :=
  h.only (G := (List.range w.heap.size).filter fun b => decide (n0 ≤ b)) (Below.only hb fun b h1 h2 => by simp [h2, h1]) fun b hb hm => by
    have := hV b hb
    simp at hm
    omega
end Go.Proofs.Ytmbmkfhdiljalaa
