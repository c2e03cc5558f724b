/- Rows of looks; the document's manager: Looks. -/
import Derived.Test.YtodkflnpcfepfaaTxZg
namespace Go.Proofs.Ytodkflnpcfepfaa
open Go.RowKit Go.ChangeShapes Go.WideShapes Go.ChangeAt
set_option linter.unusedVariables false
set_option linter.unusedSimpArgs false

abbrev LkX := Int × Int × Value
def lkC (base : Int) (x : LkX) : List Value := [.int .u64 x.1, .int .u64 x.2.1, .int .u64 base, x.2.2]
def lksL (base : Int) (xs : List LkX) : List Value := xs.flatMap (lkC base)
theorem lksL_append (base : Int) (a b : List LkX) : lksL base (a ++ b) = lksL base a ++ lksL base b := by simp [lksL]
structure LkRow (w : World) (B : Nat) (base : Int) (ds : List (Int × Int)) (v : Value) (xs : List LkX) : Prop where
  own : w.ownsRow B tLk 4 v xs.length (lksL base xs)
  each : ∀ x ∈ xs, (w.ownsRow B tSt 2 x.2.2 ds.length (dsL ds)) ∧ ∀ g, x.2.2.ownBlock = some g → v.ownBlock ≠ some g
theorem infoLook : (Try.prog.info? tLk).map (fun i => (i.zero, i.size, i.bytes)) = some (some (.agg #[.int .u64 0, .int .u64 0, .int .u64 0, .slice none 0 0]), 4, 48) := by kernel_rfl
theorem LkRow.only {w w' : World} {B : Nat} {base : Int} {ds : List (Int × Int)} {v : Value} {xs : List LkX} (h : LkRow w B base ds v xs) (k : Only [] w w') : LkRow w' B base ds v xs :=
  ⟨own_keep h.own fun g hg => k.block g (h.own.lt g hg).2 (by simp), fun x hx => ⟨own_keep (h.each x hx).1 fun g hg => k.block g ((h.each x hx).1.lt g hg).2 (by simp), (h.each x hx).2⟩⟩
theorem LkRow.append {w w2 : World} {B : Nat} {base s t : Int} {ds : List (Int × Int)} {v v' vd : Value} {xs : List LkX} (h : LkRow w B base ds v xs) (hd : w.ownsRow B tSt 2 vd ds.length (dsL ds)) (hne : ∀ g, vd.ownBlock = some g → v.ownBlock ≠ some g)
    (ho : w2.ownsRow B tLk 4 v' (xs.length + 1) (lksL base xs ++ [.int .u64 s, .int .u64 t, .int .u64 base, vd])) (k : Only v.ownBlock.toList w w2) (hf : v'.ownBlock = v.ownBlock ∨ ∀ g, v'.ownBlock = some g → w.heap.size ≤ g) :
    LkRow w2 B base ds v' (xs ++ [(s, t, vd)]) := by
  have key : ∀ u : Value, w.ownsRow B tSt 2 u ds.length (dsL ds) → (∀ g, u.ownBlock = some g → v.ownBlock ≠ some g) → (w2.ownsRow B tSt 2 u ds.length (dsL ds)) ∧ ∀ g, u.ownBlock = some g → v'.ownBlock ≠ some g := by
    intro u hu hn
    refine ⟨own_keep hu fun g hg => k.block g (hu.lt g hg).2 (by simpa using hn g hg), fun g hg => ?_⟩
    rcases hf with e | e
    · rw [e]; exact hn g hg
    · intro e2
      have := e g e2
      have := (hu.lt g hg).2
      omega
  refine ⟨?_, fun x hx => ?_⟩
  · rw [lksL_append]
    simpa [lksL, lkC] using ho
  · rcases List.mem_append.1 hx with hx | hx
    · exact key _ (h.each x hx).1 (h.each x hx).2
    · simp only [List.mem_singleton] at hx
      subst hx
      exact key vd hd hne
theorem LkRow.one {w : World} {B : Nat} {base s t : Int} {ds : List (Int × Int)} {vd : Value} (hB : B ≤ w.heap.size) (hd : w.ownsRow B tSt 2 vd ds.length (dsL ds)) :
    LkRow (w.alloc (.cells #[.int .u64 s, .int .u64 t, .int .u64 base, vd] tLk)) B base ds (.slice (some ⟨w.heap.size, 0, none⟩) 1 1) [(s, t, vd)] := by
  refine ⟨World.ownsRow_lit w #[.int .u64 s, .int .u64 t, .int .u64 base, vd] 1 hB (by unfold maxLen; omega) rfl, fun x hx => ?_⟩
  simp only [List.mem_singleton] at hx
  subst hx
  refine ⟨hd.alloc _, fun g hg => ?_⟩
  have := (hd.lt g hg).2
  simp [Value.ownBlock]
  omega
/-- A row of looks of the call's own, by their numbers and starts. -/
structure LkI (w0 w : World) (base : Int) (ds : List (Int × Int)) (v : Value) (xs : List LkX) (ks : List (Int × Int)) : Prop where
  keys : xs.map (fun x => (x.1, x.2.1)) = ks
  row : LkRow w w0.heap.size base ds v xs
  bl : Below w0.heap.size w0 w
def LkAt (w0 w : World) (base : Int) (ds : List (Int × Int)) (v : Value) (ks : List (Int × Int)) : Prop := ∃ xs, LkI w0 w base ds v xs ks
def startR (R : Rf) (n : Int) : Int := ((R.all.find? fun x => decide (x.n = n) && x.op).map (·.start)).getD 0
theorem found_start {R : Rf} {n : Int} {i : Nat} {x : RT} (hf : FoundAt R n i) (hx : R.all[i]? = some x) : startR R n = x.start := by
  have hx' := hx
  obtain ⟨hi, e⟩ := List.getElem?_eq_some_iff.1 hx
  obtain ⟨⟨y, hy, hh⟩, hno⟩ := hf
  rw [hx] at hy
  simp only [Option.some.injEq] at hy
  subst hy
  have : (R.all.find? fun x => decide (x.n = n) && x.op) = some x := by
    rw [List.find?_eq_some_iff_getElem]
    refine ⟨by simp [hh.1, hh.2], i, hi, e, fun j hj => ?_⟩
    have := hno j R.all[j] hj (List.getElem?_eq_getElem (by omega))
    unfold Hit at this
    simp only [Bool.not_eq_true', Bool.and_eq_false_iff, decide_eq_false_iff_not]
    by_cases e : R.all[j].n = n
    · exact .inr (by cases h : R.all[j].op with
        | false => rfl
        | true => exact absurd ⟨e, h⟩ this)
    · exact .inl e
  unfold startR
  rw [this]; rfl
theorem open_found {R : Rf} {n : Int} (h : n ∈ openR R.all) : ∃ i x, FoundAt R n i ∧ R.all[i]? = some x := by
  obtain ⟨y, hy, rfl⟩ := List.mem_map.1 h
  rw [List.mem_filter] at hy
  obtain ⟨j, hj, e⟩ := List.getElem_of_mem hy.1
  rcases found_or R y.n with ⟨i, hf⟩ | hn
  · obtain ⟨x, hx, _⟩ := hf.1
    exact ⟨i, x, hf, hx⟩
  · exact absurd ⟨rfl, hy.2⟩ (hn j y (by rw [List.getElem?_eq_getElem hj, e]))
theorem look_new (w : World) (o : Obj) (a b c d : Value) (t : TypeId) : ∀ j u, [a, b, c, d][j]? = some u → ((w.alloc o).alloc (.cells #[a, b, c, d] t)).cell? ((⟨w.heap.size + 1, 0, none⟩ : Addr).add j) = some u := by
  intro j u hj
  have hr := Row.made (w.alloc o) #[a, b, c, d] t
  rw [World.size_alloc] at hr
  rw [add_plain, Nat.zero_add, hr.cell j]
  simpa using hj
def looksK (R : Rf) : List (Int × Int) := (0, R.last) :: (openR R.all).map fun n => (n, startR R n)
def LooksTo (base : Int) (ds : List (Int × Int)) (ks : List (Int × Int)) (w : World) (e : Ending) (w' : World) : Prop := ∃ v, e = .returned v ∧ LkAt w w' base ds v ks
structure LkO (w0 w : World) (base : Int) (ds : List (Int × Int)) (v : Value) (xs : List LkX) (ks : List (Int × Int)) (B : Nat) (ov : Value) (opens : List Int) : Prop where
  lk : LkI w0 w base ds v xs ks
  own : w.ownsRow B tU 1 ov opens.length (opens.map (Value.int .u64))
  ne : ∀ g, ov.ownBlock = some g → v.ownBlock ≠ some g
  ge : w0.heap.size ≤ B
theorem LkO.append {w0 w w1 w2 : World} {base s t : Int} {ds : List (Int × Int)} {v v' vd : Value} {xs : List LkX} {ks : List (Int × Int)} {B : Nat} {ov : Value} {opens : List Int} {o1 o2 : Obj} (h : LkO w0 w base ds v xs ks B ov opens) (hb : Below w.heap.size w w1) (hd : w1.ownsRow w.heap.size tSt 2 vd ds.length (dsL ds))
    (ho : w2.ownsRow w0.heap.size tLk 4 v' (xs.length + 1) (lksL base xs ++ [.int .u64 s, .int .u64 t, .int .u64 base, vd])) (k : ((w1.alloc o1).alloc o2).grownBy w2 v.ownBlock) (hf : v'.ownBlock = v.ownBlock ∨ ∀ g, v'.ownBlock = some g → ((w1.alloc o1).alloc o2).heap.size ≤ g) :
    LkO w0 w2 base ds v' (xs ++ [(s, t, vd)]) (ks ++ [(s, t)]) B ov opens := by
  have k1 : Only [] w w1 := (Only.refl [] w).below hb
  have hlt := h.lk.row.own.lt
  have hs1 : w.heap.size ≤ w1.heap.size := hb.size
  have hs2 : w0.heap.size ≤ w.heap.size := h.lk.bl.size
  have k2 : Only v.ownBlock.toList w1 w2 := (((Only.refl _ w1).alloc o1).alloc o2).grown k (fun b hb => .inl (by simp [hb]))
  have k3 : Only v.ownBlock.toList w w2 := (k1.mono (by simp)).trans k2 (fun i hi => .inl hi)
  have r1 : LkRow w1 w0.heap.size base ds v xs := h.lk.row.only k1
  refine ⟨⟨by simp [h.lk.keys], r1.append (own_mono hd hs2) (fun g hg e => ?_) ho k2 ?_, h.lk.bl.trans (k3.toBelow hs2 (fun i hi => (hlt i (by simpa using hi)).1))⟩, ?_, ?_, h.ge⟩
  · have := (hd.lt g hg).1
    have := (hlt g e).2
    omega
  · rcases hf with e | e
    · exact .inl e
    · exact .inr fun g hg => by have := e g hg; simp at this; omega
  · exact own_keep h.own fun g hg => k3.block g (h.own.lt g hg).2 (by simpa using h.ne g hg)
  · intro g hg e2
    rcases hf with e | e
    · rw [e] at e2; exact h.ne g hg e2
    · have := e g e2
      have := (h.own.lt g hg).2
      simp only [World.size_alloc] at *
      omega
theorem lk_first {w x2 : World} {B : Nat} {base s : Int} {ds : List (Int × Int)} {vd : Value} (O2 : Only [] w x2) (ho : x2.ownsRow B tSt 2 vd ds.length (dsL ds)) (hB : w.heap.size ≤ B) :
    LkAt w (x2.alloc (.cells #[.int .u64 0, .int .u64 s, .int .u64 base, vd] tLk)) base ds (.slice (some ⟨x2.heap.size, 0, none⟩) 1 1) [(0, s)] :=
  ⟨_, rfl, LkRow.one O2.size (own_mono ho hB), (O2.alloc _).toBelow (Nat.le_refl _) (by simp)⟩
set_option maxRecDepth 100000 in
set_option maxHeartbeats 4000000 in
theorem looks_ref {w : World} {B p : Nat} {av : Value} {R : Rf} (h : RfAt w B p av R) :
    Calls Try.prog 25 #[.pointer (some ⟨p, 0, none⟩)] w (LooksTo R.base (doneL R) (looksK R) w) := by
  have H := Lib.hid h
  have BA : Hid (∀ y, Only [] w y → Calls Try.prog 36 #[.pointer (some ⟨p, 0, none⟩)] y fun e w' => e = .returned (.int .u64 R.base) ∧ w' = y) := Lib.hid fun y k => base_ref (h.only k (by simp))
  have DN : Hid (∀ y, Only [] w y → Calls Try.prog 40 #[.pointer (some ⟨p, 0, none⟩)] y (StampsTo (doneL R) y)) := Lib.hid fun y k => done_ref (h.only k (by simp))
  have CL : Hid (∀ y, Only [] w y → y.cell? ⟨p, 2, none⟩ = some (.int .u64 R.last)) := Lib.hid fun y k => (h.only k (by simp)).row.cell 2
  have OL : Hid ((openR R.all).length ≤ 1000) := Lib.hid (by have := openR_le R.all R.all.length; rw [List.take_length] at this; have := h.fine.len; omega)
  obtain ⟨i0, hi, hz0, hz1, hz2⟩ := info_parts infoLook
  have c2 := CL.out w (Only.refl _ _)
  have O1 : Only [] w w.drew := (Only.refl [] w).drew
  clear h
  go_enter Try.func25, Try.ntmps25
  go_upto_region 1 with fail
  go_cut [3] from 8 to 19 (fun s3 wc => Hid (LkAt w wc R.base (doneL R) s3 [(0, R.last)]))
  case first =>
    go_region_with
      (first
        | (go_at_call 36; refine (BA.out _ ?_).mono ?_; assumption; rintro _ x1 ⟨rfl, hz⟩; subst x1)
        | (go_at_call 40; refine (DN.out _ ?_).mono ?_; assumption; rintro _ x2 ⟨da, dc, rfl, ho, hb⟩; have O2 : Only [] w x2 := O1.below hb; have c3 := CL.out x2 O2; have HO := Lib.hid ho; have HB := Lib.hid hb; clear ho hb))
    all_goals
      go_wp2_with fail
      go_meet
      exact Lib.hid (lk_first O2 HO.out (Nat.le_refl _))
  case rest =>
    clear c2 O1 BA DN CL
    have H1 : Hid (RfAt wc B p av R) := Lib.hid (by obtain ⟨_, h⟩ := hcut.out; exact H.out.only ((Only.refl [] w).below h.bl) (by simp))
    have OP := Lib.hid (open_ref H1.out)
    go_wp2_with fail
    refine OP.out.mono ?_
    rintro _ w2 ⟨oa, oc, rfl, ho, hb⟩
    have I0 : Hid (∃ xs, LkO w w2 R.base (doneL R) u3 xs ((0, R.last) :: ((openR R.all).take 0).map fun n => (n, startR R n)) wc.heap.size (.slice oa (openR R.all).length oc) (openR R.all)) := Lib.hid (by
      obtain ⟨xs, h⟩ := hcut.out
      refine ⟨xs, ⟨h.keys, h.row.only ((Only.refl [] wc).below hb), h.bl.trans (hb.mono h.bl.size)⟩, ho, fun g hg e => ?_, h.bl.size⟩
      have := (ho.lt g hg).1
      have := (h.row.own.lt g e).2
      omega)
    have HM : Hid (∀ n ∈ openR R.all, ∃ i x, FoundAt R n i ∧ R.all[i]? = some x) := Lib.hid fun n hn => open_found hn
    clear ho hb OP
    obtain ⟨m, hm⟩ : ∃ m, (openR R.all).length = m := ⟨_, rfl⟩
    rw [hm] at I0 OL
    rw [hm]
    have HML := Lib.hid hm
    have hml := OL.out
    clear hm hcut
    go_wp2_with fail
    go_loopw [3, 5] (fun v u wr => ∃ j : Nat, j ≤ m ∧ u = .int .i64 j ∧ Hid (∃ xs, LkO w wr R.base (doneL R) v xs ((0, R.last) :: ((openR R.all).take j).map fun n => (n, startR R n)) wc.heap.size (.slice oa m oc) (openR R.all))) (fun _ u _ => m - (intOf u).toNat)
    case atStart => exact ⟨0, by omega, rfl, I0⟩
    case round =>
      obtain ⟨j, hj, rfl, HI⟩ := hrel
      rename World => w3
      by_cases hlt : j < m
      · have d1 : decide ((j : Int) < (m : Int)) = true := decide_eq_true (by omega)
        have d1' : decide (j < m) = true := decide_eq_true hlt
        obtain ⟨xs, hI⟩ := HI.out
        have IO := Lib.hid hI
        clear hI HI
        obtain ⟨n, hn⟩ : ∃ n, (openR R.all)[j]? = some n := ⟨_, List.getElem?_eq_getElem (by rw [HML.out]; exact hlt)⟩
        obtain ⟨ob, oo, oc', hov, hoc⟩ := (ints_own IO.out.own).shape (by rw [HML.out]; omega)
        rw [HML.out] at hov
        simp only [Value.slice.injEq] at hov
        obtain ⟨rfl, _, rfl⟩ := hov
        have C1 := hoc j (by rw [HML.out]; omega)
        rw [hn] at C1
        simp only [Option.getD_some] at C1
        obtain ⟨i, x, hf, hx⟩ := HM.out n (List.mem_of_getElem? hn)
        have H3 : Hid (RfAt w3 B p av R) := Lib.hid (H.out.only ((Only.refl [] w).below IO.out.lk.bl) (by simp))
        have LK := Lib.hid (look_ref H3.out hf hx)
        have ST := Lib.hid (found_start hf hx)
        have TK : Hid ((openR R.all).take (j + 1) = (openR R.all).take j ++ [n]) := Lib.hid (by
          rw [List.take_add_one, hn]; rfl)
        have XL : Hid (xs.length ≤ 1001) := Lib.hid (by
          have := congrArg List.length IO.out.lk.keys
          simp at this
          omega)
        have hw0 : Hid (w.heap.size ≤ w3.heap.size) := Lib.hid IO.out.lk.bl.size
        clear hoc hn hf hx
        go_wp2_with fail
        refine LK.out.mono ?_
        rintro _ w4 ⟨da, dc, rfl, ho, hb⟩
        unfold lookR
        have HO := Lib.hid ho
        have HB := Lib.hid hb
        have hs4 : Hid (w3.heap.size ≤ w4.heap.size) := Lib.hid hb.size
        have OWN : Hid (((w4.alloc (.cells #[.int .u64 n, .int .u64 x.start, .int .u64 R.base, .slice da (doneL R).length dc] tLk)).alloc (.cells #[.int .u64 n, .int .u64 x.start, .int .u64 R.base, .slice da (doneL R).length dc] tLk)).ownsRow w.heap.size tLk 4 _ xs.length (lksL R.base xs)) := Lib.hid (((IO.out.lk.row.only ((Only.refl [] w3).below hb)).own.alloc _).alloc _)
        clear ho hb LK C1
        go_wp2_with (at_builtin; refine wpList_append_at rfl (.tmp 35) (.tmp 37) 58 rfl w.heap.size tLk i0 (.agg #[.int .u64 0, .int .u64 0, .int .u64 0, .slice none 0 0]) 4 48 Try.underlying58 hi hz0 hz1 hz2 rfl (by decide) u3 _ _ rfl OWN.out ⟨w4.heap.size + 1, 0, none⟩ 1 1 [.int .u64 n, .int .u64 x.start, .int .u64 R.base, .slice da (doneL R).length dc] rfl rfl (look_new _ _ _ _ _ _ _) (by simp [Value.oneCell']) (by have := XL.out; unfold maxLen; omega) (by have := XL.out; omega) (by have := hs4.out; have := hw0.out; simp; omega) ?_; intro v' w5 hown' hgrow hfr)
        have NX : Hid (∃ xs, LkO w w5 R.base (doneL R) v' xs ((0, R.last) :: ((openR R.all).take (j + 1)).map fun n => (n, startR R n)) wc.heap.size (.slice (some ⟨ob, oo, none⟩) m oc) (openR R.all)) := Lib.hid (by
          have := IO.out.append HB.out HO.out hown' hgrow hfr
          refine ⟨xs ++ [(n, x.start, .slice da (doneL R).length dc)], ?_⟩
          rw [TK.out, List.map_append, ← List.cons_append]
          simp only [List.map_cons, List.map_nil, ST.out]
          exact this)
        clear hown' hgrow hfr
        go_roundw
        case rel => exact ⟨j + 1, by omega, by go_num, NX⟩
        case measure => simp [intOf]; omega
      · have d1 : decide ((j : Int) < (m : Int)) = false := decide_eq_false (by omega)
        have d1' : decide (j < m) = false := decide_eq_false hlt
        have FIN : Hid (LkAt w w3 R.base (doneL R) _ (looksK R)) := Lib.hid (by
          obtain ⟨xs, h⟩ := HI.out
          rw [List.take_of_length_le (by rw [HML.out]; omega)] at h
          exact ⟨xs, h.lk⟩)
        clear hlt HI
        go_wp2_with fail
        go_ret
        exact ⟨_, rfl, FIN.out⟩
end Go.Proofs.Ytodkflnpcfepfaa
