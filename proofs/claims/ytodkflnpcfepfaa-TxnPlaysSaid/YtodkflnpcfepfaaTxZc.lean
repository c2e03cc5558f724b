/- The document's manager: Begin. -/
import Derived.Test.YtodkflnpcfepfaaTxZd
import Derived.Deep.CutRange
namespace Go.Proofs.Ytodkflnpcfepfaa
open Go.RowKit Go.ChangeShapes Go.WideShapes Go.ChangeAt
set_option linter.unusedVariables false
set_option linter.unusedSimpArgs false

def BeginRTo (B p : Nat) (R : Rf) (w : World) (F : List Nat) (e : Ending) (w' : World) : Prop := e = .returned (.tuple #[.int .u64 (freshT R).n, .int .i64 0]) ∧ ∃ F', RfF w' B p (beginR R) F' ∧ Only F w w' ∧ ∀ b ∈ F', b ∈ F ∨ w.heap.size ≤ b
set_option maxRecDepth 100000 in
set_option maxHeartbeats 4000000 in
theorem begin_ref {w : World} {B p : Nat} {av : Value} {R : Rf} (h : RfAt w B p av R) (hf : (openR R.all).length < 8) (hl : R.all.length < 1000) :
    Calls Try.prog 16 #[.pointer (some ⟨p, 0, none⟩)] w (BeginRTo B p R w (R.blocks p av)) := by
  have OP := Lib.hid (open_ref h)
  have H := Lib.hid h
  obtain ⟨k, hk⟩ : ∃ k, (openR R.all).length = k := ⟨_, rfl⟩
  have d1 : decide ((8 : Int) ≤ (k : Int)) = false := decide_eq_false (by omega)
  have d1' : decide (8 ≤ k) = false := decide_eq_false (by omega)
  have HK := Lib.hid hk
  obtain ⟨a, c, hav⟩ := h.av_shape
  have HAV := Lib.hid hav
  obtain ⟨m, hm⟩ : ∃ m, R.all.length = m := ⟨_, rfl⟩
  rw [hm] at hl
  have HM := Lib.hid hm
  have hb0 : 0 ≤ R.base ∧ R.base ≤ 18446744069414584320 := by have := h.fine.ep0; unfold Rf.base; omega
  clear h hf hk hav hm
  go_enter Try.func16, Try.ntmps16
  go_wp2_with fail
  refine OP.out.mono ?_
  rintro _ w1 ⟨a1, c1, rfl, ho, hb⟩
  rw [HK.out]
  have HB := Lib.hid hb
  have H1 : Hid (RfAt w1 B p av R) := Lib.hid (H.out.only ((Only.refl [] w).below hb) (by simp))
  clear ho hb OP
  go_upto_region 3 with fail
  have SO : Hid (∀ y, Only [w1.heap.size] w1 y → (y.cell? ⟨p, 1, none⟩ = some (.slice a m c) ∧ y.cell? ⟨p, 2, none⟩ = some (.int .u64 R.last))) := Lib.hid fun y k => by
    have hm : RfAt y B p av R := H1.out.only k (by simp only [List.mem_singleton]; rintro b rfl hb; have := H1.out.lt _ hb; omega)
    refine ⟨?_, hm.row.cell 2⟩
    have := hm.row.cell 1
    rw [HAV.out, HM.out] at this
    exact this
  have BA : Hid (∀ y, Only [] w1 y → Calls Try.prog 36 #[.pointer (some ⟨p, 0, none⟩)] y fun e w' => e = .returned (.int .u64 R.base) ∧ w' = y) := Lib.hid fun y k => base_ref (H1.out.only k (by simp))
  obtain ⟨bs, hbs⟩ : ∃ bs, R.base = bs := ⟨_, rfl⟩
  rw [hbs] at BA hb0
  obtain ⟨hb1, hb2⟩ := hb0
  have HBS := Lib.hid hbs
  obtain ⟨last, hls⟩ : ∃ last, R.last = last := ⟨_, rfl⟩
  rw [hls] at SO
  have HLS := Lib.hid hls
  clear hbs hls
  have hm1 : IntKind.u64.wrap ((m : Int)) = (m : Int) := by rw [show IntKind.u64.wrap ((m : Int)) = ((m : Int)) % 18446744073709551616 from rfl]; omega
  have hm2 : IntKind.u64.wrap (bs + (m : Int)) = bs + (m : Int) := by rw [show IntKind.u64.wrap (bs + (m : Int)) = (bs + (m : Int)) % 18446744073709551616 from rfl]; omega
  have hm3 : IntKind.u64.wrap (bs + (m : Int) + 1) = bs + (m : Int) + 1 := by rw [show IntKind.u64.wrap (bs + (m : Int) + 1) = (bs + (m : Int) + 1) % 18446744073709551616 from rfl]; omega
  obtain ⟨e1, e2⟩ := SO.out w1 (Only.refl _ w1)
  obtain ⟨X, hX⟩ : ∃ X, X = (Obj.cells #[.int .u64 0, .int .u64 0, .int .u64 0, .bool false, .slice none 0 0, .bool false] tRt (0, 0)) := ⟨_, rfl⟩
  obtain ⟨e3, e4⟩ := SO.out (w1.alloc X) ((Only.refl _ w1).alloc _)
  rw [hX] at e3 e4
  have HLB : Hid (m < 1000 ∧ 0 ≤ bs ∧ bs ≤ 18446744069414584320) := Lib.hid ⟨hl, hb1, hb2⟩
  clear hX SO hl hb1 hb2
  go_cut [4] from 9 to 35 (fun s4 wc => ∃ g2 : Nat, s4 = .pointer (some ⟨g2, 0, none⟩) ∧ Hid (g2 = w1.heap.size ∧ Row wc g2 #[.int .u64 (bs + (m : Int) + 1), .int .u64 last, .int .u64 0, .bool true, .slice none 0 0, .bool false] tRt ∧ Only [] w1 wc))
  case first =>
    go_region_with
      (first
        | (go_at_call 36; refine (BA.out w1.drew (Only.refl [] w1).drew).mono ?_; rintro _ x1 ⟨rfl, hz⟩; subst x1)
        | (go_at_call 36; refine (BA.out _ ((Only.refl [] w1).alloc _).drew).mono ?_; rintro _ x1 ⟨rfl, hz⟩; subst x1))
    all_goals
      have RX : Hid (w1.heap.size = w1.heap.size ∧ Row (w1.alloc (.cells #[.int .u64 (bs + (m : Int) + 1), .int .u64 last, .int .u64 0, .bool true, .slice none 0 0, .bool false] tRt)).drew w1.heap.size #[.int .u64 (bs + (m : Int) + 1), .int .u64 last, .int .u64 0, .bool true, .slice none 0 0, .bool false] tRt ∧ Only [] w1 (w1.alloc (.cells #[.int .u64 (bs + (m : Int) + 1), .int .u64 last, .int .u64 0, .bool true, .slice none 0 0, .bool false] tRt)).drew) := Lib.hid ⟨rfl, (Row.made w1 _ _).only (Only.refl [] _).drew (by simp), ((Only.refl [] w1).alloc _).drew⟩
      clear e1 e2 e3 e4 hm1 hm2 hm3
      generalize (w1.alloc (.cells #[.int .u64 (bs + (m : Int) + 1), .int .u64 last, .int .u64 0, .bool true, .slice none 0 0, .bool false] tRt)).drew = w2 at *
      go_wp2_with fail
      go_meet
      exact ⟨_, rfl, Lib.hid ⟨rfl, RX.out.2⟩⟩
  case rest =>
    obtain ⟨g2, rfl, HC⟩ := hcut
    obtain ⟨hl, hb1, hb2⟩ := HLB.out
    clear e1 e2 e3 e4 hm1 hm2 hm3 BA
    have R2 : Hid (RfAt wc B p av R) := Lib.hid (H1.out.only HC.out.2.2 (by simp))
    have KW : Hid (Only [] w wc) := Lib.hid (((Only.refl [] w).below HB.out).trans HC.out.2.2 (by simp))
    have r0 := HC.out.2.1.cell 0
    have r1 := HC.out.2.1.cell 1
    have r2 := HC.out.2.1.cell 2
    have r3 := HC.out.2.1.cell 3
    have r4 := HC.out.2.1.cell 4
    have r5 := HC.out.2.1.cell 5
    simp only [List.getElem?_toArray, List.getElem?_cons_zero, List.getElem?_cons_succ] at r0 r1 r2 r3 r4 r5
    have q1 := R2.out.row.cell 1
    simp only [List.getElem?_toArray, List.getElem?_cons_zero, List.getElem?_cons_succ] at q1
    have plt := R2.out.row.lt
    obtain ⟨X, hX⟩ : ∃ X, X = (Obj.cells #[.int .u64 (bs + (m : Int) + 1), .int .u64 last, .int .u64 0, .bool true, .slice none 0 0, .bool false] tRt (0, 0)) := ⟨_, rfl⟩
    have kX : Only [] wc (wc.alloc X).drew := ((Only.refl [] wc).alloc X).drew
    have q1a : (wc.alloc X).cell? ⟨p, 1, none⟩ = some av := by rw [((Only.refl [] wc).alloc _).cell plt (by simp)]; exact q1
    obtain ⟨i0, hi0, hz0, hz1, hz2⟩ := info_parts infoTxn
    have ownX : (wc.alloc X).drew.ownsRow B tRt 6 av R.all.length (allL R.all) := own_keep (R2.out.own.alloc X) (fun _ _ => rfl)
    have hBs : B ≤ wc.heap.size := by have := R2.out.ge p (by simp [Rf.blocks]); omega
    have hfn : freshT R = ⟨bs + (m : Int) + 1, last, 0, true, [], none, 0⟩ := by
      unfold freshT
      rw [HBS.out, HLS.out, HM.out]
      congr 1
      omega
    have hfc : (freshT R).cells = [.int .u64 (bs + (m : Int) + 1), .int .u64 last, .int .u64 0, .bool true, .slice none 0 0, .bool false] := by rw [hfn]; rfl
    obtain ⟨v', W2, hrun, ho, hg, hfr⟩ := append_own_at (P := Try.prog) (wc.alloc X).drew B 50 50 tRt i0 _ 6 64 Try.underlying50 hi0 hz0 hz1 hz2 (by rfl) (by decide) av R.all.length (allL R.all) ownX
      ⟨wc.heap.size, 0, none⟩ 1 1 (freshT R).cells (by rw [hfc]; rfl) (by
        have hr : Row (wc.alloc X).drew wc.heap.size #[.int .u64 (bs + (m : Int) + 1), .int .u64 last, .int .u64 0, .bool true, .slice none 0 0, .bool false] tRt := by rw [hX]; exact (Row.made wc _ _)
        intro j u hj
        rw [hfc] at hj
        rw [add_plain, Nat.zero_add, hr.cell j]
        simpa using hj) (by rw [hfc]; simp [Value.oneCell']) (by have := HM.out; have := hl; unfold maxLen; omega) (by have := HM.out; have := hl; omega) (by simp; omega)
    obtain ⟨pp, cc, hv', _, _⟩ := own_shape ho
    have nd := R2.out.nd
    simp only [Rf.blocks, List.nodup_cons, List.mem_append, not_or] at nd
    have K2 : Only av.ownBlock.toList wc W2 := (kX.mono (by simp)).grown hg (by intro k hk; exact .inl (by simp [hk]))
    have q1c : W2.cell? ⟨p, 1, none⟩ = some av := by rw [K2.cell plt nd.1.1]; exact q1
    have fz1 : W2.frozen? ⟨p, 1, none⟩ = false := (R2.out.row.only K2 nd.1.1).free 1
    have hbr : 0 ≤ bs + (m : Int) + 1 ∧ bs + (m : Int) + 1 < 18446744073709551616 := by omega
    have fx := R2.out.fine
    have hAP := Lib.hid (R2.out.appended (x := freshT R) ho K2 (by
      rcases hfr with e | e
      · exact .inl e
      · exact .inr fun g hg => by have := e g hg; simp at this; omega) rfl rfl rfl (by have := HM.out; omega) (by
      have l0 := fx.last0
      have l1 := HLS.out
      rw [hfn]
      refine ⟨hbr, ⟨?_, ?_⟩, ?_, ?_⟩ <;> simp <;> omega))
    have HX := Lib.hid hX
    have HAC := Lib.hid (show av = .slice a m c by have := HAV.out; rw [HM.out] at this; exact this)
    rw [HAC.out] at q1 q1a q1c hrun
    rw [HM.out] at hv'
    rw [hX] at q1a hrun
    clear ho hg hfr ownX K2 nd hBs hfn hfc hX kX hbr fx hb1 hb2 hl
    subst hv'
    go_upto_region 4 with fail
    go_region_law (refine step_append_eq rfl (.tmp 28) (.tmp 30) 50 rfl (.slice a m c) (.slice (some ⟨wc.heap.size, 0, none⟩) 1 1) (.slice pp (m + 1) cc) W2 (by simp [Act.eval, Act.put]) (by simp [Act.eval, Act.put]) hrun ?_)
    all_goals
      clear q1 q1a q1c fz1 hrun r0 r1 r2 r3 r4 r5 hi0 hz0 hz1 hz2
      have M6 := Lib.hid hAP.out.1
      have K6 := Lib.hid hAP.out.2.1
      have V6 := Lib.hid hAP.out.2.2
      clear hAP
      generalize W2.setCell ⟨p, 1, none⟩ (.slice pp (m + 1) cc) = w6 at *
      have hz : w6.cell? ⟨g2, 0, none⟩ = some (.int .u64 (bs + (m : Int) + 1)) := by
        rw [K6.out.cell HC.out.2.1.lt (by
          intro hh
          have hh2 : g2 ∈ R.blocks p av := by
            rcases List.mem_cons.1 hh with rfl | hh
            · simp [Rf.blocks]
            · simp only [Rf.blocks, List.mem_cons, List.mem_append]; exact .inr (.inl hh)
          have := H1.out.lt g2 hh2
          have := HC.out.1
          omega)]
        exact HC.out.2.1.cell 0
      go_wp2_with fail
      go_ret2
      refine ⟨?_, _, ⟨_, M6.out, rfl⟩, ?_, ?_⟩
      · have e : (freshT R).n = bs + (m : Int) + 1 := by
          show R.base + ((R.all.length + 1 : Nat) : Int) = _
          have := HBS.out
          have := HM.out
          omega
        rw [e]
        rfl
      · exact (KW.out.mono (by simp)).trans K6.out (by
          intro b hb
          rcases List.mem_cons.1 hb with rfl | hb
          · exact .inl (by simp [Rf.blocks])
          · exact .inl (by simp only [Rf.blocks, List.mem_cons, List.mem_append]; exact .inr (.inl hb)))
      · intro b hb
        rcases V6.out b hb with e | e
        · exact .inl e
        · exact .inr (Nat.le_trans KW.out.size e)
end Go.Proofs.Ytodkflnpcfepfaa
