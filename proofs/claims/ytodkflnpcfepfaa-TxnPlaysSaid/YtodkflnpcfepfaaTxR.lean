/- others: calls of others. -/
import Derived.Test.YtodkflnpcfepfaaTxQ
namespace Go.Proofs.Ytodkflnpcfepfaa
open Go.RowKit Go.ChangeShapes Go.WideShapes Go.ChangeAt
set_option linter.unusedVariables false
set_option linter.unusedSimpArgs false

theorem cell_lt {w : World} {a : Addr} {v : Value} (h : w.cell? a = some v) : a.block < w.heap.size := by
  obtain ⟨o, ho, _⟩ := cells_of_cell h
  exact (Array.getElem?_eq_some_iff.1 ho).1
structure OthAt (W : World) (B p : Nat) (M : Mg) (F : List Nat) (w wr : World) (i : Nat) (M' : Mg) (F' : List Nat) : Prop where
  mg : MgF wr B p M' F'
  go : GoN i M M'
  only : Only F w wr
  kept : Kept F F' w
  bl : Below B W wr
theorem OthAt.next {W : World} {B p : Nat} {M : Mg} {F : List Nat} {w wr wr' : World} {i : Nat} {M' M2 : Mg} {F' F2 : List Nat} (h : OthAt W B p M F w wr i M' F') (hF : MgF w B p M F) (hB : B ≤ w.heap.size) (g : Go1 M' M2) (m : MgF wr' B p M2 F2) (k : Only F' wr wr') (kp : Kept F' F2 wr) : OthAt W B p M F w wr' (i + 1) M2 F2 :=
  ⟨m, .snoc h.go g, only_trans h.only k h.kept, h.kept.trans kp h.only.size, h.bl.trans (mg_below h.mg k (Nat.le_trans hB h.only.size))⟩
def OthTo (W : World) (B p : Nat) (M : Mg) (F : List Nat) (n : Nat) (w : World) (e : Ending) (w' : World) : Prop := e = .returned (.tuple #[]) ∧ ∃ M' F', OthAt W B p M F w w' n M' F'
set_option maxRecDepth 100000 in
set_option maxHeartbeats 8000000 in
theorem others_at {W : World} {p : Nat} {M : Mg} {F : List Nat} {w : World} {c : Nat} (ep : Int) (a : Option Addr) (n cc : Nat) (os : List OpV) (h : MgF w W.heap.size p M F) (hb : Below W.heap.size W w) (hc : Cnt M c) (hcn : c + n < 1000) (ho : OpsIn W a n cc os) (he : 0 ≤ ep ∧ ep < 4294967296) :
    Calls Try.prog 13 #[.pointer (some ⟨p, 0, none⟩), .int .u32 ep, .slice a n cc] w (OthTo W W.heap.size p M F n w) := by
  have H := Lib.hid h
  have HB := Lib.hid hb
  have HC := Lib.hid hc
  have HN := Lib.hid hcn
  have HO := Lib.hid ho
  have hb2 : n < 1000 := by omega
  have I0 : Hid (OthAt W W.heap.size p M F w w 0 M F) := Lib.hid ⟨h, .nil M, Only.refl _ _, Kept.refl _ _, hb⟩
  obtain ⟨e0, e1⟩ := he
  clear h hb hc hcn ho
  go_enter Try.func13, Try.ntmps13
  go_wp2_with fail
  go_loopw [6] (fun u wr => ∃ i : Nat, u = .int .i64 i ∧ Hid (i ≤ n ∧ ∃ M' F', OthAt W W.heap.size p M F w wr i M' F')) (fun u _ => n - (intOf u).toNat)
  case atStart => exact ⟨0, rfl, Lib.hid ⟨Nat.zero_le _, _, _, I0.out⟩⟩
  case round =>
    obtain ⟨i, rfl, hi⟩ := hrel
    obtain ⟨hin, M1, F1, h1⟩ := hi.out
    have H1 := Lib.hid h1
    have HI := Lib.hid hin
    clear hi hin h1
    by_cases hlt : i < n
    · have d1 : decide (i < n) = true := decide_eq_true hlt
      have C1 : Hid (Cnt M1 (c + i)) := Lib.hid (HC.out.steps H1.out.go)
      have hx : ∃ b off x, a = some ⟨b, off, none⟩ ∧ OpAt wr b (off + i * 4) x := by
        obtain ⟨h1, h2, h3⟩ := HO.out
        rcases h3 with h3 | ⟨b, off, rfl, hf⟩
        · omega
        · obtain ⟨x, hx⟩ : ∃ x, os[i]? = some x := ⟨_, List.getElem?_eq_getElem (by omega)⟩
          have hop := hf i x hx
          have up : ∀ o v, W.cell? ⟨b, o, none⟩ = some v → wr.cell? ⟨b, o, none⟩ = some v := fun o v hv => (H1.out.bl.cell (p := ⟨b, o, none⟩) (cell_lt hv)).trans hv
          exact ⟨b, off, x, rfl, up _ _ hop.c0, up _ _ hop.c1, up _ _ hop.c2, up _ _ hop.c3, hop.w0, hop.w2⟩
      obtain ⟨b, off, x, rfl, hop⟩ := hx
      have c0 := hop.c0
      have c1 := hop.c1
      have c2 := hop.c2
      obtain ⟨a0, a1⟩ := hop.w0
      obtain ⟨a2, a3⟩ := hop.w2
      have HL := Lib.hid hlt
      have HBS : Hid (W.heap.size ≤ wr.heap.size) := Lib.hid H1.out.bl.size
      have KI : Hid (c + i < 1000) := Lib.hid (by have := HN.out; omega)
      have HBW : Hid (W.heap.size ≤ w.heap.size) := Lib.hid HB.out.size
      clear hop
      obtain ⟨kd, hkd⟩ : ∃ kd, x.kind = kd := ⟨_, rfl⟩
      rw [hkd] at c0
      clear hkd
      by_cases k0 : kd = 0
      · subst k0
        have CT := Lib.hid (begin_went H1.out.mg HBS.out C1.out KI.out)
        unfold WentTo at CT
        clear hlt
        go_wp2_with fail
        refine CT.out.mono ?_
        rintro _ w2 ⟨M2, F2, v2, rfl, g2, m2, o2, q2⟩
        have N2 : Hid (OthAt W W.heap.size p M F w w2 (i + 1) M2 F2) := Lib.hid (H1.out.next H.out HBW.out g2 m2 o2 q2)
        clear g2 m2 o2 q2 CT
        go_wp2_with fail
        go_roundw
        case rel => exact ⟨i + 1, by go_num, Lib.hid ⟨by have := HL.out; omega, _, _, N2.out⟩⟩
        case measure => simp [intOf]; have := HL.out; omega
      · have f0 : decide (kd = 0) = false := decide_eq_false k0
        have g0 : (kd == 0) = false := by simpa using k0
        by_cases k1 : kd = 1
        · subst k1
          have CT := Lib.hid (fun n k => wrote_went H1.out.mg n k)
          unfold WentTo at CT
          clear hlt
          go_wp2_with fail
          refine (CT.out _ _).mono ?_
          rintro _ w2 ⟨M2, F2, v2, rfl, g2, m2, o2, q2⟩
          have N2 : Hid (OthAt W W.heap.size p M F w w2 (i + 1) M2 F2) := Lib.hid (H1.out.next H.out HBW.out g2 m2 o2 q2)
          clear g2 m2 o2 q2 CT
          go_wp2_with fail
          go_roundw
          case rel => exact ⟨i + 1, by go_num, Lib.hid ⟨by have := HL.out; omega, _, _, N2.out⟩⟩
          case measure => simp [intOf]; have := HL.out; omega
        · have f1 : decide (kd = 1) = false := decide_eq_false k1
          have g1 : (kd == 1) = false := by simpa using k1
          by_cases k3 : kd = 3
          · subst k3
            have CT := Lib.hid (fun n => commit_went H1.out.mg HBS.out C1.out KI.out n)
            unfold WentTo at CT
            clear hlt
            go_wp2_with fail
            refine (CT.out _).mono ?_
            rintro _ w2 ⟨M2, F2, v2, rfl, g2, m2, o2, q2⟩
            have N2 : Hid (OthAt W W.heap.size p M F w w2 (i + 1) M2 F2) := Lib.hid (H1.out.next H.out HBW.out g2 m2 o2 q2)
            clear g2 m2 o2 q2 CT
            go_wp2_with fail
            go_roundw
            case rel => exact ⟨i + 1, by go_num, Lib.hid ⟨by have := HL.out; omega, _, _, N2.out⟩⟩
            case measure => simp [intOf]; have := HL.out; omega
          · have f3 : decide (kd = 3) = false := decide_eq_false k3
            have g3 : (kd == 3) = false := by simpa using k3
            by_cases k4 : kd = 4
            · subst k4
              have CT := Lib.hid (fun n => abort_went H1.out.mg n)
              unfold WentTo at CT
              clear hlt
              go_wp2_with fail
              refine (CT.out _).mono ?_
              rintro _ w2 ⟨M2, F2, v2, rfl, g2, m2, o2, q2⟩
              have N2 : Hid (OthAt W W.heap.size p M F w w2 (i + 1) M2 F2) := Lib.hid (H1.out.next H.out HBW.out g2 m2 o2 q2)
              clear g2 m2 o2 q2 CT
              go_wp2_with fail
              go_roundw
              case rel => exact ⟨i + 1, by go_num, Lib.hid ⟨by have := HL.out; omega, _, _, N2.out⟩⟩
              case measure => simp [intOf]; have := HL.out; omega
            · have f4 : decide (kd = 4) = false := decide_eq_false k4
              have g4 : (kd == 4) = false := by simpa using k4
              by_cases k7 : kd = 7
              · subst k7
                have CT := Lib.hid (forget_went H1.out.mg C1.out KI.out)
                unfold WentTo at CT
                clear hlt
                go_wp2_with fail
                refine CT.out.mono ?_
                rintro _ w2 ⟨M2, F2, v2, rfl, g2, m2, o2, q2⟩
                have N2 : Hid (OthAt W W.heap.size p M F w w2 (i + 1) M2 F2) := Lib.hid (H1.out.next H.out HBW.out g2 m2 o2 q2)
                clear g2 m2 o2 q2 CT
                go_wp2_with fail
                go_roundw
                case rel => exact ⟨i + 1, by go_num, Lib.hid ⟨by have := HL.out; omega, _, _, N2.out⟩⟩
                case measure => simp [intOf]; have := HL.out; omega
              · have f7 : decide (kd = 7) = false := decide_eq_false k7
                have g7 : (kd == 7) = false := by simpa using k7
                clear k0 k1 k3 k4 k7
                have N2 : Hid (OthAt W W.heap.size p M F w wr (i + 1) M1 F1) := Lib.hid (H1.out.next H.out HBW.out (.same M1) H1.out.mg (Only.refl _ _) (Kept.refl _ _))
                clear hlt
                go_wp2_with fail
                go_roundw
                case rel => exact ⟨i + 1, by go_num, Lib.hid ⟨by have := HL.out; omega, _, _, N2.out⟩⟩
                case measure => simp [intOf]; have := HL.out; omega
    · have d1 : decide (i < n) = false := decide_eq_false hlt
      have HL := Lib.hid hlt
      clear hlt
      go_wp2_with fail
      go_end0
      obtain rfl : i = n := by have := HI.out; have := HL.out; omega
      exact ⟨rfl, _, _, H1.out⟩
end Go.Proofs.Ytodkflnpcfepfaa
