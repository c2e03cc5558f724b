/- TxnPlays: the walk. -/
import Derived.Test.YtodkflnpcfepfaaTxPi
import Derived.Test.YtodkflnpcfepfaaTxPj
import Derived.Test.YtodkflnpcfepfaaTxPk
namespace Go.Proofs.Ytodkflnpcfepfaa
open Go.RowKit Go.ChangeShapes Go.WideShapes Go.ChangeAt
set_option linter.unusedVariables false
set_option linter.unusedSimpArgs false

theorem new_ref {w : World} {B : Nat} {ep : Int} (h : 0 ≤ ep ∧ ep < 4294967296) (hB : B ≤ w.heap.size) : RfF (w.alloc (.cells #[.int .u32 ep, .slice none 0 0, .int .u64 0] tRf)) B w.heap.size ⟨ep, 0, []⟩ [w.heap.size] :=
  ⟨.slice none 0 0, ⟨Row.made w _ _, World.ownsRow_nil _ _ _ _, by simp, by simp [Rf.blocks, keyB, Value.ownBlock], by simp [Rf.blocks, keyB, Value.ownBlock]; exact hB, ⟨h, by simp, by simp, by simp⟩⟩, by simp [Rf.blocks, keyB, Value.ownBlock]⟩
theorem two_new {W w1 : World} {p : Nat} {F : List Nat} {ep : Int} (h : 0 ≤ ep ∧ ep < 4294967296) (hm : MgF w1 W.heap.size p (newM ep) F) (hb : Below W.heap.size W w1) : Two W (w1.alloc (.cells #[.int .u32 ep, .slice none 0 0, .int .u64 0] tRf)) p w1.heap.size 0 :=
  ⟨newM ep, F, _, _, hm.below ((Below.refl _ _).alloc (Nat.le_refl _) _), new_ref h hb.size, fun b hb => by have := hm.lt b hb; simp; omega, hb.alloc hb.size _, Rel.new h.1, cnt_new ep⟩
set_option maxRecDepth 100000 in
set_option maxHeartbeats 4000000 in
theorem plays_long (ep : Int) (a : Option Addr) (n c : Nat) (W : World) (hn : 200 < n) (hn2 : n ≤ 9223372036854775807) :
    Calls Try.prog 5 #[.int .u32 ep, .slice a n c] W fun e w' => e = .returned (.bool true) ∧ Below W.heap.size W w' := by
  have d0 : decide (200 < n) = true := decide_eq_true (by omega)
  have d0' : decide ((200 : Int) < (n : Int)) = true := decide_eq_true (by omega)
  go_enter Try.func5, Try.ntmps5
  go_wp2_with fail
  refine (known_any _).mono ?_
  rintro _ w1 ⟨rfl, hb⟩
  have HB := Lib.hid hb
  clear hb
  go_wp2_with fail
  go_ret
  exact ⟨rfl, HB.out⟩
set_option maxRecDepth 1000000 in
set_option maxHeartbeats 4000000 in
theorem plays_short (ep : Int) (a : Option Addr) (n c : Nat) (os : List OpV) (W : World) (he : 0 ≤ ep ∧ ep < 4294967296) (hn : n ≤ 200) (ho : OpsIn W a n c os) :
    Calls Try.prog 5 #[.int .u32 ep, .slice a n c] W fun e w' => e = .returned (.bool true) ∧ Below W.heap.size W w' := by
  have NW := Lib.hid (new_any ep W he.1 he.2)
  have HO := Lib.hid ho
  have HE := Lib.hid he
  have d0 : decide (200 < n) = false := decide_eq_false (by omega)
  have d0' : decide ((200 : Int) < (n : Int)) = false := decide_eq_false (by omega)
  clear ho he
  go_enter Try.func5, Try.ntmps5
  go_wp2_with fail
  refine NW.out.mono ?_
  rintro _ w1 ⟨p, F, rfl, hm, hb⟩
  have T0 := Lib.hid (two_new HE.out hm hb)
  clear NW hm hb d0 d0'
  go_wp2_with fail
  generalize w1.alloc (.cells #[.int .u32 ep, .slice none 0 0, .int .u64 0] tRf) = w2 at *
  obtain ⟨q, hq⟩ : ∃ q, w1.heap.size = q := ⟨_, rfl⟩
  rw [hq] at T0
  rw [hq]
  clear hq
  go_loopw [7] (fun u wr => ∃ i : Nat, i ≤ n ∧ u = .int .i64 i ∧ Hid (Two W wr p q i)) (fun u _ => n - (intOf u).toNat)
  case atStart => exact ⟨0, by omega, rfl, T0⟩
  case round =>
    obtain ⟨i, hi, rfl, HI⟩ := hrel
    by_cases hlt : i < n
    · have d1 : decide ((i : Int) < (n : Int)) = true := decide_eq_true (by omega)
      have d1' : decide (i < n) = true := decide_eq_true hlt
      obtain ⟨M, F1, R, G, hT⟩ := HI.out
      have TT := Lib.hid hT
      obtain ⟨b, off, x, hab, hop⟩ : ∃ b off x, a = some ⟨b, off, none⟩ ∧ OpAt W b (off + i * 4) x := by
        obtain ⟨h1, h2, h3⟩ := HO.out
        rcases h3 with h3 | ⟨b, off, rfl, hf⟩
        · omega
        · obtain ⟨x, hx⟩ : ∃ x, os[i]? = some x := ⟨_, List.getElem?_eq_getElem (by omega)⟩
          exact ⟨b, off, x, rfl, hf i x hx⟩
      subst hab
      have HOP := Lib.hid hop
      have HL := Lib.hid hlt
      have h200 : Hid (i < 200) := Lib.hid (by omega)
      clear hT HI hop hlt
      go_upto_block 1 with fail
      by_cases ho : x.odd = true
      · refine roundA TT.out h200.out HL.out HOP.out ho ?_
        refine Lib.hid ?_
        intros
        rename_i w3 T3
        have N3 := Lib.hid T3
        clear T3
        go_wp2_with fail
        go_roundw
        case rel => exact ⟨i + 1, by have := HL.out; omega, by go_num, N3⟩
        case measure => simp [intOf]; have := HL.out; omega
      · have ho2 : x.odd = false := by simpa using ho
        by_cases hz : R.all.length = 0
        · refine roundB TT.out h200.out HL.out HOP.out ho2 hz ?_
          refine Lib.hid ?_
          intros
          rename_i w3 T3
          have N3 := Lib.hid T3
          clear T3 ho ho2 hz
          go_wp2_with fail
          go_roundw
          case rel => exact ⟨i + 1, by have := HL.out; omega, by go_num, N3⟩
          case measure => simp [intOf]; have := HL.out; omega
        · refine roundC TT.out h200.out HL.out HOP.out ho2 (by omega) ?_
          refine Lib.hid ?_
          intros
          rename_i w3 T3
          have N3 := Lib.hid T3
          clear T3 ho ho2 hz
          go_wp2_with fail
          go_roundw
          case rel => exact ⟨i + 1, by have := HL.out; omega, by go_num, N3⟩
          case measure => simp [intOf]; have := HL.out; omega
    · have d1 : decide ((i : Int) < (n : Int)) = false := decide_eq_false (by omega)
      have d1' : decide (i < n) = false := decide_eq_false hlt
      obtain ⟨M, F1, R, G, hT⟩ := HI.out
      have HB := Lib.hid hT.bl
      clear HI hT hlt
      go_wp2_with fail
      refine (known_any _).mono ?_
      rintro _ w5 ⟨rfl, hb⟩
      have HB5 := Lib.hid hb
      clear hb
      go_wp2_with fail
      go_ret
      exact ⟨rfl, HB.out.trans (HB5.out.mono HB.out.size)⟩
end Go.Proofs.Ytodkflnpcfepfaa
