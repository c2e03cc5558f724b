/- A record's form. -/
import Derived.Test.YtekdogmhgijocaaWaE
import Derived.Deep.RegionHeld3
import Derived.Deep.CutRange
set_option linter.unusedSimpArgs false
namespace Go.Proofs.Ytekdogmhgijocaa
open Go.RowKit Go.ChangeShapes Go.WideShapes Go.ChangeAt
set_option linter.unusedVariables false

theorem own_lower {w : World} {base base' : Nat} {e : TypeId} {size : Nat} {v : Value} {n : Nat} {xs : List Value} (h : w.ownsRow base' e size v n xs) (hb : base ≤ base') : w.ownsRow base e size v n xs := by
  refine ⟨h.1, ?_⟩
  rcases h.2 with h | ⟨g, cap, cur, r1, r2, r3⟩
  · exact .inl h
  · exact .inr ⟨g, cap, cur, r1, Nat.le_trans hb r2, r3⟩
theorem ints_own' {w : World} {base : Nat} {e : TypeId} {k : IntKind} {v : Value} {n : Nat} {xs : List Int} (h : w.ownsRow base e 1 v n (xs.map (Value.int k))) (hl : xs.length = n) : Ints k w v xs := ints_own h
/-- One byte behind bytes of the call's own. -/
theorem push_byte {y : World} {base : Nat} {v : Value} {n : Nat} {zs : List Int} (ho : y.ownsRow base 5 1 v n (zs.map (Value.int .u8))) (k : Nat) (x : Int) (hc : y.cell? ⟨k, 0, none⟩ = some (.int .u8 x)) (hn : n ≤ 100000) (hb : base ≤ y.heap.size) :
    ∃ v' w', (Builtin.append_ #[32, 32] 32 #[v, .slice (some ⟨k, 0, none⟩) 1 1]).run Try.prog y = .ok v' w' ∧ w'.ownsRow base 5 1 v' (n + 1) ((zs ++ [x]).map (Value.int .u8)) ∧ Below base y w' := by
  obtain ⟨v', w', h1, h2, h3, _⟩ := append_ints ho (some ⟨k, 0, none⟩) 1 1 [x] (.inr ⟨k, 0, 1, rfl, fun i hi => by
    obtain rfl : i = 0 := by simp at hi; omega
    exact hc⟩) rfl (by omega) (by omega) hb
  exact ⟨v', w', h1, h2, h3⟩
theorem gives_shape {zs : List Int} {w w' : World} {v : Value} (h : w'.ownsRow w.heap.size 5 1 v zs.length (zs.map (Value.int .u8))) (hp : 0 < zs.length) : ∃ g c, v = .slice (some ⟨g, 0, none⟩) zs.length c ∧ w.heap.size ≤ g ∧ g < w'.heap.size := by
  obtain ⟨g, c, h1, h2, h3, _⟩ := own_parts h hp
  exact ⟨g, c, h1, h2, h3⟩
theorem own_parts' {w : World} {base : Nat} {v : Value} {x : Int} (h : w.ownsRow base 5 1 v 8 ((leB x 8).map (Value.int .u8))) : ∃ g c, v = .slice (some ⟨g, 0, none⟩) 8 c ∧ base ≤ g ∧ g < w.heap.size := by
  have h' := h
  rw [← leB_len x 8] at h'
  obtain ⟨g, c, h1, h2, h3, _⟩ := own_parts h' (by rw [leB_len]; omega)
  rw [leB_len] at h1
  exact ⟨g, c, h1, h2, h3⟩
/-- The head of a form. -/
def headB (kind lsn ep : Int) : List Int := leB lsn 8 ++ leB ep 4 ++ [kind]
theorem headB_len (kind lsn ep : Int) : (headB kind lsn ep).length = 13 := by simp [headB, leB_len]
def Bytes3 (zs : List Int) (w : World) (s : Value) (wc : World) : Prop := wc.ownsRow w.heap.size 5 1 s zs.length (zs.map (Value.int .u8)) ∧ Below w.heap.size w wc
/-- Bytes with their length and their sum ahead. -/
def midB (b : List Int) : List Int := leB ((b.length : Int) + 6) 2 ++ b
def wrapB (b : List Int) : List Int := leB (sumI (midB b) : Nat) 4 ++ midB b
theorem midB_len (b : List Int) : (midB b).length = 2 + b.length := by simp [midB, leB_len]
theorem wrapB_len (b : List Int) : (wrapB b).length = 6 + b.length := by simp [wrapB, midB_len, leB_len]; omega
theorem midB_by {b : List Int} (h : IsBy b) : IsBy (midB b) := by_append (leB_by _ _) h
def formD (lsn ep txn : Int) : List Int := wrapB (headB 4 lsn ep ++ leB txn 8)
def formW (lsn ep pg off : Int) (xs ys : List Int) : List Int := wrapB (headB 1 lsn ep ++ leB pg 4 ++ leB off 2 ++ uvB xs.length ++ xs ++ uvB ys.length ++ ys)
theorem own_app {y : World} {base : Nat} {v : Value} {zs : List Int} {B : Nat} (ho : y.ownsRow B 5 1 v zs.length (zs.map (Value.int .u8))) (hB : base ≤ B) (hl : B ≤ y.heap.size) (a : Option Addr) (m c : Nat) (xs : List Int) (hi : Ints .u8 y (.slice a m c) xs) (hx : xs.length = m) (hp : 0 < m) (hn : zs.length + m ≤ 100000) :
    ∃ g cc w', (Builtin.append_ #[32, 32] 32 #[v, .slice a m c]).run Try.prog y = .ok (.slice (some ⟨g, 0, none⟩) (zs.length + m) cc) w' ∧ w'.ownsRow base 5 1 (.slice (some ⟨g, 0, none⟩) (zs.length + m) cc) (zs.length + m) ((zs ++ xs).map (Value.int .u8)) ∧ Below base y w' := by
  obtain ⟨v', w', h1, h2, h3, _⟩ := append_ints ho a m c xs hi hx hp (by omega) hl
  have h2' := own_lower h2 hB
  have hlen : (zs ++ xs).length = zs.length + m := by rw [List.length_append, hx]
  have h2'' := h2'
  rw [← hlen] at h2''
  obtain ⟨g, cc, hv, _⟩ := own_parts h2'' (by omega)
  rw [hlen] at hv
  subst hv
  exact ⟨g, cc, w', h1, h2', ⟨h3.os, h3.tape, h3.output, h3.size, fun k hk => h3.block k (by omega)⟩⟩
set_option maxRecDepth 100000 in
set_option maxHeartbeats 8000000 in
theorem form_done (lsn ep txn : Int) (w : World) (h0 : 0 ≤ lsn) (h1 : lsn < 18446744073709551616) (h2 : 0 ≤ ep) (h3 : ep < 4294967296) (h4 : 0 ≤ txn) (h5 : txn < 18446744073709551616) : Calls Try.prog 46 #[.agg (recR 4 lsn ep txn 0 0 (.slice none 0 0) (.slice none 0 0))] w (Gives (formD lsn ep txn) w) := by
  have H4 := Lib.hid h4
  have H5 := Lib.hid h5
  clear h4 h5

  have P64 := Lib.hid fun y => Put64_any lsn h0 h1 y
  have P32 := Lib.hid fun (y : World) (a : Option Addr) (m c : Nat) (xs : List Int) (hx : xs.length = m) (hi : Ints .u8 y (.slice a m c) xs) (hm : m ≤ 100000) => Put32_on ep h2 h3 a m c xs y hx hi hm
  clear h0 h1 h2 h3
  obtain ⟨R, hR⟩ : ∃ R, recR 4 lsn ep txn 0 0 (.slice none 0 0) (.slice none 0 0) = R := ⟨_, rfl⟩
  have R1 : Hid (Row (w.alloc (.cells R 43)) w.heap.size (recR 4 lsn ep txn 0 0 (.slice none 0 0) (.slice none 0 0)) 43) := Lib.hid (by rw [hR]; exact Row.made _ _ _)
  have HR := Lib.hid hR
  rw [hR]
  clear hR
  go_enter Try.func46, Try.ntmps46
  go_upto_region 1 with fail
  have B1 : Hid (Below w.heap.size w (w.alloc (.cells R 43))) := Lib.hid ((Below.refl _ _).alloc (Nat.le_refl _) _)
  generalize w.alloc (.cells R 43) = w1 at *
  generalize hq : w.heap.size = q at *
  have SO : Hid (∀ y, Below w1.heap.size w1 y → y.cell? ⟨q, 0, none⟩ = some (.int .i64 4) ∧ y.cell? ⟨q, 1, none⟩ = some (.int .u64 lsn) ∧ y.cell? ⟨q, 2, none⟩ = some (.int .u32 ep)) := Lib.hid fun y k => ⟨(k.cell (p := ⟨q, _, none⟩) R1.out.lt).trans (R1.out.cell 0), (k.cell (p := ⟨q, _, none⟩) R1.out.lt).trans (R1.out.cell 1), (k.cell (p := ⟨q, _, none⟩) R1.out.lt).trans (R1.out.cell 2)⟩
  have HQ := Lib.hid hq
  clear hq
  go_cut [3] from 9 (fun s3 wc => Hid (Bytes3 (headB 4 lsn ep) w1 s3 wc))
  case first =>
    go_region_held3 (fun x => x.cell? ⟨q, 0, none⟩ = some (.int .i64 4) ∧ x.cell? ⟨q, 1, none⟩ = some (.int .u64 lsn) ∧ x.cell? ⟨q, 2, none⟩ = some (.int .u32 ep))
      (first
        | exact SO.out _ W3.out
        | exact SO.out _ Z2.out
        | exact SO.out _ X2.out
        | exact SO.out _ Y2.out
        | exact SO.out _ (Y2.out.alloc Y2.out.size _)
        | exact SO.out _ Z1.out
        | exact SO.out _ Y1.out
        | exact SO.out _ (Y1.out.alloc Y1.out.size _)
        | exact SO.out _ (Below.refl _ w1).drew
        | exact SO.out _ ((Below.refl _ w1).drew.alloc (Nat.le_refl _) _))
      (first
        | (refine step_append_eq rfl (.tmp 14) (.tmp 18) 32 rfl (.slice (some ⟨gz, 0, none⟩) 12 cz) (.slice (some ⟨w1.heap.size, 0, none⟩) 1 1) v3 w3 (by simp [Act.eval, Act.put]) (by simp [Act.eval, Act.put]) run3 ?_)
        | (refine step_append_eq rfl (.tmp 14) (.tmp 18) 32 rfl (.slice (some ⟨gx, 0, none⟩) 12 cx) (.slice (some ⟨y1.heap.size, 0, none⟩) 1 1) v3 w3 (by simp [Act.eval, Act.put]) (by simp [Act.eval, Act.put]) run3 ?_)
        | (refine step_append_eq rfl (.tmp 14) (.tmp 18) 32 rfl (.slice (some ⟨gy, 0, none⟩) 12 cy) (.slice (some ⟨y2.heap.size, 0, none⟩) 1 1) v3 w3 (by simp [Act.eval, Act.put]) (by simp [Act.eval, Act.put]) run3 ?_)
        | (go_at_call 58; refine (P32.out z1 (some ⟨g1, 0, none⟩) 8 c1 (leB lsn 8) (leB_len _ _) I1.out (by omega)).mono ?_; rintro _ z2 ⟨v2, rfl, o2, b2⟩; have Z2 : Hid (Below w1.heap.size w1 z2) := Lib.hid (Z1.out.trans (b2.mono Z1.out.size)); obtain ⟨gz, cz, hvz, _, _⟩ := gives_shape o2 (by rw [List.length_append, leB_len]; omega); rw [List.length_append, leB_len, leB_len] at hvz; subst hvz; obtain ⟨v3, w3, run3, own3, bel3⟩ := push_byte (own_lower o2 Z1.out.size) w1.heap.size 4 ((b2.cell (p := ⟨w1.heap.size, 0, none⟩) (World.block_lt_of_cell? z1 _ KZ.out)).trans KZ.out) (by rw [List.length_append, leB_len, leB_len]; omega) Z2.out.size; have W3 : Hid (Below w1.heap.size w1 w3) := Lib.hid (Z2.out.trans bel3); have O3 := Lib.hid own3)
        | (go_at_call 58; refine (P32.out (y1.alloc (.cells #[.int .u8 4] 5)) (some ⟨g1, 0, none⟩) 8 c1 (leB lsn 8) (leB_len _ _) (I1.out.below' ((Below.refl _ _).alloc (Nat.le_refl _) _)) (by omega)).mono ?_; rintro _ x2 ⟨v2, rfl, o2, b2⟩; have X2 : Hid (Below w1.heap.size w1 x2) := Lib.hid ((Y1.out.alloc Y1.out.size _).trans (b2.mono (Nat.le_trans Y1.out.size (by simp)))); obtain ⟨gx, cx, hvx, _, _⟩ := gives_shape o2 (by rw [List.length_append, leB_len]; omega); rw [List.length_append, leB_len, leB_len] at hvx; subst hvx; obtain ⟨v3, w3, run3, own3, bel3⟩ := push_byte (own_lower o2 (Nat.le_trans Y1.out.size (by simp) : w1.heap.size ≤ (y1.alloc (.cells #[.int .u8 4] 5)).heap.size)) y1.heap.size 4 ((b2.cell (p := ⟨y1.heap.size, 0, none⟩) (by simp)).trans (by simp [go_sem])) (by rw [List.length_append, leB_len, leB_len]; omega) X2.out.size; have W3 : Hid (Below w1.heap.size w1 w3) := Lib.hid (X2.out.trans bel3); have O3 := Lib.hid own3)
        | (go_at_call 58; refine (P32.out y1 (some ⟨g1, 0, none⟩) 8 c1 (leB lsn 8) (leB_len _ _) I1.out (by omega)).mono ?_; rintro _ y2 ⟨v2, rfl, o2, b2⟩; have Y2 : Hid (Below w1.heap.size w1 y2) := Lib.hid (Y1.out.trans (b2.mono Y1.out.size)); obtain ⟨gy, cy, hvy, _, _⟩ := gives_shape o2 (by rw [List.length_append, leB_len]; omega); rw [List.length_append, leB_len, leB_len] at hvy; subst hvy; obtain ⟨v3, w3, run3, own3, bel3⟩ := push_byte (y := y2.alloc (.cells #[.int .u8 4] 5)) ((own_lower o2 Y1.out.size).alloc _) y2.heap.size 4 (by simp [go_sem]) (by rw [List.length_append, leB_len, leB_len]; omega) (Nat.le_trans Y2.out.size (by simp)); have W3 : Hid (Below w1.heap.size w1 w3) := Lib.hid ((Y2.out.alloc Y2.out.size _).trans bel3); have O3 := Lib.hid own3)
        | (go_at_call 59; refine (P64.out (w1.drew.alloc (.cells #[.int .u8 4] 5))).mono ?_; rintro _ z1 ⟨v1, rfl, o1, b1⟩; have Z1 : Hid (Below w1.heap.size w1 z1) := Lib.hid (((Below.refl _ w1).drew.alloc (Nat.le_refl _) _).trans (b1.mono (by simp))); have KZ : Hid (z1.cell? ⟨w1.heap.size, 0, none⟩ = some (.int .u8 4)) := Lib.hid ((b1.cell (p := ⟨w1.heap.size, 0, none⟩) (by simp)).trans (by simp [go_sem])); obtain ⟨g1, c1, hv1, _, _⟩ := own_parts' o1; subst hv1; have I1 := Lib.hid (ints_own o1); clear o1 b1)
        | (go_at_call 59; refine (P64.out w1.drew).mono ?_; rintro _ y1 ⟨v1, rfl, o1, b1⟩; have Y1 : Hid (Below w1.heap.size w1 y1) := Lib.hid ((Below.refl _ w1).drew.trans b1); obtain ⟨g1, c1, hv1, _, _⟩ := own_parts' o1; subst hv1; have I1 := Lib.hid (ints_own o1); clear o1 b1))
    all_goals (try go_wp2_with fail)
    all_goals go_meet
    all_goals exact Lib.hid ⟨by simpa [headB, leB_len, List.map_append] using O3.out, W3.out⟩
  case rest =>
    have R3 := Lib.hid (R1.out.of_block (hcut.out.2.block _ R1.out.lt))
    have B3 : Hid (Below w.heap.size w wc) := Lib.hid (by have h := B1.out; rw [← HQ.out] at h; exact h.trans (hcut.out.2.mono h.size))
    obtain ⟨g3, c3, hv3, _, _⟩ := gives_shape hcut.out.1 (by rw [headB_len]; omega)
    have I3 : Hid (Ints .u8 wc u3 (headB 4 lsn ep)) := Lib.hid (ints_own hcut.out.1)
    rw [headB_len] at hv3
    subst hv3
    have k0 : wc.cell? ⟨q, 0, none⟩ = some (.int .i64 4) := R3.out.cell 0
    have k3 : wc.cell? ⟨q, 3, none⟩ = some (.int .u64 txn) := R3.out.cell 3
    clear hcut
    go_wp2_with fail
    refine (Put64_on txn H4.out H5.out (some ⟨g3, 0, none⟩) 13 c3 (headB 4 lsn ep) wc (headB_len _ _ _) I3.out (by omega)).mono ?_
    rintro _ w4 ⟨v4, rfl, o4, b4⟩
    obtain ⟨g4, c4, hv4, _, _⟩ := gives_shape o4 (by rw [List.length_append, headB_len, leB_len]; omega)
    have I4 : Hid (Ints .u8 w4 v4 (headB 4 lsn ep ++ leB txn 8)) := Lib.hid (ints_own o4)
    have ZB : Hid (IsBy (headB 4 lsn ep ++ leB txn 8)) := Lib.hid (by_append (by_append (by_append (leB_by _ _) (leB_by _ _)) (fun x hx => by simp at hx; omega)) (leB_by _ _))
    have OUT : Hid (formD lsn ep txn = wrapB (headB 4 lsn ep ++ leB txn 8)) := Lib.hid rfl
    have B4 : Hid (Below w.heap.size w w4) := Lib.hid (B3.out.trans (b4.mono B3.out.size))
    have hz : (headB 4 lsn ep ++ leB txn 8).length = 21 := by rw [List.length_append, headB_len, leB_len]
    rw [hz] at hv4
    subst hv4
    obtain ⟨Z, hZ⟩ : ∃ Z, headB 4 lsn ep ++ leB txn 8 = Z := ⟨_, rfl⟩
    rw [hZ] at I4 ZB OUT hz
    obtain ⟨L, hL⟩ : ∃ L, L = 21 := ⟨_, rfl⟩
    rw [← hL] at hz I4
    rw [← hL]
    have ZL := Lib.hid hz
    have LB : Hid (0 < L ∧ L ≤ 2000) := Lib.hid (by omega)
    clear o4 b4 hz hZ hL k0 k3 I3 R3 SO P64 P32
    have eL : IntKind.i64.wrap ((L : Int) + 6) = (L : Int) + 6 := IntWalk.i64_in _ (by have := LB.out; omega)
    have eu : IntKind.u16.wrap ((L : Int) + 6) = (L : Int) + 6 := by rw [show IntKind.u16.wrap ((L : Int) + 6) = ((L : Int) + 6) % 65536 from rfl]; have := LB.out; omega
    go_wp2_with fail
    refine (Put16_on ((L : Int) + 6) (by omega) (by have := LB.out; omega) none 0 0 [] w4 rfl (.inl ⟨rfl, none, 0, rfl⟩) (by omega)).mono ?_
    rintro _ v5w ⟨v5, rfl, o5, b5⟩
    rw [List.nil_append] at o5
    have IZ : Hid (Ints .u8 v5w (.slice (some ⟨g4, 0, none⟩) L c4) Z) := Lib.hid (I4.out.below' b5)
    obtain ⟨g6, c6, w6, run6, o6, b6⟩ := own_app (base := w.heap.size) o5 B4.out.size b5.size (some ⟨g4, 0, none⟩) L c4 Z IZ.out ZL.out (by have := LB.out; omega) (by rw [leB_len]; have := LB.out; omega)
    rw [leB_len] at run6 o6
    have RU6 := Lib.hid run6
    have M6 : Hid (w6.ownsRow w.heap.size 5 1 (.slice (some ⟨g6, 0, none⟩) (2 + L) c6) (2 + L) ((midB Z).map (Value.int .u8))) := Lib.hid (by unfold midB; rw [ZL.out]; exact o6)
    have ML : Hid ((midB Z).length = 2 + L) := Lib.hid (by rw [midB_len, ZL.out])
    have MB : Hid (IsBy (midB Z)) := Lib.hid (midB_by ZB.out)
    have BL6 : Hid (Below w.heap.size w w6) := Lib.hid ((B4.out.trans (b5.mono B4.out.size)).trans b6)
    clear o5 b5 IZ run6 o6 b6
    go_wp2_with (at_builtin; refine wpList_append_eq rfl (.tmp 124) (.tmp 125) 32 rfl v5 (.slice (some ⟨g4, 0, none⟩) L c4) (.slice (some ⟨g6, 0, none⟩) (2 + L) c6) w6 rfl rfl RU6.out ?_)
    refine (sum_any (some ⟨g6, 0, none⟩) (2 + L) c6 (midB Z) w6 ML.out (ints_own' M6.out ML.out) MB.out (by have := LB.out; omega)).mono ?_
    rintro _ w7 ⟨rfl, b7⟩
    have BL7 : Hid (Below w.heap.size w w7) := Lib.hid (BL6.out.trans (b7.mono BL6.out.size))
    have I7 : Hid (Ints .u8 w7 (.slice (some ⟨g6, 0, none⟩) (2 + L) c6) (midB Z)) := Lib.hid ((ints_own' M6.out ML.out).below' b7)
    obtain ⟨sm, hsm⟩ : ∃ sm : Int, ((sumI (midB Z) : Nat) : Int) = sm := ⟨_, rfl⟩
    have SMB : Hid (0 ≤ sm ∧ sm < 4294967296) := Lib.hid (by have := sumI_lt (midB Z); omega)
    have HSM := Lib.hid hsm
    rw [hsm]
    clear b7 RU6 hsm
    go_wp2_with fail
    refine (Put32_any sm SMB.out.1 SMB.out.2 w7).mono ?_
    rintro _ w8 ⟨v8, rfl, o8, b8⟩
    have o8' : w8.ownsRow w7.heap.size 5 1 v8 (leB sm 4).length ((leB sm 4).map (Value.int .u8)) := by rw [leB_len]; exact o8
    obtain ⟨g9, c9, w9, run9, o9, b9⟩ := own_app (base := w.heap.size) o8' BL7.out.size b8.size (some ⟨g6, 0, none⟩) (2 + L) c6 (midB Z) (I7.out.below' b8) ML.out (by omega) (by rw [leB_len]; have := LB.out; omega)
    have RU9 := Lib.hid run9
    have O9 := Lib.hid o9
    have BL9 : Hid (Below w.heap.size w w9) := Lib.hid ((BL7.out.trans (b8.mono BL7.out.size)).trans b9)
    rw [leB_len] at RU9
    clear o8 o8' b8 run9 o9 b9
    go_wp2_with (at_builtin; refine wpList_append_eq rfl (.tmp 129) (.tmp 130) 32 rfl v8 (.slice (some ⟨g6, 0, none⟩) (2 + L) c6) (.slice (some ⟨g9, 0, none⟩) (4 + (2 + L)) c9) w9 rfl rfl RU9.out ?_)
    go_ret
    refine ⟨_, rfl, ?_, BL9.out⟩
    have h := O9.out
    rw [leB_len, ← HSM.out] at h
    rw [OUT.out, wrapB_len, ZL.out, show 6 + L = 4 + (2 + L) by omega]
    exact h
set_option maxRecDepth 100000 in
set_option maxHeartbeats 8000000 in
theorem form_write (lsn ep pg off : Int) (a1 a2 : Option Addr) (n c1 c2 : Nat) (xs ys : List Int) (w : World) (h0 : 0 ≤ lsn) (h1 : lsn < 18446744073709551616) (h2 : 0 ≤ ep) (h3 : ep < 4294967296) (h4 : 0 ≤ pg ∧ pg < 4294967296) (h5 : 0 ≤ off ∧ off < 65536) (hx : xs.length = n) (hy : ys.length = n) (hi : Ints .u8 w (.slice a1 n c1) xs) (hj : Ints .u8 w (.slice a2 n c2) ys) (bx : IsBy xs) (by_ : IsBy ys) (hp : 0 < n) (hn : n ≤ 500) : Calls Try.prog 46 #[.agg (recR 1 lsn ep 0 pg off (.slice a1 n c1) (.slice a2 n c2))] w (Gives (formW lsn ep pg off xs ys) w) := by
  have HP := Lib.hid h4
  have HO := Lib.hid h5
  have HX := Lib.hid hx
  have HY := Lib.hid hy
  have HI := Lib.hid hi
  have HJ := Lib.hid hj
  have BX := Lib.hid bx
  have BY := Lib.hid by_
  have HN : Hid (0 < n ∧ n ≤ 500) := Lib.hid ⟨hp, hn⟩
  clear h4 h5 hx hy hi hj bx by_ hp hn

  have P64 := Lib.hid fun y => Put64_any lsn h0 h1 y
  have P32 := Lib.hid fun (y : World) (a : Option Addr) (m c : Nat) (xs : List Int) (hx : xs.length = m) (hi : Ints .u8 y (.slice a m c) xs) (hm : m ≤ 100000) => Put32_on ep h2 h3 a m c xs y hx hi hm
  clear h0 h1 h2 h3
  obtain ⟨R, hR⟩ : ∃ R, recR 1 lsn ep 0 pg off (.slice a1 n c1) (.slice a2 n c2) = R := ⟨_, rfl⟩
  have R1 : Hid (Row (w.alloc (.cells R 43)) w.heap.size (recR 1 lsn ep 0 pg off (.slice a1 n c1) (.slice a2 n c2)) 43) := Lib.hid (by rw [hR]; exact Row.made _ _ _)
  have HR := Lib.hid hR
  rw [hR]
  clear hR
  go_enter Try.func46, Try.ntmps46
  go_upto_region 1 with fail
  have B1 : Hid (Below w.heap.size w (w.alloc (.cells R 43))) := Lib.hid ((Below.refl _ _).alloc (Nat.le_refl _) _)
  generalize w.alloc (.cells R 43) = w1 at *
  generalize hq : w.heap.size = q at *
  have SO : Hid (∀ y, Below w1.heap.size w1 y → y.cell? ⟨q, 0, none⟩ = some (.int .i64 1) ∧ y.cell? ⟨q, 1, none⟩ = some (.int .u64 lsn) ∧ y.cell? ⟨q, 2, none⟩ = some (.int .u32 ep)) := Lib.hid fun y k => ⟨(k.cell (p := ⟨q, _, none⟩) R1.out.lt).trans (R1.out.cell 0), (k.cell (p := ⟨q, _, none⟩) R1.out.lt).trans (R1.out.cell 1), (k.cell (p := ⟨q, _, none⟩) R1.out.lt).trans (R1.out.cell 2)⟩
  have HQ := Lib.hid hq
  clear hq
  go_cut [3] from 9 (fun s3 wc => Hid (Bytes3 (headB 1 lsn ep) w1 s3 wc))
  case first =>
    go_region_held3 (fun x => x.cell? ⟨q, 0, none⟩ = some (.int .i64 1) ∧ x.cell? ⟨q, 1, none⟩ = some (.int .u64 lsn) ∧ x.cell? ⟨q, 2, none⟩ = some (.int .u32 ep))
      (first
        | exact SO.out _ W3.out
        | exact SO.out _ Z2.out
        | exact SO.out _ X2.out
        | exact SO.out _ Y2.out
        | exact SO.out _ (Y2.out.alloc Y2.out.size _)
        | exact SO.out _ Z1.out
        | exact SO.out _ Y1.out
        | exact SO.out _ (Y1.out.alloc Y1.out.size _)
        | exact SO.out _ (Below.refl _ w1).drew
        | exact SO.out _ ((Below.refl _ w1).drew.alloc (Nat.le_refl _) _))
      (first
        | (refine step_append_eq rfl (.tmp 14) (.tmp 18) 32 rfl (.slice (some ⟨gz, 0, none⟩) 12 cz) (.slice (some ⟨w1.heap.size, 0, none⟩) 1 1) v3 w3 (by simp [Act.eval, Act.put]) (by simp [Act.eval, Act.put]) run3 ?_)
        | (refine step_append_eq rfl (.tmp 14) (.tmp 18) 32 rfl (.slice (some ⟨gx, 0, none⟩) 12 cx) (.slice (some ⟨y1.heap.size, 0, none⟩) 1 1) v3 w3 (by simp [Act.eval, Act.put]) (by simp [Act.eval, Act.put]) run3 ?_)
        | (refine step_append_eq rfl (.tmp 14) (.tmp 18) 32 rfl (.slice (some ⟨gy, 0, none⟩) 12 cy) (.slice (some ⟨y2.heap.size, 0, none⟩) 1 1) v3 w3 (by simp [Act.eval, Act.put]) (by simp [Act.eval, Act.put]) run3 ?_)
        | (go_at_call 58; refine (P32.out z1 (some ⟨g1, 0, none⟩) 8 c1 (leB lsn 8) (leB_len _ _) I1.out (by omega)).mono ?_; rintro _ z2 ⟨v2, rfl, o2, b2⟩; have Z2 : Hid (Below w1.heap.size w1 z2) := Lib.hid (Z1.out.trans (b2.mono Z1.out.size)); obtain ⟨gz, cz, hvz, _, _⟩ := gives_shape o2 (by rw [List.length_append, leB_len]; omega); rw [List.length_append, leB_len, leB_len] at hvz; subst hvz; obtain ⟨v3, w3, run3, own3, bel3⟩ := push_byte (own_lower o2 Z1.out.size) w1.heap.size 1 ((b2.cell (p := ⟨w1.heap.size, 0, none⟩) (World.block_lt_of_cell? z1 _ KZ.out)).trans KZ.out) (by rw [List.length_append, leB_len, leB_len]; omega) Z2.out.size; have W3 : Hid (Below w1.heap.size w1 w3) := Lib.hid (Z2.out.trans bel3); have O3 := Lib.hid own3)
        | (go_at_call 58; refine (P32.out (y1.alloc (.cells #[.int .u8 1] 5)) (some ⟨g1, 0, none⟩) 8 c1 (leB lsn 8) (leB_len _ _) (I1.out.below' ((Below.refl _ _).alloc (Nat.le_refl _) _)) (by omega)).mono ?_; rintro _ x2 ⟨v2, rfl, o2, b2⟩; have X2 : Hid (Below w1.heap.size w1 x2) := Lib.hid ((Y1.out.alloc Y1.out.size _).trans (b2.mono (Nat.le_trans Y1.out.size (by simp)))); obtain ⟨gx, cx, hvx, _, _⟩ := gives_shape o2 (by rw [List.length_append, leB_len]; omega); rw [List.length_append, leB_len, leB_len] at hvx; subst hvx; obtain ⟨v3, w3, run3, own3, bel3⟩ := push_byte (own_lower o2 (Nat.le_trans Y1.out.size (by simp) : w1.heap.size ≤ (y1.alloc (.cells #[.int .u8 1] 5)).heap.size)) y1.heap.size 1 ((b2.cell (p := ⟨y1.heap.size, 0, none⟩) (by simp)).trans (by simp [go_sem])) (by rw [List.length_append, leB_len, leB_len]; omega) X2.out.size; have W3 : Hid (Below w1.heap.size w1 w3) := Lib.hid (X2.out.trans bel3); have O3 := Lib.hid own3)
        | (go_at_call 58; refine (P32.out y1 (some ⟨g1, 0, none⟩) 8 c1 (leB lsn 8) (leB_len _ _) I1.out (by omega)).mono ?_; rintro _ y2 ⟨v2, rfl, o2, b2⟩; have Y2 : Hid (Below w1.heap.size w1 y2) := Lib.hid (Y1.out.trans (b2.mono Y1.out.size)); obtain ⟨gy, cy, hvy, _, _⟩ := gives_shape o2 (by rw [List.length_append, leB_len]; omega); rw [List.length_append, leB_len, leB_len] at hvy; subst hvy; obtain ⟨v3, w3, run3, own3, bel3⟩ := push_byte (y := y2.alloc (.cells #[.int .u8 1] 5)) ((own_lower o2 Y1.out.size).alloc _) y2.heap.size 1 (by simp [go_sem]) (by rw [List.length_append, leB_len, leB_len]; omega) (Nat.le_trans Y2.out.size (by simp)); have W3 : Hid (Below w1.heap.size w1 w3) := Lib.hid ((Y2.out.alloc Y2.out.size _).trans bel3); have O3 := Lib.hid own3)
        | (go_at_call 59; refine (P64.out (w1.drew.alloc (.cells #[.int .u8 1] 5))).mono ?_; rintro _ z1 ⟨v1, rfl, o1, b1⟩; have Z1 : Hid (Below w1.heap.size w1 z1) := Lib.hid (((Below.refl _ w1).drew.alloc (Nat.le_refl _) _).trans (b1.mono (by simp))); have KZ : Hid (z1.cell? ⟨w1.heap.size, 0, none⟩ = some (.int .u8 1)) := Lib.hid ((b1.cell (p := ⟨w1.heap.size, 0, none⟩) (by simp)).trans (by simp [go_sem])); obtain ⟨g1, c1, hv1, _, _⟩ := own_parts' o1; subst hv1; have I1 := Lib.hid (ints_own o1); clear o1 b1)
        | (go_at_call 59; refine (P64.out w1.drew).mono ?_; rintro _ y1 ⟨v1, rfl, o1, b1⟩; have Y1 : Hid (Below w1.heap.size w1 y1) := Lib.hid ((Below.refl _ w1).drew.trans b1); obtain ⟨g1, c1, hv1, _, _⟩ := own_parts' o1; subst hv1; have I1 := Lib.hid (ints_own o1); clear o1 b1))
    all_goals (try go_wp2_with fail)
    all_goals go_meet
    all_goals exact Lib.hid ⟨by simpa [headB, leB_len, List.map_append] using O3.out, W3.out⟩
  case rest =>
    have R3 := Lib.hid (R1.out.of_block (hcut.out.2.block _ R1.out.lt))
    have B3 : Hid (Below w.heap.size w wc) := Lib.hid (by have h := B1.out; rw [← HQ.out] at h; exact h.trans (hcut.out.2.mono h.size))
    obtain ⟨g3, c3, hv3, _, _⟩ := gives_shape hcut.out.1 (by rw [headB_len]; omega)
    have I3 : Hid (Ints .u8 wc u3 (headB 1 lsn ep)) := Lib.hid (ints_own hcut.out.1)
    rw [headB_len] at hv3
    subst hv3
    have k0 : wc.cell? ⟨q, 0, none⟩ = some (.int .i64 1) := R3.out.cell 0
    have S4 : Hid (∀ y, Below wc.heap.size wc y → y.cell? ⟨q, 4, none⟩ = some (.int .u32 pg) ∧ y.cell? ⟨q, 5, none⟩ = some (.int .u16 off) ∧ y.cell? ⟨q, 6, none⟩ = some (.slice a1 n c1) ∧ y.cell? ⟨q, 7, none⟩ = some (.slice a2 n c2)) := Lib.hid fun y k => ⟨(k.cell (p := ⟨q, _, none⟩) R3.out.lt).trans (R3.out.cell 4), (k.cell (p := ⟨q, _, none⟩) R3.out.lt).trans (R3.out.cell 5), (k.cell (p := ⟨q, _, none⟩) R3.out.lt).trans (R3.out.cell 6), (k.cell (p := ⟨q, _, none⟩) R3.out.lt).trans (R3.out.cell 7)⟩
    have I3' : Hid (Ints .u8 wc.drew (.slice (some ⟨g3, 0, none⟩) 13 c3) (headB 1 lsn ep)) := Lib.hid (I3.out.below' (Below.refl _ _).drew)
    have U : Hid (∀ m : Nat, m ≤ 500 → (uvB (m : Int)).length ≤ 2 ∧ IsBy (uvB (m : Int))) := Lib.hid fun m hm => by
      by_cases h : (m : Int) < 128
      · rw [uvB_one h]; exact ⟨by simp, fun x hx => by simp at hx; omega⟩
      · rw [uvB_two (by omega) (by omega)]; exact ⟨by simp, fun x hx => by simp at hx; omega⟩
    have l17 : Hid ((headB 1 lsn ep ++ leB pg 4).length = 17) := Lib.hid (by rw [List.length_append, headB_len, leB_len])
    have l19 : Hid ((headB 1 lsn ep ++ leB pg 4 ++ leB off 2).length = 19) := Lib.hid (by rw [List.length_append, List.length_append, headB_len, leB_len, leB_len])
    obtain ⟨Z2, hZ2⟩ : ∃ Z, headB 1 lsn ep ++ leB pg 4 ++ leB off 2 = Z := ⟨_, rfl⟩
    have HZ2 := Lib.hid hZ2
    obtain ⟨M3, hM3⟩ : ∃ M, (Z2 ++ uvB (n : Int) ++ xs).length = M := ⟨_, rfl⟩
    have HM3 := Lib.hid hM3
    obtain ⟨L, hL⟩ : ∃ L, (Z2 ++ uvB (n : Int) ++ xs ++ uvB (n : Int) ++ ys).length = L := ⟨_, rfl⟩
    have HL := Lib.hid hL
    have M3B : Hid (0 < M3 ∧ M3 ≤ 600) := Lib.hid (by
      have hu := (U.out n HN.out.2).1
      have h19 := l19.out
      rw [hZ2] at h19
      have h1 := HX.out
      have h2 := HN.out
      rw [← hM3, List.length_append, List.length_append]
      omega)
    clear hcut hZ2 hM3 hL I3
    go_upto_region 4 with fail
    go_region_held3 (fun x => x.cell? ⟨q, 4, none⟩ = some (.int .u32 pg) ∧ x.cell? ⟨q, 5, none⟩ = some (.int .u16 off) ∧ x.cell? ⟨q, 6, none⟩ = some (.slice a1 n c1) ∧ x.cell? ⟨q, 7, none⟩ = some (.slice a2 n c2))
      (first
        | exact S4.out _ X4.out
        | exact S4.out _ X3.out
        | exact S4.out _ X2.out
        | exact S4.out _ X1.out
        | exact S4.out _ (Below.refl _ wc).drew)
      (first
        | (go_at_call 64; refine (PutText_on g13 0 M3 c13 (Z2 ++ uvB (n : Int) ++ xs) a2 n c2 ys x3 HM3.out J3.out M3B.out.1 (by have := M3B.out; omega) HY.out (HJ.out.below' (B3.out.trans (X3.out.mono B3.out.size))) HN.out.1 (by have := HN.out; omega)).mono ?_; rintro _ x4 ⟨v4, rfl, o4, b4⟩; have X4 : Hid (Below wc.heap.size wc x4) := Lib.hid (X3.out.trans (b4.mono X3.out.size)); obtain ⟨g4, c4, hv4, _, _⟩ := gives_shape o4 (by rw [HL.out]; have := HL.out; rw [List.length_append, List.length_append, HM3.out] at this; have := M3B.out; omega); rw [HL.out] at hv4; subst hv4; have I4 : Hid (Ints .u8 x4 (.slice (some ⟨g4, 0, none⟩) L c4) (Z2 ++ uvB (n : Int) ++ xs ++ uvB (n : Int) ++ ys)) := Lib.hid (ints_own o4))
        | (go_at_call 64; refine (PutText_on g12 0 19 c12 Z2 a1 n c1 xs x2 (by rw [← HZ2.out]; exact l19.out) J2.out (by omega) (by omega) HX.out (HI.out.below' (B3.out.trans (X2.out.mono B3.out.size))) HN.out.1 (by have := HN.out; omega)).mono ?_; rintro _ x3 ⟨v3, rfl, o3, b3⟩; have X3 : Hid (Below wc.heap.size wc x3) := Lib.hid (X2.out.trans (b3.mono X2.out.size)); obtain ⟨g13, c13, hv3, _, _⟩ := gives_shape o3 (by rw [HM3.out]; exact M3B.out.1); rw [HM3.out] at hv3; subst hv3; have J3 : Hid (Ints .u8 x3 (.slice (some ⟨g13, 0, none⟩) M3 c13) (Z2 ++ uvB (n : Int) ++ xs)) := Lib.hid (ints_own o3))
        | (go_at_call 65; refine (Put16_on off HO.out.1 HO.out.2 (some ⟨g11, 0, none⟩) 17 c11 (headB 1 lsn ep ++ leB pg 4) x1 l17.out J1.out (by omega)).mono ?_; rintro _ x2 ⟨v2, rfl, o2, b2⟩; have X2 : Hid (Below wc.heap.size wc x2) := Lib.hid (X1.out.trans (b2.mono X1.out.size)); obtain ⟨g12, c12, hv2, _, _⟩ := gives_shape o2 (by rw [l19.out]; omega); rw [l19.out] at hv2; subst hv2; have J2 : Hid (Ints .u8 x2 (.slice (some ⟨g12, 0, none⟩) 19 c12) Z2) := Lib.hid (by rw [← HZ2.out]; exact ints_own o2))
        | (go_at_call 58; refine (Put32_on pg HP.out.1 HP.out.2 (some ⟨g3, 0, none⟩) 13 c3 (headB 1 lsn ep) wc.drew (headB_len _ _ _) I3'.out (by omega)).mono ?_; rintro _ x1 ⟨v1, rfl, o1, b1⟩; have X1 : Hid (Below wc.heap.size wc x1) := Lib.hid ((Below.refl _ wc).drew.trans b1); obtain ⟨g11, c11, hv1, _, _⟩ := gives_shape o1 (by rw [l17.out]; omega); rw [l17.out] at hv1; subst hv1; have J1 : Hid (Ints .u8 x1 (.slice (some ⟨g11, 0, none⟩) 17 c11) (headB 1 lsn ep ++ leB pg 4)) := Lib.hid (ints_own o1)))
    have ZB : Hid (IsBy (Z2 ++ uvB (n : Int) ++ xs ++ uvB (n : Int) ++ ys)) := Lib.hid (by
      have hu := (U.out n HN.out.2).2
      rw [← HZ2.out]
      exact by_append (by_append (by_append (by_append (by_append (by_append (by_append (by_append (leB_by _ _) (leB_by _ _)) (fun x hx => by simp at hx; omega)) (leB_by _ _)) (leB_by _ _)) hu) BX.out) hu) BY.out)
    have OUT : Hid (formW lsn ep pg off xs ys = wrapB (Z2 ++ uvB (n : Int) ++ xs ++ uvB (n : Int) ++ ys)) := Lib.hid (by unfold formW; rw [HX.out, HY.out, HZ2.out])
    have B4 : Hid (Below w.heap.size w x4) := Lib.hid (B3.out.trans (X4.out.mono B3.out.size))
    have LB : Hid (0 < L ∧ L ≤ 2000) := Lib.hid (by
      have hu := (U.out n HN.out.2).1
      have h1 := HL.out
      rw [List.length_append, List.length_append, HM3.out] at h1
      have h2 := M3B.out
      have h3 := HY.out
      have h4 := HN.out
      omega)
    have ZL := Lib.hid HL.out
    obtain ⟨Z, hZ⟩ : ∃ Z, Z2 ++ uvB (n : Int) ++ xs ++ uvB (n : Int) ++ ys = Z := ⟨_, rfl⟩
    rw [hZ] at I4 ZB OUT ZL
    clear o1 b1 o2 b2 o3 b3 o4 b4 hZ HL HM3 J1 J2 J3 k0 R3 SO S4 P64 P32
    have eL : IntKind.i64.wrap ((L : Int) + 6) = (L : Int) + 6 := IntWalk.i64_in _ (by have := LB.out; omega)
    have eu : IntKind.u16.wrap ((L : Int) + 6) = (L : Int) + 6 := by rw [show IntKind.u16.wrap ((L : Int) + 6) = ((L : Int) + 6) % 65536 from rfl]; have := LB.out; omega
    go_wp2_with fail
    refine (Put16_on ((L : Int) + 6) (by omega) (by have := LB.out; omega) none 0 0 [] x4 rfl (.inl ⟨rfl, none, 0, rfl⟩) (by omega)).mono ?_
    rintro _ v5w ⟨v5, rfl, o5, b5⟩
    rw [List.nil_append] at o5
    have IZ : Hid (Ints .u8 v5w (.slice (some ⟨g4, 0, none⟩) L c4) Z) := Lib.hid (I4.out.below' b5)
    obtain ⟨g6, c6, w6, run6, o6, b6⟩ := own_app (base := w.heap.size) o5 B4.out.size b5.size (some ⟨g4, 0, none⟩) L c4 Z IZ.out ZL.out (by have := LB.out; omega) (by rw [leB_len]; have := LB.out; omega)
    rw [leB_len] at run6 o6
    have RU6 := Lib.hid run6
    have M6 : Hid (w6.ownsRow w.heap.size 5 1 (.slice (some ⟨g6, 0, none⟩) (2 + L) c6) (2 + L) ((midB Z).map (Value.int .u8))) := Lib.hid (by unfold midB; rw [ZL.out]; exact o6)
    have ML : Hid ((midB Z).length = 2 + L) := Lib.hid (by rw [midB_len, ZL.out])
    have MB : Hid (IsBy (midB Z)) := Lib.hid (midB_by ZB.out)
    have BL6 : Hid (Below w.heap.size w w6) := Lib.hid ((B4.out.trans (b5.mono B4.out.size)).trans b6)
    clear o5 b5 IZ run6 o6 b6
    go_wp2_with (at_builtin; refine wpList_append_eq rfl (.tmp 124) (.tmp 125) 32 rfl v5 (.slice (some ⟨g4, 0, none⟩) L c4) (.slice (some ⟨g6, 0, none⟩) (2 + L) c6) w6 rfl rfl RU6.out ?_)
    refine (sum_any (some ⟨g6, 0, none⟩) (2 + L) c6 (midB Z) w6 ML.out (ints_own' M6.out ML.out) MB.out (by have := LB.out; omega)).mono ?_
    rintro _ w7 ⟨rfl, b7⟩
    have BL7 : Hid (Below w.heap.size w w7) := Lib.hid (BL6.out.trans (b7.mono BL6.out.size))
    have I7 : Hid (Ints .u8 w7 (.slice (some ⟨g6, 0, none⟩) (2 + L) c6) (midB Z)) := Lib.hid ((ints_own' M6.out ML.out).below' b7)
    obtain ⟨sm, hsm⟩ : ∃ sm : Int, ((sumI (midB Z) : Nat) : Int) = sm := ⟨_, rfl⟩
    have SMB : Hid (0 ≤ sm ∧ sm < 4294967296) := Lib.hid (by have := sumI_lt (midB Z); omega)
    have HSM := Lib.hid hsm
    rw [hsm]
    clear b7 RU6 hsm
    go_wp2_with fail
    refine (Put32_any sm SMB.out.1 SMB.out.2 w7).mono ?_
    rintro _ w8 ⟨v8, rfl, o8, b8⟩
    have o8' : w8.ownsRow w7.heap.size 5 1 v8 (leB sm 4).length ((leB sm 4).map (Value.int .u8)) := by rw [leB_len]; exact o8
    obtain ⟨g9, c9, w9, run9, o9, b9⟩ := own_app (base := w.heap.size) o8' BL7.out.size b8.size (some ⟨g6, 0, none⟩) (2 + L) c6 (midB Z) (I7.out.below' b8) ML.out (by omega) (by rw [leB_len]; have := LB.out; omega)
    have RU9 := Lib.hid run9
    have O9 := Lib.hid o9
    have BL9 : Hid (Below w.heap.size w w9) := Lib.hid ((BL7.out.trans (b8.mono BL7.out.size)).trans b9)
    rw [leB_len] at RU9
    clear o8 o8' b8 run9 o9 b9
    go_wp2_with (at_builtin; refine wpList_append_eq rfl (.tmp 129) (.tmp 130) 32 rfl v8 (.slice (some ⟨g6, 0, none⟩) (2 + L) c6) (.slice (some ⟨g9, 0, none⟩) (4 + (2 + L)) c9) w9 rfl rfl RU9.out ?_)
    go_ret
    refine ⟨_, rfl, ?_, BL9.out⟩
    have h := O9.out
    rw [leB_len, ← HSM.out] at h
    rw [OUT.out, wrapB_len, ZL.out, show 6 + L = 4 + (2 + L) by omega]
    exact h
end Go.Proofs.Ytekdogmhgijocaa
