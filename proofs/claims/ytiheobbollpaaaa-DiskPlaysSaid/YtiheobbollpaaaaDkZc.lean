/- do: Crash. -/
import Derived.Test.YtiheobbollpaaaaDkZb
namespace Go.Proofs.Ytiheobbollpaaaa
open Go.RowKit Go.ChangeShapes Go.WideShapes Go.ChangeAt
set_option linter.unusedVariables false

theorem conv_ints {w : World} {a : Option Addr} {n c : Nat} {xs : List Int} (h : Ints .u8 w (.slice a n c) xs) (hl : xs.length = n) : (convert 23 9 (.slice a n c)).run Try.prog w = .ok (.string (strOfNums xs)) w := by
  by_cases hp : 0 < xs.length
  · obtain ⟨b, off, cap, hv, hc⟩ := h.shape hp
    simp only [Value.slice.injEq] at hv
    obtain ⟨rfl, rfl, rfl⟩ := hv
    exact run_convert_bytes_arg w 23 5 Try.underlying23 Try.underlying5 b off xs.length c xs rfl (fun i hi => by rw [hc i hi, List.getD_eq_getElem?_getD]) 9 Try.underlying9
  · obtain rfl : xs = [] := List.length_eq_zero_iff.1 (by omega)
    obtain rfl : n = 0 := by rw [← hl]; rfl
    cases a with
    | none => exact run_convert_bytes_nil w 23 5 Try.underlying23 Try.underlying5 0 c 9 Try.underlying9
    | some x =>
      rw [run_convert_bytes_string w 23 9 5 _ 0 c Try.underlying23 Try.underlying5 Try.underlying9, run_bytesToString w x 0 c [] (by simpa using run_loadCells_list (P := Try.prog) w x [] (by simp))]
      rfl
theorem one_u8 (xs : List Int) : ∀ u ∈ xs.map (Value.int .u8), u.oneCell' = true := fun u hu => by
  obtain ⟨x, _, rfl⟩ := List.mem_map.1 hu
  rfl
theorem picks_ref {W w : World} {m pc : Nat} {R : List Nat} {pa : Option Addr} {pz : List Int} (k : Below W.heap.size W w) (hge : ∀ b ∈ R, W.heap.size ≤ b) (hp : IsRow .u8 W pa m pc pz) :
    Ints .u8 w (.slice pa m pc) (pz.take m) ∧ (∀ x ∈ pz.take m, 0 ≤ x ∧ x < 256) ∧ (0 < m → ∀ a, pa = some a → a.block ∉ R) := by
  have hi := hp.ints
  refine ⟨hi.below' k, fun x hx => ?_, fun hm a ha hF => ?_⟩
  · have := hp.wf x hx
    have e0 : IntKind.u8.min = 0 := rfl
    have e1 : IntKind.u8.max = 255 := rfl
    simp only [Lit.wf, e0, e1, Bool.and_eq_true, decide_eq_true_eq] at this
    omega
  · obtain ⟨b, off, cap, hv, hc⟩ := hi.shape (by rw [hp.length]; exact hm)
    simp only [Value.slice.injEq] at hv
    obtain ⟨h1, _, _⟩ := hv
    rw [h1] at ha
    cases ha
    have h1 : b < W.heap.size := World.block_lt_of_cell? W _ (hc 0 (by rw [hp.length]; exact hm))
    have h2 : W.heap.size ≤ b := hge _ hF
    omega
set_option maxRecDepth 100000 in
set_option maxHeartbeats 4000000 in
theorem do_crash {W w : World} {p : Nat} {F : List Nat} {q b1 b2 b3 n : Nat} {D : Dk} (h : Pair W w p F q b1 b2 b3 n D) (x f : Int) (sh : Bool) (pa : Option Addr) (pl pc : Nat) (zs : List Int) (hz : IsRow .u8 W pa pl pc zs) (hpl : pl ≤ 140737488351232) : Calls Try.prog 21 #[.pointer (some ⟨p, 0, none⟩), .pointer (some ⟨q, 0, none⟩), .agg #[.int .i64 4, .int .i64 x, .int .i64 f, .bool sh, .slice pa pl pc]] w (DoPost W q b1 b2 b3 n (crashD D (zs.take pl))) := by
  have H := Lib.hid h
  have HZ := Lib.hid hz
  obtain ⟨i0', hi0, hz0, hz1, hz2⟩ := info_parts infoByte
  clear h hz
  go_enter Try.func21, Try.ntmps21
  go_upto_region 28 with fail
  have K1 : Only [] w (w.alloc (.cells #[.int .i64 4, .int .i64 x, .int .i64 f, .bool sh, .slice pa pl pc] 31)) := (Only.refl [] w).alloc _
  have P1 := Lib.hid (H.out.none K1)
  have BX := Lib.hid (Row.made w #[.int .i64 4, .int .i64 x, .int .i64 f, .bool sh, .slice pa pl pc] 31)
  have HBX : Hid (w.heap.size ∉ F ∧ w.heap.size ∉ [q, b1, b2, b3]) := Lib.hid ⟨fun hh => by have := H.out.lt _ (.inl hh); omega, fun hh => by have := H.out.lt _ (.inr hh); omega⟩
  generalize hw1 : w.alloc (.cells #[.int .i64 4, .int .i64 x, .int .i64 f, .bool sh, .slice pa pl pc] 31) = w1 at *
  clear hw1 K1 H
  have c4 : (w1.alloc (.cells #[] 5)).cell? ⟨w.heap.size, 4, none⟩ = some (.slice pa pl pc) := (BX.out.only ((Only.refl [] w1).alloc _) (by simp)).cell 4
  go_wp2_with (at_builtin; refine wpList_append_src rfl (.tmp 135) (.tmp 137) 23 rfl w1.heap.size 5 i0' (.int .u8 0) 1 1 Try.underlying23 hi0 hz0 hz1 hz2 rfl (by decide) _ 0 [] rfl (World.ownsRow_made w1 #[] 0 (Nat.le_refl _) (by decide) rfl) _ pl ((zs.take pl).map (Value.int .u8)) rfl ?s1 ?s2 ?s3 ?s4 ?s5 ?s6)
  case s1 => exact HZ.out.src.below (P1.out.dev.bl.alloc P1.out.dev.bl.size _)
  case s2 => exact one_u8 _
  case s3 => unfold maxLen; omega
  case s4 => omega
  case s5 => simp
  case s6 =>
    intro v2 w2 hown2 hg2
    clear c4
    have k2 : Only [] w1 w2 := ((Only.refl [] w1).alloc _).grown hg2 (fun k hk => by simp [Value.ownBlock] at hk; omega)
    have hlen : (zs.take pl).length = pl := HZ.out.length
    have hown2 : w2.ownsRow w1.heap.size 5 1 v2 pl ((zs.take pl).map (Value.int .u8)) := by simpa [List.map_take] using hown2
    have hints := ints_own hown2
    have hlt2 := hown2.lt
    obtain ⟨ad, cv, rfl, hc1, hc2⟩ := own_shape hown2
    have P2 := Lib.hid (P1.out.none k2)
    have NF : Hid (∀ g, ad = some g → g.block ∉ F ∧ g.block ∉ [q, b1, b2, b3]) := Lib.hid (fun g hg => by
      have h1 := (hlt2 g.block (by rw [hg]; rfl)).1
      exact ⟨fun hh => by have := P1.out.lt _ (.inl hh); omega, fun hh => by have := P1.out.lt _ (.inr hh); omega⟩)
    have OW := Lib.hid hown2
    have HI := Lib.hid hints
    have HL := Lib.hid hlen
    have PK := Lib.hid (picks_ref P2.out.dev.bl P2.out.rge HZ.out).2.1
    have BX2 := Lib.hid (BX.out.only k2 (by simp))
    clear hown2 hg2 hints hlt2 k2 P1 BX hlen
    go_wp2_with fail
    refine (crash_dev P2.out.dev (ap := ad) (m := pl) (cp := cv) (pk := zs.take pl) HL.out HI.out PK.out (fun _ g hg => (NF.out g hg).1)).mono ?_
    rintro _ w3 ⟨rfl, hd3, k3⟩
    have e1 := conv_ints (ints_own (own_keep OW.out fun g hg => k3.block g (OW.out.lt g hg).2 (by
      cases ad with
      | none => simp [Value.ownBlock] at hg
      | some gg => simp [Value.ownBlock] at hg; subst hg; exact (NF.out gg rfl).1))) HL.out
    have PR := Lib.hid (picks_ref hd3.bl P2.out.rge HZ.out)
    have e2 := conv_ints PR.out.1 HL.out
    have R3 := Lib.hid (P2.out.rf.onlyL k3 P2.out.dj)
    have D3 := Lib.hid hd3
    have K3 := Lib.hid k3
    have c4 : w3.cell? ⟨w.heap.size, 4, none⟩ = some (.slice pa pl pc) := (BX2.out.only k3 HBX.out.1).cell 4
    clear hd3 k3
    go_wp2_with fail
    refine (rcrash_at R3.out HL.out PR.out.1 PR.out.2.1 (fun h0 g hg => by have := PR.out.2.2 h0 g hg; simp at this; omega)).mono ?_
    rintro _ w4 ⟨rfl, hr4, k4⟩
    have P4 := Lib.hid (P2.out.both D3.out K3.out fun _ => ⟨hr4, k4⟩)
    clear hr4 k4
    go_wp2_with fail
    go_ret2
    exact ⟨p, F, rfl, P4.out⟩
end Go.Proofs.Ytiheobbollpaaaa
