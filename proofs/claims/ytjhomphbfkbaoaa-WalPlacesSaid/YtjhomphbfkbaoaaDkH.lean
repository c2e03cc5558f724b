/- Refused calls; the calls at the level of devices. -/
import Derived.Test.YtjhomphbfkbaoaaDkC
import Derived.Laws.BytesArg
import Derived.Deep.RegionHeld3
namespace Go.Proofs.Ytjhomphbfkbaoaa.dk
open Go.RowKit Go.ChangeShapes Go.WideShapes Go.ChangeAt
set_option linter.unusedVariables false

/-! ### the power is off -/
theorem there_off {w : World} {p bl bw bn : Nat} {D : Dk} (h : DkAt w p bl bw bn D) (ho : D.off = true) : Calls Try.prog 40 #[.pointer (some ⟨p, 0, none⟩)] w fun e w' => e = .returned (.int .i64 6) ∧ w' = w := by
  have T := there_at _ p bl bw bn _ h
  rw [ho] at T
  exact T
theorem write_off (w : World) (p bl bw bn : Nat) (D : Dk) (k : Int) (v : Value) (h : DkAt w p bl bw bn D) (ho : D.off = true) : Calls Try.prog 25 #[.pointer (some ⟨p, 0, none⟩), .int .i64 k, v] w fun e w' => e = .returned (.int .i64 6) ∧ w' = w := by
  have T := Lib.hid (there_off h ho)
  clear h ho
  go_enter Try.func25, Try.ntmps25
  go_wp2_with fail
  refine T.out.mono ?_
  rintro _ w' ⟨rfl, hw'⟩
  subst hw'
  go_wp2_with fail
  go_ret
  exact ⟨rfl, rfl⟩
theorem arm_off (w : World) (p bl bw bn : Nat) (D : Dk) (n : Int) (h : DkAt w p bl bw bn D) (ho : D.off = true) : Calls Try.prog 22 #[.pointer (some ⟨p, 0, none⟩), .int .i64 n] w fun e w' => e = .returned (.int .i64 6) ∧ w' = w := by
  have T := Lib.hid (there_off h ho)
  clear h ho
  go_enter Try.func22, Try.ntmps22
  go_wp2_with fail
  refine T.out.mono ?_
  rintro _ w' ⟨rfl, hw'⟩
  subst hw'
  go_wp2_with fail
  go_ret
  exact ⟨rfl, rfl⟩
theorem read_off (w : World) (p bl bw bn : Nat) (D : Dk) (k : Int) (h : DkAt w p bl bw bn D) (ho : D.off = true) : Calls Try.prog 30 #[.pointer (some ⟨p, 0, none⟩), .int .i64 k] w fun e w' => e = .returned (.tuple #[.slice none 0 0, .int .i64 6]) ∧ w' = w := by
  have T := Lib.hid (there_off h ho)
  clear h ho
  go_enter Try.func30, Try.ntmps30
  go_wp2_with fail
  refine T.out.mono ?_
  rintro _ w' ⟨rfl, hw'⟩
  subst hw'
  go_wp2_with fail
  go_ret2
  exact ⟨rfl, rfl⟩

/-! ### devices of a call -/
/-- In world w, behind W, block p is the device D of blocks F, all newer than W. -/
structure Dev (W w : World) (p : Nat) (D : Dk) (F : List Nat) : Prop where
  dk : DkF w W.heap.size p D F
  bl : Below W.heap.size W w
theorem Dev.only {W w w' : World} {p : Nat} {D : Dk} {F G : List Nat} (h : Dev W w p D F) (k : Only G w w') (hG : ∀ b ∈ G, b ∉ F) (hW : ∀ b ∈ G, W.heap.size ≤ b) : Dev W w' p D F :=
  ⟨h.dk.only k hG, h.bl.trans (k.toBelow h.bl.size hW)⟩
theorem Dev.none {W w w' : World} {p : Nat} {D : Dk} {F : List Nat} (h : Dev W w p D F) (k : Only [] w w') : Dev W w' p D F := h.only k (by simp) (by simp)
theorem Dev.ge {W w : World} {p : Nat} {D : Dk} {F : List Nat} (h : Dev W w p D F) : ∀ b ∈ F, W.heap.size ≤ b := h.dk.ge
theorem Dev.lt {W w : World} {p : Nat} {D : Dk} {F : List Nat} (h : Dev W w p D F) : ∀ b ∈ F, b < w.heap.size := h.dk.lt
theorem Dev.fine {W w : World} {p : Nat} {D : Dk} {F : List Nat} (h : Dev W w p D F) : D.Fine := h.dk.fine
/-- A call of a device that answers with a number. -/
def DoneTo (W : World) (p : Nat) (F : List Nat) (D' : Dk) (r : Int) (w : World) (e : Ending) (w' : World) : Prop := e = .returned (.int .i64 r) ∧ Dev W w' p D' F ∧ Only F w w'
theorem Dev.to {W w w' : World} {p bl bw bn : Nat} {D D' : Dk} {G : List Nat} (h : Dev W w p D [p, bl, bw, bn]) (hd : DkAt w' p bl bw bn D') (k : Only G w w') (hG : ∀ b ∈ G, b ∈ [p, bl, bw, bn]) : Dev W w' p D' [p, bl, bw, bn] ∧ Only [p, bl, bw, bn] w w' :=
  ⟨⟨⟨bl, bw, bn, hd, rfl, h.ge⟩, h.bl.trans (k.toBelow h.bl.size fun i hi => h.ge i (hG i hi))⟩, k.sub hG⟩
def stepW (D : Dk) (k : Int) (s : List Int) : Dk := if D.off = true then D else writeD D k s
def stepA (D : Dk) (n : Int) : Dk := if D.off = true then D else { D with armed := n }
theorem nodup_keys {D : Dk} (h : D.Fine) (hn : D.seen.Nodup) (hm : D.most = D.sectors) {k : Int} (h0 : 0 ≤ k) (h1 : k < D.sectors) : k ∈ D.seen ∨ (D.seen.length : Int) < D.most := by
  by_cases hk : k ∈ D.seen
  · exact .inl hk
  · right
    have h2 : ((k :: D.seen).map Int.toNat).Nodup := by
      rw [List.Nodup, List.pairwise_map]
      refine List.Pairwise.imp_of_mem ?_ (List.nodup_cons.2 ⟨hk, hn⟩)
      intro a b ha hb hne e
      have g : ∀ x ∈ k :: D.seen, 0 ≤ x := fun x hx => by
        rcases List.mem_cons.1 hx with rfl | hx
        · exact h0
        · exact (h.se x hx).1
      have := g a ha
      have := g b hb
      omega
    have := nodup_lt D.sectors.toNat _ h2 fun x hx => by
      simp only [List.mem_map] at hx
      obtain ⟨y, hy, rfl⟩ := hx
      rcases List.mem_cons.1 hy with rfl | hy
      · omega
      · have := h.se y hy; omega
    simp at this
    omega
theorem DkAt.seenNodup {w : World} {p bl bw bn : Nat} {D : Dk} (h : DkAt w p bl bw bn D) : D.seen.Nodup := by
  have := h.nm.nodup
  simpa [seL, List.map_map, Function.comp_def] using this
theorem write_dev {W w : World} {p : Nat} {D : Dk} {F : List Nat} (h : Dev W w p D F) {k : Int} {g off cap : Nat} {s : List Int} (h0 : 0 ≤ k) (h1 : k < D.sectors) (hm : D.most = D.sectors) (hs : IsSec s) (hg : Bytes w g off s) (hc : 128 ≤ cap) :
    Calls Try.prog 25 #[.pointer (some ⟨p, 0, none⟩), .int .i64 k, .slice (some ⟨g, off, none⟩) 128 cap] w (DoneTo W p F (stepW D k s) (errOff (stepW D k s).off) w) := by
  obtain ⟨bl, bw, bn, hd, rfl, hB⟩ := h.dk
  by_cases ho : D.off = true
  · refine (write_off w p bl bw bn D k _ hd ho).mono ?_
    rintro e w' ⟨rfl, rfl⟩
    rw [stepW, if_pos ho]
    exact ⟨by rw [ho]; rfl, h, Only.refl _ _⟩
  · have ho' : D.off = false := by simpa using ho
    refine (write_ok w p bl bw bn D k g off cap s hd ho' h0 h1 hs hg hc (nodup_keys hd.fine hd.seenNodup hm h0 h1)).mono ?_
    rintro e w' ⟨rfl, hd', k'⟩
    rw [stepW, if_neg ho]
    exact ⟨rfl, h.to hd' k' (by simp)⟩
theorem arm_dev {W w : World} {p : Nat} {D : Dk} {F : List Nat} (h : Dev W w p D F) {n : Int} (h0 : 0 ≤ n) (h1 : n ≤ 1073741824) :
    Calls Try.prog 22 #[.pointer (some ⟨p, 0, none⟩), .int .i64 n] w (DoneTo W p F (stepA D n) (errOff D.off) w) := by
  obtain ⟨bl, bw, bn, hd, rfl, hB⟩ := h.dk
  by_cases ho : D.off = true
  · refine (arm_off w p bl bw bn D n hd ho).mono ?_
    rintro e w' ⟨rfl, rfl⟩
    rw [stepA, if_pos ho]
    exact ⟨by rw [ho]; rfl, h, Only.refl _ _⟩
  · have ho' : D.off = false := by simpa using ho
    refine (arm_ok w p bl bw bn D n hd ho' h0 h1).mono ?_
    rintro e w' ⟨rfl, hd', k', _⟩
    rw [stepA, if_neg ho]
    exact ⟨by rw [ho']; rfl, h.to hd' k' (by simp)⟩
def ReadTo (W : World) (p : Nat) (F : List Nat) (D : Dk) (k : Int) (w : World) (e : Ending) (w' : World) : Prop := e = .returned (.tuple #[.slice (some ⟨w.heap.size, 0, none⟩) 128 128, .int .i64 0]) ∧ Bytes w' w.heap.size 0 (sectorD D k) ∧ Dev W w' p D F ∧ Only [] w w' ∧ w'.heap.size = w.heap.size + 1
theorem read_dev {W w : World} {p : Nat} {D : Dk} {F : List Nat} (h : Dev W w p D F) {k : Int} (ho : D.off = false) (h0 : 0 ≤ k) (h1 : k < D.sectors) :
    Calls Try.prog 30 #[.pointer (some ⟨p, 0, none⟩), .int .i64 k] w (ReadTo W p F D k w) := by
  obtain ⟨bl, bw, bn, hd, rfl, hB⟩ := h.dk
  refine (read_ok w p bl bw bn D k hd ho h0 h1).mono ?_
  rintro e w' ⟨rfl, hr, k', hs⟩
  refine ⟨rfl, ?_, h.none k', k', hs⟩
  have := hr.cells
  unfold Bytes
  simpa [bytesV] using this
theorem readoff_dev {W w : World} {p : Nat} {D : Dk} {F : List Nat} (h : Dev W w p D F) (k : Int) (ho : D.off = true) :
    Calls Try.prog 30 #[.pointer (some ⟨p, 0, none⟩), .int .i64 k] w fun e w' => e = .returned (.tuple #[.slice none 0 0, .int .i64 6]) ∧ w' = w := by
  obtain ⟨bl, bw, bn, hd, rfl, hB⟩ := h.dk
  exact read_off w p bl bw bn D k hd ho
def NewTo (W : World) (s m : Int) (w : World) (e : Ending) (w' : World) : Prop := ∃ p F, e = .returned (.tuple #[.pointer (some ⟨p, 0, none⟩), .int .i64 0]) ∧ Dev W w' p (newD s m) F ∧ Only [] w w' ∧ ∀ b ∈ F, w.heap.size ≤ b
theorem new_dev {W w : World} (hb : Below W.heap.size W w) (s m : Int) (h1 : 1 ≤ s) (h2 : s ≤ 65536) (h3 : 0 ≤ m) (h4 : m ≤ s) : Calls Try.prog 8 #[.int .i64 s, .int .i64 m] w (NewTo W s m w) := by
  refine (new_ok s m w h1 h2 h3 h4).mono ?_
  rintro e w' ⟨p, F, rfl, ⟨bl, bw, bn, hd, rfl, hB⟩, k'⟩
  have hs := hb.size
  exact ⟨p, _, rfl, ⟨⟨bl, bw, bn, hd, rfl, fun b hb' => Nat.le_trans hs (hB b hb')⟩, hb.trans (k'.toBelow hs (by simp))⟩, k', hB⟩
/-- A slice of 128 bytes as a string. -/
theorem conv_bytes {w : World} {b off cap : Nat} {s : List Int} (h : Bytes w b off s) (hl : s.length = 128) : (convert 32 9 (.slice (some ⟨b, off, none⟩) 128 cap)).run Try.prog w = .ok (.string (strOfNums s)) w :=
  run_convert_bytes_arg w 32 5 Try.underlying32 Try.underlying5 b off 128 cap s hl (fun i hi => by
    rw [h i (.int .u8 (s.getD i 0)) (by simp [List.getD, show i < s.length by omega])]) 9 Try.underlying9
end Go.Proofs.Ytjhomphbfkbaoaa.dk
