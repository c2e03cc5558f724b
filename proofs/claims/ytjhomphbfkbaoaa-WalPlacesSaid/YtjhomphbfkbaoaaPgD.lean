/- bytes.Clone, the readers. -/
import Derived.Test.YtjhomphbfkbaoaaPgC
import Derived.Lib.AppendZerosOnto
namespace Go.Proofs.Ytjhomphbfkbaoaa
open Go.RowKit Go.ChangeShapes Go.WideShapes Go.ChangeAt
set_option linter.unusedVariables false

theorem one_u8 (xs : List Int) : ∀ u ∈ xs.map (Value.int .u8), u.oneCell' = true := fun u hu => by
  obtain ⟨x, _, rfl⟩ := List.mem_map.1 hu
  rfl
theorem ints_src {k : IntKind} {w : World} {a : Option Addr} {n c : Nat} {xs : List Int} (h : Ints k w (.slice a n c) xs) (hl : xs.length = n) (hp : 0 < n) : SrcOf w (.slice a n c) n 1 (xs.map (Value.int k)) := by
  obtain ⟨b, off, cap, hv, hc⟩ := h.shape (by omega)
  simp only [Value.slice.injEq] at hv
  obtain ⟨rfl, _, rfl⟩ := hv
  refine .inr ⟨⟨b, off, none⟩, c, rfl, by simp [hl], fun j u hj => ?_⟩
  rw [List.getElem?_map, Option.map_eq_some_iff] at hj
  obtain ⟨z, hz, rfl⟩ := hj
  have hlt := (List.getElem?_eq_some_iff.1 hz).1
  rw [add_plain, hc j hlt, hz]; rfl
def ClonePost (xs : List Int) (w : World) (e : Ending) (w' : World) : Prop := ∃ v, e = .returned v ∧ w'.ownsRow w.heap.size 5 1 v xs.length (xs.map (Value.int .u8)) ∧ Below w.heap.size w w'
set_option maxHeartbeats 2000000 in
theorem clone_any (b off n c : Nat) (xs : List Int) (w : World) (hx : xs.length = n) (hi : Ints .u8 w (.slice (some ⟨b, off, none⟩) n c) xs) (hp : 0 < n) (hn : n ≤ 100000) :
    Calls Try.prog 69 #[.slice (some ⟨b, off, none⟩) n c] w (ClonePost xs w) := by
  obtain ⟨i0', hi0, hz0, hz1, hz2⟩ := info_parts infoBy
  have S := Lib.hid (ints_src hi hx hp)
  have HX := Lib.hid hx
  have q22 : ∀ (w : World) (a : Option Addr) (n c n' c' : Nat), (binOp .eql 32 (.slice a n c) (.slice none n' c')).run Try.prog w = .ok (.bool a.isNone) w := fun w a n c n' c' => Lib.run_eql_slice_nil w _ _ a n c n' c' Try.underlying32
  clear hi hx
  go_enter Try.func69, Try.ntmps69
  go_wp2_with (at_builtin; refine wpList_append_src rfl (.tmp 5) (.tmp 6) 32 rfl w.heap.size 5 i0' (.int .u8 0) 1 1 Try.underlying32 hi0 hz0 hz1 hz2 rfl (by decide) _ 0 [] rfl (World.ownsRow_made w #[] 0 (Nat.le_refl _) (by decide) rfl) _ n (xs.map (Value.int .u8)) rfl ?s1 ?s2 ?s3 ?s4 ?s5 ?s6)
  case s1 => exact S.out.below ((Below.refl _ _).alloc (Nat.le_refl _) _)
  case s2 => exact one_u8 xs
  case s3 => unfold maxLen; omega
  case s4 => omega
  case s5 => simp
  case s6 =>
    intro v1 w1 hown1 hg1
    have b1 : Below w.heap.size w w1 := ((Below.refl _ _).alloc (Nat.le_refl _) _).grown hg1 (by simp) (by simp [Value.ownBlock])
    have O1 : Hid (w1.ownsRow w.heap.size 5 1 v1 n (xs.map (Value.int .u8))) := Lib.hid (by simpa using hown1)
    have B1 := Lib.hid b1
    clear hown1 hg1 b1
    go_wp2_with fail
    go_ret
    exact ⟨v1, rfl, by rw [HX.out]; exact O1.out, B1.out⟩
/-! ### readers -/
abbrev tRd : TypeId := 115
/-- The number that bytes are, the lowest first. -/
def leN : List Int → Int
  | [] => 0
  | c :: r => c + 256 * leN r
theorem leN_range : ∀ (xs : List Int), IsBy xs → 0 ≤ leN xs ∧ leN xs < 256 ^ xs.length
  | [], _ => by simp [leN]
  | c :: r, h => by
    have h1 := leN_range r fun x hx => h x (List.mem_cons_of_mem _ hx)
    have h2 := h c (List.mem_cons_self ..)
    simp only [leN, List.length_cons, Int.pow_succ]
    omega
theorem leN_append (a b : List Int) : leN (a ++ b) = leN a + 256 ^ a.length * leN b := by
  induction a with
  | nil => simp [leN]
  | cons c r ih =>
    simp only [List.cons_append, leN, ih, List.length_cons, Int.pow_succ]
    rw [Int.mul_add, ← Int.mul_assoc, Int.mul_comm 256 (256 ^ r.length)]
    omega
end Go.Proofs.Ytjhomphbfkbaoaa
