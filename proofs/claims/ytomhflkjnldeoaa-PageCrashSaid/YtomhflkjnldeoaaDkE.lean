/- Waits: slices.Sorted(maps.Keys(..)). -/
import Derived.Test.YtomhflkjnldeoaaDkD
import Derived.Test.YtomhflkjnldeoaaDkLay
namespace Go.Proofs.Ytomhflkjnldeoaa.dk
open Go.RowKit Go.ChangeShapes Go.WideShapes Go.ChangeAt Go.Maps Go.Sort Go.Shelf
open Go.WideElems (rg)
set_option linter.unusedVariables false

theorem keyOf_int {k : TypeId} (hk : Try.prog.underlying k = some (.int .i64)) {x : Int} (hw : (Lit.int .i64 x).wf = true) : keyOf Try.prog k (.int .i64 x) = some (.int .i64 x) := by
  simp [keyOf, hk, mapKey, hw]
theorem _root_.Go.Proofs.Ytomhflkjnldeoaa.MapAt.ownsMap {w : World} {b : Nat} {L : List (Int × Value)} {k : TypeId} (h : MapAt w b .i64 L) (hk : Try.prog.underlying k = some (.int .i64)) (hw : ∀ p ∈ L, (Lit.int .i64 p.1).wf = true) (hm : L.length ≤ maxLen) :
    ∃ D : DataW Unit, w.ownsMap Try.prog k (fun _ => some (.nil, [])) b L.length D ∧ Maps.size D = L.length ∧ (intKeys D).Perm (L.map (·.1)) := by
  obtain ⟨es, clock, hb, hs, hL⟩ := h
  have hsz := kvs_len hL
  have e1 : es.toList.map (rg (H := Unit) Try.prog k (fun _ => some (.nil, []))) = L.map fun p => (Lit.int .i64 p.1, DataW.nil) := by
    refine List.ext_getElem? fun i => ?_
    rw [List.getElem?_map, List.getElem?_map]
    have h1 := congrArg (fun l => l[i]?) hL
    simp only [List.getElem?_map] at h1
    cases hp : L[i]? with
    | none =>
      rw [hp] at h1
      cases he : es.toList[i]? with
      | none => rfl
      | some e => rw [he] at h1; simp at h1
    | some p =>
      rw [hp] at h1
      cases he : es.toList[i]? with
      | none => rw [he] at h1; simp at h1
      | some e =>
        rw [he] at h1
        simp only [Option.map_some, Option.some.injEq, Prod.mk.injEq] at h1
        have hwp := hw p (List.mem_of_getElem? hp)
        simp [rg, WideElems.rd, h1.1, keyOf_int hk hwp]
  refine ⟨_, ⟨es, clock, hb, ⟨by rw [hsz]; exact hm, hs, fun x hx => ?_⟩, by rw [hsz]; exact Nat.le_refl _, rfl⟩, ?_, ?_⟩
  · obtain ⟨p, hp, h1, _⟩ := kvs_mem hL hx
    exact ⟨(.int .i64 p.1, .nil), by simp [WideElems.rd, h1, keyOf_int hk (hw p hp)]⟩
  · rw [e1, Maps.size_eq, DataW.length_sorted]; simp
  · rw [e1]
    show ((List.foldr DataW.insert [] _).map _).Perm _
    refine ((sorted_perm _).map _).trans ?_
    rw [List.map_map]
    exact List.Perm.of_eq (List.map_congr_left fun p _ => rfl)
/-- The keys, sorted. -/
def sortI (l : List Int) : List Int := l.mergeSort fun x y => decide (x ≤ y)
theorem sortI_perm (l : List Int) : (sortI l).Perm l := List.mergeSort_perm l _
theorem sortI_sorted (l : List Int) : (sortI l).Pairwise fun x y => decide (x ≤ y) = true := List.pairwise_mergeSort (fun a b c h1 h2 => by simp at h1 h2 ⊢; omega) (fun a b => by simp; omega) l
theorem sortI_eq {l m : List Int} (h : l.Perm m) : sortI l = sortI m :=
  List.Perm.eq_of_pairwise (le := fun x y => decide (x ≤ y) = true) (fun a b _ _ h1 h2 => by simp at h1 h2; omega) (sortI_sorted l) (sortI_sorted m) (((sortI_perm l).trans h).trans (sortI_perm m).symm)
def keysD (D : Dk) : List Int := sortI (D.waits.map (·.1))
theorem Dk.Fine.few {D : Dk} (h : D.Fine) (hn : (D.waits.map (·.1)).Nodup) : D.waits.length ≤ 65536 := by
  have h2 : ((D.waits.map (·.1)).map Int.toNat).Nodup := by
    rw [List.Nodup, List.pairwise_map]
    refine List.Pairwise.imp_of_mem ?_ hn
    intro a b ha hb hne e
    obtain ⟨p, hp, rfl⟩ := List.mem_map.1 ha
    obtain ⟨q, hq, rfl⟩ := List.mem_map.1 hb
    have := (h.wa p hp).1
    have := (h.wa q hq).1
    omega
  have := nodup_lt 65536 _ h2 fun x hx => by
    simp only [List.mem_map] at hx
    obtain ⟨k, ⟨p, hp, rfl⟩, rfl⟩ := hx
    have := h.wa p hp
    have := h.s1
    omega
  simpa using this
theorem DkAt.keysNodup {w : World} {p bl bw bn : Nat} {D : Dk} (h : DkAt w p bl bw bn D) : (D.waits.map (·.1)).Nodup := by
  have := h.wm.nodup
  simpa [waL, List.map_map, Function.comp_def] using this
theorem keysD_len (D : Dk) : (keysD D).length = D.waits.length := by rw [keysD, (sortI_perm _).length_eq, List.length_map]
theorem sortsDk (m : Nat) : AnyZI.SortsIn Try.prog Try.sortedD_ren Fence.wide m :=
  ⟨fun blk off cap ss W hH hblk hsz => callsIn_wide.2 (AnyM.slices_Sort_int Try.sortD blk off cap ss W hH hblk hsz),
   fun p cap W => callsIn_wide.2 (AnyM.slices_Sort_int_none Try.sortD p cap W)⟩
def WaitsPost (D : Dk) (w : World) (e : Ending) (w' : World) : Prop := ∃ v, e = .returned v ∧ w'.ownsRow w.heap.size 3 1 v D.waits.length ((keysD D).map (Value.int .i64)) ∧ Below w.heap.size w w'
set_option maxHeartbeats 2000000 in
theorem waits_at (w : World) (p bl bw bn : Nat) (D : Dk) (h : DkAt w p bl bw bn D) : Calls Try.prog 42 #[.pointer (some ⟨p, 0, none⟩)] w (WaitsPost D w) := by
  have few := h.fine.few h.keysNodup
  have c1 := h.c1
  have hml : (65536 : Nat) ≤ maxLen := by unfold maxLen; omega
  obtain ⟨D0, hown, hsize, hperm⟩ := h.wm.ownsMap Try.underlying3 (fun q hq => by
    obtain ⟨x, hx, rfl⟩ := List.mem_map.1 hq
    have h1 := h.fine.wa x hx
    have h2 := h.fine.s1
    have e0 : IntKind.i64.min = -9223372036854775808 := rfl
    have e1 : IntKind.i64.max = 9223372036854775807 := rfl
    simp only [Lit.wf, e0, e1, Bool.and_eq_true, decide_eq_true_eq]
    omega) (by simp [waL]; omega)
  have hlen : Maps.size D0 = D.waits.length := by rw [hsize]; simp [waL]
  have hbl := h.wm.lt
  have HP := Lib.hid hperm
  have HL := Lib.hid hlen
  refine (callsIn_wide (n := 6)).1 ?_
  have hseq : SeqGives Fence.wide 2 Try.prog 66 #[.pointer (some ⟨w.heap.size, 0, none⟩)] encZ (fun ss => ss.Perm (intKeys D0)) (Maps.size D0) (w.alloc (.cells #[.map (some bw)] 68)) :=
    AnyZI.keys_gives (ρ := Try.keysD_ren) { Try.keysD with } Fence.wide _ trivial rfl (by omega) w.heap.size bw _ D0 _ (by simp) (by simp) (by
      obtain ⟨es, clock, hb, Ft, hs, hD⟩ := hown
      exact ⟨es, clock, (Below.heap_alloc _ _ bw hbl).trans hb, Ft, hs, hD⟩)
  have cK : ∀ mb W, CallsIn Fence.wide 5 Try.prog 53 #[.map mb] W fun e w' => e = .returned (.func (.func 66) #[] #[.pointer (some ⟨W.heap.size, 0, none⟩)]) ∧ w' = W.alloc (.cells #[.map mb] 68) := fun mb W => AnyZI.keys_in Try.keysD Fence.wide 5 trivial rfl mb W
  have cS := AnyZI.sorted_in Try.sortedD Fence.wide 5 trivial trivial trivial trivial rfl (by omega) (sortsDk _) (enters_of Try.func65 (by kernel_rfl) rfl) 66 #[.pointer (some ⟨w.heap.size, 0, none⟩)] trivial (enters_of Try.func66 (by kernel_rfl) rfl) _ _ (by omega) (by omega) _ hseq
  change CallsIn _ _ Try.prog 52 _ _ _ at cS
  have hfK : Fence.wide.fn 53 := trivial
  have hfS : Fence.wide.fn 52 := trivial
  clear h hperm hlen hown hsize few hml hseq
  refine callsIn_of_wp Try.func42 rfl trivial ?_ rfl
  simp only [Try.ntmps42, List.size_toArray, List.length_cons, List.length_nil, Nat.reduceAdd, Nat.reduceSub, Array.replicate_succ, Array.replicate_zero, List.push_toArray, List.append_toArray, List.nil_append, List.cons_append]
  gi_wp2_with (first
    | (gi_at_call 53; refine (cK _ _).mono ?_; rintro e w' ⟨rfl, rfl⟩)
    | (gi_at_call 52; refine cS.mono ?_; rintro e w' ⟨v, ss, rfl, hS, hrow, hnil, hb⟩))
  go_ret
  have hp : ss.Perm (D.waits.map (·.1)) := by
    refine (hS.trans HP.out).trans (List.Perm.of_eq ?_)
    simp [waL, List.map_map, Function.comp_def]
  have e1 : ss.mergeSort (fun x y => decide (x ≤ y)) = keysD D := sortI_eq hp
  have e2 : ss.length = D.waits.length := by rw [hp.length_eq, List.length_map]
  rw [e1, e2] at hrow
  exact ⟨v, rfl, ownsRow_base_a hrow (by simp), ((Below.refl _ w).alloc (Nat.le_refl _) _).trans (hb.mono (by simp))⟩
end Go.Proofs.Ytomhflkjnldeoaa.dk
