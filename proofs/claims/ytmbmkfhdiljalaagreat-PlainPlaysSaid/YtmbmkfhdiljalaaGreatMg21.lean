/- Plain: Copy. -/
import Derived.Test.YtmbmkfhdiljalaaGreatMg20
import Derived.Shelf.SlMaps.Clone
namespace Go.Proofs.YtmbmkfhdiljalaaGreat
open Go.RowKit Go.ChangeShapes Go.WideShapes Go.ChangeAt
open Go.ChangeMaps (setBlock)
set_option linter.unusedVariables false
set_option linter.unusedSimpArgs false

def CloneMTo (L : List (Int × Value)) (w : World) (e : Ending) (w' : World) : Prop := e = .returned (.map (some w.heap.size)) ∧ MapAt w' w.heap.size .u64 L ∧ Only [] w w' ∧ w'.heap.size = w.heap.size + 1
theorem cloned_at {w : World} {L : List (Int × Value)} {es : Array MapEntry} {clock : Nat} (hs : MapKept.Stamped es clock) (hL : KVs .u64 es L) : CloneMTo L w (.returned (.map (some w.heap.size))) (w.alloc (.map es clock)) := by
  refine ⟨rfl, ⟨es, clock, ?_, hs, hL⟩, (Only.refl [] w).alloc _, by simp⟩
  show (w.heap.push _)[w.heap.size]? = _
  simp
set_option maxRecDepth 100000 in
set_option maxHeartbeats 2000000 in
theorem clone_all {w : World} {b : Nat} {L : List (Int × Value)} (h : MapAt w b .u64 L) : Calls Tryz.prog 38 #[.map (some b)] w (CloneMTo L w) := by
  obtain ⟨es, clock, hb, hs, hL⟩ := h
  have C := Lib.hid (cloned_at (w := w) hs hL)
  have hq := fun w => run_eql_map_nil_sl (P := Tryz.prog) w tMvs _ _ (some b) Tryz.underlying61
  clear hs hL
  go_enter Tryz.func38, Tryz.ntmps38
  go_wp2
  rw [run_callFunc_extern Tryz.func67 (by kernel_rfl) (by kernel_rfl) (by kernel_rfl) (e := Extern.MapsClone.clone) (by kernel_rfl), run_maps_clone_sl w tMvs hb]
  simp only [Result.andThen]
  rw [Oper.upon_value]
  go_wp2
  rw [run_typeAssert_map_sl _ tMvs 20 _ _ _ Tryz.underlying61]
  simp only [Result.andThen]
  rw [Oper.upon_value]
  go_wp2
  go_ret
  exact C.out
set_option maxRecDepth 100000 in
set_option maxHeartbeats 2000000 in
theorem clone_wr {w : World} {b : Nat} {L : List (Int × Value)} (h : MapAt w b .u64 L) : Calls Tryz.prog 39 #[.map (some b)] w (CloneMTo L w) := by
  obtain ⟨es, clock, hb, hs, hL⟩ := h
  have C := Lib.hid (cloned_at (w := w) hs hL)
  have hq := fun w => run_eql_map_nil_sl (P := Tryz.prog) w tMvr _ _ (some b) Tryz.underlying82
  clear hs hL
  go_enter Tryz.func39, Tryz.ntmps39
  go_wp2
  rw [run_callFunc_extern Tryz.func67 (by kernel_rfl) (by kernel_rfl) (by kernel_rfl) (e := Extern.MapsClone.clone) (by kernel_rfl), run_maps_clone_sl w tMvr hb]
  simp only [Result.andThen]
  rw [Oper.upon_value]
  go_wp2
  rw [run_typeAssert_map_sl _ tMvr 20 _ _ _ Tryz.underlying82]
  simp only [Result.andThen]
  rw [Oper.upon_value]
  go_wp2
  go_ret
  exact C.out
/-- One more transaction, which wrote what it wrote. -/
theorem DbAt.opened2 {w w' : World} {B p ba bo : Nat} {D : PDB} {o : PTx} (h : DbAt w B p ba bo D) (k : Only [bo] w w') (hm : MapAt w' bo .u64 (pxL (D.op ++ [o])))
    (hr : Row w' o.bt #[.int .u64 o.start, .map (some o.bm)] tPx) (hk : MapAt w' o.bm .u64 (wrL o.wr)) (hw : ∀ y ∈ o.wr, VerAt w' y.2) (hw1 : ∀ b ∈ wrB o.wr, B ≤ b) (hw2 : ∀ b ∈ wrB o.wr, b ∉ D.own p ba bo ∧ b ≠ o.bt ∧ b ≠ o.bm)
    (n1 : o.bt ∉ D.own p ba bo ∧ o.bt ∉ D.reads) (n2 : o.bm ∉ D.own p ba bo ∧ o.bm ∉ D.reads) (n3 : o.bt ≠ o.bm) (g1 : B ≤ o.bt) (g2 : B ≤ o.bm)
    (f1 : 0 < o.n ∧ o.n ≤ D.begun ∧ 0 ≤ o.start ∧ o.start ≤ D.last) : DbAt w' B p ba bo { D with op := D.op ++ [o] } := by
  obtain ⟨a1, a2, a3, a4⟩ := own_apart h.nd
  have hbo : bo ∈ D.own p ba bo := by simp [PDB.own]
  have hperm : (({ D with op := D.op ++ [o] } : PDB).own p ba bo).Perm (o.bt :: o.bm :: D.own p ba bo) := by
    simp only [PDB.own, pxB_append]
    have e : pxB [o] = [o.bt, o.bm] := by simp [pxB]
    rw [e]
    have : (p :: ba :: bo :: (pxB D.op ++ [o.bt, o.bm])) = (p :: ba :: bo :: pxB D.op) ++ [o.bt, o.bm] := by simp
    rw [this]
    exact List.perm_append_comm
  have hrd : ∀ b ∈ ({ D with op := D.op ++ [o] } : PDB).reads, b ∈ D.reads ∨ b ∈ wrB o.wr := fun b hb => by
    simp only [PDB.reads, List.flatMap_append, List.mem_append] at hb ⊢
    rcases hb with hb | hb | hb
    · exact .inl (.inl hb)
    · exact .inl (.inr hb)
    · exact .inr (by simpa using hb)
  have k1 : ∀ b, b ∈ D.reads → b ∉ [bo] := fun b hb => by simp; rintro rfl; exact h.ap _ hbo hb
  refine ⟨h.row.only k (by simp; exact a2), h.am.only k (by simp; exact a3), hm, ?_, fun x hx => (h.vsd x hx).only k fun b hb => k1 b (List.mem_append_left _ (List.mem_flatMap.2 ⟨x, hx, hb⟩)), ?_, ?_, ?_, fun b hb => ?_, ?_, ⟨h.fine.dim, h.fine.begun, h.fine.last, ?_⟩⟩
  · intro x hx
    rcases List.mem_append.1 hx with hx | hx
    · exact ⟨(h.oa x hx).1.only k (by simp; exact (a4 _ (mem_pxB hx).1).2.2), (h.oa x hx).2.only k (by simp; exact (a4 _ (mem_pxB hx).2).2.2)⟩
    · simp only [List.mem_singleton] at hx; subst hx; exact ⟨hr, hk⟩
  · intro x hx y hy
    rcases List.mem_append.1 hx with hx | hx
    · exact (h.wrd x hx y hy).only k fun b hb => k1 b (mem_reads2 hx hy hb)
    · simp only [List.mem_singleton] at hx; subst hx; exact hw y hy
  · refine hperm.nodup_iff.2 (List.nodup_cons.2 ⟨?_, List.nodup_cons.2 ⟨n2.1, h.nd⟩⟩)
    simp only [List.mem_cons, not_or]
    exact ⟨n3, n1.1⟩
  · intro b hb
    have := hperm.mem_iff.1 hb
    simp only [List.mem_cons] at this
    rcases this with rfl | rfl | hb
    · exact g1
    · exact g2
    · exact h.ge b hb
  · rcases hrd b hb with hb | hb
    · exact h.gr b hb
    · exact hw1 b hb
  · intro b hb hr
    have := hperm.mem_iff.1 hb
    simp only [List.mem_cons] at this
    rcases hrd b hr with hr | hr
    · rcases this with rfl | rfl | hb
      · exact n1.2 hr
      · exact n2.2 hr
      · exact h.ap b hb hr
    · have hx := hw2 b hr
      rcases this with rfl | rfl | hb
      · exact hx.2.1 rfl
      · exact hx.2.2 rfl
      · exact hx.1 hb
  · intro x hx
    rcases List.mem_append.1 hx with hx | hx
    · exact h.fine.ops x hx
    · simp only [List.mem_singleton] at hx; subst hx; exact f1
end Go.Proofs.YtmbmkfhdiljalaaGreat

/- Plain: Copy, the walk. -/
namespace Go.Proofs.YtmbmkfhdiljalaaGreat
open Go.RowKit Go.ChangeShapes Go.WideShapes Go.ChangeAt
open Go.ChangeMaps (setBlock)
set_option linter.unusedVariables false
set_option linter.unusedSimpArgs false

def k3 (o : PTx) : Int × Int × List (Int × Ver) := (o.n, o.start, o.wr)
def loP (D : PDB) (left : List (Int × Value)) : List PTx := D.op.filter fun o => left.any fun q => decide (q.1 = o.n)
structure CyInv (w : World) (B bo pc bA bO r : Nat) (D : PDB) (left : List (Int × Value)) (ops' : List PTx) (wr : World) : Prop where
  rng : Rng wr bo r .u64 (pxL D.op) left
  db : DbAt wr B pc bA bO { D with op := ops' }
  per : (ops'.map k3 ++ (loP D left).map k3).Perm (D.op.map k3)
  fresh : ∀ b ∈ ({ D with op := ops' } : PDB).own pc bA bO, w.heap.size ≤ b
  bel : Below w.heap.size w wr
  sub : ∀ b ∈ ({ D with op := ops' } : PDB).reads, b ∈ D.reads
  rown : r ∉ ({ D with op := ops' } : PDB).own pc bA bO
theorem loP_step {D : PDB} {left : List (Int × Value)} {o : PTx} {u : Value} (hn : (D.op.map (·.n)).Nodup) (ho : o ∈ D.op) (hm : (o.n, u) ∈ left) : ((loP D left).map k3).Perm (k3 o :: (loP D (rm o.n left)).map k3) := by
  have h1 : (loP D left).Perm (o :: loP D (rm o.n left)) := by
    unfold loP
    generalize D.op = l at *
    induction l with
    | nil => simp at ho
    | cons a l ih =>
      simp only [List.map_cons, List.nodup_cons] at hn
      rcases List.mem_cons.1 ho with rfl | ho'
      · have ha : left.any (fun q => decide (q.1 = o.n)) = true := List.any_eq_true.2 ⟨_, hm, by simp⟩
        have hb : (rm o.n left).any (fun q => decide (q.1 = o.n)) = false := by
          rw [Bool.eq_false_iff]
          intro h
          obtain ⟨q, hq, he⟩ := List.any_eq_true.1 h
          simp [rm] at hq
          simp at he
          exact hq.2 he
        rw [List.filter_cons, List.filter_cons, ha, hb]
        simp only [if_true, Bool.false_eq_true, if_false]
        refine List.Perm.cons _ (List.Perm.of_eq (List.filter_congr fun x hx => ?_))
        have hne : x.n ≠ o.n := fun e => hn.1 (e ▸ List.mem_map.2 ⟨x, hx, rfl⟩)
        rw [Bool.eq_iff_iff, List.any_eq_true, List.any_eq_true]
        constructor
        · rintro ⟨q, hq, he⟩
          exact ⟨q, mem_rm.2 ⟨hq, by simp at he; rw [he]; exact hne⟩, he⟩
        · rintro ⟨q, hq, he⟩
          exact ⟨q, (mem_rm.1 hq).1, he⟩
      · have hne : a.n ≠ o.n := fun e => hn.1 (e ▸ List.mem_map.2 ⟨o, ho', rfl⟩)
        have hb : (rm o.n left).any (fun q => decide (q.1 = a.n)) = left.any (fun q => decide (q.1 = a.n)) := by
          rw [Bool.eq_iff_iff, List.any_eq_true, List.any_eq_true]
          constructor
          · rintro ⟨q, hq, he⟩
            exact ⟨q, (mem_rm.1 hq).1, he⟩
          · rintro ⟨q, hq, he⟩
            exact ⟨q, mem_rm.2 ⟨hq, by simp at he; rw [he]; exact hne⟩, he⟩
        rw [List.filter_cons, List.filter_cons, hb]
        split
        · exact ((ih hn.2 ho').cons a).trans (List.Perm.swap _ _ _)
        · exact ih hn.2 ho'
  exact h1.map k3
def CopyDTo (B : Nat) (D : PDB) (H : List Nat) (w : World) (e : Ending) (w' : World) : Prop := ∃ (pc : Nat) (D' : PDB) (F' H' : List Nat), e = .returned (.pointer (some ⟨pc, 0, none⟩)) ∧ DbF w' B pc D' F' H' ∧ (∀ b ∈ F', w.heap.size ≤ b) ∧ (∀ b ∈ H', b ∈ H) ∧ Below w.heap.size w w' ∧
  D'.dim = D.dim ∧ D'.begun = D.begun ∧ D'.last = D.last ∧ D'.all = D.all ∧ (D'.op.map k3).Perm (D.op.map k3)
set_option maxRecDepth 100000 in
set_option maxHeartbeats 8000000 in
theorem copy_on {w : World} {B p : Nat} {D : PDB} {F H : List Nat} (h : DbF w B p D F H) (hB : B ≤ w.heap.size) :
    Calls Tryz.prog 12 #[.pointer (some ⟨p, 0, none⟩)] w (CopyDTo B D H w) := by
  obtain ⟨ba, bo, h, rfl, rfl⟩ := h
  have hmm := @run_makeMap Tryz.prog
  have TH := Lib.hid (there_on h.row)
  have ⟨c0, c1, c2, c3, c4⟩ : w.cell? ⟨p, 0, none⟩ = some (.int .i64 D.dim) ∧ w.cell? ⟨p, 1, none⟩ = some (.int .u64 D.begun) ∧ w.cell? ⟨p, 2, none⟩ = some (.int .u64 D.last) ∧ w.cell? ⟨p, 3, none⟩ = some (.map (some ba)) ∧ w.cell? ⟨p, 4, none⟩ = some (.map (some bo)) := ⟨h.row.cell 0, h.row.cell 1, h.row.cell 2, h.row.cell 3, h.row.cell 4⟩
  have HH := Lib.hid h
  have HBB := Lib.hid hB
  have R1 := Lib.hid (Row.made w #[.int .i64 D.dim, .int .u64 D.begun, .int .u64 D.last, .map (some ba), .map (some bo)] tDb)
  have K1 : Hid (Only [] w (w.alloc (.cells #[.int .i64 D.dim, .int .u64 D.begun, .int .u64 D.last, .map (some ba), .map (some bo)] tDb))) := Lib.hid ((Only.refl [] w).alloc _)
  have S1 : Hid ((w.alloc (.cells #[.int .i64 D.dim, .int .u64 D.begun, .int .u64 D.last, .map (some ba), .map (some bo)] tDb)).heap.size = w.heap.size + 1) := Lib.hid (by simp)
  clear h hB
  go_enter Tryz.func12, Tryz.ntmps12
  go_wp2_with fail
  refine TH.out.mono ?_
  rintro _ w1 ⟨rfl, hw⟩
  subst w1
  go_upto_region 4 with fail
  generalize w.alloc (.cells #[.int .i64 D.dim, .int .u64 D.begun, .int .u64 D.last, .map (some ba), .map (some bo)] tDb) = w1 at *
  clear c0 c1 c2 c3 c4
  have c3 : w1.cell? ⟨p, 3, none⟩ = some (.map (some ba)) := (HH.out.row.only K1.out (by simp)).cell 3
  have C := Lib.hid (clone_all (HH.out.am.only K1.out (by simp)))
  unfold CloneMTo at C
  go_wp2_with fail
  refine C.out.mono ?_
  rintro _ w2 ⟨rfl, hm2, ho2, hs2⟩
  have M2 := Lib.hid hm2
  have O2 := Lib.hid ho2
  have S2 := Lib.hid hs2
  have R2 := Lib.hid (R1.out.only ho2 (by simp))
  clear hm2 ho2 hs2 C c3
  have R3 := Lib.hid (R2.out.only ((Only.refl [] w2).alloc (.map #[] 0)) (by simp))
  have M3 := Lib.hid (M2.out.only ((Only.refl [] w2).alloc (.map #[] 0)) (by simp))
  have E3 := Lib.hid (MapAt.made w2 .u64)
  have O3 : Hid (Only [] w (w2.alloc (.map #[] 0))) := Lib.hid ((K1.out.trans O2.out (by simp)).alloc _)
  have ⟨x3, x4⟩ : (w2.alloc (.map #[] 0)).cell? ⟨w.heap.size, 3, none⟩ = some (.map (some ba)) ∧ (w2.alloc (.map #[] 0)).cell? ⟨w.heap.size, 4, none⟩ = some (.map (some bo)) := ⟨R3.out.cell 3, R3.out.cell 4⟩
  have f3 := R3.out.free 3
  have f4 := R3.out.free 4
  have R5 := Lib.hid ((R3.out.set 3 (.map (some w1.heap.size))).set 4 (.map (some w2.heap.size)))
  have K5 : Hid (Only [w.heap.size] (w2.alloc (.map #[] 0)) (((w2.alloc (.map #[] 0)).setCell ⟨w.heap.size, 3, none⟩ (.map (some w1.heap.size))).setCell ⟨w.heap.size, 4, none⟩ (.map (some w2.heap.size)))) := Lib.hid (((Only.refl [w.heap.size] _).setCell (.inl (by simp)) _).setCell (.inl (by simp)) _)
  go_upto_region 5 with fail
  generalize ((w2.alloc (.map #[] 0)).setCell ⟨w.heap.size, 3, none⟩ (.map (some w1.heap.size))).setCell ⟨w.heap.size, 4, none⟩ (.map (some w2.heap.size)) = w5 at *
  have K6 : Hid (Only [] w w5) := Lib.hid ((O3.out.trans K5.out (by simp)).mono (by simp))
  have D6 := Lib.hid (HH.out.only K6.out (by simp))
  have CD : Hid (DbAt w5 B w.heap.size w1.heap.size w2.heap.size { D with op := [] }) := Lib.hid (by
    have s1 := S1.out
    have s2 := S2.out
    have hb := HBB.out
    have hsz : w.heap.size < w5.heap.size := R5.out.lt
    refine ⟨R5.out, M3.out.only K5.out (by simp; omega), (by simpa [pxL] using E3.out.only K5.out (by simp; omega)), by simp, fun x hx => D6.out.vsd x hx, by simp, by simp [PDB.own, pxB]; omega, fun b hb' => by simp [PDB.own, pxB] at hb'; omega, fun b hb' => by simp [PDB.reads] at hb'; exact HH.out.gr b (List.mem_append_left _ (by simpa using hb')), fun b hb' hr => ?_, ⟨HH.out.fine.dim, HH.out.fine.begun, HH.out.fine.last, by simp⟩⟩
    have := HH.out.ltr b (List.mem_append_left _ (by simpa [PDB.reads] using hr))
    simp [PDB.own, pxB] at hb'
    omega)
  have c4 : w5.cell? ⟨p, 4, none⟩ = some (.map (some bo)) := D6.out.row.cell 4
  clear x3 x4 f3 f4 R3 M3 E3
  go_wp2_with (at_range; refine wpList_range_at _ rfl (.tmp 23) tMpx rfl 30 81 .u64 Tryz.underlying62 bo (pxL D.op) rfl D6.out.om ?_; intro w6 r6 o6 s6)
  have I6 : Hid (CyInv w B bo w.heap.size w1.heap.size w2.heap.size w5.heap.size D (pxL D.op) [] w6) := Lib.hid ⟨r6, CD.out.only o6 (by simp), by
    have : loP D (pxL D.op) = D.op := List.filter_eq_self.2 fun o ho => List.any_eq_true.2 ⟨(o.n, .pointer (some ⟨o.bt, 0, none⟩)), List.mem_map.2 ⟨o, ho, rfl⟩, by simp⟩
    rw [this]; simp, fun b hb => by have := S1.out; have := S2.out; simp [PDB.own, pxB] at hb; omega, (K6.out.trans o6 (by simp)).toBelow (Nat.le_refl _) (by simp), fun b hb => by simp [PDB.reads] at hb; exact List.mem_append_left _ (by simpa using hb), fun hh => by have := CD.out.lt _ hh; omega⟩
  clear r6 o6 s6 c4
  go_wp2_with fail
  simp only [Act.put, List.setIfInBounds_toArray, List.set_cons_zero, List.set_cons_succ]
  go_loopw [4, 5] (fun u v wr => Hid (∃ left ops', CyInv w B bo w.heap.size w1.heap.size w2.heap.size w5.heap.size D left ops' wr)) (fun u v wr => wr.rangeLeft bo w5.heap.size)
  case atStart => exact Lib.hid ⟨_, _, I6.out⟩
  case round =>
    obtain ⟨left, ops', hI⟩ := hrel.out
    have HI := Lib.hid hI
    clear hI hrel
    go_wp2_with (at_next; refine wpList_next_at _ rfl (.tmp 24) rfl bo w5.heap.size .u64 (pxL D.op) left rfl HI.out.rng ?_ ?_)
    · intro hnil
      have HN := Lib.hid hnil
      clear hnil
      go_wp2_with fail
      go_ret
      have hp := HI.out.per
      rw [HN.out] at hp
      have : loP D [] = [] := by simp [loP]
      rw [this] at hp
      exact ⟨w.heap.size, { D with op := ops' }, _, _, rfl, ⟨_, _, HI.out.db, rfl, rfl⟩, HI.out.fresh, HI.out.sub, HI.out.bel, rfl, rfl, rfl, rfl, by simpa using hp⟩
    · intro k v w7 hmem hr7 ho7 hs7 hen
      obtain ⟨o, ho, hkv⟩ := List.mem_map.1 (HI.out.rng.sub _ hmem)
      simp only [Prod.mk.injEq] at hkv
      obtain ⟨rfl, rfl⟩ := hkv
      have HO := Lib.hid ho
      have HM := Lib.hid hmem
      have R7 := Lib.hid hr7
      have O7 := Lib.hid ho7
      have hr5 : w.heap.size ≤ w5.heap.size := K6.out.size
      have HR5 := Lib.hid hr5
      have B7 : Hid (Below w.heap.size w w7) := Lib.hid (HI.out.bel.trans (ho7.toBelow HI.out.bel.size (by simpa using hr5)))
      have D7 := Lib.hid (HI.out.db.only ho7 (by intro b hb; simp at hb; subst hb; exact ⟨HI.out.rown, fun hh => by have := HH.out.ltr _ (HI.out.sub _ hh); omega⟩))
      have OLD := Lib.hid (HH.out.only ((Only.refl [] w).below B7.out) (by simp))
      clear hmem hr7 ho7 hs7 hr5 ho
      have SO : Hid (∀ y, Only [w2.heap.size] w7 y → y.cell? ⟨w.heap.size, 4, none⟩ = some (.map (some w2.heap.size)) ∧ y.cell? ⟨o.bt, 0, none⟩ = some (.int .u64 o.start) ∧ y.cell? ⟨o.bt, 1, none⟩ = some (.map (some o.bm))) := Lib.hid fun y hy => by
        have h1 := (own_apart D7.out.nd).2.1
        have h2 := (OLD.out.oa o HO.out).1
        have h3 : o.bt ≠ w2.heap.size := by have h4 := HH.out.lt o.bt (by simp [PDB.own, (mem_pxB HO.out).1]); have := S2.out; have := S1.out; omega
        exact ⟨(D7.out.row.only hy (by simpa using h1)).cell 4, (h2.only hy (by simpa using h3)).cell 0, (h2.only hy (by simpa using h3)).cell 1⟩
      have CL : Hid (∀ y, Only [] w7 y → Calls Tryz.prog 39 #[.map (some o.bm)] y (CloneMTo (wrL o.wr) y)) := Lib.hid fun y hy => clone_wr ((OLD.out.oa o HO.out).2.only hy (by simp))
      unfold CloneMTo at CL
      go_upto_region 8 with fail
      go_region_held3 (fun y => y.cell? ⟨w.heap.size, 4, none⟩ = some (.map (some w2.heap.size)) ∧ y.cell? ⟨o.bt, 0, none⟩ = some (.int .u64 o.start) ∧ y.cell? ⟨o.bt, 1, none⟩ = some (.map (some o.bm)))
        (first
          | exact SO.out _ (((X4.out.alloc _).mono (by simp)).trans setBlock_only (by simp))
          | exact SO.out _ ((X4.out.alloc _).mono (by simp))
          | exact SO.out _ (X4.out.mono (by simp))
          | exact SO.out _ ((Only.refl [] w7).drew.mono (by simp)))
        (first | ((with_reducible refine (CL.out w7.drew ((Only.refl [] w7).drew)).mono ?_); rintro _ w8 ⟨rfl, hm8, ho8, hs8⟩; have X4 : Hid (Only [] w7 w8) := Lib.hid ((Only.refl [] w7).drew.trans ho8 (by simp)); have M8 := Lib.hid hm8; have S8 := Lib.hid hs8; obtain ⟨es, clock, hb0, hs0, hL0⟩ : MapAt (w8.alloc (.cells #[.int .u64 o.start, .map (some w7.heap.size)] tPx)) w2.heap.size .u64 (pxL ops') := (D7.out.om.only X4.out (by simp)).only ((Only.refl [] _).alloc _) (by simp); have hup := run_update (P := Tryz.prog) (w := w8.alloc (.cells #[.int .u64 o.start, .map (some w7.heap.size)] tPx)) hb0 hL0 Tryz.underlying62 Tryz.underlying30 o.n (.pointer (some ⟨w8.heap.size, 0, none⟩)); have HS := Lib.hid (MapAt.set hb0 hs0 hL0 o.n (.pointer (some ⟨w8.heap.size, 0, none⟩))); generalize upObj es clock .u64 o.n (.pointer (some ⟨w8.heap.size, 0, none⟩)) (pxL ops') = ob at hup HS; clear hm8 ho8 hs8 hb0 hs0 hL0))
      all_goals
        have X9 : Hid (Only [] w7 (w8.alloc (.cells #[.int .u64 o.start, .map (some w7.heap.size)] tPx))) := Lib.hid (X4.out.alloc _)
        have KB : Hid (Only [w2.heap.size] (w8.alloc (.cells #[.int .u64 o.start, .map (some w7.heap.size)] tPx)) (setBlock (w8.alloc (.cells #[.int .u64 o.start, .map (some w7.heap.size)] tPx)) w2.heap.size ob)) := Lib.hid setBlock_only
        have RT := Lib.hid (Row.made w8 #[.int .u64 o.start, .map (some w7.heap.size)] tPx)
        have M9 := Lib.hid (M8.out.only ((Only.refl [] w8).alloc (.cells #[.int .u64 o.start, .map (some w7.heap.size)] tPx)) (by simp))
        have D9 := Lib.hid (D7.out.only X9.out (by simp))
        have R9 := Lib.hid (R7.out.only X9.out (by simp) (by simp))
        have Z8 : Hid (w8.heap.size = w7.heap.size + 1) := S8
        clear hup
        generalize w8.alloc (.cells #[.int .u64 o.start, .map (some w7.heap.size)] tPx) = w9 at *
        have NX : Hid (CyInv w B bo w.heap.size w1.heap.size w2.heap.size w5.heap.size D (rm o.n left) (ops' ++ [⟨o.n, o.start, w8.heap.size, w7.heap.size, o.wr⟩]) (setBlock w9 w2.heap.size ob)) := Lib.hid (by
          have s1 := S1.out
          have s2 := S2.out
          have s5 := HR5.out
          have z8 := Z8.out
          have h7 := B7.out.size
          have hlt7 : ∀ b ∈ ({ D with op := ops' } : PDB).own w.heap.size w1.heap.size w2.heap.size, b < w7.heap.size := D7.out.lt
          have hb2 : w2.heap.size < w7.heap.size := hlt7 _ (by simp [PDB.own])
          have hnew : ∀ q ∈ ops', q.n ≠ o.n := by
            intro q hq he
            have hmem : k3 q ∈ D.op.map k3 := HI.out.per.mem_iff.1 (List.mem_append_left _ (List.mem_map.2 ⟨q, hq, rfl⟩))
            have hl2 : k3 o ∈ (loP D left).map k3 := List.mem_map.2 ⟨o, List.mem_filter.2 ⟨HO.out, List.any_eq_true.2 ⟨_, HM.out, by simp⟩⟩, rfl⟩
            have hnd : ((ops'.map k3 ++ (loP D left).map k3).map (·.1)).Nodup := by
              rw [(HI.out.per.map (·.1)).nodup_iff]
              have := HH.out.ops_nodup
              simpa [k3, Function.comp_def] using this
            rw [List.map_append, List.nodup_append] at hnd
            exact hnd.2.2 (k3 q).1 (List.mem_map.2 ⟨k3 q, List.mem_map.2 ⟨q, hq, rfl⟩, rfl⟩) (k3 o).1 (List.mem_map.2 ⟨k3 o, hl2, rfl⟩) (by simpa [k3] using he)
          have hup2 : up o.n (.pointer (some ⟨w8.heap.size, 0, none⟩)) (pxL ops') = pxL (ops' ++ [⟨o.n, o.start, w8.heap.size, w7.heap.size, o.wr⟩]) := by
            rw [up_freshP _ _ _ hnew, pxL_append]; rfl
          have hwrb : ∀ b ∈ wrB o.wr, b ∈ D.reads := fun b hb => List.mem_append_right _ (List.mem_flatMap.2 ⟨o, HO.out, hb⟩)
          have hltr : ∀ b ∈ D.reads, b < w.heap.size := HH.out.ltr
          have hH := HS.out
          rw [hup2] at hH
          refine ⟨R9.out.only KB.out (by simp; intro e; have := HH.out.lt bo (by simp [PDB.own]); omega) (by simp; intro e; exact HI.out.rown (e ▸ (by simp [PDB.own]))), ?_, ?_, ?_, ?_, ?_, ?_⟩
          · refine D9.out.opened2 (o := ⟨o.n, o.start, w8.heap.size, w7.heap.size, o.wr⟩) KB.out hH (RT.out.only KB.out (by simp; omega)) (M9.out.only KB.out (by simp; omega)) (fun y hy => ?_) (fun b hb => HH.out.gr b (hwrb b hb)) (fun b hb => ?_) ⟨fun hh => by have := hlt7 _ hh; simp at this; omega, fun hh => by have := hltr _ (HI.out.sub _ hh); simp at this; omega⟩ ⟨fun hh => by have := hlt7 _ hh; simp at this, fun hh => by have := hltr _ (HI.out.sub _ hh); simp at this; omega⟩ (by simp; omega) (by have := HBB.out; simp; omega) (by have := HBB.out; simp; omega) (HH.out.fine.ops o HO.out)
            · have hv := HH.out.wrd o HO.out y hy
              have hyb : ∀ b ∈ y.2.bs, b < w.heap.size := fun b hb => hltr b (hwrb b (List.mem_flatMap.2 ⟨y, hy, hb⟩))
              exact (hv.only ((Only.refl [] w).below (B7.out.trans (X9.out.toBelow h7 (by simp)))) (by simp)).only KB.out (fun b hb => by have := hyb b hb; simp; omega)
            · have := hltr b (hwrb b hb)
              refine ⟨fun hh => ?_, by simp; omega, by simp; omega⟩
              have := HI.out.fresh b hh
              omega
          · rw [List.map_append, List.append_assoc]
            refine List.Perm.trans ?_ HI.out.per
            refine List.Perm.append_left _ ?_
            exact (loP_step HH.out.ops_nodup HO.out HM.out).symm
          · intro b hb
            simp only [PDB.own, pxB_append, List.mem_cons, List.mem_append] at hb
            have hf := HI.out.fresh
            simp only [PDB.own, List.mem_cons] at hf
            rcases hb with hb | hb | hb | hb | hb
            · exact hf b (.inl hb)
            · exact hf b (.inr (.inl hb))
            · exact hf b (.inr (.inr (.inl hb)))
            · exact hf b (.inr (.inr (.inr hb)))
            · simp [pxB] at hb
              omega
          · exact (B7.out.trans (X9.out.toBelow h7 (by simp))).trans (KB.out.toBelow (Nat.le_trans h7 X9.out.size) (by simp; omega))
          · intro b hb
            simp only [PDB.reads, List.flatMap_append, List.mem_append] at hb
            rcases hb with hb | hb | hb
            · exact HI.out.sub b (List.mem_append_left _ hb)
            · exact HI.out.sub b (List.mem_append_right _ hb)
            · exact hwrb b (by simpa using hb)
          · intro hh
            simp only [PDB.own, pxB_append, List.mem_cons, List.mem_append] at hh
            have hr := HI.out.rown
            simp only [PDB.own, List.mem_cons, not_or] at hr
            rcases hh with hh | hh | hh | hh | hh
            · exact hr.1 hh
            · exact hr.2.1 hh
            · exact hr.2.2.1 hh
            · exact hr.2.2.2 hh
            · have := R7.out.lt
              simp [pxB] at hh
              omega)
        generalize setBlock w9 w2.heap.size ob = w10 at *
        go_wp2_with fail
        go_roundw
        case rel => exact Lib.hid ⟨_, _, NX.out⟩
        case measure =>
          rw [NX.out.rng.left_eq, HI.out.rng.left_eq]
          exact rm_lt HM.out
end Go.Proofs.YtmbmkfhdiljalaaGreat
