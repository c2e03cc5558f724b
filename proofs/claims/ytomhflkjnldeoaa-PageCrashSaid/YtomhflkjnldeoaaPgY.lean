/- PageCrash: what lies in memory between two rounds. -/
import Derived.Test.YtomhflkjnldeoaaPgX
import Derived.Test.YtomhflkjnldeoaaPgL
namespace Go.Proofs.Ytomhflkjnldeoaa.pageCrash
open Go.RowKit Go.ChangeShapes Go.WideShapes Go.ChangeAt
open Go.Proofs.Ytomhflkjnldeoaa.dk (Dk Dev newD errOff DoneTo stepS stepA syncD crashD Bytes)
set_option linter.unusedVariables false

structure QInv (w wr : World) (p : Nat) (F : List Nat) (at_ : Nat → Nat) (v9 : Value) (g c B : Nat) (D : Dk) (ls ns : List Pg) (i : Nat) : Prop where
  dev : Dev w wr p D F
  sec : D.sectors = 32
  most : D.most = 32
  inv : CInv at_ D ls ns i
  pl : PgsAt B wr v9 ls
  pn : PgsAt B wr (.slice (some ⟨g, 0, none⟩) 8 c) ns
  s1 : v9.ownBlock ≠ some g
  s2 : ∀ x ∈ ls, x.b ≠ g
theorem pgs_but {B g : Nat} {w w' : World} {v : Value} {l : List Pg} (h : PgsAt B w v l) (k : Only [g] w w') (h1 : v.ownBlock ≠ some g) (h2 : ∀ x ∈ l, x.b ≠ g) : PgsAt B w' v l :=
  ⟨own_keep h.own fun b hb => k.block _ (h.own.lt b hb).2 (by simp only [List.mem_singleton]; exact fun e => h1 (e ▸ hb)), fun x hx => ⟨(h.held x hx).1.only k (by simpa using h2 x hx), (h.held x hx).2⟩⟩
theorem pgs_raise {B B' : Nat} {w : World} {v : Value} {l : List Pg} (h : PgsAt B w v l) (hB : B' ≤ B) : PgsAt B' w v l :=
  ⟨own_lower h.own hB, fun x hx => ⟨(h.held x hx).1.raise hB, (h.held x hx).2⟩⟩
theorem pgs_own {B : Nat} {w : World} {v : Value} {n : Nat} {l : List Pg} (h : PgsAt B w v l) (hl : l.length = n) : w.ownsRow B 25 2 v n (cellsP l) := hl ▸ h.own
theorem pgs_some {B : Nat} {w : World} {g c n : Nat} {l : List Pg} (h : PgsAt B w (.slice (some ⟨g, 0, none⟩) n c) l) (hl : l.length = n) {j : Nat} (hj : j < n * 2) : ∃ z, w.cell? ⟨g, j, none⟩ = some z :=
  ⟨(cellsP l)[j]'(by rw [cellsP_len, hl]; exact hj), by rw [(pgs_own h hl).cellAt j hj, List.getElem?_eq_getElem (by rw [cellsP_len, hl]; exact hj)]⟩
theorem pgs_shape {B : Nat} {w : World} {v : Value} {n : Nat} {l : List Pg} (h : PgsAt B w v l) (hl : l.length = n) (hn : 0 < n) : ∃ g c, v = .slice (some ⟨g, 0, none⟩) n c ∧ n ≤ c := by
  have := pgs_own h hl
  obtain ⟨q, c9, rfl, h1, h2⟩ := own_shape this
  rcases this.2 with ⟨hv, h0⟩ | ⟨g, cap, cur, hv, _⟩
  · omega
  · simp only [Value.slice.injEq] at hv
    obtain ⟨rfl, _, rfl⟩ := hv
    exact ⟨g, c9, rfl, h1⟩
theorem inv_none {w wr w' : World} {p : Nat} {F : List Nat} {at_ : Nat → Nat} {v9 : Value} {g c B : Nat} {D : Dk} {ls ns : List Pg} {i : Nat} (h : QInv w wr p F at_ v9 g c B D ls ns i) (k : Only [] wr w') : QInv w w' p F at_ v9 g c B D ls ns i :=
  ⟨h.dev.none k, h.sec, h.most, h.inv, h.pl.only k (by simp), h.pn.only k (by simp), h.s1, h.s2⟩
theorem inv_put {w wc w8 : World} {p : Nat} {F : List Nat} {at_ : Nat → Nat} {v9 : Value} {g c B : Nat} {D D' : Dk} {ls ns : List Pg} {i j : Nat} {x : Pg} (h : QInv w wc p F at_ v9 g c B D ls ns i) (hj : j < 8) (ha : at_ i = j) (hd : Dev w w8 p D' F) (k : Only F wc w8) (hD : D' = pageW D (4 * (j : Int)) (roundB i) 4)
    (hx : Held B wc x) (hne : x.b ≠ g) (h0 : x.n = (i : Int) + 1) (hb : x.xs = bodyL ((i : Int) + 1)) (hF : ∀ y ∈ F, y < B) (hB : w.heap.size ≤ B) :
    QInv w ((w8.setCell ⟨g, j * 2, none⟩ (.int .u64 x.n)).setCell ⟨g, j * 2 + 1, none⟩ (.slice (some ⟨x.b, 0, none⟩) 500 500)) p F at_ v9 g c B D' ls (ns.set j x) (i + 1) := by
  have p9 := h.pn.only k hF
  have o9 := pgs_own p9 h.inv.ln
  have hg := (o9.lt g rfl).1
  have k1 : Only [g] w8 ((w8.setCell ⟨g, j * 2, none⟩ (.int .u64 x.n)).setCell ⟨g, j * 2 + 1, none⟩ (.slice (some ⟨x.b, 0, none⟩) 500 500)) := ((Only.refl [g] w8).setCell (.inl (by simp)) _).setCell (.inl (by simp)) _
  have hF9 : g ∉ F := fun hf => by have := hF _ hf; omega
  have x9 : Held B w8 x := hx.only k fun hf => by have := hF _ hf; have := hx.ge; omega
  have st := ((o9.stored (j * 2) (.int .u64 x.n)).1.stored (j * 2 + 1) (.slice (some ⟨x.b, 0, none⟩) 500 500)).1
  rw [cellsP_set] at st
  refine ⟨hd.only k1 (by simpa using hF9) (fun y hy => by simp at hy; omega), by rw [hD, pageW_sectors]; exact h.sec, by rw [hD, pageW_most]; exact h.most, hD ▸ h.inv.write hj ha h0 hb, pgs_but (h.pl.only k hF) k1 h.s1 h.s2, ⟨?_, fun q hq => ?_⟩, h.s1, h.s2⟩
  · rw [List.length_set, h.inv.ln]; exact st
  · rcases List.mem_or_eq_of_mem_set hq with hq | rfl
    · have := p9.held q hq
      exact ⟨this.1.only k1 (by simp only [List.mem_singleton]; exact fun e => this.2 (by rw [e]; rfl)), this.2⟩
    · exact ⟨x9.only k1 (by simpa using hne), fun e => hne (by simp [Value.ownBlock] at e; exact e.symm)⟩
/-- A device that was synced, the power on; lasts not yet the new ones. -/
theorem stepS_on {D : Dk} (h : (stepS D).off = false) (ho : D.off = false) : stepS D = syncD D := by
  unfold stepS at h ⊢
  rw [if_neg (by rw [ho]; simp)] at h ⊢
  by_cases e : (dk.opD D).off = true
  · rw [if_pos e, e] at h; cases h
  · rw [if_neg e]
theorem stepS_same {D : Dk} (h : (stepS D).off = true) (ho : D.off = false) : (stepS D).last = D.last ∧ (stepS D).waits = D.waits ∧ (stepS D).sectors = D.sectors ∧ (stepS D).most = D.most := by
  unfold stepS at h ⊢
  rw [if_neg (by rw [ho]; simp)] at h ⊢
  by_cases e : (dk.opD D).off = true
  · rw [if_pos e]; exact ⟨dk.opD_last D, dk.opD_waits D, dk.opD_sectors D, dk.opD_most D⟩
  · rw [if_neg e] at h; exact absurd h e
theorem cinv_eq {at_ : Nat → Nat} {D D' : Dk} {ls ns : List Pg} {i : Nat} (h : CInv at_ D ls ns i) (hl : D'.last = D.last) (hw : D'.waits = D.waits) : CInv at_ D' ls ns i :=
  ⟨h.ll, h.ln, h.ml, h.mn, fun j p hp t ht => by rw [hl]; exact h.last j p hp t ht, fun j hj t ht s hs => h.waits j hj t ht s (by rw [hw] at hs; exact hs)⟩
/-- Of place j behind a crash. -/
structure Behind (at_ : Nat → Nat) (i j : Nat) (x y : Pg) (Bs : List Int) : Prop where
  mix : Mixed at_ i j x Bs
  same : x.n = y.n → Bs = devB x
  made : Made at_ i j x
theorem after_bad {at_ : Nat → Nat} {i j : Nat} {x y : Pg} {Bs : List Int} (h : Behind at_ i j x y Bs) (hi : i ≤ 40) (he : openE Bs = 14) : x.n ≠ y.n := fun e => by
  rw [h.same e, open_dev h.made hi] at he
  omega
theorem after_half {at_ : Nat → Nat} {i j n : Nat} {x y : Pg} {Bs : List Int} (h : Behind at_ i j x y Bs) (hn : i ≤ n) (hi : i ≤ 40) : ∀ k, k < 8 → halfAt Bs k = z64 ∨ ∃ r, r < n ∧ r < 40 ∧ at_ r = j ∧ halfAt Bs k = halfAt (roundB r) k := fun k hk => by
  rcases h.mix.half k hk with e | ⟨r, r1, r2, r3⟩
  · rcases h.made.devB with ⟨d, _⟩ | ⟨r, r1, r2, d⟩
    · left
      rw [e, d]
      unfold halfAt z512 z64
      rw [List.drop_replicate, List.take_replicate, Nat.min_eq_left (by omega)]
    · exact .inr ⟨r, by omega, by omega, r2, by rw [e, d]⟩
  · exact .inr ⟨r, by omega, by omega, r2, r3⟩
/-- A page that opens and is not the lasting one. -/
theorem after_new {at_ : Nat → Nat} {i j : Nat} {x y : Pg} {Bs : List Int} (h : Behind at_ i j x y Bs) (he : openE Bs = 0) (hne : ¬ (openN Bs = x.n ∧ openB Bs = x.xs)) : pageB (openN Bs) (openB Bs) = Bs ∧ (openB Bs).length = 500 ∧ IsBy (openB Bs) ∧ 0 ≤ openN Bs ∧ openN Bs < 18446744073709551616 := by
  refine open_back h.mix.len h.mix.by_ he fun ez => hne ?_
  obtain ⟨z1, z2⟩ := h.mix.zero h.made ez
  rw [ez, open_z512.2.1, open_z512.2.2, z1, z2]
  exact ⟨rfl, rfl⟩
theorem openB_by' {Bs : List Int} (h : IsBy Bs) : IsBy (openB Bs) := pageOpens.openB_by h
theorem openB_len {Bs : List Int} (hl : Bs.length = 512) (he : openE Bs = 0) : (openB Bs).length = 500 := by
  unfold openE at he
  unfold openB
  have hn : ¬ Bs.length ≠ 512 := by simp only [hl, ne_eq, not_true_eq_false, not_false_eq_true]
  rw [if_neg hn] at he ⊢
  by_cases hz : zerosIn Bs = 512
  · rw [if_pos hz]; exact List.length_replicate
  · rw [if_neg hz] at he ⊢
    by_cases hs : sumOk Bs
    · rw [if_pos hs, List.length_drop]; omega
    · rw [if_neg hs] at he; omega
structure FInv (w wr : World) (p : Nat) (F : List Nat) (D : Dk) (h9 d9 g c B : Nat) (ls ns : List Pg) : Prop where
  dev : Dev w wr p D F
  pl : PgsAt B wr (.slice (some ⟨h9, 0, none⟩) 8 d9) ls
  pn : PgsAt B wr (.slice (some ⟨g, 0, none⟩) 8 c) ns
theorem FInv.on {w wr w' : World} {p : Nat} {F : List Nat} {D : Dk} {h9 d9 g c B : Nat} {ls ns : List Pg} (h : FInv w wr p F D h9 d9 g c B ls ns) (k : Only [] wr w') : FInv w w' p F D h9 d9 g c B ls ns := ⟨h.dev.none k, h.pl.only k (by simp), h.pn.only k (by simp)⟩
theorem pgs_cells {B : Nat} {w : World} {g c : Nat} {l : List Pg} (h : PgsAt B w (.slice (some ⟨g, 0, none⟩) 8 c) l) (hl : l.length = 8) {j : Nat} (hj : j < 8) {x : Pg} (hx : l[j]? = some x) : w.cell? ⟨g, j * 2, none⟩ = some (.int .u64 x.n) ∧ w.cell? ⟨g, j * 2 + 1, none⟩ = some (.slice (some ⟨x.b, 0, none⟩) 500 500) := by
  have CA := cellsP_at l j x hx
  have o := pgs_own h hl
  exact ⟨(o.cellAt (j * 2) (by omega)).trans CA.1, (o.cellAt (j * 2 + 1) (by omega)).trans CA.2⟩
theorem puts_ns {w : World} {a : Option Addr} {n c : Nat} {os : List PutV} (h : PutsIn w a n c os) : NsAt w a n (fun k => (os[k]?.getD default).n) := by
  obtain ⟨h1, h2, h3⟩ := h
  rcases h3 with h3 | ⟨bb, off, e, hp⟩
  · exact .inl h3
  · refine .inr ⟨bb, off, e, fun i hi => ?_⟩
    have hx : os[i]? = some (os[i]'(by omega)) := List.getElem?_eq_getElem _
    show _ = some (Value.int .i64 ((os[i]?.getD default).n))
    rw [hx]
    exact (hp i _ hx).c0
theorem inv_after {w wr wk : World} {p : Nat} {F : List Nat} {at_ : Nat → Nat} {v9 : Value} {g c B : Nat} {D : Dk} {ls ns : List Pg} {i : Nat} {pk : List Int} (h : QInv w wr p F at_ v9 g c B D ls ns i) (hk : Dev w wk p (crashD D pk) F) {j : Nat} (hj : j < 8) :
    ∃ x y, ls[j]? = some x ∧ ns[j]? = some y ∧ Behind at_ i j x y (pageOn (crashD D pk) (4 * (j : Int)) 4) := by
  have e1 : ls[j]? = some (ls[j]'(by rw [h.inv.ll]; exact hj)) := List.getElem?_eq_getElem _
  have e2 : ns[j]? = some (ns[j]'(by rw [h.inv.ln]; exact hj)) := List.getElem?_eq_getElem _
  obtain ⟨m1, m2⟩ := h.inv.crash h.dev.fine hk.fine (dk.Dev.keysNodup h.dev) hj e1 e2
  exact ⟨_, _, e1, e2, m1, m2, h.inv.ml j _ e1⟩
set_option maxRecDepth 100000 in
theorem held_body {B base : Nat} {w : World} {g : Nat} {N n : Int} (h : w.ownsRow base 5 1 (.slice (some ⟨g, 0, none⟩) 500 500) 500 ((bodyL n).map (Value.int .u8))) (hB : B ≤ g) : Held B w ⟨N, g, bodyL n⟩ :=
  ⟨fun j v hj => by
    have hlt : j < 500 := by have := (List.getElem?_eq_some_iff.1 hj).1; rw [List.length_map, bodyL_len] at this; exact this
    rw [Nat.zero_add, h.cellAt j (by omega)]; exact hj, bodyL_len n, bodyL_by n, hB⟩
theorem pgs_copy {B : Nat} {w w' : World} {g c : Nat} {ns : List Pg} {v' : Value} (h : PgsAt B w (.slice (some ⟨g, 0, none⟩) 8 c) ns) (hl : ns.length = 8) (k : Only [] w w') (ho : w'.ownsRow B 25 2 v' 8 (cellsP ns)) (hf : ∀ b, v'.ownBlock = some b → w.heap.size ≤ b) :
    PgsAt B w' v' ns ∧ v'.ownBlock ≠ some g ∧ ∀ x ∈ ns, x.b ≠ g :=
  ⟨⟨hl ▸ ho, fun x hx => ⟨(h.held x hx).1.only k (by simp), fun e => by have := hf _ e; have := (h.held x hx).1.lt; omega⟩⟩, fun e => by have := hf _ e; have := (h.own.lt g rfl).2; omega, fun x hx e => (h.held x hx).2 (by rw [e]; rfl)⟩
theorem arm_eq (y : Int) : ∃ A : Int, wrap64 ((IntKind.u64.wrap y).tmod 200) = A ∧ 0 ≤ A ∧ A < 200 := by
  have e : IntKind.u64.wrap y = y % 18446744073709551616 := rfl
  refine ⟨_, rfl, ?_, ?_⟩
  · rw [e, Int.tmod_eq_emod_of_nonneg (by omega)]; unfold wrap64; omega
  · rw [e, Int.tmod_eq_emod_of_nonneg (by omega)]; unfold wrap64; omega
end Go.Proofs.Ytomhflkjnldeoaa.pageCrash
