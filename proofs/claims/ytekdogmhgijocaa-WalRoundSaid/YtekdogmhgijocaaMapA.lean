/- Maps keyed by integers, whatever their elements are: what a block that is a map reads as, and what the operations on it do. -/
import Derived.Test.YtekdogmhgijocaaRows
import Derived.WalkKit
import Derived.WalkSpells
import Derived.WalkLawsBesides
import Derived.Lib.Hide
import Derived.Maps.RangeWalk
set_option linter.unusedVariables false
namespace Go.Proofs.Ytekdogmhgijocaa
set_option linter.unusedSimpArgs false
open Go.RowKit
open Go.ChangeMaps (setBlock)
open Go.MapKept (Stamped)

/-! ### association lists -/
def lk (k : Int) : List (Int × Value) → Option Value
  | [] => none
  | (j, v) :: r => if k = j then some v else lk k r
def ix (k : Int) : List (Int × Value) → Nat → Option (Nat × Value)
  | [], _ => none
  | (j, v) :: r, i => if k = j then some (i, v) else ix k r (i + 1)
def up (k : Int) (v : Value) : List (Int × Value) → List (Int × Value)
  | [] => [(k, v)]
  | (j, u) :: r => if k = j then (j, v) :: r else (j, u) :: up k v r
def rm (k : Int) (L : List (Int × Value)) : List (Int × Value) := L.filter fun p => !decide (p.1 = k)

theorem ix_some {k : Int} : ∀ {L : List (Int × Value)} {i : Nat} {j : Nat} {v : Value}, ix k L i = some (j, v) → i ≤ j ∧ L[j - i]? = some (k, v) ∧ lk k L = some v
  | [], _, _, _, h => by simp [ix] at h
  | (a, u) :: r, i, j, v, h => by
    simp only [ix] at h
    by_cases e : k = a
    · rw [if_pos e] at h
      simp only [Option.some.injEq, Prod.mk.injEq] at h
      obtain ⟨rfl, rfl⟩ := h
      subst e
      simp [lk]
    · rw [if_neg e] at h
      obtain ⟨h1, h2, h3⟩ := ix_some h
      refine ⟨by omega, ?_, by simp [lk, e, h3]⟩
      obtain ⟨d, rfl⟩ : ∃ d, j = i + 1 + d := ⟨j - (i + 1), by omega⟩
      rw [show i + 1 + d - i = d + 1 by omega, List.getElem?_cons_succ]
      rw [show i + 1 + d - (i + 1) = d by omega] at h2
      exact h2
theorem ix_none {k : Int} : ∀ {L : List (Int × Value)} {i : Nat}, ix k L i = none → lk k L = none ∧ ∀ p ∈ L, p.1 ≠ k
  | [], _, _ => by simp [lk]
  | (a, u) :: r, i, h => by
    simp only [ix] at h
    by_cases e : k = a
    · rw [if_pos e] at h; cases h
    · rw [if_neg e] at h
      obtain ⟨h1, h2⟩ := ix_none h
      refine ⟨by simp [lk, e, h1], fun p hp => ?_⟩
      rcases List.mem_cons.1 hp with rfl | hp
      · exact fun h => e h.symm
      · exact h2 p hp

/-! ### a block that is a map -/
/-- The entries, in the order in which the model holds them. -/
def KVs (q : IntKind) (es : Array MapEntry) (L : List (Int × Value)) : Prop := es.toList.map (fun e => (e.key, e.val)) = L.map (fun p => (Value.int q p.1, p.2))
/-- BLOCK b IS A MAP whose entries are L. -/
def MapAt (w : World) (b : Nat) (q : IntKind) (L : List (Int × Value)) : Prop := ∃ es clock, w.heap[b]? = some (.map es clock) ∧ Stamped es clock ∧ KVs q es L

theorem findNow_kvs {q : IntKind} {d : TypeDesc} (hd : ∃ q', d = .int q') (k : Int) : ∀ (l : List MapEntry) (L : List (Int × Value)) (i : Nat), l.map (fun e => (e.key, e.val)) = L.map (fun p => (Value.int q p.1, p.2)) →
    Instr.findNow d (.int q k) l i = some (ix k L i)
  | [], [], _, _ => rfl
  | [], _ :: _, _, h => by simp at h
  | _ :: _, [], _, h => by simp at h
  | e :: l, (j, u) :: L, i, h => by
    obtain ⟨q', rfl⟩ := hd
    simp only [List.map_cons, List.cons.injEq, Prod.mk.injEq] at h
    obtain ⟨⟨h1, h2⟩, h3⟩ := h
    have ih := findNow_kvs (q := q) ⟨q', rfl⟩ k l L (i + 1) h3
    by_cases e' : k = j
    · subst e'
      simp [Instr.findNow, h1, Instr.sameNow, ix, h2]
    · have e2 : (k == j) = false := by simpa using e'
      simp [Instr.findNow, h1, Instr.sameNow, ix, e', ih, e2]

theorem kvs_get {q : IntKind} {es : Array MapEntry} {L : List (Int × Value)} (h : KVs q es L) {j : Nat} {p : Int × Value} (hp : L[j]? = some p) : ∃ e, es[j]? = some e ∧ e.key = .int q p.1 ∧ e.val = p.2 := by
  have h1 : (es.toList.map (fun e => (e.key, e.val)))[j]? = some (.int q p.1, p.2) := by rw [h, List.getElem?_map, hp]; rfl
  rw [List.getElem?_map, Option.map_eq_some_iff] at h1
  obtain ⟨e, he, h2⟩ := h1
  simp only [Prod.mk.injEq] at h2
  exact ⟨e, by simpa using he, h2.1, h2.2⟩
theorem kvs_mem {q : IntKind} {es : Array MapEntry} {L : List (Int × Value)} (h : KVs q es L) {e : MapEntry} (he : e ∈ es.toList) : ∃ p ∈ L, e.key = .int q p.1 ∧ e.val = p.2 := by
  have h1 : (e.key, e.val) ∈ es.toList.map (fun e => (e.key, e.val)) := List.mem_map.2 ⟨e, he, rfl⟩
  rw [h] at h1
  obtain ⟨p, hp, h2⟩ := List.mem_map.1 h1
  simp only [Prod.mk.injEq] at h2
  exact ⟨p, hp, h2.1.symm, h2.2.symm⟩
theorem kvs_len {q : IntKind} {es : Array MapEntry} {L : List (Int × Value)} (h : KVs q es L) : es.size = L.length := by
  have := congrArg List.length h
  simpa using this

section
variable {P : Program} {w : World} {b : Nat} {q : IntKind} {L : List (Int × Value)} {t kt et : TypeId}

theorem MapAt.lt (h : MapAt w b q L) : b < w.heap.size := by
  obtain ⟨es, clock, hb, _⟩ := h
  exact (Array.getElem?_eq_some_iff.1 hb).1
theorem MapAt.of_block {w' : World} (h : MapAt w b q L) (hb : w'.heap[b]? = w.heap[b]?) : MapAt w' b q L := by
  obtain ⟨es, clock, hb', r⟩ := h
  exact ⟨es, clock, hb.trans hb', r⟩
theorem MapAt.nodup (h : MapAt w b q L) : (L.map (·.1)).Nodup := by
  obtain ⟨es, clock, hb, ⟨_, _, h3⟩, hk⟩ := h
  have e : (es.toList.map (·.key)) = (L.map (·.1)).map (Value.int q) := by
    have := congrArg (List.map (·.1)) hk
    simpa [List.map_map, Function.comp_def] using this
  rw [e] at h3
  have h4 : (L.map (·.1)).Pairwise fun a c => Value.int q a ≠ Value.int q c := by
    simpa [List.Nodup, List.pairwise_map] using h3
  exact h4.imp fun hne e => hne (by rw [e])

/-- 'm[k]', 'v, ok := m[k]'. -/
theorem MapAt.look (h : MapAt w b q L) (ht : P.underlying t = some (.map kt et)) (hk : P.underlying kt = some (.int q)) {z : Value} (hz : (zeroValue et).run P w = .ok z w) (k : Int) (ok : Bool) :
    (Instr.lookup t (.map (some b)) (.int q k) ok).run P w = .ok (if ok then .tuple #[(lk k L).getD z, .bool (lk k L).isSome] else (lk k L).getD z) w := by
  obtain ⟨es, clock, hb, _, hL⟩ := h
  have hf := MapKept.run_findKey (P := P) (w := w) hk (findNow_kvs ⟨q, rfl⟩ k es.toList L 0 hL)
  have hc := fun e => MapKept.run_checkKey (P := P) (w := w) (k := .int q k) hk rfl e 9999
  cases hi : ix k L 0 with
  | none =>
    rw [hi] at hf
    rw [(ix_none hi).1]
    cases ok <;> simp [Instr.lookup, run_underlying ht, MapKept.run_getObj_map hb, hc, hf, hz, Result.andThen]
  | some p =>
    obtain ⟨j, v⟩ := p
    rw [hi] at hf
    rw [(ix_some hi).2.2]
    cases ok <;> simp [Instr.lookup, run_underlying ht, MapKept.run_getObj_map hb, hc, hf, Result.andThen]

/-- What 'm[k] = v' makes of the block. -/
def upObj (es : Array MapEntry) (clock : Nat) (q : IntKind) (k : Int) (v : Value) (L : List (Int × Value)) : Obj :=
  match ix k L 0 with
  | some (i, _) => .map (es.modify i fun e => { e with key := .int q k, val := v }) clock
  | none => .map (es.push { key := .int q k, val := v, born := clock }) (clock + 1)
theorem up_none {k : Int} {v : Value} : ∀ {L : List (Int × Value)}, (∀ p ∈ L, p.1 ≠ k) → up k v L = L ++ [(k, v)]
  | [], _ => rfl
  | (a, u) :: r, h => by
    have h1 : k ≠ a := fun e => h (a, u) (List.mem_cons_self ..) e.symm
    simp only [up, if_neg h1, List.cons_append, up_none (fun p hp => h p (List.mem_cons_of_mem _ hp))]
theorem up_some {k : Int} {v : Value} : ∀ {L : List (Int × Value)} {i : Nat} {j : Nat} {u : Value}, ix k L i = some (j, u) → up k v L = L.set (j - i) (k, v)
  | [], _, _, _, h => by simp [ix] at h
  | (a, c) :: r, i, j, u, h => by
    simp only [ix] at h
    by_cases e : k = a
    · rw [if_pos e] at h
      simp only [Option.some.injEq, Prod.mk.injEq] at h
      obtain ⟨rfl, rfl⟩ := h
      subst e
      simp [up]
    · rw [if_neg e] at h
      have h1 := (ix_some h).1
      obtain ⟨d, rfl⟩ : ∃ d, j = i + 1 + d := ⟨j - (i + 1), by omega⟩
      simp only [up, if_neg e, up_some h]
      rw [show i + 1 + d - i = d + 1 by omega, show i + 1 + d - (i + 1) = d by omega, List.set_cons_succ]

theorem upd_facts {es : Array MapEntry} {clock : Nat} (hs : Stamped es clock) (hL : KVs q es L) (k : Int) (v : Value) :
    ∃ es' clock', upObj es clock q k v L = .map es' clock' ∧ Stamped es' clock' ∧ KVs q es' (up k v L) := by
  unfold upObj
  cases hi : ix k L 0 with
  | none =>
    refine ⟨_, _, rfl, MapKept.stamped_push hs fun x hx => ?_, ?_⟩
    · obtain ⟨p, hp, h1, _⟩ := kvs_mem hL hx
      rw [h1]
      exact fun e => (ix_none hi).2 p hp (by simpa using e)
    · rw [up_none (ix_none hi).2]
      simp only [KVs, Array.toList_push, List.map_append, List.map_cons, List.map_nil]
      rw [hL]
  | some p =>
    obtain ⟨j, u⟩ := p
    obtain ⟨_, hj, _⟩ := ix_some hi
    rw [Nat.sub_zero] at hj
    obtain ⟨e0, he0, hk0, _⟩ := kvs_get hL hj
    refine ⟨_, _, rfl, MapKept.stamped_modify hs j _ (fun _ _ => rfl) (fun e _ he => ?_), ?_⟩
    · rw [he0] at he; cases he; exact hk0.symm
    · rw [up_some hi, Nat.sub_zero]
      refine List.ext_getElem? fun i => ?_
      have hbase := congrArg (fun l => l[i]?) hL
      simp only [List.getElem?_map, Array.getElem?_toList] at hbase
      simp only [List.getElem?_map, Array.getElem?_toList, Array.getElem?_modify, List.getElem?_set]
      by_cases hij : j = i
      · subst hij
        have hlt : j < L.length := (List.getElem?_eq_some_iff.1 hj).1
        simp [he0, hlt]
      · simp only [if_neg hij]
        exact hbase

/-- 'm[k] = v'. -/
theorem run_update {es : Array MapEntry} {clock : Nat} (hb : w.heap[b]? = some (.map es clock)) (hL : KVs q es L) (ht : P.underlying t = some (.map kt et)) (hk : P.underlying kt = some (.int q)) (k : Int) (v : Value) :
    (Instr.mapUpdate t (.map (some b)) (.int q k) v).run P w = .ok () (setBlock w b (upObj es clock q k v L)) := by
  have hf := MapKept.run_findKey (P := P) (w := w) hk (findNow_kvs ⟨q, rfl⟩ k es.toList L 0 hL)
  have hc := fun e => MapKept.run_checkKey (P := P) (w := w) (k := .int q k) hk rfl e 9999
  have hks := MapKept.run_keyThatStays (P := P) (w := w) (k := .int q k) (show MapKept.IsKey (.int q) (.int q k) from rfl)
  unfold upObj
  cases hi : ix k L 0 with
  | none =>
    rw [hi] at hf
    simp [Instr.mapUpdate, run_underlying ht, MapKept.run_getObj_map hb, hc, hf, MapKept.run_setObj_map _ hb, Result.andThen, setBlock]
  | some p =>
    obtain ⟨j, u⟩ := p
    rw [hi] at hf
    obtain ⟨_, hj, _⟩ := ix_some hi
    rw [Nat.sub_zero] at hj
    obtain ⟨e0, he0, hk0, _⟩ := kvs_get hL hj
    simp [Instr.mapUpdate, run_underlying ht, MapKept.run_getObj_map hb, hc, hf, he0, hk0, hks, MapKept.run_setObj_map _ hb, Result.andThen, setBlock]

theorem MapAt.set {es : Array MapEntry} {clock : Nat} (hb : w.heap[b]? = some (.map es clock)) (hs : Stamped es clock) (hL : KVs q es L) (k : Int) (v : Value) : MapAt (setBlock w b (upObj es clock q k v L)) b q (up k v L) := by
  obtain ⟨es', clock', h1, h2, h3⟩ := upd_facts hs hL k v
  exact ⟨es', clock', by rw [h1]; exact (MapKept.heap_set hb).1, h2, h3⟩

/-! ### deletion -/
theorem map_erase {α β : Type} (f : α → β) : ∀ (l : List α) (i : Nat), (l.eraseIdx i).map f = (l.map f).eraseIdx i
  | [], _ => rfl
  | _ :: _, 0 => rfl
  | a :: l, i + 1 => by simp [map_erase f l i]
theorem rm_none {k : Int} {L : List (Int × Value)} (h : ∀ p ∈ L, p.1 ≠ k) : rm k L = L := List.filter_eq_self.2 fun p hp => by simpa using h p hp
theorem rm_some {k : Int} : ∀ {L : List (Int × Value)} {i : Nat} {j : Nat} {u : Value}, (L.map (·.1)).Nodup → ix k L i = some (j, u) → rm k L = L.eraseIdx (j - i)
  | [], _, _, _, _, h => by simp [ix] at h
  | (a, c) :: r, i, j, u, hn, h => by
    simp only [ix] at h
    simp only [List.map_cons, List.nodup_cons] at hn
    by_cases e : k = a
    · rw [if_pos e] at h
      simp only [Option.some.injEq, Prod.mk.injEq] at h
      obtain ⟨rfl, rfl⟩ := h
      subst e
      have : rm k r = r := rm_none fun p hp hpk => hn.1 (hpk ▸ List.mem_map.2 ⟨p, hp, rfl⟩)
      simp only [rm] at this
      simp [rm, this]
    · rw [if_neg e] at h
      have h1 := (ix_some h).1
      obtain ⟨d, rfl⟩ : ∃ d, j = i + 1 + d := ⟨j - (i + 1), by omega⟩
      have ih := rm_some hn.2 h
      simp only [rm] at ih
      have hne : ¬ a = k := fun h => e h.symm
      simp only [rm, List.filter_cons, hne, decide_false, Bool.not_false, if_true, ih]
      rw [show i + 1 + d - i = d + 1 by omega, show i + 1 + d - (i + 1) = d by omega, List.eraseIdx_cons_succ]

theorem MapAt.delete (h : MapAt w b q L) (ht : P.underlying t = some (.map kt et)) (hk : P.underlying kt = some (.int q)) (ty : TypeId) (k : Int) :
    ∃ o, (Builtin.delete_ #[t, kt] ty #[.map (some b), .int q k]).run P w = .ok (.tuple #[]) (setBlock w b o) ∧ MapAt (setBlock w b o) b q (rm k L) := by
  have hnd := h.nodup
  obtain ⟨es, clock, hb, hs, hL⟩ := h
  have hf := MapKept.run_findKey (P := P) (w := w) hk (findNow_kvs ⟨q, rfl⟩ k es.toList L 0 hL)
  have hc := fun e => MapKept.run_checkKey (P := P) (w := w) (k := .int q k) hk rfl e 9999
  cases hi : ix k L 0 with
  | none =>
    rw [hi] at hf
    refine ⟨.map es clock, ?_, es, clock, (MapKept.heap_set hb).1, hs, by rw [rm_none (ix_none hi).2]; exact hL⟩
    simp [Builtin.delete_, run_underlying ht, MapKept.run_getObj_map hb, hc, hf, MapKept.run_setObj_map _ hb, Result.andThen, setBlock]
  | some p =>
    obtain ⟨j, u⟩ := p
    rw [hi] at hf
    obtain ⟨_, hj, _⟩ := ix_some hi
    rw [Nat.sub_zero] at hj
    obtain ⟨e0, he0, hk0, _⟩ := kvs_get hL hj
    have hjs : j < es.size := (Array.getElem?_eq_some_iff.1 he0).1
    have hsub : (es.eraseIdxIfInBounds j).toList = es.toList.eraseIdx j := by
      unfold Array.eraseIdxIfInBounds
      rw [dif_pos hjs]
      simp
    refine ⟨.map (es.eraseIdxIfInBounds j) clock, ?_, _, _, (MapKept.heap_set hb).1, MapKept.stamped_erase hs j, ?_⟩
    · simp [Builtin.delete_, run_underlying ht, MapKept.run_getObj_map hb, hc, hf, MapKept.run_setObj_map _ hb, Result.andThen, setBlock]
    · rw [rm_some hnd hi, Nat.sub_zero]
      simp only [KVs]
      rw [hsub, map_erase, map_erase, hL]
end
end Go.Proofs.Ytekdogmhgijocaa
