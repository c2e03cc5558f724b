/- Sched: Feed, Run, Closed, Txn of one that is not there or was not made. -/
import Derived.Test.YtcgmgdjeamidlaaGreatSsS
namespace Go.Proofs.YtcgmgdjeamidlaaGreat
open Go.RowKit Go.ChangeShapes Go.WideShapes Go.ChangeAt
set_option linter.unusedVariables false
set_option linter.unusedSimpArgs false

theorem load_bytes {w : World} {k : Nat} {a : Option Addr} {n c : Nat} (hk : Row w k #[.slice a n c] 30) : (loadVar 30 ⟨k, 0, none⟩).run Tryz.prog w = .ok (.slice a n c) w := by
  have hc : w.cell? ⟨k, 0, none⟩ = some (.slice a n c) := hk.cell 0
  simp [loadVar, go_sem, hc]
theorem load_errno {w : World} {k : Nat} {e : Int} (hk : Row w k #[.int .i64 e] 25) : (loadVar 25 ⟨k, 0, none⟩).run Tryz.prog w = .ok (.int .i64 e) w := by
  have hc : w.cell? ⟨k, 0, none⟩ = some (.int .i64 e) := hk.cell 0
  simp [loadVar, go_sem, hc]
theorem results_feed {fn : Func} {p u : Tmp} (h : fn.results = #[.cell p 30, .cell u 25]) (tmps : Array Value) (w : World) (g k : Nat) {a : Option Addr} {n c : Nat} {e : Int} (hp : tmps.getD p undef = .pointer (some ⟨g, 0, none⟩)) (hu : tmps.getD u undef = .pointer (some ⟨k, 0, none⟩)) (hg : Row w g #[.slice a n c] 30) (hk : Row w k #[.int .i64 e] 25) : (results fn tmps).run Tryz.prog w = .ok (.tuple #[.slice a n c, .int .i64 e]) w := by
  have hp' : tmps[p]?.getD undef = .pointer (some ⟨g, 0, none⟩) := by simpa using hp
  have hu' : tmps[u]?.getD undef = .pointer (some ⟨k, 0, none⟩) := by simpa using hu
  simp only [results, h]
  simp [Sem.run_bind, hp', hu', asAddr, Result.andThen, load_bytes hg, load_errno hk]
theorem closed_no {w : World} {v : Value} (h : NoSched w v) (n : Int) : Calls Tryz.prog 30 #[v, .int .i64 n] w fun e w' => e = .returned (.bool false) ∧ w' = w := by
  have SN := Lib.hid (sessions_no h)
  obtain ⟨a, rfl⟩ := h.shape
  clear h
  by_cases h0 : 0 ≤ n
  · have d1 : decide (0 ≤ n) = true := decide_eq_true h0
    have d2 : decide (n < 0) = false := decide_eq_false (by omega)
    clear h0
    go_enter Tryz.func30, Tryz.ntmps30
    go_wp2_with fail
    refine SN.out.mono ?_
    rintro _ w2 ⟨rfl, hw⟩
    subst w2
    go_wp2_with fail
    go_ret
    exact ⟨rfl, rfl⟩
  · have d1 : decide (0 ≤ n) = false := decide_eq_false h0
    clear h0
    go_enter Tryz.func30, Tryz.ntmps30
    go_wp2_with fail
    go_ret
    exact ⟨rfl, rfl⟩
theorem txn_no {w : World} {v : Value} (h : NoSched w v) (n : Int) : Calls Tryz.prog 31 #[v, .int .i64 n] w fun e w' => e = .returned (.int .u64 0) ∧ w' = w := by
  have SN := Lib.hid (sessions_no h)
  obtain ⟨a, rfl⟩ := h.shape
  clear h
  by_cases h0 : n < 0
  · have d1 : decide (n < 0) = true := decide_eq_true h0
    clear h0
    go_enter Tryz.func31, Tryz.ntmps31
    go_wp2_with fail
    go_ret
    exact ⟨rfl, rfl⟩
  · have d1 : decide (n < 0) = false := decide_eq_false h0
    have d2 : decide (0 ≤ n) = true := decide_eq_true (by omega)
    clear h0
    go_enter Tryz.func31, Tryz.ntmps31
    go_wp2_with fail
    refine SN.out.mono ?_
    rintro _ w2 ⟨rfl, hw⟩
    subst w2
    go_wp2_with fail
    go_ret
    exact ⟨rfl, rfl⟩
end Go.Proofs.YtcgmgdjeamidlaaGreat
