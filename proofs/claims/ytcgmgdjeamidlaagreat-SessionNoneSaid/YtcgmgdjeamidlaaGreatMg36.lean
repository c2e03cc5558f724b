/- Texts of one proof, joined. -/
import Derived.Test.YtcgmgdjeamidlaaGreatMg06
import Derived.Deep.RegionHeld3
import Derived.Deep.CutBlock
import Derived.Deep.CutRange
namespace Go.Proofs.YtcgmgdjeamidlaaGreat
set_option maxRecDepth 100000
set_option maxHeartbeats 16000000
open Go.RowKit Go.ChangeShapes Go.WideShapes Go.ChangeAt Go.Proofs.Tryz
set_option linter.unusedVariables false
set_option linter.unusedSimpArgs false
theorem txn_on{w:World}{ss:Nat}{b:Value}{t:Int}(h:Row w ss #[b,.int .u64 t] tSs):Calls prog 23 #[.pointer (some ⟨ss,0,none⟩)] w fun e w'=>e=.returned (.int .u64 t)∧w'=w:=by have c1:=h.c 1 (.int .u64 t);clear h;go_enter func23,ntmps23;go_wp2_with fail;go_ret;exact ⟨rfl,rfl⟩
abbrev tSc:TypeId:=104
theorem sessions_on{w:World}{g:Nat}{a:Option Addr}{n c:Nat}{d:Value}(h:Row w g #[.slice a n c,d] tSc):Calls prog 27 #[.pointer (some ⟨g,0,none⟩)] w fun e w'=>e=.returned (.int .i64 (n:Int))∧w'=w:=by have c0:=h.c 0 (.slice a n c);clear h;go_enter func27,ntmps27;go_wp2_with fail;go_ret;exact ⟨rfl,rfl⟩
theorem load_bytes{w:World}{k:Nat}{a:Option Addr}{n c:Nat}(hk:Row w k #[.slice a n c] 30):(loadVar 30 ⟨k,0,none⟩).run prog w=.ok (.slice a n c) w:=by have hc:=hk.c 0 (.slice a n c);simp [loadVar,go_sem,hc]
theorem load_errno{w:World}{k:Nat}{e:Int}(hk:Row w k #[.int .i64 e] 25):(loadVar 25 ⟨k,0,none⟩).run prog w=.ok (.int .i64 e) w:=by have hc:=hk.c 0 (.int .i64 e);simp [loadVar,go_sem,hc]
theorem results_feed{fn:Func}{p u:Tmp}(h:fn.results=#[.cell p 30,.cell u 25])(tmps:Array Value)(w:World)(g k:Nat){a:Option Addr}{n c:Nat}{e:Int}(hp:tmps.getD p undef=.pointer (some ⟨g,0,none⟩))(hu:tmps.getD u undef=.pointer (some ⟨k,0,none⟩))(hg:Row w g #[.slice a n c] 30)(hk:Row w k #[.int .i64 e] 25):(results fn tmps).run prog w=.ok (.tuple #[.slice a n c,.int .i64 e]) w:=by
 have hp':tmps[p]?.getD undef=.pointer (some ⟨g,0,none⟩):=by simpa using hp
 have hu':tmps[u]?.getD undef=.pointer (some ⟨k,0,none⟩):=by simpa using hu
 simp only [results,h];simp [Sem.run_bind,hp',hu',asAddr,Result.andThen,load_bytes hg,load_errno hk]
end Go.Proofs.YtcgmgdjeamidlaaGreat
