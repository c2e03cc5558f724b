/- Texts of one proof, joined. -/
import Derived.Test.YtcgmgdjeamidlaaGreatGen
import Derived.Test.YtcgmgdjeamidlaaGreatQuBits
namespace Go.Proofs.YtcgmgdjeamidlaaGreat
set_option maxRecDepth 100000
set_option maxHeartbeats 16000000
open Go.RowKit Go.ChangeShapes Go.WideShapes Go.ChangeAt
set_option linter.unusedVariables false
def cmpF(a b:Int):Int:=if a<b then -1 else if b<a then 1 else 0
theorem cmp64_any(a b:Int)(w:World):Calls Tryz.prog 272 #[.int .i64 a,.int .i64 b] w fun e w'=>e=.returned (.int .i64 (cmpF a b))∧w'=w:=by
 go_enter Tryz.func272,Tryz.ntmps272
 go_wp2
 all_goals go_ret
 all_goals refine ⟨ret_int ?_,rfl⟩
 all_goals (unfold cmpF;repeat' split)
 all_goals first|rfl|omega
theorem infoU64:(Tryz.prog.info? 34).map (fun i=>(i.zero,i.size,i.bytes))=some (some (.int .u64 0),1,8):=by kernel_rfl
end Go.Proofs.YtcgmgdjeamidlaaGreat
