/- Texts of one proof, joined. -/
import Derived.Shelf.Bytes.SlJoin
import Derived.Test.YtcgmgdjeamidlaaGreatProg
namespace Go.Proofs
set_option maxRecDepth 100000
set_option maxHeartbeats 16000000
open Go.Shelf
def Tryz.joinD_ren:Go.Shelf.Ren:=⟨fun|14=>181 | 15=>192 | n=>n,fun|26=>22|22=>30|3=>3|4=>4|0=>0|9=>9|20=>20|5=>5|n=>n,fun|n=>n⟩
theorem Tryz.joinD:Go.Proofs.SlLaysJ.n14 Tryz.prog Tryz.joinD_ren:={
 mixed:=by kernel_rfl
 f14:=Tryz.func181.trans (congrArg some (by kernel_rfl))
 f15:=Tryz.func192.trans (congrArg some (by kernel_rfl))
 t0:=Tryz.underlying0
 a0:=Tryz.isAgg0
 z0:=Tryz.sizeOf0
 v0:=Tryz.zeroValue0
 t3:=Tryz.underlying3
 a3:=Tryz.isAgg3
 z3:=Tryz.sizeOf3
 v3:=Tryz.zeroValue3
 t4:=Tryz.underlying4
 a4:=Tryz.isAgg4
 z4:=Tryz.sizeOf4
 v4:=Tryz.zeroValue4
 t9:=Tryz.underlying9
 a9:=Tryz.isAgg9
 z9:=Tryz.sizeOf9
 v9:=Tryz.zeroValue9
 t20:=Tryz.underlying20
 a20:=Tryz.isAgg20
 z20:=Tryz.sizeOf20
 v20:=Tryz.zeroValue20
 t22:=Tryz.underlying30
 a22:=Tryz.isAgg30
 z22:=Tryz.sizeOf30
 v22:=Tryz.zeroValue30
 t26:=Tryz.underlying22
 a26:=Tryz.isAgg22
 z26:=Tryz.sizeOf22
 v26:=Tryz.zeroValue22
 t5:=Tryz.underlying5
 z5:=Tryz.sizeOf5
 i5:=by kernel_rfl }
end Go.Proofs
