/- Texts of one proof, joined. -/
import Derived.Test.YtcgmgdjeamidlaaGreatMg03
import Derived.Test.YtcgmgdjeamidlaaGreatMapC
import Derived.RangeFuncNested
import Derived.RangeFuncBound
import Derived.RangeFuncCalls
import Derived.RangeFuncLeaves
import Derived.RangeFuncBox
import Derived.Shelf.Abstract
import Derived.Shelf.RegionOpen
import Derived.OwnWalkIn
import Derived.TacticsInMore
import Derived.LoopNIn
import Derived.LoopIn
import Derived.Maps.AppendAt
import Derived.Maps.OwnIn
namespace Go.Proofs.YtcgmgdjeamidlaaGreat
set_option maxRecDepth 100000
set_option maxHeartbeats 16000000
open Go.RowKit Go.Shelf Go.Proofs.Tryz
set_option linter.unusedVariables false
set_option linter.unusedSimpArgs false
attribute [local go_sem] Oper.semAt_some
abbrev tVrs:TypeId:=286
def encV(x:Nat×Ver):Array Value:=#[.int .i64 (x.1:Int),x.2.val]
theorem back_any(V:Vs)(w:World):Calls prog 253 #[V.v] w fun e w'=>e=.returned (.func (.func 264) #[] #[.pointer (some ⟨w.heap.size,0,none⟩)])∧w'=w.alloc (.cells #[V.v] tVrs):=by
 unfold Vs.v;go_enter func253,ntmps253
 go_wp2
 go_ret;exact ⟨rfl,rfl⟩
structure BackInv(V:Vs)(J:List (Nat×Ver)→World→Prop)(n0:Nat)(W:World)(k:Nat)(pre:List (Nat×Ver))(wr:World):Prop where
 j:J pre wr
 bl:Below n0 W wr
 come:pre.map (·.2)=V.vs.reverse.take k
 len:pre.length=k
theorem back1_in(n:Nat)(hn:1≤n)(l Bm n0:Nat)(V:Vs)(J Jx:List (Nat×Ver)→World→Prop)(W:World)(hJ:AbidesFrom W.heap.size J)
  (hB:Bm<n0) (hVb:∀ b∈V.bs,b<n0) (h0n:n0≤W.heap.size)
  (hY:∀ pre x W1,J pre W1→pre.length<V.vs.length→YieldAt Fence.wide (n-1) prog l (encV x) W1 fun e W'=>
   (e=.returned (.bool true)∧J (pre++[x]) W'∧Below n0 W1 W')∨(e=.returned (.bool false)∧Jx (pre++[x]) W'))
  (hm:Row W Bm #[V.v] tVrs) (hV:VsAt W V) (hl:V.vs.length≤1000000) (h0:J [] W) :
  CallsIn Fence.wide n prog 264 #[.func (.yield l) #[] #[],.pointer (some ⟨Bm,0,none⟩)] W fun e W'=>(∃ v,e=.returned v) ∧
   ((∃ ys:List (Nat×Ver),ys.map (·.2)=V.vs.reverse∧J ys W')∨(∃ pre:List (Nat×Ver),(∃ k,pre.map (·.2)=V.vs.reverse.take k)∧Jx pre W')):=by
 have hro:Fence.wide.round=none:=rfl;obtain ⟨m,hm9⟩:∃ m,V.vs.length=m:=⟨_,rfl⟩;have HM:=Ξ hm9;have b0:W.cell? ⟨Bm,0,none⟩=some (.slice V.a m V.c):=by rw [←hm9];exact hm.cell 0
 have HR:=Ξ hm;have HV:=Ξ hV;have HVb:=Ξ hVb;have HBm:=Ξ hB;have HY:=Ξ hY;have I0:Hid (BackInv V J n0 W 0 [] W):=Ξ ⟨h0,Δ _ _,rfl,rfl⟩;rw [hm9] at hl;clear hm hV hVb hB hY h0 hJ h0n hm9;refine callsIn_of_wp func264 rfl trivial ?_ hro;simp only [ntmps264,List.size_toArray,List.length_cons,List.length_nil,Nat.reduceAdd,Nat.reduceSub,Array.replicate_succ,Array.replicate_zero,List.push_toArray,List.append_toArray,List.nil_append,List.cons_append];gi_wp2_with fail;clear b0
 gi_loopw [3] (fun u wr=>∃ k:Nat,k≤m∧u=.int .i64 ((m:Int)-1-(k:Int))∧Hid (∃ pre,BackInv V J n0 W k pre wr)) (fun u _=>(intOf u+1).toNat)
 case atStart=>exact ⟨0,by omega,by simp,Ξ ⟨_,I0.out⟩⟩
 case round=>
  obtain ⟨k,hk,rfl,hI⟩:=hrel;obtain ⟨pre,hI⟩:=hI.out;have HI:=Ξ hI;clear hI;have b0:wr.cell? ⟨Bm,0,none⟩=some (.slice V.a m V.c):=by have:=(HI.out.bl.cell (p:=⟨Bm,0,none⟩) HBm.out).trans (HR.out.cell 0);rw [this,←HM.out];rfl
  by_cases hlt:k<m
  ·have d1:decide ((0:Int)≤(m:Int)-1-(k:Int))=true:=Γ (by omega);obtain ⟨j,hj⟩:∃ j:Nat,(m:Int)-1-(k:Int)=(j:Int):=⟨m-1-k,by omega⟩;have HJ:=Ξ hj;have hjm:j<m:=(by omega);rw [hj] at d1 ⊢;obtain ⟨x,hx⟩:∃ x,V.vs[j]? = some x:=⟨_,List.getElem?_eq_getElem (by rw [HM.out];exact hjm)⟩;have hVr:=HV.out.below HI.out.bl HVb.out;obtain ⟨b,o,ha,hc⟩:=Vs.at_ hVr hx;have c0:=hc 0 (by omega);have c1:=hc 1 (by omega);have c2:=hc 2 (by omega);have c3:=hc 3 (by omega);have c4:=hc 4 (by omega);simp only [Ver.cells,List.getElem?_cons_zero,List.getElem?_cons_succ,Nat.add_zero] at c0 c1 c2 c3 c4;obtain ⟨fn,tmps,assign,body,hy,hR⟩:=HY.out pre (j,x) wr HI.out.j (by rw [HI.out.len,HM.out];exact hlt);have HX:=Ξ hx;unfold encV Ver.val Sl.v at hy;unfold Sl.v at c3 c4;rw [←Nat.add_assoc] at c1 c2 c3 c4;rw [ha] at b0;clear hc hx hVr ha hlt hj;gi_wp2_with fail;have CM:Hid ((pre++[(j,x)]).map (·.2)=V.vs.reverse.take (k+1)):=Ξ (by
     have hlr:k<V.vs.reverse.length:=by rw [List.length_reverse,HM.out];have:=HJ.out;omega
     rw [List.take_succ_eq_append_getElem hlr,List.map_append,HI.out.come];congr 1;simp only [List.map_cons,List.map_nil,List.getElem_reverse];have hx:=HX.out;have hjj:V.vs.length-1-k=j:=by rw [HM.out];have:=HJ.out;omega
     simp only [hjj];rw [List.getElem?_eq_getElem (by rw [HM.out];exact hjm),Option.some.injEq] at hx;rw [hx])
   refine hR.mono ?_;rintro e W3 (⟨rfl,hJ3,hb3⟩|⟨rfl,hJx3⟩)
   ·have N3:Hid (BackInv V J n0 W (k+1) (pre++[(j,x)]) W3):=Ξ ⟨hJ3,HI.out.bl.trans hb3,CM.out,by simp [HI.out.len]⟩;have hk1:Hid ((j:Int)-1=(m:Int)-1-((k+1:Nat):Int)∧k+1≤m):=Ξ (by have:=HJ.out;omega);clear hJ3 hb3 hR hy c0 c1 c2 c3 c4 b0;gi_wp2_with fail;go_roundw;case rel=>exact ⟨k+1,hk1.out.2,by rw [←hk1.out.1],Ξ ⟨_,N3.out⟩⟩
    case measure=>have:=HJ.out;simp [intOf];try omega
   ·gi_wp2_with fail;refine bodyPost_ret (results_none rfl _ _ _) rfl ?_;exact ⟨⟨_,rfl⟩,.inr ⟨_,⟨k+1,CM.out⟩,hJx3⟩⟩
  ·have e1:(m:Int)-1-(k:Int) = -1:=(by omega);have hkm:Hid (k=m):=Ξ (by omega);rw [e1];clear hlt b0 e1;gi_wp2_with fail
   go_end0
   have hc:=HI.out.come;rw [List.take_of_length_le (by rw [List.length_reverse,HM.out,hkm.out];exact Θ _)] at hc;exact ⟨⟨_,rfl⟩,.inl ⟨pre,hc,HI.out.j⟩⟩
theorem back_stops(n:Nat)(hn:1≤n)(Bm:Nat)(V:Vs)(w:World)(hm:Row w Bm #[V.v] tVrs)(hV:VsAt w V)(hl:V.vs.length≤1000000) :
  SeqStopsK Fence.wide n prog 264 #[.pointer (some ⟨Bm,0,none⟩)] encV (Below w.heap.size) (fun ys=>ys.map (·.2)=V.vs.reverse) (fun pre=>∃ k,pre.map (·.2)=V.vs.reverse.take k) V.vs.length w:=fun l J Jx W hW hJ _ hY h0=>
 back1_in n hn l Bm w.heap.size V J Jx W hJ hm.lt hV.ltb hW.size hY (hm.of_block (hW.block _ hm.lt)) (hV.below hW hV.ltb) hl h0
end Go.Proofs.YtcgmgdjeamidlaaGreat
