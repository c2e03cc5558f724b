/- Printed small by mini.py. -/
import Derived.Test.YtcgmgdjeamidlaaGreatMg06
import Derived.LoopTactic
namespace Go.Proofs.YtcgmgdjeamidlaaGreat
set_option maxRecDepth 100000
set_option maxHeartbeats 16000000
open Go.RowKit Go.ChangeShapes Go.WideShapes Go.ChangeAt Go.Proofs.Tryz
set_option linter.unusedVariables false
set_option linter.unusedSimpArgs false
set_option maxHeartbeats 4000000
structure BInv(w wr:World)(v:Value)(xs:List Int):Prop where
 own:wr.ownsRow w.heap.size 5 1 v xs.length (xs.map (Value.int .u8))
 bl:Below w.heap.size w wr
theorem BInv.nil(w:World):BInv w w (.slice none 0 0) []:=⟨World.ownsRow_nil _ _ _ _,Δ _ _⟩
theorem BInv.same{w wr y:World}{v:Value}{xs:List Int}(h:BInv w wr v xs)(k:Only [] wr y):BInv w y v xs:=⟨own_keep h.own fun b hb=>k.block b (h.own.lt b hb).2 (by simp),h.bl.trans (k.toBelow h.bl.size (by simp))⟩
theorem BInv.below{w wr y:World}{v:Value}{xs:List Int}(h:BInv w wr v xs)(k:Below wr.heap.size wr y):BInv w y v xs:=h.same ((Ω [] wr).below k)
theorem BInv.gives{w wr:World}{v:Value}{xs:List Int}(h:BInv w wr v xs):Gives xs w (.returned v) wr:=⟨v,rfl,h.own,h.bl⟩
theorem Gives.inv{xs:List Int}{w w':World}{e:Ending}(h:Gives xs w e w'):∃ v,e=.returned v∧BInv w w' v xs:=by obtain ⟨v,e,o,b⟩:=h;exact ⟨v,e,o,b⟩
theorem Gives.src{xs:List Int}{w w':World}{e:Ending}(h:Gives xs w e w'):∃ v,e=.returned v∧SrcOf w' v xs.length 1 (xs.map (Value.int .u8))∧Below w.heap.size w w':=by
 obtain ⟨v,e,o,b⟩:=h;refine ⟨v,e,?_,b⟩;have hl:=o.1;rcases o.2 with ⟨hv,h0⟩|⟨g,c,cur,hv,_⟩
 ·subst hv;exact .inl ⟨rfl,h0,List.length_eq_zero_iff.1 (by rw [hl,h0])⟩
 ·subst hv;exact .inr ⟨_,c,rfl,hl,o.cells (g:=g) rfl⟩
theorem one_src(w:World)(x:Int):SrcOf (w.alloc (.cells #[.int .u8 x] 5)) (.slice (some ⟨w.heap.size,0,none⟩) 1 1) [x].length 1 ([x].map (Value.int .u8)):=.inr ⟨_,1,rfl,rfl,fun j u hj=>by rcases j with _|j<;>simp at hj;subst hj;exact (Φ w #[.int .u8 x] 5).cell 0⟩
theorem wpList_app{w y:World}{ops:Array Oper}{rest:List Oper}{o:Oper}{a:Act}{Q:Exit→Act→World→Prop}(hgd:o.guard=none)(s x:Operand)
  (ho:o.op=.call { callee:=.builtin .append,args:=#[s,x],argTypes:=#[30,30] }) {v:Value} {xs:List Int} (hs:a.eval s=v) (hI:BInv w y v xs)
  {src:Value} {ys:List Int} (hx:a.eval x=src) (hsrc:SrcOf y src ys.length 1 (ys.map (Value.int .u8))) (hl:xs.length+ys.length≤4000000)
  (h:∀ v' w',BInv w w' v' (xs++ys)→wpList prog ops Q rest (a.put o.dst v') w'):wpList prog ops Q (o :: rest) a y:=by
 obtain ⟨i0',hi0,hz0,hz1,hz2⟩:=info_parts infoU8;rcases hsrc with ⟨rfl,h1,h2⟩|⟨ad,c,rfl,hl2,hn⟩
 ·have e:ys=[]:=List.length_eq_zero_iff.1 h1;subst e;exact wpList_append_own_none hgd s x 30 ho _ _ i0' 1 underlying30 hi0 v _ _ hs hI.own hx (h v y (by simpa using hI))
 ·refine wpList_append_at hgd s x 30 ho w.heap.size 5 i0' (.int .u8 0) 1 1 underlying30 hi0 hz0 hz1 hz2 rfl (by decide) v xs.length _ hs hI.own ad ys.length c _ hx hl2 hn (by simp [Value.oneCell']) (by unfold maxLen;omega) (by omega) hI.bl.size ?_;intro v' w' h1 h2 _;exact h v' w' ⟨by rw [List.length_append,List.map_append];exact h1,hI.bl.trans (((Ω v.ownBlock.toList y).grown h2 (fun k hk=>.inl (by simp [hk]))).toBelow hI.bl.size fun b hb=>(hI.own.lt b (by simpa using hb)).1)⟩
theorem rfix_on(n:Int)(k:Nat)(h0:0≤n)(h1:n<18446744073709551616)(hk:k≤8)(w:World):Calls prog 44 #[.int .u64 n,.int .i64 (k:Int)] w (Gives (leB n k) w):=by
 have H1:=Ξ h1;have HK:=Ξ hk;have I0:=Ξ (BInv.nil w);clear h1 hk;go_enter func44,ntmps44;go_wp2_with fail;go_loopw [5,6] (fun v u wr=>∃ i:Nat,u=.int .i64 i∧Hid (i≤k)∧Hid (BInv w wr v (leB n i))) (fun _ u _=>k-(intOf u).toNat)
 case atStart=>exact ⟨0,rfl,Ξ (Nat.zero_le _),I0⟩
 case round=>
  clear I0;obtain ⟨i,rfl,hi,HI⟩:=hrel;have i0:(0:Int)≤(i:Int):=Int.natCast_nonneg _;by_cases hlt:i<k
  ·have d1:decide ((i:Int)<(k:Int))=true:=Γ (by omega);have d1':decide (i<k)=true:=Γ hlt;have i2:(i:Int)<8:=by have:=HK.out;omega
   have i3:Hid (i+1≤k):=Ξ hlt;clear hlt;go_wp2_with (at_builtin;refine wpList_app rfl (.tmp 12) (.tmp 19) rfl rfl (HI.out.same ((Ω [] wr).alloc _)) (ys:=[leAt n i]) rfl (.inr ⟨_,1,rfl,rfl,fun q u hq=>by rcases q with _|q<;>simp at hq<;>subst hq<;>simp [go_sem,leAt]⟩) (by rw [leB_len];have:=HK.out;simp;omega) ?_);intro v5 w5 hI5;have F2:Hid (BInv w w5 v5 (leB n (i+1))):=Ξ (by rw [leB_succ];exact hI5);clear hI5;go_wp2_with fail;go_roundw;case rel=>exact ⟨i+1,by go_num,i3,F2⟩
   case measure=>have:=i3.out;simp [intOf];omega
  ·have d1:decide ((i:Int)<(k:Int))=false:=Λ (by omega);have d1':decide (i<k)=false:=Λ hlt;obtain rfl:i=k:=by have:=hi.out;omega
   go_wp2_with fail;go_ret;exact HI.out.gives
end Go.Proofs.YtcgmgdjeamidlaaGreat
