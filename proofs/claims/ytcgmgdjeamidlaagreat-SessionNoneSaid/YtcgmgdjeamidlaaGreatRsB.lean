/- Printed small by mini.py. -/
import Derived.Test.YtcgmgdjeamidlaaGreatRsA
namespace Go.Proofs.YtcgmgdjeamidlaaGreat
set_option maxRecDepth 100000
set_option maxHeartbeats 16000000
open Go.RowKit Go.ChangeShapes Go.WideShapes Go.ChangeAt Go.Proofs.Tryz
set_option linter.unusedVariables false
set_option linter.unusedSimpArgs false
set_option maxHeartbeats 4000000
theorem ruv_on(n:Nat)(h1:n<18446744073709551616)(w:World):Calls prog 46 #[.int .u64 (n:Int)] w (Gives (uvB n) w):=by
 have HU:=Ξ (uvB_len 10 n (by omega) (by omega));have H1:=Ξ h1;have I0:=Ξ (BInv.nil w);clear h1;go_enter func46,ntmps46;go_wp2_with fail;go_loopw [0,3] (fun u v wr=>∃ (m:Nat) (pre:List Int),u=.int .u64 (m:Int)∧Hid (m<18446744073709551616∧pre++uvB m=uvB n)∧Hid (BInv w wr v pre)) (fun u _ _=>(intOf u).toNat)
 case atStart=>exact ⟨n,[],rfl,Ξ ⟨H1.out,rfl⟩,I0⟩
 case round=>
  clear I0;obtain ⟨m,pre,rfl,HM,HI⟩:=hrel;have m0:(0:Int)≤(m:Int):=Int.natCast_nonneg _;by_cases hlt:128≤m
  ·have d1:decide ((128:Int)≤(m:Int))=true:=Γ (by omega);have d1':decide (128≤m)=true:=Γ hlt;have N:Hid (pre++[((m % 128+128:Nat):Int)]++uvB (m / 128)=uvB n∧m / 128<m∧m / 128<18446744073709551616):=Ξ ⟨by have h:=HM.out.2;rw [uvB_big (by omega)] at h;simpa using h,by omega,by have:=HM.out.1;omega⟩;have ed:IntKind.u64.wrap ((m:Int) / 128)=((m / 128:Nat):Int):=by show ((m:Int) / 128) % 18446744073709551616=_;have:=HM.out.1;omega
   clear hlt;go_wp2_with (at_builtin;refine wpList_app rfl (.tmp 6) (.tmp 11) rfl rfl (HI.out.same ((Ω [] wr).alloc _)) (ys:=[((m % 128+128:Nat):Int)]) rfl (.inr ⟨_,1,rfl,rfl,fun q u hq=>by rcases q with _|q<;>simp at hq<;>subst hq<;>simp [go_sem]⟩) (by have h:=congrArg List.length HM.out.2;have:=HU.out;simp at h ⊢;omega) ?_);intro v5 w5 hI5;have F2:=Ξ hI5;clear hI5;go_wp2_with fail;go_roundw;case rel=>exact ⟨m / 128,_,by go_num,Ξ ⟨N.out.2.2,N.out.1⟩,F2⟩
   case measure=>have:=N.out.2.1;simp [intOf];omega
  ·have d1:decide ((128:Int)≤(m:Int))=false:=Λ (by omega);have d1':decide (128≤m)=false:=Λ hlt;have N:Hid (pre++[(m:Int)]=uvB n):=Ξ (by have h:=HM.out.2;rw [uvB_small (by omega)] at h;exact h);have ML:Hid (m<128):=Ξ (by omega);clear hlt;go_wp2_with (at_builtin;refine wpList_app rfl (.tmp 15) (.tmp 18) rfl rfl (HI.out.same ((Ω [] wr).alloc _)) (ys:=[(m:Int)]) rfl (.inr ⟨_,1,rfl,rfl,fun q u hq=>by rcases q with _|q<;>simp at hq<;>subst hq<;>(have:=ML.out;simp [go_sem];omega)⟩) (by have h:=congrArg List.length HM.out.2;have:=HU.out;simp at h ⊢;omega) ?_);intro v5 w5 hI5;have F2:Hid (BInv w w5 v5 (uvB n)):=Ξ (by rw [←N.out];exact hI5);clear hI5;go_wp2_with fail;go_ret;exact F2.out.gives
theorem rtext_on{s:Sl}{w:World}(hs:SlRd .u8 w s)(hl:s.xs.length≤1000000):Calls prog 47 #[s.v] w (Gives (textB s.xs) w):=by
 have S1:=Ξ hs;have HL:=Ξ hl;have HU:=Ξ (uvB_len 10 s.xs.length (by omega) (by omega));obtain ⟨n,hn⟩:∃ n,s.xs.length=n:=⟨_,rfl⟩;have U:=Ξ (ruv_on n (by omega) w);have en:IntKind.u64.wrap (n:Int)=(n:Int):=by show (n:Int) % 18446744073709551616=_;omega
 obtain ⟨v,hv⟩:∃ v,v=s.v:=⟨_,rfl⟩;have lv:∃ a c,v=.slice a n c:=⟨s.a,s.c,by rw [hv,←hn];rfl⟩;rw [←hv];obtain ⟨a,c,rfl⟩:=lv;have HN:=Ξ hn;have HV:=Ξ hv;clear hs hl hn hv;go_enter func47,ntmps47;go_wp2_with fail;refine U.out.mono ?_;intro e w1 hg;obtain ⟨v1,rfl,hI⟩:=hg.inv;have HI:=Ξ hI;have SR:Hid (SrcOf w1 (.slice a n c) s.xs.length 1 (s.xs.map (Value.int .u8))):=Ξ (by have h:=(S1.out.only ((Ω [] w).below hI.bl) (by simp)).src;rw [←HV.out] at h;exact h)
 clear hg hI U;go_wp2_with (at_builtin;refine wpList_app rfl (.tmp 8) (.tmp 9) rfl rfl HI.out rfl SR.out (by have:=HU.out;have:=HN.out;have:=HL.out;rw [←HN.out];omega) ?_);intro v5 w5 hI5;have F2:Hid (BInv w w5 v5 (textB s.xs)):=Ξ (by unfold textB;rw [HN.out];exact hI5);clear hI5;go_wp2_with fail;go_ret;exact F2.out.gives
theorem rfloats_on{s:Sl}{w:World}(hs:SlRd .u64 w s)(hq:∀ x∈s.xs,0≤x∧x<18446744073709551616)(hl:s.xs.length≤10000):Calls prog 82 #[s.v] w (Gives (uvB s.xs.length++flsB s.xs) w):=by
 obtain ⟨a,c,xs⟩:=s;simp only at hq hl ⊢;have S1:=Ξ hs;have HL:=Ξ hl;have HQ:=Ξ hq;have HU:=Ξ (uvB_len 10 xs.length (by omega) (by omega));obtain ⟨n,hn⟩:∃ n,xs.length=n:=⟨_,rfl⟩;have U:=Ξ (ruv_on n (by omega) w);have en:IntKind.u64.wrap (n:Int)=(n:Int):=by show (n:Int) % 18446744073709551616=_;omega
 rw [hn] at HL HU ⊢;have HN:=Ξ hn;unfold Sl.v;rw [hn];clear hs hl hn hq;go_enter func82,ntmps82;go_wp2_with fail;refine U.out.mono ?_;intro e w1 hg;obtain ⟨v1,rfl,hI⟩:=hg.inv;have I0:Hid (BInv w w1 v1 (uvB n++flsB (xs.take 0))):=Ξ (by simpa [flsB] using hI);clear hg hI U;go_wp2_with fail;go_loopw [3,4] (fun v u wr=>∃ i:Nat,u=.int .i64 (i:Int)∧Hid (i≤n)∧Hid (BInv w wr v (uvB n++flsB (xs.take i)))) (fun _ u _=>n-(intOf u).toNat)
 case atStart=>exact ⟨0,rfl,Ξ (Nat.zero_le _),I0⟩
 case round=>
  clear I0;obtain ⟨i,rfl,hi,HI⟩:=hrel;have ej:IntKind.i64.wrap ((i:Int)+1)=((i+1:Nat):Int):=IntWalk.i64_in _ (by have:=hi.out;have:=HL.out;omega);by_cases hlt:i<n
  ·have d1:decide ((i:Int)<(n:Int))=true:=Γ (by omega);have d1':decide (i<n)=true:=Γ hlt;have i2:(i:Int)<(n:Int):=(by omega);have i3:Hid (i+1≤n):=Ξ hlt;obtain ⟨x,hx⟩:∃ x,xs[i]? = some x:=⟨_,List.getElem?_eq_getElem (by rw [HN.out];exact hlt)⟩;have hxq:=HQ.out x (List.mem_of_getElem? hx);have KW:=Ξ ((Ω [] w).below HI.out.bl);obtain ⟨b,o,hsa,cy⟩:=(S1.out.only KW.out (by simp)).at_ hx;have cx:=cy i x hx;simp only at hsa;subst hsa;have FX:=Ξ (rfix_on x 8 hxq.1 hxq.2 (by omega) wr);have EX:Hid (flsB (xs.take (i+1))=flsB (xs.take i)++leB x 8):=Ξ (by unfold flsB;rw [List.take_add_one,hx,List.flatMap_append];simp);have LL:Hid ((flsB (xs.take i)).length≤8 * n):=Ξ (by rw [flsB_len,List.length_take];omega);clear hlt hx hxq cy;go_wp2_with fail;refine FX.out.mono ?_;intro e w3 hg;obtain ⟨v3,rfl,hsr,hb3⟩:=hg.src;have SR:=Ξ hsr;have I3:=Ξ (HI.out.below hb3);clear hg hsr hb3 FX cx;go_wp2_with (at_builtin;refine wpList_app rfl (.tmp 15) (.tmp 20) rfl rfl I3.out rfl SR.out (by have:=HU.out;have:=LL.out;have:=HL.out;rw [leB_len,List.length_append];omega) ?_);intro v5 w5 hI5;have F2:Hid (BInv w w5 v5 (uvB n++flsB (xs.take (i+1)))):=Ξ (by rw [EX.out];simpa using hI5);clear hI5;go_wp2_with fail;go_roundw;case rel=>exact ⟨i+1,by go_num,i3,F2⟩
   case measure=>have:=i3.out;simp [intOf];omega
  ·have d1:decide ((i:Int)<(n:Int))=false:=Λ (by omega);have d1':decide (i<n)=false:=Λ hlt;obtain rfl:i=n:=by have:=hi.out;omega
   have F2:Hid (BInv w wr u3 (uvB i++flsB xs)):=Ξ (by have h:=HI.out;rw [List.take_of_length_le (by rw [HN.out];exact Θ _)] at h;exact h);clear HI;go_wp2_with fail;go_ret;exact F2.out.gives
end Go.Proofs.YtcgmgdjeamidlaaGreat
