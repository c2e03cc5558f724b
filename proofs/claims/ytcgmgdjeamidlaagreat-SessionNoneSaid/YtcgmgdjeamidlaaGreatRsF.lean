/- Printed small by mini.py. -/
import Derived.Test.YtcgmgdjeamidlaaGreatRsE
namespace Go.Proofs.YtcgmgdjeamidlaaGreat
set_option maxRecDepth 100000
set_option maxHeartbeats 16000000
open Go.RowKit Go.ChangeShapes Go.WideShapes Go.ChangeAt Go.Proofs.Tryz
set_option linter.unusedVariables false
set_option linter.unusedSimpArgs false
set_option maxHeartbeats 4000000
theorem pow9{m i:Nat}(h:m * 128 ^ i<18446744073709551616)(h9:i=9):m≤1:=by subst h9;omega
theorem sh_amt(i:Nat)(h:i≤9):min (IntKind.u64.wrap (wrap64 (7 * (i:Int)))).toNat 64=7 * i:=by
 have e1:wrap64 (7 * (i:Int))=((7 * i:Nat):Int):=by unfold wrap64;omega
 rw [e1];clear e1;have e2:IntKind.u64.wrap ((7 * i:Nat):Int)=((7 * i:Nat):Int):=by rw [show IntKind.u64.wrap ((7 * i:Nat):Int)=((7 * i:Nat):Int) % 18446744073709551616 from rfl];omega
 rw [e2];clear e2;rw [Int.toNat_natCast];omega
theorem rcount_ok{s:Sl}{w:World}(hs:SlRd .u8 w s)(hb:IsBy s.xs){n:Nat}{rest:List Int}(hx:s.xs=uvB n++rest)(hn:n<18446744073709551616) :
  Calls prog 79 #[s.v] w fun e w'=>e=.returned (.tuple #[.int .u64 (n:Int),.int .i64 ((uvB n).length:Int)])∧w'=w:=by
 have HU:=Ξ (uvB_len 10 n (by omega) (by omega));obtain ⟨a,c,xs⟩:=s;simp only at hb hx;have HC:Hid (∀ i z,xs[i]? = some z→∃ b o,a=some ⟨b,o,none⟩∧w.cell? ⟨b,o+i,none⟩=some (.int .u8 z)):=Ξ fun i z hz=>by obtain ⟨b,o,h2,h3⟩:=hs.at_ hz;exact ⟨b,o,h2,h3 i z hz⟩
 have HL:=Ξ hs.le;have HB:=Ξ hb;have HX:=Ξ hx;have HN:=Ξ hn;obtain ⟨l,hl⟩:∃ l,xs.length=l:=⟨_,rfl⟩;have LX:=Ξ hl;unfold Sl.v;simp only;rw [hl];clear hs hb hx hn hl;go_enter func79,ntmps79;go_wp2_with fail;go_loopw [4,5] (fun x u wr=>∃ (i m acc:Nat),u=.int .i64 (i:Int)∧x=.int .u64 (acc:Int)∧Hid (xs.drop i=uvB m++rest∧acc+m * 128 ^ i=n∧i≤9∧acc<128 ^ i∧(i=0∨0<m)∧i+(uvB m).length=(uvB n).length)∧wr=w) (fun _ u _=>10-(intOf u).toNat)
 case atStart=>exact ⟨0,n,0,rfl,rfl,Ξ ⟨HX.out,by omega,by omega,by omega,.inl rfl,by omega⟩,rfl⟩
 case round=>
  obtain ⟨i,m,acc,rfl,rfl,HI,hw⟩:=hrel;have hw:=hw.symm;subst hw;have i0:(0:Int)≤(i:Int):=Int.natCast_nonneg _;have ej:IntKind.i64.wrap ((i:Int)+1)=((i+1:Nat):Int):=IntWalk.i64_in _ (by have:=HI.out.2.2.1;omega);have PM:Hid (m * 128 ^ i<18446744073709551616):=Ξ (by have:=HI.out.2.1;have:=HN.out;omega);have hne:0<(uvB m).length:=by
   by_cases h:m<128
   ·rw [uvB_small h];simp
   ·rw [uvB_big h];simp
  have hil:i<l:=by have h:=congrArg List.length HI.out.1;rw [List.length_drop,List.length_append,LX.out] at h;omega
  have d1:decide ((i:Int)<(l:Int))=true:=Γ (by omega);have d1':decide (i<l)=true:=Γ hil;have j3:(i:Int)<(l:Int):=by omega
  have d2:decide ((i:Int)<10)=true:=Γ (by have:=HI.out.2.2.1;omega);have d2':decide (i<10)=true:=Γ (by have:=HI.out.2.2.1;omega);obtain ⟨z,hz⟩:∃ z:Nat,xs[i]? = some (z:Int)∧z<256:=HB.out.at_ (by rw [LX.out];exact hil);obtain ⟨hz,hz2⟩:=hz;obtain ⟨g,o,rfl,l1⟩:=HC.out i _ hz;have hd:=drop_step hz;rw [HI.out.1] at hd;have ES:=Ξ (sh_amt i HI.out.2.2.1);have EJ:=Ξ ej;clear ej;by_cases hm:m<128
  ·have ez:z=m:=by rw [uvB_small hm] at hd;simp at hd;omega
   subst ez;have q1:i=9→z≤1:=pow9 PM.out;have h4:(decide ((i:Int)=9)=false∧((i:Int) == 9)=false∧decide (i=9)=false)∨(decide ((i:Int)=9)=true∧((i:Int) == 9)=true∧decide (i=9)=true∧decide ((1:Int)<(z:Int))=false∧decide (1<z)=false):=by
    by_cases h9:i=9
    ·exact .inr ⟨Γ (by omega),by simp;omega,Γ h9,Λ (by have:=q1 h9;omega),Λ (by have:=q1 h9;omega)⟩
    ·exact .inl ⟨Λ (by omega),by simp;omega,Λ h9⟩
   have O:bits .or .u64 (acc:Int) (IntKind.u64.wrap ((z:Int) % 128 * 2 ^ (7 * i)))=(acc:Int)+(z:Int) % 128 * 128 ^ i:=cnt_or HI.out.2.2.1 (by omega) (by have h:=HI.out.2.2.2.1;have h2:=Int.ofNat_lt.2 h;rwa [Int.natCast_pow] at h2) (by omega) (by omega) (by intro h;have:=q1 h;omega);have EN:(acc:Int)+(z:Int) % 128 * 128 ^ i=(n:Int):=by
    have h:=HI.out.2.1;have e:((acc+z * 128 ^ i:Nat):Int)=(acc:Int)+(z:Int) * 128 ^ i:=by rw [Int.natCast_add,Int.natCast_mul,Int.natCast_pow];rfl
    rw [←h,e,show (z:Int) % 128=(z:Int) by omega]
   rw [EN] at O;have wv:IntKind.u64.wrap ((z:Int) % 128)=(z:Int) % 128:=by show (z:Int) % 128 % 18446744073709551616=_;omega
   have d3:decide ((z:Int)<128)=true:=Γ (by omega);have d3':decide (z<128)=true:=Γ hm;have h5:(decide ((z:Int)=0)=true∧((z:Int) == 0)=true∧decide (z=0)=true∧decide ((0:Int)<(i:Int))=false∧decide (0<i)=false)∨(decide ((z:Int)=0)=false∧((z:Int) == 0)=false∧decide (z=0)=false):=by
    by_cases h0:z=0
    ·have:=HI.out.2.2.2.2.1;exact .inl ⟨Γ (by omega),by simp;omega,Γ h0,Λ (by omega),Λ (by omega)⟩
    ·exact .inr ⟨Λ (by omega),by simp;omega,Λ h0⟩
   have ER:((i+1:Nat):Int)=((uvB n).length:Int):=by have h:=HI.out.2.2.2.2.2;rw [uvB_small hm] at h;simp at h;omega
   have ej:=EJ.out;have OH:=Ξ O;rw [ER] at ej;clear hz hd hm hz2 q1 EN hil hne ER O;rcases h4 with ⟨g1,g2,g3⟩|⟨g1,g2,g3,g4,g5⟩<;>rcases h5 with ⟨k1,k2,k3,k4,k5⟩|⟨k1,k2,k3⟩;all_goals
    go_wp2_with fail;go_ret2;refine ⟨congrArg (fun y=>Ending.returned (.tuple #[.int .u64 y,.int .i64 ((uvB n).length:Int)])) (?_:bits .or .u64 (acc:Int) (IntKind.u64.wrap ((z:Int) % 128 * 2 ^ min (IntKind.u64.wrap (wrap64 (7 * (i:Int)))).toNat 64))=(n:Int)),rfl⟩;rw [ES.out];exact OH.out
  ·have ez:z=m % 128+128:=by rw [uvB_big hm] at hd;simp at hd;omega
   have hr2:xs.drop (i+1)=uvB (m / 128)++rest:=by rw [uvB_big hm] at hd;simp at hd;exact hd.2.symm
   have i9:i≤8:=by
    have h9:=HI.out.2.2.1;by_cases h:i=9
    ·have:=pow9 PM.out h;omega
    ·omega
   have g1:decide ((i:Int)=9)=false:=Λ (by omega);have g2:((i:Int) == 9)=false:=by simp;omega
   have g3:decide (i=9)=false:=Λ (by omega);have O:bits .or .u64 (acc:Int) (IntKind.u64.wrap ((z:Int) % 128 * 2 ^ (7 * i)))=(acc:Int)+(z:Int) % 128 * 128 ^ i:=cnt_or HI.out.2.2.1 (by omega) (by have h:=HI.out.2.2.2.1;have h2:=Int.ofNat_lt.2 h;rwa [Int.natCast_pow] at h2) (by omega) (by omega) (by intro h;omega);have EN:(acc:Int)+(z:Int) % 128 * 128 ^ i=((acc+m % 128 * 128 ^ i:Nat):Int):=by rw [Int.natCast_add,Int.natCast_mul,Int.natCast_pow,show (z:Int) % 128=((m % 128:Nat):Int) by omega];rfl
   rw [EN] at O;have wv:IntKind.u64.wrap ((z:Int) % 128)=(z:Int) % 128:=by show (z:Int) % 128 % 18446744073709551616=_;omega
   have d3:decide ((z:Int)<128)=false:=Λ (by omega);have d3':decide (z<128)=false:=Λ (by omega);have NX:Hid (xs.drop (i+1)=uvB (m / 128)++rest∧acc+m % 128 * 128 ^ i+m / 128 * 128 ^ (i+1)=n∧i+1≤9∧acc+m % 128 * 128 ^ i<128 ^ (i+1)∧(i+1=0∨0<m / 128)∧i+1+(uvB (m / 128)).length=(uvB n).length):=Ξ (by
    have h1:=HI.out.2.1;have h2:=HI.out.2.2.2.1;have h3:=HI.out.2.2.2.2.2;rw [uvB_big hm] at h3;simp only [List.length_cons] at h3;have p:0<128 ^ i:=Nat.pow_pos (by omega);have e1:m % 128 * 128 ^ i≤127 * 128 ^ i:=Nat.mul_le_mul_right _ (by omega);have e2:m * 128 ^ i=m % 128 * 128 ^ i+m / 128 * 128 ^ (i+1):=by rw [Nat.pow_succ,Nat.mul_comm (128 ^ i) 128,←Nat.mul_assoc,←Nat.add_mul];congr 1;omega
    have e3:128 ^ (i+1)=128 * 128 ^ i:=by rw [Nat.pow_succ,Nat.mul_comm]
    refine ⟨hr2,by omega,by omega,by omega,.inr (by omega),by omega⟩)
   clear hz hd hm hz2 EN hil hne ez hr2 i9;have ej:=EJ.out;have OH:=Ξ O;clear O;go_wp2_with fail;go_roundw;case rel=>exact ⟨i+1,m / 128,acc+m % 128 * 128 ^ i,by go_num,congrArg (Value.int .u64) (show bits .or .u64 (acc:Int) (IntKind.u64.wrap ((z:Int) % 128 * 2 ^ min (IntKind.u64.wrap (wrap64 (7 * (i:Int)))).toNat 64))=_ by rw [ES.out];exact OH.out),NX,by trivial⟩
   case measure=>have:=NX.out.2.2.1;simp [intOf];omega
def UvrTo(r n:Nat)(rest:List Int)(w:World)(z:Ending)(w':World):Prop:=z=.returned (.int .u64 (n:Int))∧RrAt w' r rest∧Only [r] w w'
theorem ruvr_ok{r n:Nat}{rest:List Int}{w:World}(h:RrAt w r (uvB n++rest))(hb:IsBy (uvB n++rest))(hn:n<18446744073709551616) :
  Calls prog 39 #[.pointer (some ⟨r,0,none⟩)] w (UvrTo r n rest w):=by
 obtain ⟨s,hx,hr,hs,hne,hc⟩:=h.at_;have CG:=Ξ (rcount_ok hs (by rw [hx];exact hb) hx hn);have up:=uvB_pos n;obtain ⟨k,hk⟩:∃ k,(uvB n).length=k:=⟨_,rfl⟩;rw [hk] at CG up;have kl:k≤s.xs.length:=by rw [hx,List.length_append];omega
 have N:Hid (UvrTo r n rest w (.returned (.int .u64 (n:Int))) (w.setCell ⟨r,0,none⟩ (s.cut k s.xs.length).v)):=Ξ ⟨rfl,by
  have h:=RrAt.cutAt hr hs (by rw [hx];exact hne) (by rw [hx];exact hc) kl;have e:s.xs.drop k=rest:=by rw [hx,←hk,List.drop_left]
  rw [e] at h;exact h,(Ω [r] w).setCell (.inl (by simp)) _⟩
 have c0:=hr.c 0 (.slice s.a s.xs.length s.c);have c1:=hr.c 1 (.int .i64 0);have f0:=hr.free 0;have e2:∀ y:World,(Instr.slice 30 (.slice s.a s.xs.length s.c) (some (.int .i64 (k:Int))) none none).run prog y=.ok (s.cut k s.xs.length).v y:=fun y=>run_tail underlying30 infoBy .i64 s kl y;have ev2:(s.cut k s.xs.length).v=.slice (s.cut k s.xs.length).a (s.xs.length-k) (s.cut k s.xs.length).c:=by unfold Sl.v;rw [Sl.cut_len s (by omega) (Θ _)]
 have d0:decide ((k:Int)=0)=false:=Λ (by omega);have d0':((k:Int) == 0)=false:=by simp;omega
 rw [ev2] at e2 N;generalize (s.cut k s.xs.length).a=a2 at *;generalize (s.cut k s.xs.length).c=k2 at *;unfold Sl.v at CG;clear h hr hs hne hc hb hn kl ev2 hk up hx;go_enter func39,ntmps39;go_wp2_with fail;refine CG.out.mono ?_;rintro _ w' ⟨rfl,hw'⟩;subst w';go_wp2_with fail;go_ret;exact N.out
def TxrTo(r:Nat)(p rest:List Int)(w:World)(z:Ending)(w':World):Prop:=∃ v,z=.returned v∧w'.ownsRow w.heap.size 5 1 v p.length (p.map (Value.int .u8))∧RrAt w' r rest∧Only [r] w w'
theorem rtxt_ok{r:Nat}{p rest:List Int}{w:World}(h:RrAt w r (textB p++rest))(hb:IsBy (textB p++rest))(most:Nat)(hm:p.length≤most)(hm2:most≤1000000) :
  Calls prog 40 #[.pointer (some ⟨r,0,none⟩),.int .i64 (most:Int)] w (TxrTo r p rest w):=by
 obtain ⟨s,hx,hr,hs,hne,hc⟩:=h.at_;have hx':s.xs=uvB p.length++(p++rest):=by rw [hx];unfold textB;simp
 obtain ⟨n,hn⟩:∃ n,p.length=n:=⟨_,rfl⟩;rw [hn] at hx' hm;have CG:=Ξ (rcount_ok hs (by rw [hx];exact hb) hx' (by omega));have up:=uvB_pos n;obtain ⟨k,hk⟩:∃ k,(uvB n).length=k:=⟨_,rfl⟩;rw [hk] at CG up;obtain ⟨m,hmm⟩:∃ m,s.xs.length=m:=⟨_,rfl⟩;have hle:=hs.le;have hml:m=k+(n+rest.length):=by rw [←hmm,hx',List.length_append,List.length_append,hk,hn]
 have hcs:s.xs.length≤s.c:=by rw [hx];exact hc
 rw [hmm] at hle;have mx:max (0:Int) (most:Int)=(most:Int):=by omega
 have mx':max (most:Int) 0=(most:Int):=by omega
 have mw:IntKind.u64.wrap (most:Int)=(most:Int):=by rw [show IntKind.u64.wrap (most:Int)=(most:Int) % 18446744073709551616 from rfl];omega
 have db:decide ((most:Int)<(n:Int))=false:=Λ (by omega);have db':decide (most<n)=false:=Λ (by omega);obtain ⟨q,hqq⟩:∃ q,m-k=q:=⟨_,rfl⟩;have es:IntKind.i64.wrap ((m:Int)-(k:Int))=(q:Int):=by rw [show (m:Int)-(k:Int)=((m-k:Nat):Int) by omega,hqq];exact IntWalk.i64_in _ (by omega)
 have es':wrap64 ((m:Int)-(k:Int))=(q:Int):=by rw [show (m:Int)-(k:Int)=((m-k:Nat):Int) by omega,hqq];unfold wrap64;omega
 have eu:IntKind.u64.wrap (q:Int)=(q:Int):=by rw [show IntKind.u64.wrap (q:Int)=(q:Int) % 18446744073709551616 from rfl];omega
 have dl:decide ((q:Int)<(n:Int))=false:=Λ (by omega);have dl':decide (q<n)=false:=Λ (by omega);have wn:IntKind.i64.wrap (n:Int)=(n:Int):=IntWalk.i64_in _ (by omega);obtain ⟨j,hj⟩:∃ j,k+n=j:=⟨_,rfl⟩;have wj:IntKind.i64.wrap ((k:Int)+(n:Int))=(j:Int):=by rw [show (k:Int)+(n:Int)=(j:Int) by omega];exact IntWalk.i64_in _ (by omega)
 have e1:∀ y:World,(Instr.slice 30 (.slice s.a m s.c) (some (.int .i64 (k:Int))) (some (.int .i64 (j:Int))) none).run prog y=.ok (s.cut k j).v y:=fun y=>by rw [←hmm];exact run_cut underlying30 infoBy .i64 .i64 s (by omega) (by omega) hcs y
 have e2:∀ y:World,(Instr.slice 30 (.slice s.a m s.c) (some (.int .i64 (j:Int))) none none).run prog y=.ok (s.cut j m).v y:=fun y=>by rw [←hmm];exact run_tail underlying30 infoBy .i64 s (by omega) y
 have EX:Hid ((s.cut k j).xs=p):=Ξ (by unfold Sl.cut;simp only;rw [show j-k=n by omega,hx',←hk,List.drop_left,←hn,List.take_left]);have ER:Hid (s.xs.drop j=rest):=Ξ (by rw [hx',←List.append_assoc,←hj];exact List.drop_left' (by rw [List.length_append,hk,hn]));have SC:=Ξ (hs.cut (l:=k) (k:=j) (by omega) (by omega) hcs);have HR:=Ξ (Ψ hr (Ψ hs (Ψ (show s.xs≠[]→∀ b∈s.bs,b<r by rw [hx];exact hne) hcs)));have JM:Hid (j≤m∧n≤1000000):=Ξ ⟨by omega,by omega⟩;have c0:w.cell? ⟨r,0,none⟩=some (.slice s.a m s.c):=by rw [←hmm];exact hr.cell 0
 have c1:=hr.c 1 (.int .i64 0);have d0:decide ((k:Int)=0)=false:=Λ (by omega);have d0':((k:Int) == 0)=false:=by simp;omega
 have HMM:=Ξ hmm;have HNN:=Ξ hn;obtain ⟨v1,hv1⟩:∃ v,v=(s.cut k j).v:=⟨_,rfl⟩;rw [←hv1] at e1;have V1:=Ξ hv1;have ev2:(s.cut j m).v=.slice (s.cut j m).a (m-j) (s.cut j m).c:=by unfold Sl.v;rw [Sl.cut_len s (by omega) (by omega)]
 have EV2:=Ξ ev2;rw [ev2] at e2;generalize m-j=ll at *;generalize (s.cut j m).a=a2 at *;generalize (s.cut j m).c=k2 at *;have B0:Hid (BInv w (w.alloc (.cells #[] 5)) (.slice (some ⟨w.heap.size,0,none⟩) 0 0) []):=Ξ ⟨World.ownsRow_lit w #[] 0 (Θ _) (by unfold maxLen;omega) rfl,(Δ _ w).alloc (Θ _) _⟩;have r0:(w.alloc (.cells #[] 5)).cell? ⟨r,0,none⟩=some (.slice s.a m s.c):=by rw [←hmm];exact (hr.only ((Ω [] w).alloc _) (by simp)).cell 0
 unfold Sl.v at CG;rw [hmm] at CG;clear h hr hs hne hc hb hn ev2 hk up hx hx' hle hml hcs hm hm2 hmm hqq hj hv1;go_enter func40,ntmps40;go_wp2_with fail;refine CG.out.mono ?_;rintro _ w' ⟨rfl,hw'⟩;subst w';go_wp2_with (at_builtin;refine wpList_app rfl (.tmp 47) (.tmp 57) rfl rfl B0.out (ys:=p) rfl (by have h:=(SC.out.only ((Ω [] w).alloc (.cells #[] 5)) (by simp)).src;rw [←V1.out,EX.out] at h;exact h) (by have:=JM.out;have:=HNN.out;simp;omega) ?_);intro v5 w5 hI5;have I5:=Ξ hI5;have K5:=Ξ ((Ω [] w).below hI5.bl);have r5:=HR.out.1.only K5.out (by simp);have z0:w5.cell? ⟨r,0,none⟩=some (.slice s.a m s.c):=by rw [←HMM.out];exact r5.cell 0
 have y0:=r5.free 0;have N:Hid (TxrTo r p rest w (.returned v5) (w5.setCell ⟨r,0,none⟩ (.slice a2 ll k2))):=Ξ (by have h:=RrAt.cutAt (k:=j) r5 (HR.out.2.1.only K5.out (by simp)) HR.out.2.2.1 HR.out.2.2.2 (by rw [HMM.out];exact JM.out.1);rw [HMM.out,EV2.out,ER.out] at h;have k6:Only [r] w5 (w5.setCell ⟨r,0,none⟩ (.slice a2 ll k2)):=(Ω [r] w5).setCell (.inl (by simp)) _;have ho:=I5.out.own;exact ⟨v5,rfl,own_keep ho fun b hb=>k6.block b (ho.lt b hb).2 (by have:=(ho.lt b hb).1;have:=HR.out.1.lt;simp;omega),h,(K5.out.mono (by simp)).trans k6 (by intro i hi;left;exact hi)⟩)
 clear hI5 r5 c0 r0;go_wp2_with fail;go_ret;exact N.out
end Go.Proofs.YtcgmgdjeamidlaaGreat
