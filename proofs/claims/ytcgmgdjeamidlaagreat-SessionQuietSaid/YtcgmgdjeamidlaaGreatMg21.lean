/- Texts of one proof, joined. -/
import Derived.Test.YtcgmgdjeamidlaaGreatMg15
import Derived.Test.YtcgmgdjeamidlaaGreatSoL
import Derived.Laws.BitsAllLaws
import Derived.Lib.SliceRun
namespace Go.Proofs.YtcgmgdjeamidlaaGreat
set_option maxRecDepth 100000
set_option maxHeartbeats 16000000
open Go.RowKit Go.ChangeShapes Go.WideShapes Go.ChangeAt Go.Proofs.Tryz
open Go.Sort (swp ltInt)
set_option linter.unusedVariables false
set_option linter.unusedSimpArgs false
theorem bitLen_pow:∀ (k n:Nat),n<2 ^ k→∀ f,k≤f→n<2 ^ Lib.bitLenAux f n∧(n≠0→2 ^ Lib.bitLenAux f n≤2 * n)
 | 0,n,h,f,_=>by
  have h0:n=0:=by simpa using h
  subst h0;cases f<;>simp [Lib.bitLenAux]
 | k+1,n,h,f,hf=>by
  obtain ⟨f',rfl⟩:∃ f',f=f'+1:=⟨f-1,by omega⟩;by_cases h0:n=0
  ·subst h0;simp [Lib.bitLenAux]
  ·simp only [Lib.bitLenAux,if_neg h0];have hh:n / 2<2 ^ k:=by rw [Nat.pow_succ] at h;omega
   obtain ⟨h1,h2⟩:=bitLen_pow k (n / 2) hh f' (by omega);rw [Nat.add_comm,Nat.pow_succ];refine ⟨by omega,fun _=>?_⟩;by_cases h3:n / 2=0
   ·have:n=1:=by omega
    subst this;cases f'<;>simp [Lib.bitLenAux]
   ·have:=h2 h3;omega
theorem bitLen_small(n:Nat)(hn:n≤1000000):Lib.bitLen n≤20:=by
 have:n<2 ^ 20:=by omega
 unfold Lib.bitLen;exact Lib.bitLenAux_le 64 n 20 this
theorem nextPow_on(n:Nat)(hn:n≤1000000)(w:World) :
  Calls prog 296 #[.int .i64 (n:Int)] w fun e w'=>(∃ m:Nat,e=.returned (.int .u64 (m:Int))∧n<m∧(0<n→m≤2 * n))∧w'=w:=by
 have L:=Ξ (bits_Len (n:Int) w (by omega) (by omega));have e1:IntKind.u64.wrap (n:Int)=(n:Int):=IntWalk.u64_in _ (by omega);have hp:=bitLen_pow 20 n (by omega) 64 (by omega);have hs:=bitLen_small n hn;simp only [Int.toNat_natCast] at L;unfold Lib.bitLen at L hs;obtain ⟨k,hk⟩:∃ k,Lib.bitLenAux 64 n=k:=⟨_,rfl⟩;rw [hk] at L hp hs;have HP:=Ξ hp;have HS:=Ξ hs;clear hp hs hk hn;go_enter func296,ntmps296;go_wp2_with fail;refine L.out.mono ?_;rintro _ w1 ⟨rfl,hw1⟩;subst w1;go_wp2_with fail;go_ret;have hs:=HS.out;have hp:=HP.out;have h20:(2:Nat) ^ k≤2 ^ 20:=Nat.pow_le_pow_right (by omega) hs;have h20':(2:Nat) ^ 20=1048576:=by decide
 have hz:(0:Nat)<2 ^ k:=Nat.two_pow_pos k;refine ⟨⟨2 ^ k,?_,hp.1,?_⟩,rfl⟩
 ·refine ret_int ?_;rw [show min k 64=k by omega];have e:((2:Int) ^ k)=((2 ^ k:Nat):Int):=by norm_cast
  rw [e];exact IntWalk.u64_in _ (by omega)
 ·exact fun h=>hp.2 (by omega)
abbrev tXs:TypeId:=340
theorem xor_range(a b:Int):0≤bits .xor .u64 a b∧bits .xor .u64 a b<18446744073709551616:=by show 0≤IntKind.u64.wrap (((BitVec.ofInt 64 a ^^^ BitVec.ofInt 64 b).toNat:Nat):Int)∧IntKind.u64.wrap (((BitVec.ofInt 64 a ^^^ BitVec.ofInt 64 b).toNat:Nat):Int)<_;simp only [IntKind.wrap,IntKind.bits,IntKind.signed];simp;omega
def XsTo(s:Nat)(w:World)(e:Ending)(w':World):Prop:=∃ r:Int,e=.returned (.int .u64 r)∧(0≤r∧r<18446744073709551616)∧Row w' s #[.int .u64 r] tXs∧Only [s] w w'
theorem xor_on{w:World}{s:Nat}{r:Int}(h:Row w s #[.int .u64 r] tXs) :
  Calls prog 297 #[.pointer (some ⟨s,0,none⟩)] w (XsTo s w):=by
 have c0:=h.c 0 (.int .u64 r);have q0:=h.free 0;have HR:=Ξ h;clear h;go_enter func297,ntmps297;go_upto_region 1 with fail;go_region
 generalize bits BinOp.xor IntKind.u64 r (IntKind.u64.wrap (r * 8192))=r1;have R1:Hid (Row (w.setCell ⟨s,0,none⟩ (.int .u64 r1)).drew s #[.int .u64 r1] tXs):=Ξ ((HR.out.set 0 (.int .u64 r1)).only (Ω [] _).drew (by simp));have K1:Hid (Only [s] w (w.setCell ⟨s,0,none⟩ (.int .u64 r1)).drew):=Ξ ((Ω [s] w).setCell (.inl (by simp)) _).drew;clear c0 q0;generalize (w.setCell ⟨s,0,none⟩ (.int .u64 r1)).drew=w1 at *;have c0:=R1.out.c 0 (.int .u64 r1);have q0:=R1.out.free 0;go_upto_region 2 with fail;go_region
 generalize hr2:bits BinOp.xor IntKind.u64 r1 _=r2;clear hr2;have R2:Hid (Row (w1.setCell ⟨s,0,none⟩ (.int .u64 r2)).drew s #[.int .u64 r2] tXs):=Ξ ((R1.out.set 0 (.int .u64 r2)).only (Ω [] _).drew (by simp));have K2:Hid (Only [s] w (w1.setCell ⟨s,0,none⟩ (.int .u64 r2)).drew):=Ξ (K1.out.setCell (.inl (by simp)) _).drew;clear c0 q0;generalize (w1.setCell ⟨s,0,none⟩ (.int .u64 r2)).drew=w2 at *;have c0:=R2.out.c 0 (.int .u64 r2);have q0:=R2.out.free 0;go_upto_region 3 with fail;go_region
 have hx:=xor_range r2 (IntKind.u64.wrap (r2 * 131072));generalize bits BinOp.xor IntKind.u64 r2 (IntKind.u64.wrap (r2 * 131072))=r3 at *;have HX:=Ξ hx;clear hx;have R3:Hid (Row (w2.setCell ⟨s,0,none⟩ (.int .u64 r3)).drew s #[.int .u64 r3] tXs):=Ξ ((R2.out.set 0 (.int .u64 r3)).only (Ω [] _).drew (by simp));have K3:Hid (Only [s] w (w2.setCell ⟨s,0,none⟩ (.int .u64 r3)).drew):=Ξ (K2.out.setCell (.inl (by simp)) _).drew;clear c0 q0;generalize (w2.setCell ⟨s,0,none⟩ (.int .u64 r3)).drew=w3 at *;have c0:=R3.out.c 0 (.int .u64 r3);go_wp2_with fail;go_ret;exact ⟨r3,rfl,HX.out,R3.out,K3.out⟩
def BrTo(w:World)(B g cap n:Nat)(a b:Nat)(d:Array Int)(e:Ending)(w':World):Prop:=e=.returned (.tuple #[])∧∃ d',UT w w' B g cap n d'∧Sort.PermIn a b d d'
theorem and_low(a m:Nat)(ha:a<18446744073709551616)(hm:m<18446744073709551616):∃ o:Nat,bits .and .u64 (a:Int) (m:Int)=(o:Int)∧o≤m:=
 ⟨a &&& m,u64_and_nat a m ha hm,Nat.and_le_right⟩
theorem break_on{B g cap n:Nat}{d:Array Int}{w:World}(h:UA w B g cap n d)(hn:n≤1000000)(a b:Nat)(hab:a+12<b)(hb:b≤n) :
  Calls prog 276 #[.slice (some ⟨g,0,none⟩) n cap,.int .i64 (a:Int),.int .i64 (b:Int)] w (BrTo w B g cap n a b d):=by
 obtain ⟨l,hl⟩:∃ l,b-a=l:=⟨_,rfl⟩;have e1:IntKind.i64.wrap ((b:Int)-(a:Int))=(l:Int):=by rw [w_sub _ _ (by omega) (by omega),hl]
 obtain ⟨q,hq⟩:∃ q,l / 4=q:=⟨_,rfl⟩;have e2:Int.tdiv (l:Int) 4=(q:Int):=by rw [←hq];rfl
 have hq4:q≤1000000:=by omega
 have e3:IntKind.i64.wrap (q:Int)=(q:Int):=w_id q (by omega);obtain ⟨q2,hq2⟩:∃ x,q * 2=x:=⟨_,rfl⟩;have e4:IntKind.i64.wrap ((q:Int) * 2)=(q2:Int):=by rw [show ((q:Int) * 2)=(q2:Int) by omega];exact w_id _ (by omega)
 obtain ⟨m,hm⟩:∃ x,a+q2=x:=⟨_,rfl⟩;have e5:IntKind.i64.wrap ((a:Int)+(q2:Int))=(m:Int):=by rw [w_add _ _ (by omega),hm]
 obtain ⟨m0,hm0⟩:∃ x,m-1=x:=⟨_,rfl⟩;obtain ⟨m1,hm1⟩:∃ x,m+1=x:=⟨_,rfl⟩;have e6:IntKind.i64.wrap ((m:Int)-1)=(m0:Int):=by rw [w_dec _ (by omega) (by omega),hm0]
 have e7:IntKind.i64.wrap ((m:Int)+1)=(m1:Int):=by rw [w_inc _ (by omega),hm1]
 have d1:decide ((8:Int)≤(l:Int))=true:=Γ (by clear e1 e2 e3 e4 e5 e6 e7;omega);have d1':decide (8≤l)=true:=Γ (by clear e1 e2 e3 e4 e5 e6 e7 d1;omega);have HN:Hid (a≤m0∧m0+2=m1∧m1<b∧b≤n∧n≤1000000∧a+l=b∧0<l):=Ξ (by
  clear e1 e2 e3 e4 e5 e6 e7 d1 d1';have h4:4 * q≤l∧l<4 * q+4:=by omega
  refine ⟨?_,?_,?_,hb,hn,?_,?_⟩<;>omega)
 have e8:IntKind.u64.wrap (l:Int)=(l:Int):=IntWalk.u64_in _ (by clear e1 e2 e3 e4 e5 e6 e7 d1 d1';omega);have HH:=Ξ h;have HG:Hid (w.heap.size≠g):=Ξ (by have:=h.lt;omega);have HP:=Ξ (nextPow_on l (by clear e1 e2 e3 e4 e5 e6 e7 e8 d1 d1';omega));clear h hn hb hab hl hq hq2 hm hm0 hm1 hq4;have R0:Hid (Row (w.alloc (.cells #[.int .u64 (l:Int)] tXs)) w.heap.size #[.int .u64 (l:Int)] tXs):=Ξ (Φ _ _ _);have K0:Hid (Only [] w (w.alloc (.cells #[.int .u64 (l:Int)] tXs))):=Ξ ((Ω [] w).alloc _);go_enter func276,ntmps276;go_wp2_with fail;generalize w.alloc (.cells #[.int .u64 (l:Int)] tXs)=w0 at *;refine (HP.out w0).mono ?_;rintro _ w1 ⟨⟨M,rfl,hM1,hM2⟩,hw1⟩;subst w1;have HM:Hid (l<M∧M≤2 * l∧M≤2000000):=Ξ ⟨hM1,hM2 HN.out.2.2.2.2.2.2,by have:=HN.out;have:=hM2 HN.out.2.2.2.2.2.2;omega⟩;have eM:IntKind.u64.wrap ((M:Int)-1)=((M-1:Nat):Int):=by have:=HM.out;rw [IntWalk.u64_in _ (by omega)];omega
 obtain ⟨M',hM'⟩:∃ x,M-1=x:=⟨_,rfl⟩;have HM':=Ξ hM';rw [hM'] at eM;clear hM1 hM2 HP hM';go_wp2_with fail;go_loopw [9] (fun u wr=>∃ i:Nat,u=.int .i64 (i:Int)∧Hid (m0≤i∧i≤m1+1)∧Hid (∃ d' r,UT w wr B g cap n d'∧Sort.PermIn a b d d'∧Row wr w.heap.size #[.int .u64 r] tXs)) (fun u _=>m1+1-(intOf u).toNat)
 case atStart=>exact ⟨m0,rfl,Ξ (by have:=HN.out;omega),Ξ ⟨d,l,⟨HH.out.only K0.out (by simp),K0.out.mono (by simp)⟩,Sort.permIn_refl _ _ _,R0.out⟩⟩
 case round=>
  obtain ⟨i,rfl,HI,hR⟩:=hrel;obtain ⟨d',r,hu,hp,hr⟩:=hR.out;have HU:=Ξ hu;have HD:=Ξ hp;have HR:=Ξ hr;clear hu hp hr hR;by_cases hl:i≤m1
  ·have d1:decide ((i:Int)≤(m1:Int))=true:=Γ (by omega);have d1':decide (i≤m1)=true:=Γ hl;have HL:=Ξ hl;clear hl;have e9:IntKind.i64.wrap ((i:Int)+1)=((i+1:Nat):Int):=w_inc _ (by have:=HN.out;have:=HL.out;omega);have X:=Ξ (xor_on HR.out);unfold XsTo at X;go_wp2_with fail;refine X.out.mono ?_;rintro _ w2 ⟨r2,rfl,hr2,hrow,hk⟩;have R2:=Ξ hrow;have U2:Hid (UT w w2 B g cap n d'):=Ξ ⟨HU.out.row.only hk (by simpa using fun e=>HG.out e.symm),HU.out.only.trans hk (by simp)⟩;obtain ⟨x,rfl⟩:=Int.eq_ofNat_of_zero_le hr2.1;obtain ⟨o,ho,hoM⟩:=and_low x M' (by omega) (by have:=HM.out;have:=HM'.out;omega);have HO:Hid (o≤M'):=Ξ hoM;have ec:IntKind.i64.wrap (o:Int)=(o:Int):=w_id o (by have:=HM.out;have:=HM'.out;omega);clear hr2 hrow hk hoM X;have swapped:∀ o':Nat,o'<l→∀ (j:Nat),a+o'=j→Hid (i<n∧j<n∧a≤i∧i<b∧a≤j∧j<b):=fun o' h1 j h2=>Ξ (by have:=HN.out;have:=HI.out;have:=HL.out;omega);by_cases hol:l≤o
   ·have d2:decide ((l:Int)≤(o:Int))=true:=Γ (by omega);have d2':decide (l≤o)=true:=Γ hol;obtain ⟨p,hp⟩:∃ x,o-l=x:=⟨_,rfl⟩;have es:IntKind.i64.wrap ((o:Int)-(l:Int))=(p:Int):=by rw [w_sub _ _ hol (by have:=HO.out;have:=HM.out;have:=HM'.out;omega),hp]
    have hpl:p<l:=by have:=HO.out;have:=HM.out;have:=HM'.out;omega
    clear hol hp;obtain ⟨j,hj⟩:∃ x,a+p=x:=⟨_,rfl⟩;have HJ:=swapped p hpl j hj;have ej:IntKind.i64.wrap ((a:Int)+(p:Int))=(j:Int):=by rw [w_add _ _ (by have:=HJ.out;have:=HN.out;omega),hj]
    clear hj hpl swapped;have c1:=U2.out.row.cell i HJ.out.1;have c2:=U2.out.row.cell j HJ.out.2.1;have q1:=U2.out.row.free i;have q2:=U2.out.row.free j;have inn:=HJ.out.1;have jn:=HJ.out.2.1;generalize hx:d'[i]! = x9 at c1;generalize hy:d'[j]! = y9 at c2;have HS:=Ξ (U2.out.swap i j hx hy).drew;have HS2:Hid (Row ((w2.setCell ⟨g,i,none⟩ (.int .u64 y9)).setCell ⟨g,j,none⟩ (.int .u64 x9)).drew w.heap.size #[.int .u64 (x:Int)] tXs):=Ξ ((R2.out.only (((Ω [g] w2).setCell (.inl (by simp)) _).setCell (.inl (by simp)) _) (by simpa using HG.out)).only (Ω [] _).drew (by simp));have HD2:Hid (Sort.PermIn a b d (swp d' i j)):=Ξ (Sort.permIn_trans _ _ _ _ _ HD.out (Sort.swp_permIn _ _ _ _ _ HJ.out.2.2.1 HJ.out.2.2.2.1 HJ.out.2.2.2.2.1 HJ.out.2.2.2.2.2 (by rw [U2.out.row.size];exact HN.out.2.2.2.1)));by_cases hij:i=j
    ·subst hij;have hxy:y9=x9:=by rw [←hx,←hy]
     subst hxy;clear hx hy;go_upto_region 10 with fail;go_region
     go_wp2_with fail;go_roundw;case rel=>exact ⟨i+1,by go_num,Ξ (by have:=HI.out;have:=HL.out;omega),Ξ ⟨_,_,HS.out,HD2.out,HS2.out⟩⟩
     case measure=>simp [intOf];have:=HL.out;omega
    ·have ne1:¬ i=j:=hij;have ne2:¬ j=i:=fun e=>hij e.symm;clear hij hx hy;go_upto_region 10 with fail;go_region
     go_wp2_with fail;go_roundw;case rel=>exact ⟨i+1,by go_num,Ξ (by have:=HI.out;have:=HL.out;omega),Ξ ⟨_,_,HS.out,HD2.out,HS2.out⟩⟩
     case measure=>simp [intOf];have:=HL.out;omega
   ·have d2:decide ((l:Int)≤(o:Int))=false:=Λ (by omega);have d2':decide (l≤o)=false:=Λ hol;have hpl:o<l:=(by omega);clear hol;obtain ⟨j,hj⟩:∃ x,a+o=x:=⟨_,rfl⟩;have HJ:=swapped o hpl j hj;have ej:IntKind.i64.wrap ((a:Int)+(o:Int))=(j:Int):=by rw [w_add _ _ (by have:=HJ.out;have:=HN.out;omega),hj]
    clear hj hpl swapped;have c1:=U2.out.row.cell i HJ.out.1;have c2:=U2.out.row.cell j HJ.out.2.1;have q1:=U2.out.row.free i;have q2:=U2.out.row.free j;have inn:=HJ.out.1;have jn:=HJ.out.2.1;generalize hx:d'[i]! = x9 at c1;generalize hy:d'[j]! = y9 at c2;have HS:=Ξ (U2.out.swap i j hx hy).drew;have HS2:Hid (Row ((w2.setCell ⟨g,i,none⟩ (.int .u64 y9)).setCell ⟨g,j,none⟩ (.int .u64 x9)).drew w.heap.size #[.int .u64 (x:Int)] tXs):=Ξ ((R2.out.only (((Ω [g] w2).setCell (.inl (by simp)) _).setCell (.inl (by simp)) _) (by simpa using HG.out)).only (Ω [] _).drew (by simp));have HD2:Hid (Sort.PermIn a b d (swp d' i j)):=Ξ (Sort.permIn_trans _ _ _ _ _ HD.out (Sort.swp_permIn _ _ _ _ _ HJ.out.2.2.1 HJ.out.2.2.2.1 HJ.out.2.2.2.2.1 HJ.out.2.2.2.2.2 (by rw [U2.out.row.size];exact HN.out.2.2.2.1)));by_cases hij:i=j
    ·subst hij;have hxy:y9=x9:=by rw [←hx,←hy]
     subst hxy;clear hx hy;go_upto_region 10 with fail;go_region
     go_wp2_with fail;go_roundw;case rel=>exact ⟨i+1,by go_num,Ξ (by have:=HI.out;have:=HL.out;omega),Ξ ⟨_,_,HS.out,HD2.out,HS2.out⟩⟩
     case measure=>simp [intOf];have:=HL.out;omega
    ·have ne1:¬ i=j:=hij;have ne2:¬ j=i:=fun e=>hij e.symm;clear hij hx hy;go_upto_region 10 with fail;go_region
     go_wp2_with fail;go_roundw;case rel=>exact ⟨i+1,by go_num,Ξ (by have:=HI.out;have:=HL.out;omega),Ξ ⟨_,_,HS.out,HD2.out,HS2.out⟩⟩
     case measure=>simp [intOf];have:=HL.out;omega
  ·have d1:decide ((i:Int)≤(m1:Int))=false:=Λ (by omega);have d1':decide (i≤m1)=false:=Λ hl;clear hl;go_wp2_with fail
   go_end0
   exact ⟨rfl,_,HU.out,HD.out⟩
theorem scanUp_stop{p:Int→Bool}{d:Array Int}{j i:Nat}(h:¬ i≤j∨p d[i]! = false):Sort.scanUp p d j i=i:=by
 rw [Sort.scanUp,if_neg];rcases h with h|h
 ·simp;intro h2;omega
 ·simp [h]
theorem scanUp_go{p:Int→Bool}{d:Array Int}{j i:Nat}(h:i≤j)(hp:p d[i]! = true):Sort.scanUp p d j i=Sort.scanUp p d j (i+1):=by rw [Sort.scanUp,if_pos (by simp [h,hp])]
theorem scanDown_stop{p:Int→Bool}{d:Array Int}{j i:Nat}(h:¬ i≤j∨p d[j]! = false):Sort.scanDown p d i j=j:=by
 cases j with
 | zero=>rfl
 | succ j=>
  rw [Sort.scanDown,if_neg];rcases h with h|h
  ·simp;intro h2;omega
  ·simp [h]
theorem scans_apart{p q:Int→Bool}(hq:∀ x,q x = !p x){d:Array Int}{i j i2 j2:Nat}(h1:Sort.scanUp p d j i=i2)(h2:Sort.scanDown q d i2 j=j2)(h:¬ j2<i2)(h0:0<i):i2<j2:=by
 obtain ⟨u1,u2,u3,u4⟩:=Sort.scanUp_spec p d j _ i rfl;obtain ⟨v1,v2,v3,v4⟩:=Sort.scanDown_spec q d i2 j;rw [h1] at u1 u2 u3 u4;rw [h2] at v1 v2 v3 v4;rcases Nat.lt_or_ge i2 j2 with h3|h3
 ·exact h3
 ·have e:i2=j2:=by omega
  subst e;have a1:=u4 (by omega);have a2:=v4 (by omega) (by omega);rw [hq,a1] at a2;cases a2
theorem scanDown_go{p:Int→Bool}{d:Array Int}{j i:Nat}(h:i≤j)(hp:p d[j]! = true)(h0:0<j):Sort.scanDown p d i j=Sort.scanDown p d i (j-1):=by
 cases j with
 | zero=>omega
 | succ j=>rw [Sort.scanDown,if_pos (by simp [h,hp])];rfl
def PqTo(w:World)(B g cap n:Nat)(r:Nat×Array Int)(e:Ending)(w':World):Prop:=e=.returned (.int .i64 (r.1:Int))∧UT w w' B g cap n r.2
theorem partEq_on{B g cap n:Nat}{d:Array Int}{w:World}(h:UA w B g cap n d)(hn:n≤1000000)(a b pivot:Nat)(hp1:a≤pivot)(hp2:pivot<b)(hb:b≤n) :
  Calls prog 281 #[.slice (some ⟨g,0,none⟩) n cap,.int .i64 (a:Int),.int .i64 (b:Int),.int .i64 (pivot:Int)] w (PqTo w B g cap n (Sort.partitionEqual ltInt d a b pivot)):=by
 have HU:=Ξ (UT.refl h);have HF:Hid (a≤pivot∧pivot<b∧b≤n∧n≤1000000):=Ξ ⟨hp1,hp2,hb,hn⟩;have an:a<n:=by omega
 have pivotn:pivot<n:=by omega
 clear h hp1 hp2 hb hn;go_enter func281,ntmps281;go_upto_region 1 with fail;go_cut [8] from 11 (fun s8 wc=>s8=.int .i64 0∧Hid (UT w wc B g cap n (swp d a pivot)))
 case first=>
  have c1:=HU.out.row.cell a an;have c2:=HU.out.row.cell pivot pivotn;have q1:=HU.out.row.free a;have q2:=HU.out.row.free pivot;generalize hx:(d)[a]! = x9 at c1;generalize hy:(d)[pivot]! = y9 at c2;have HS:=Ξ (HU.out.swap a pivot hx hy).drew;by_cases hij:a=pivot
  ·have hxy:y9=x9:=by rw [←hx,←hy,hij]
   subst hxy;clear hx hy;subst hij;go_region
   go_wp2_with fail;go_meet;exact ⟨rfl,HS⟩
  ·have ne1:¬ a=pivot:=hij;have ne2:¬ pivot=a:=fun e=>hij e.symm;clear hij hx hy;go_region
   go_wp2_with fail;go_meet;exact ⟨rfl,HS⟩
 case rest=>
  obtain ⟨rfl,HU⟩:=hcut;clear an pivotn;generalize hD:swp d a pivot=D at HU;have HD:=Ξ hD;clear hD;obtain ⟨i0,hi0⟩:∃ i0,a+1=i0:=⟨_,rfl⟩;obtain ⟨j0,hj0⟩:∃ j0,b-1=j0:=⟨_,rfl⟩;have e1:IntKind.i64.wrap ((a:Int)+1)=(i0:Int):=by rw [w_inc _ (by have:=HF.out;omega),hi0]
  have e2:IntKind.i64.wrap ((b:Int)-1)=(j0:Int):=by rw [w_dec _ (by have:=HF.out;omega) (by have:=HF.out;omega),hj0]
  have HR0:Hid (a<i0∧i0≤j0+1∧j0<b∧a≤j0):=Ξ (by have:=HF.out;omega);have HE0:Hid (Sort.partitionEqual ltInt d a b pivot=Sort.partEqLoop ltInt a i0 j0 D):=Ξ (by unfold Sort.partitionEqual;rw [HD.out,hi0,hj0]);clear hi0 hj0;go_upto_block 0 with fail;go_cut [9] from 29 (fun s wc=>∃ k:Nat,s=.int .i64 (k:Int)∧Hid (k=(Sort.partitionEqual ltInt d a b pivot).1∧UT w wc B g cap n (Sort.partitionEqual ltInt d a b pivot).2))
  case first=>
   go_wp2_with fail;go_loopw [9,10] (fun u v wr=>∃ i j:Nat,(u=.int .i64 (i:Int)∧v=.int .i64 (j:Int))∧Hid (a<i∧i≤j+1∧j<b∧a≤j)∧Hid (∃ D,UT w wr B g cap n D∧Sort.partitionEqual ltInt d a b pivot=Sort.partEqLoop ltInt a i j D)) (fun u v _=>(intOf v+1-intOf u).toNat)
   case atStart=>exact ⟨i0,j0,⟨rfl,rfl⟩,HR0,Ξ ⟨D,HU.out,HE0.out⟩⟩
   case round=>
    obtain ⟨i,j,⟨rfl,rfl⟩,HR1,hR⟩:=hrel;clear HU HD HE0;obtain ⟨D,hu,hd⟩:=hR.out;have HU:=Ξ hu;have HE1:=Ξ hd;clear hu hd hR;obtain ⟨P1,hP1⟩:∃ P:Int→Bool,(fun x=>!ltInt D[a]! x)=P:=⟨_,rfl⟩;obtain ⟨P2,hP2⟩:∃ P:Int→Bool,(fun x=>ltInt D[a]! x)=P:=⟨_,rfl⟩;have HP1:Hid (∀ x,P1 x = !ltInt D[a]! x):=Ξ (fun x=>by rw [←hP1]);have HP2:Hid (∀ x,P2 x=ltInt D[a]! x):=Ξ (fun x=>by rw [←hP2]);have HEQ:Hid (Sort.partEqLoop ltInt a i j D=if Sort.scanUp P1 D j i > Sort.scanDown P2 D (Sort.scanUp P1 D j i) j then (Sort.scanUp P1 D j i,D) else Sort.partEqLoop ltInt a (Sort.scanUp P1 D j i+1) (Sort.scanDown P2 D (Sort.scanUp P1 D j i) j-1) (swp D (Sort.scanUp P1 D j i) (Sort.scanDown P2 D (Sort.scanUp P1 D j i) j))):=Ξ (by subst hP1;subst hP2;rw [Sort.partEqLoop_eq]);clear hP1 hP2;have HF1:=HF;have HF:Hid ((a<i∧i≤j+1∧j<b∧a≤j)∧a≤pivot∧pivot<b∧b≤n∧n≤1000000):=Ξ ⟨HR1.out,HF1.out⟩;go_upto_block 2 with fail;go_cut [9] from 29 to 45 (fun s wc=>∃ k:Nat,s=.int .i64 (k:Int)∧Hid (a<k∧k≤j+1∧j<b)∧Hid (Sort.scanUp P1 D j i=k)∧Hid (UT w wc B g cap n D))
    case first=>
     go_wp2_with fail;go_loopw [9] (fun u wr=>∃ k:Nat,u=.int .i64 (k:Int)∧Hid (a<k∧k≤j+1∧j<b)∧Hid (UT w wr B g cap n D)∧Hid (Sort.scanUp P1 D j i=Sort.scanUp P1 D j k)) (fun u _=>(j+1)-(intOf u).toNat)
     case atStart=>exact ⟨i,rfl,Ξ (by have:=HF.out;omega),HU,Ξ rfl⟩
     case round=>
      obtain ⟨k,rfl,HR,HU,HE⟩:=hrel;by_cases hk:k≤j
      ·have d1:decide ((k:Int)≤(j:Int))=true:=Γ (by omega);have d1':decide (k≤j)=true:=Γ hk;have HK:=Ξ hk;clear hk;have kn:k<n:=by have:=HR.out;have:=HF.out;have:=HK.out;omega
       have an:a<n:=by have:=HR.out;have:=HF.out;omega
       have e1:IntKind.i64.wrap ((k:Int)+1)=((k+1:Nat):Int):=w_inc _ (by have:=HF.out;omega);have c1:=HU.out.row.cell k kn;have c2:=HU.out.row.cell a an;generalize hx:(D)[k]! = x at c1;generalize hy:(D)[a]! = y at c2;have HX:=Ξ hx;have HY:=Ξ hy;clear hx hy;cases hl:ltInt y x
       ·have HL:=Ξ hl;clear hl;go_upto_region 3 with fail;go_quiet ((go_at_call 280;exact Calls.quiet_of_same (less_is _ _ _ HL.out _)))
        have HU:=Ξ (HU.out.drewN nq);go_wp2_with fail;go_roundw;case rel=>exact ⟨k+1,by go_num,Ξ (by have:=HR.out;have:=HK.out;omega),HU,Ξ (by rw [HE.out,scanUp_go HK.out (by rw [HP1.out,HX.out,HY.out,HL.out];first|done|rfl)])⟩
        case measure=>simp [intOf];have:=HK.out;have:=HR.out;omega
       ·have HL:=Ξ hl;clear hl;go_upto_region 3 with fail;go_quiet ((go_at_call 280;exact Calls.quiet_of_same (less_is _ _ _ HL.out _)))
        have HU:=Ξ (HU.out.drewN nq);go_wp2_with fail;go_meet;exact ⟨k,rfl,Ξ (by have:=HR.out;omega),Ξ (by rw [HE.out,scanUp_stop (.inr (by rw [HP1.out,HX.out,HY.out,HL.out];first|done|rfl))]),HU⟩
      ·have d1:decide ((k:Int)≤(j:Int))=false:=Λ (by omega);have d1':decide (k≤j)=false:=Λ hk;have HK:=Ξ hk;clear hk;go_upto_region 3 with fail;go_quiet (fail)
       have HU:=Ξ (HU.out.drewN nq);go_wp2_with fail;go_meet;exact ⟨k,rfl,Ξ (by have:=HR.out;omega),Ξ (by rw [HE.out,scanUp_stop (.inl HK.out)]),HU⟩
    case rest=>
     obtain ⟨i2,rfl,HR2,HI2,HU⟩:=hcut;have HF2:=HF;have HF:Hid ((a<i∧i≤j+1∧j<b∧a≤j)∧(a<i2∧i2≤j+1)∧i≤i2∧b≤n∧n≤1000000):=Ξ (by have:=HF2.out;have:=HR2.out;have h3:=Sort.scanUp_ge P1 D j i;rw [HI2.out] at h3;omega);go_upto_block 4 with fail;go_cut [10] from 46 to 61 (fun s wc=>∃ k:Nat,s=.int .i64 (k:Int)∧Hid (a≤k∧i2≤k+1∧k<b∧a<i2)∧Hid (Sort.scanDown P2 D i2 j=k)∧Hid (UT w wc B g cap n D))
     case first=>
      go_wp2_with fail;go_loopw [10] (fun u wr=>∃ k:Nat,u=.int .i64 (k:Int)∧Hid (a≤k∧i2≤k+1∧k<b∧a<i2)∧Hid (UT w wr B g cap n D)∧Hid (Sort.scanDown P2 D i2 j=Sort.scanDown P2 D i2 k)) (fun u _=>(intOf u).toNat)
      case atStart=>exact ⟨j,rfl,Ξ (by have:=HF.out;omega),HU,Ξ rfl⟩
      case round=>
       obtain ⟨k,rfl,HR,HU,HE⟩:=hrel;by_cases hk:i2≤k
       ·have d1:decide ((i2:Int)≤(k:Int))=true:=Γ (by omega);have d1':decide (i2≤k)=true:=Γ hk;have HK:=Ξ hk;clear hk;have kn:k<n:=by have:=HR.out;have:=HF.out;have:=HK.out;omega
        have an:a<n:=by have:=HR.out;have:=HF.out;omega
        have e1:IntKind.i64.wrap ((k:Int)-1)=((k-1:Nat):Int):=w_dec _ (by have:=HF.out;omega) (by have:=HR.out;have:=HK.out;omega);have c1:=HU.out.row.cell k kn;have c2:=HU.out.row.cell a an;generalize hx:(D)[k]! = x at c1;generalize hy:(D)[a]! = y at c2;have HX:=Ξ hx;have HY:=Ξ hy;clear hx hy;cases hl:ltInt y x
        ·have HL:=Ξ hl;clear hl;go_upto_region 5 with fail;go_quiet ((go_at_call 280;exact Calls.quiet_of_same (less_is _ _ _ HL.out _)))
         have HU:=Ξ (HU.out.drewN nq);go_wp2_with fail;go_meet;exact ⟨k,rfl,Ξ (by have:=HR.out;omega),Ξ (by rw [HE.out,scanDown_stop (.inr (by rw [HP2.out,HX.out,HY.out,HL.out];first|done|rfl))]),HU⟩
        ·have HL:=Ξ hl;clear hl;go_upto_region 5 with fail;go_quiet ((go_at_call 280;exact Calls.quiet_of_same (less_is _ _ _ HL.out _)))
         have HU:=Ξ (HU.out.drewN nq);go_wp2_with fail;go_roundw;case rel=>exact ⟨k-1,by go_num,Ξ (by have:=HR.out;have:=HK.out;omega),HU,Ξ (by rw [HE.out,scanDown_go HK.out (by rw [HP2.out,HX.out,HY.out,HL.out];first|done|rfl) (by have:=HR.out;have:=HK.out;omega)])⟩
         case measure=>simp [intOf];have:=HK.out;have:=HR.out;omega
       ·have d1:decide ((i2:Int)≤(k:Int))=false:=Λ (by omega);have d1':decide (i2≤k)=false:=Λ hk;have HK:=Ξ hk;clear hk;go_upto_region 5 with fail;go_quiet (fail)
        have HU:=Ξ (HU.out.drewN nq);go_wp2_with fail;go_meet;exact ⟨k,rfl,Ξ (by have:=HR.out;omega),Ξ (by rw [HE.out,scanDown_stop (.inl HK.out)]),HU⟩
     case rest=>
      obtain ⟨j2,rfl,HR3,HJ2,HU⟩:=hcut;have HG:Hid (¬ i2 > j2→Sort.partEqLoop ltInt a i j D=Sort.partEqLoop ltInt a (i2+1) (j2-1) (swp D i2 j2)):=Ξ (fun h=>by rw [HEQ.out,HI2.out,HJ2.out,if_neg h]);have HGs:Hid (i2 > j2→Sort.partEqLoop ltInt a i j D=(i2,D)):=Ξ (fun h=>by rw [HEQ.out,HI2.out,HJ2.out,if_pos h]);have HJL:Hid (j2≤j):=Ξ (by have h3:=Sort.scanDown_le P2 D i2 j;rw [HJ2.out] at h3;exact h3);by_cases hgt:j2<i2
      ·have d1:decide ((j2:Int)<(i2:Int))=true:=Γ (by omega);have d1':decide (j2<i2)=true:=Γ hgt;have HGT:=Ξ hgt;clear hgt;go_wp2_with fail;go_meet;exact ⟨i2,rfl,Ξ (by rw [HE1.out,HGs.out HGT.out];exact ⟨rfl,HU.out⟩)⟩
      ·have d1:decide ((j2:Int)<(i2:Int))=false:=Λ (by omega);have d1':decide (j2<i2)=false:=Λ hgt;have HGT:=Ξ hgt;have HAP:Hid (i2<j2):=Ξ (scans_apart (fun x=>by rw [HP2.out,HP1.out,Bool.not_not]) HI2.out HJ2.out HGT.out (by have:=HF2.out;omega));have i2n:i2<n:=by have:=HF.out;have:=HR3.out;omega
       have j2n:j2<n:=by have:=HF.out;have:=HR3.out;omega
       clear hgt;go_upto_region 8 with fail;go_cut [8] from 65 to 78 (fun s8 wc=>s8=.int .i64 0∧Hid (UT w wc B g cap n (swp D i2 j2)))
       case first=>
        have c1:=HU.out.row.cell i2 i2n;have c2:=HU.out.row.cell j2 j2n;have q1:=HU.out.row.free i2;have q2:=HU.out.row.free j2;generalize hx:(D)[i2]! = x9 at c1;generalize hy:(D)[j2]! = y9 at c2;have HS:=Ξ (HU.out.swap i2 j2 hx hy).drew;by_cases hij:i2=j2
        ·have hxy:y9=x9:=by rw [←hx,←hy,hij]
         subst hxy;clear hx hy;subst hij;go_region
         go_wp2_with fail;go_meet;exact ⟨rfl,HS⟩
        ·have ne1:¬ i2=j2:=hij;have ne2:¬ j2=i2:=fun e=>hij e.symm;clear hij hx hy;go_region
         go_wp2_with fail;go_meet;exact ⟨rfl,HS⟩
       case rest=>
        obtain ⟨rfl,HU⟩:=hcut;have e1:IntKind.i64.wrap ((i2:Int)+1)=((i2+1:Nat):Int):=w_inc _ (by have:=HF.out;omega);have e2:IntKind.i64.wrap ((j2:Int)-1)=((j2-1:Nat):Int):=w_dec _ (by have:=HF.out;omega) (by have:=HGT.out;have:=HR3.out;omega);go_wp2_with fail;go_roundw;case rel=>exact ⟨i2+1,j2-1,⟨by go_num,rfl⟩,Ξ (by have:=HF.out;have:=HR3.out;have:=HAP.out;have:=HJL.out;omega),Ξ ⟨_,HU.out,by rw [HE1.out,HG.out HGT.out]⟩⟩
        case measure=>simp [intOf];have:=HF.out;have:=HR3.out;have:=HGT.out;have:=HJL.out;omega
  case rest=>obtain ⟨k,rfl,hk⟩:=hcut;have HK:=Ξ hk.out;clear hk;go_wp2_with fail;go_ret;exact ⟨by rw [←HK.out.1];rfl,HK.out.2⟩
def PnTo(w:World)(B g cap n:Nat)(r:Nat×Bool×Array Int)(e:Ending)(w':World):Prop:=e=.returned (.tuple #[.int .i64 (r.1:Int),.bool r.2.1])∧UT w w' B g cap n r.2.2
theorem part_on{B g cap n:Nat}{d:Array Int}{w:World}(h:UA w B g cap n d)(hn:n≤1000000)(a b pivot:Nat)(hp1:a≤pivot)(hp2:pivot<b)(hb:b≤n) :
  Calls prog 282 #[.slice (some ⟨g,0,none⟩) n cap,.int .i64 (a:Int),.int .i64 (b:Int),.int .i64 (pivot:Int)] w (PnTo w B g cap n (Sort.partition ltInt d a b pivot)):=by
 have HU:=Ξ (UT.refl h);have HF:Hid (a≤pivot∧pivot<b∧b≤n∧n≤1000000):=Ξ ⟨hp1,hp2,hb,hn⟩;have an:a<n:=by omega
 have pivotn:pivot<n:=by omega
 clear h hp1 hp2 hb hn;go_enter func282,ntmps282;go_upto_region 1 with fail;go_cut [8] from 12 (fun s8 wc=>s8=.int .i64 0∧Hid (UT w wc B g cap n (swp d a pivot)))
 case first=>
  have c1:=HU.out.row.cell a an;have c2:=HU.out.row.cell pivot pivotn;have q1:=HU.out.row.free a;have q2:=HU.out.row.free pivot;generalize hx:(d)[a]! = x9 at c1;generalize hy:(d)[pivot]! = y9 at c2;have HS:=Ξ (HU.out.swap a pivot hx hy).drew;by_cases hij:a=pivot
  ·have hxy:y9=x9:=by rw [←hx,←hy,hij]
   subst hxy;clear hx hy;subst hij;go_region
   go_wp2_with fail;go_meet;exact ⟨rfl,HS⟩
  ·have ne1:¬ a=pivot:=hij;have ne2:¬ pivot=a:=fun e=>hij e.symm;clear hij hx hy;go_region
   go_wp2_with fail;go_meet;exact ⟨rfl,HS⟩
 case rest=>
  obtain ⟨rfl,HU⟩:=hcut;clear pivotn;generalize hD:swp d a pivot=D at HU;have HD:=Ξ hD;clear hD;obtain ⟨i0,hi0⟩:∃ i0,a+1=i0:=⟨_,rfl⟩;obtain ⟨j0,hj0⟩:∃ j0,b-1=j0:=⟨_,rfl⟩;have e1:IntKind.i64.wrap ((a:Int)+1)=(i0:Int):=by rw [w_inc _ (by have:=HF.out;omega),hi0]
  have e2:IntKind.i64.wrap ((b:Int)-1)=(j0:Int):=by rw [w_dec _ (by have:=HF.out;omega) (by have:=HF.out;omega),hj0]
  have HR0:Hid (a<i0∧i0≤j0+1∧j0<b∧a≤j0):=Ξ (by have:=HF.out;omega);obtain ⟨P1,hP1⟩:∃ P:Int→Bool,(fun x=>ltInt x D[a]!)=P:=⟨_,rfl⟩;obtain ⟨P2,hP2⟩:∃ P:Int→Bool,(fun x=>!ltInt x D[a]!)=P:=⟨_,rfl⟩;have HP1:Hid (∀ x,P1 x=ltInt x D[a]!):=Ξ (fun x=>by rw [←hP1]);have HP2:Hid (∀ x,P2 x = !ltInt x D[a]!):=Ξ (fun x=>by rw [←hP2]);have HA0:Hid (Sort.partition ltInt d a b pivot=if Sort.scanUp P1 D j0 i0 > Sort.scanDown P2 D (Sort.scanUp P1 D j0 i0) j0 then (Sort.scanDown P2 D (Sort.scanUp P1 D j0 i0) j0,true,swp D (Sort.scanDown P2 D (Sort.scanUp P1 D j0 i0) j0) a) else
   let r:=Sort.partLoop ltInt a (Sort.scanUp P1 D j0 i0+1) (Sort.scanDown P2 D (Sort.scanUp P1 D j0 i0) j0-1) (swp D (Sort.scanUp P1 D j0 i0) (Sort.scanDown P2 D (Sort.scanUp P1 D j0 i0) j0));(r.1,false,swp r.2 r.1 a)):=Ξ (by subst hP1;subst hP2;unfold Sort.partition;rw [HD.out,hi0,hj0])
  clear hi0 hj0 hP1 hP2;generalize hR:Sort.partition ltInt d a b pivot=R at *;clear hR;have HF1:=HF;have HF:Hid ((a<i0∧i0≤j0+1∧j0<b∧a≤j0)∧a≤pivot∧pivot<b∧b≤n∧n≤1000000):=Ξ ⟨HR0.out,HF1.out⟩;go_upto_block 0 with fail;go_cut [10] from 30 (fun s wc=>∃ k:Nat,s=.int .i64 (k:Int)∧Hid (a<k∧k≤j0+1∧j0<b)∧Hid (Sort.scanUp P1 D j0 i0=k)∧Hid (UT w wc B g cap n D))
  case first=>
   go_wp2_with fail;go_loopw [10] (fun u wr=>∃ k:Nat,u=.int .i64 (k:Int)∧Hid (a<k∧k≤j0+1∧j0<b)∧Hid (UT w wr B g cap n D)∧Hid (Sort.scanUp P1 D j0 i0=Sort.scanUp P1 D j0 k)) (fun u _=>(j0+1)-(intOf u).toNat)
   case atStart=>exact ⟨i0,rfl,Ξ (by have:=HF.out;omega),HU,Ξ rfl⟩
   case round=>
    obtain ⟨k,rfl,HR,HU,HE⟩:=hrel;by_cases hk:k≤j0
    ·have d1:decide ((k:Int)≤(j0:Int))=true:=Γ (by omega);have d1':decide (k≤j0)=true:=Γ hk;have HK:=Ξ hk;clear hk;have kn:k<n:=by have:=HR.out;have:=HF.out;have:=HK.out;omega
     have an:a<n:=by have:=HR.out;have:=HF.out;omega
     have e1:IntKind.i64.wrap ((k:Int)+1)=((k+1:Nat):Int):=w_inc _ (by have:=HF.out;omega);have c1:=HU.out.row.cell k kn;have c2:=HU.out.row.cell a an;generalize hx:(D)[k]! = x at c1;generalize hy:(D)[a]! = y at c2;have HX:=Ξ hx;have HY:=Ξ hy;clear hx hy;cases hl:ltInt x y
     ·have HL:=Ξ hl;clear hl;go_upto_region 3 with fail;go_quiet ((go_at_call 280;exact Calls.quiet_of_same (less_is _ _ _ HL.out _)))
      have HU:=Ξ (HU.out.drewN nq);go_wp2_with fail;go_meet;exact ⟨k,rfl,Ξ (by have:=HR.out;omega),Ξ (by rw [HE.out,scanUp_stop (.inr (by rw [HP1.out,HX.out,HY.out,HL.out];first|done|rfl))]),HU⟩
     ·have HL:=Ξ hl;clear hl;go_upto_region 3 with fail;go_quiet ((go_at_call 280;exact Calls.quiet_of_same (less_is _ _ _ HL.out _)))
      have HU:=Ξ (HU.out.drewN nq);go_wp2_with fail;go_roundw;case rel=>exact ⟨k+1,by go_num,Ξ (by have:=HR.out;have:=HK.out;omega),HU,Ξ (by rw [HE.out,scanUp_go HK.out (by rw [HP1.out,HX.out,HY.out,HL.out];first|done|rfl)])⟩
      case measure=>simp [intOf];have:=HK.out;have:=HR.out;omega
    ·have d1:decide ((k:Int)≤(j0:Int))=false:=Λ (by omega);have d1':decide (k≤j0)=false:=Λ hk;have HK:=Ξ hk;clear hk;go_upto_region 3 with fail;go_quiet (fail)
     have HU:=Ξ (HU.out.drewN nq);go_wp2_with fail;go_meet;exact ⟨k,rfl,Ξ (by have:=HR.out;omega),Ξ (by rw [HE.out,scanUp_stop (.inl HK.out)]),HU⟩
  case rest=>
   obtain ⟨i2,rfl,HR2,HI2,HU⟩:=hcut;have HF2:=HF;have HF:Hid ((a<i0∧i0≤j0+1∧j0<b∧a≤j0)∧(a<i2∧i2≤j0+1)∧i0≤i2∧b≤n∧n≤1000000):=Ξ (by have:=HF2.out;have:=HR2.out;have h3:=Sort.scanUp_ge P1 D j0 i0;rw [HI2.out] at h3;omega);go_upto_block 2 with fail;go_cut [11] from 46 (fun s wc=>∃ k:Nat,s=.int .i64 (k:Int)∧Hid (a≤k∧i2≤k+1∧k<b∧a<i2)∧Hid (Sort.scanDown P2 D i2 j0=k)∧Hid (UT w wc B g cap n D))
   case first=>
    go_wp2_with fail;go_loopw [11] (fun u wr=>∃ k:Nat,u=.int .i64 (k:Int)∧Hid (a≤k∧i2≤k+1∧k<b∧a<i2)∧Hid (UT w wr B g cap n D)∧Hid (Sort.scanDown P2 D i2 j0=Sort.scanDown P2 D i2 k)) (fun u _=>(intOf u).toNat)
    case atStart=>exact ⟨j0,rfl,Ξ (by have:=HF.out;omega),HU,Ξ rfl⟩
    case round=>
     obtain ⟨k,rfl,HR,HU,HE⟩:=hrel;by_cases hk:i2≤k
     ·have d1:decide ((i2:Int)≤(k:Int))=true:=Γ (by omega);have d1':decide (i2≤k)=true:=Γ hk;have HK:=Ξ hk;clear hk;have kn:k<n:=by have:=HR.out;have:=HF.out;have:=HK.out;omega
      have an:a<n:=by have:=HR.out;have:=HF.out;omega
      have e1:IntKind.i64.wrap ((k:Int)-1)=((k-1:Nat):Int):=w_dec _ (by have:=HF.out;omega) (by have:=HR.out;have:=HK.out;omega);have c1:=HU.out.row.cell k kn;have c2:=HU.out.row.cell a an;generalize hx:(D)[k]! = x at c1;generalize hy:(D)[a]! = y at c2;have HX:=Ξ hx;have HY:=Ξ hy;clear hx hy;cases hl:ltInt x y
      ·have HL:=Ξ hl;clear hl;go_upto_region 5 with fail;go_quiet ((go_at_call 280;exact Calls.quiet_of_same (less_is _ _ _ HL.out _)))
       have HU:=Ξ (HU.out.drewN nq);go_wp2_with fail;go_roundw;case rel=>exact ⟨k-1,by go_num,Ξ (by have:=HR.out;have:=HK.out;omega),HU,Ξ (by rw [HE.out,scanDown_go HK.out (by rw [HP2.out,HX.out,HY.out,HL.out];first|done|rfl) (by have:=HR.out;have:=HK.out;omega)])⟩
       case measure=>simp [intOf];have:=HK.out;have:=HR.out;omega
      ·have HL:=Ξ hl;clear hl;go_upto_region 5 with fail;go_quiet ((go_at_call 280;exact Calls.quiet_of_same (less_is _ _ _ HL.out _)))
       have HU:=Ξ (HU.out.drewN nq);go_wp2_with fail;go_meet;exact ⟨k,rfl,Ξ (by have:=HR.out;omega),Ξ (by rw [HE.out,scanDown_stop (.inr (by rw [HP2.out,HX.out,HY.out,HL.out];first|done|rfl))]),HU⟩
     ·have d1:decide ((i2:Int)≤(k:Int))=false:=Λ (by omega);have d1':decide (i2≤k)=false:=Λ hk;have HK:=Ξ hk;clear hk;go_upto_region 5 with fail;go_quiet (fail)
      have HU:=Ξ (HU.out.drewN nq);go_wp2_with fail;go_meet;exact ⟨k,rfl,Ξ (by have:=HR.out;omega),Ξ (by rw [HE.out,scanDown_stop (.inl HK.out)]),HU⟩
   case rest=>
    obtain ⟨j2,rfl,HR3,HJ2,HU⟩:=hcut;have HJL:Hid (j2≤j0):=Ξ (by have h3:=Sort.scanDown_le P2 D i2 j0;rw [HJ2.out] at h3;exact h3);have HA1:Hid (R=if i2 > j2 then (j2,true,swp D j2 a) else let r:=Sort.partLoop ltInt a (i2+1) (j2-1) (swp D i2 j2);(r.1,false,swp r.2 r.1 a)):=Ξ (by rw [HA0.out,HI2.out,HJ2.out]);have j2n:j2<n:=by have:=HF.out;have:=HR3.out;omega
    by_cases hgt:j2<i2
    ·have d1:decide ((j2:Int)<(i2:Int))=true:=Γ (by omega);have d1':decide (j2<i2)=true:=Γ hgt;have HGT:=Ξ hgt;clear hgt;go_upto_region 8 with fail;go_cut [8] from 66 (fun s8 wc=>s8=.int .i64 0∧Hid (UT w wc B g cap n (swp D j2 a)))
     case first=>
      have c1:=HU.out.row.cell j2 j2n;have c2:=HU.out.row.cell a an;have q1:=HU.out.row.free j2;have q2:=HU.out.row.free a;generalize hx:(D)[j2]! = x9 at c1;generalize hy:(D)[a]! = y9 at c2;have HS:=Ξ (HU.out.swap j2 a hx hy).drew;by_cases hij:j2=a
      ·have hxy:y9=x9:=by rw [←hx,←hy,hij]
       subst hxy;clear hx hy;subst hij;go_region
       go_wp2_with fail;go_meet;exact ⟨rfl,HS⟩
      ·have ne1:¬ j2=a:=hij;have ne2:¬ a=j2:=fun e=>hij e.symm;clear hij hx hy;go_region
       go_wp2_with fail;go_meet;exact ⟨rfl,HS⟩
     case rest=>
      obtain ⟨rfl,HU⟩:=hcut;go_wp2_with fail;go_ret2;refine ⟨?_,?_⟩
      ·rw [HA1.out,if_pos HGT.out];rfl
      ·rw [HA1.out,if_pos HGT.out];exact HU.out
    ·have d1:decide ((j2:Int)<(i2:Int))=false:=Λ (by omega);have d1':decide (j2<i2)=false:=Λ hgt;have HGT:=Ξ hgt;have HAP:Hid (i2<j2):=Ξ (scans_apart (fun x=>by rw [HP2.out,HP1.out]) HI2.out HJ2.out HGT.out (by have:=HF2.out;omega));have i2n:i2<n:=by have:=HF.out;have:=HR3.out;omega
     clear hgt;go_upto_region 10 with fail;go_cut [8] from 81 (fun s8 wc=>s8=.int .i64 0∧Hid (UT w wc B g cap n (swp D i2 j2)))
     case first=>
      have c1:=HU.out.row.cell i2 i2n;have c2:=HU.out.row.cell j2 j2n;have q1:=HU.out.row.free i2;have q2:=HU.out.row.free j2;generalize hx:(D)[i2]! = x9 at c1;generalize hy:(D)[j2]! = y9 at c2;have HS:=Ξ (HU.out.swap i2 j2 hx hy).drew;by_cases hij:i2=j2
      ·have hxy:y9=x9:=by rw [←hx,←hy,hij]
       subst hxy;clear hx hy;subst hij;go_region
       go_wp2_with fail;go_meet;exact ⟨rfl,HS⟩
      ·have ne1:¬ i2=j2:=hij;have ne2:¬ j2=i2:=fun e=>hij e.symm;clear hij hx hy;go_region
       go_wp2_with fail;go_meet;exact ⟨rfl,HS⟩
     case rest=>
      obtain ⟨rfl,HU⟩:=hcut;have HA2:Hid (R=((Sort.partLoop ltInt a (i2+1) (j2-1) (swp D i2 j2)).1,false,swp (Sort.partLoop ltInt a (i2+1) (j2-1) (swp D i2 j2)).2 (Sort.partLoop ltInt a (i2+1) (j2-1) (swp D i2 j2)).1 a)):=Ξ (by rw [HA1.out,if_neg HGT.out]);clear HA1 HA0;generalize hD2:swp D i2 j2=D2 at *;clear hD2;have e1:IntKind.i64.wrap ((i2:Int)+1)=((i2+1:Nat):Int):=w_inc _ (by have:=HF.out;omega);have e2:IntKind.i64.wrap ((j2:Int)-1)=((j2-1:Nat):Int):=w_dec _ (by have:=HF.out;omega) (by have:=HAP.out;omega);obtain ⟨i5,hi5⟩:∃ x,i2+1=x:=⟨_,rfl⟩;obtain ⟨j5,hj5⟩:∃ x,j2-1=x:=⟨_,rfl⟩;rw [hi5] at e1 HA2;rw [hj5] at e2 HA2;have HR0:Hid (a<i5∧i5≤j5+1∧j5<b∧a≤j5):=Ξ (by have:=HF.out;have:=HAP.out;have:=HR3.out;have:=HJL.out;omega);clear hi5 hj5 HR3 HR2 HJL HGT HAP HI2 HJ2 HF2 HP1 HP2 HD j2n i2n d1 d1';clear HF;have HF:=HF1;go_upto_block 4 with fail;go_cut [11] from 99 (fun s wc=>∃ k:Nat,s=.int .i64 (k:Int)∧Hid (k=(Sort.partLoop ltInt a i5 j5 D2).1∧k<b∧UT w wc B g cap n (Sort.partLoop ltInt a i5 j5 D2).2))
      case first=>
       go_wp2_with fail;go_loopw [10,11] (fun u v wr=>∃ i j:Nat,(u=.int .i64 (i:Int)∧v=.int .i64 (j:Int))∧Hid (a<i∧i≤j+1∧j<b∧a≤j)∧Hid (∃ D,UT w wr B g cap n D∧Sort.partLoop ltInt a i5 j5 D2=Sort.partLoop ltInt a i j D)) (fun u v _=>(intOf v+1-intOf u).toNat)
       case atStart=>exact ⟨i5,j5,⟨rfl,rfl⟩,HR0,Ξ ⟨D2,HU.out,rfl⟩⟩
       case round=>
        obtain ⟨i,j,⟨rfl,rfl⟩,HR1,hR⟩:=hrel;clear HU;obtain ⟨D3,hu,hd⟩:=hR.out;have HU:=Ξ hu;have HE1:=Ξ hd;clear hu hd hR;obtain ⟨P1,hP1⟩:∃ P:Int→Bool,(fun x=>ltInt x D3[a]!)=P:=⟨_,rfl⟩;obtain ⟨P2,hP2⟩:∃ P:Int→Bool,(fun x=>!ltInt x D3[a]!)=P:=⟨_,rfl⟩;have HP1:Hid (∀ x,P1 x=ltInt x D3[a]!):=Ξ (fun x=>by rw [←hP1]);have HP2:Hid (∀ x,P2 x = !ltInt x D3[a]!):=Ξ (fun x=>by rw [←hP2]);have HEQ:Hid (Sort.partLoop ltInt a i j D3=if Sort.scanUp P1 D3 j i > Sort.scanDown P2 D3 (Sort.scanUp P1 D3 j i) j then (Sort.scanDown P2 D3 (Sort.scanUp P1 D3 j i) j,D3) else Sort.partLoop ltInt a (Sort.scanUp P1 D3 j i+1) (Sort.scanDown P2 D3 (Sort.scanUp P1 D3 j i) j-1) (swp D3 (Sort.scanUp P1 D3 j i) (Sort.scanDown P2 D3 (Sort.scanUp P1 D3 j i) j))):=Ξ (by subst hP1;subst hP2;rw [Sort.partLoop_eq]);clear hP1 hP2;have HF1:=HF;have HF:Hid ((a<i∧i≤j+1∧j<b∧a≤j)∧a≤pivot∧pivot<b∧b≤n∧n≤1000000):=Ξ ⟨HR1.out,HF1.out⟩;go_upto_block 6 with fail;go_cut [10] from 99 to 114 (fun s wc=>∃ k:Nat,s=.int .i64 (k:Int)∧Hid (a<k∧k≤j+1∧j<b)∧Hid (Sort.scanUp P1 D3 j i=k)∧Hid (UT w wc B g cap n D3))
        case first=>
         go_wp2_with fail;go_loopw [10] (fun u wr=>∃ k:Nat,u=.int .i64 (k:Int)∧Hid (a<k∧k≤j+1∧j<b)∧Hid (UT w wr B g cap n D3)∧Hid (Sort.scanUp P1 D3 j i=Sort.scanUp P1 D3 j k)) (fun u _=>(j+1)-(intOf u).toNat)
         case atStart=>exact ⟨i,rfl,Ξ (by have:=HF.out;omega),HU,Ξ rfl⟩
         case round=>
          obtain ⟨k,rfl,HR,HU,HE⟩:=hrel;by_cases hk:k≤j
          ·have d1:decide ((k:Int)≤(j:Int))=true:=Γ (by omega);have d1':decide (k≤j)=true:=Γ hk;have HK:=Ξ hk;clear hk;have kn:k<n:=by have:=HR.out;have:=HF.out;have:=HK.out;omega
           have an:a<n:=by have:=HR.out;have:=HF.out;omega
           have e1:IntKind.i64.wrap ((k:Int)+1)=((k+1:Nat):Int):=w_inc _ (by have:=HF.out;omega);have c1:=HU.out.row.cell k kn;have c2:=HU.out.row.cell a an;generalize hx:(D3)[k]! = x at c1;generalize hy:(D3)[a]! = y at c2;have HX:=Ξ hx;have HY:=Ξ hy;clear hx hy;cases hl:ltInt x y
           ·have HL:=Ξ hl;clear hl;go_upto_region 13 with fail;go_quiet ((go_at_call 280;exact Calls.quiet_of_same (less_is _ _ _ HL.out _)))
            have HU:=Ξ (HU.out.drewN nq);go_wp2_with fail;go_meet;exact ⟨k,rfl,Ξ (by have:=HR.out;omega),Ξ (by rw [HE.out,scanUp_stop (.inr (by rw [HP1.out,HX.out,HY.out,HL.out];first|done|rfl))]),HU⟩
           ·have HL:=Ξ hl;clear hl;go_upto_region 13 with fail;go_quiet ((go_at_call 280;exact Calls.quiet_of_same (less_is _ _ _ HL.out _)))
            have HU:=Ξ (HU.out.drewN nq);go_wp2_with fail;go_roundw;case rel=>exact ⟨k+1,by go_num,Ξ (by have:=HR.out;have:=HK.out;omega),HU,Ξ (by rw [HE.out,scanUp_go HK.out (by rw [HP1.out,HX.out,HY.out,HL.out];first|done|rfl)])⟩
            case measure=>simp [intOf];have:=HK.out;have:=HR.out;omega
          ·have d1:decide ((k:Int)≤(j:Int))=false:=Λ (by omega);have d1':decide (k≤j)=false:=Λ hk;have HK:=Ξ hk;clear hk;go_upto_region 13 with fail;go_quiet (fail)
           have HU:=Ξ (HU.out.drewN nq);go_wp2_with fail;go_meet;exact ⟨k,rfl,Ξ (by have:=HR.out;omega),Ξ (by rw [HE.out,scanUp_stop (.inl HK.out)]),HU⟩
        case rest=>
         obtain ⟨i2,rfl,HR2,HI2,HU⟩:=hcut;have HF2:=HF;have HF:Hid ((a<i∧i≤j+1∧j<b∧a≤j)∧(a<i2∧i2≤j+1)∧i≤i2∧b≤n∧n≤1000000):=Ξ (by have:=HF2.out;have:=HR2.out;have h3:=Sort.scanUp_ge P1 D3 j i;rw [HI2.out] at h3;omega);go_upto_block 8 with fail;go_cut [11] from 115 to 131 (fun s wc=>∃ k:Nat,s=.int .i64 (k:Int)∧Hid (a≤k∧i2≤k+1∧k<b∧a<i2)∧Hid (Sort.scanDown P2 D3 i2 j=k)∧Hid (UT w wc B g cap n D3))
         case first=>
          go_wp2_with fail;go_loopw [11] (fun u wr=>∃ k:Nat,u=.int .i64 (k:Int)∧Hid (a≤k∧i2≤k+1∧k<b∧a<i2)∧Hid (UT w wr B g cap n D3)∧Hid (Sort.scanDown P2 D3 i2 j=Sort.scanDown P2 D3 i2 k)) (fun u _=>(intOf u).toNat)
          case atStart=>exact ⟨j,rfl,Ξ (by have:=HF.out;omega),HU,Ξ rfl⟩
          case round=>
           obtain ⟨k,rfl,HR,HU,HE⟩:=hrel;by_cases hk:i2≤k
           ·have d1:decide ((i2:Int)≤(k:Int))=true:=Γ (by omega);have d1':decide (i2≤k)=true:=Γ hk;have HK:=Ξ hk;clear hk;have kn:k<n:=by have:=HR.out;have:=HF.out;have:=HK.out;omega
            have an:a<n:=by have:=HR.out;have:=HF.out;omega
            have e1:IntKind.i64.wrap ((k:Int)-1)=((k-1:Nat):Int):=w_dec _ (by have:=HF.out;omega) (by have:=HR.out;have:=HK.out;omega);have c1:=HU.out.row.cell k kn;have c2:=HU.out.row.cell a an;generalize hx:(D3)[k]! = x at c1;generalize hy:(D3)[a]! = y at c2;have HX:=Ξ hx;have HY:=Ξ hy;clear hx hy;cases hl:ltInt x y
            ·have HL:=Ξ hl;clear hl;go_upto_region 15 with fail;go_quiet ((go_at_call 280;exact Calls.quiet_of_same (less_is _ _ _ HL.out _)))
             have HU:=Ξ (HU.out.drewN nq);go_wp2_with fail;go_roundw;case rel=>exact ⟨k-1,by go_num,Ξ (by have:=HR.out;have:=HK.out;omega),HU,Ξ (by rw [HE.out,scanDown_go HK.out (by rw [HP2.out,HX.out,HY.out,HL.out];first|done|rfl) (by have:=HR.out;have:=HK.out;omega)])⟩
             case measure=>simp [intOf];have:=HK.out;have:=HR.out;omega
            ·have HL:=Ξ hl;clear hl;go_upto_region 15 with fail;go_quiet ((go_at_call 280;exact Calls.quiet_of_same (less_is _ _ _ HL.out _)))
             have HU:=Ξ (HU.out.drewN nq);go_wp2_with fail;go_meet;exact ⟨k,rfl,Ξ (by have:=HR.out;omega),Ξ (by rw [HE.out,scanDown_stop (.inr (by rw [HP2.out,HX.out,HY.out,HL.out];first|done|rfl))]),HU⟩
           ·have d1:decide ((i2:Int)≤(k:Int))=false:=Λ (by omega);have d1':decide (i2≤k)=false:=Λ hk;have HK:=Ξ hk;clear hk;go_upto_region 15 with fail;go_quiet (fail)
            have HU:=Ξ (HU.out.drewN nq);go_wp2_with fail;go_meet;exact ⟨k,rfl,Ξ (by have:=HR.out;omega),Ξ (by rw [HE.out,scanDown_stop (.inl HK.out)]),HU⟩
         case rest=>
          obtain ⟨j2,rfl,HR3,HJ2,HU⟩:=hcut;have HG:Hid (¬ i2 > j2→Sort.partLoop ltInt a i j D3=Sort.partLoop ltInt a (i2+1) (j2-1) (swp D3 i2 j2)):=Ξ (fun h=>by rw [HEQ.out,HI2.out,HJ2.out,if_neg h]);have HGs:Hid (i2 > j2→Sort.partLoop ltInt a i j D3=(j2,D3)):=Ξ (fun h=>by rw [HEQ.out,HI2.out,HJ2.out,if_pos h]);have HJL:Hid (j2≤j):=Ξ (by have h3:=Sort.scanDown_le P2 D3 i2 j;rw [HJ2.out] at h3;exact h3);by_cases hgt:j2<i2
          ·have d1:decide ((j2:Int)<(i2:Int))=true:=Γ (by omega);have d1':decide (j2<i2)=true:=Γ hgt;have HGT:=Ξ hgt;clear hgt;go_wp2_with fail;go_meet;exact ⟨j2,rfl,Ξ (by rw [HE1.out,HGs.out HGT.out];exact ⟨rfl,by have:=HF.out;have:=HJL.out;omega,HU.out⟩)⟩
          ·have d1:decide ((j2:Int)<(i2:Int))=false:=Λ (by omega);have d1':decide (j2<i2)=false:=Λ hgt;have HGT:=Ξ hgt;have HAP:Hid (i2<j2):=Ξ (scans_apart (fun x=>by rw [HP2.out,HP1.out]) HI2.out HJ2.out HGT.out (by have:=HF2.out;omega));have i2n:i2<n:=by have:=HF.out;have:=HR3.out;omega
           have j2n:j2<n:=by have:=HF.out;have:=HR3.out;omega
           clear hgt;go_upto_region 18 with fail;go_cut [8] from 135 to 148 (fun s8 wc=>s8=.int .i64 0∧Hid (UT w wc B g cap n (swp D3 i2 j2)))
           case first=>
            have c1:=HU.out.row.cell i2 i2n;have c2:=HU.out.row.cell j2 j2n;have q1:=HU.out.row.free i2;have q2:=HU.out.row.free j2;generalize hx:(D3)[i2]! = x9 at c1;generalize hy:(D3)[j2]! = y9 at c2;have HS:=Ξ (HU.out.swap i2 j2 hx hy).drew;by_cases hij:i2=j2
            ·have hxy:y9=x9:=by rw [←hx,←hy,hij]
             subst hxy;clear hx hy;subst hij;go_region
             go_wp2_with fail;go_meet;exact ⟨rfl,HS⟩
            ·have ne1:¬ i2=j2:=hij;have ne2:¬ j2=i2:=fun e=>hij e.symm;clear hij hx hy;go_region
             go_wp2_with fail;go_meet;exact ⟨rfl,HS⟩
           case rest=>
            obtain ⟨rfl,HU⟩:=hcut;have e1:IntKind.i64.wrap ((i2:Int)+1)=((i2+1:Nat):Int):=w_inc _ (by have:=HF.out;omega);have e2:IntKind.i64.wrap ((j2:Int)-1)=((j2-1:Nat):Int):=w_dec _ (by have:=HF.out;omega) (by have:=HAP.out;omega);go_wp2_with fail;go_roundw;case rel=>exact ⟨i2+1,j2-1,⟨by go_num,rfl⟩,Ξ (by have:=HF.out;have:=HR3.out;have:=HAP.out;have:=HJL.out;omega),Ξ ⟨_,HU.out,by rw [HE1.out,HG.out HGT.out]⟩⟩
            case measure=>simp [intOf];have:=HF.out;have:=HR3.out;have:=HGT.out;have:=HJL.out;omega
      case rest=>
       obtain ⟨k,rfl,hk⟩:=hcut;have HU:=Ξ hk.out.2.2;have HK:=Ξ hk.out.1;have kn:k<n:=by have:=hk.out.2.1;have:=HF.out;omega
       clear hk;rw [←HK.out] at HA2;generalize (Sort.partLoop ltInt a i5 j5 D2).2=D3 at *;go_upto_region 21 with fail;go_cut [8] from 153 (fun s8 wc=>s8=.int .i64 0∧Hid (UT w wc B g cap n (swp D3 k a)))
       case first=>
        have c1:=HU.out.row.cell k kn;have c2:=HU.out.row.cell a an;have q1:=HU.out.row.free k;have q2:=HU.out.row.free a;generalize hx:(D3)[k]! = x9 at c1;generalize hy:(D3)[a]! = y9 at c2;have HS:=Ξ (HU.out.swap k a hx hy).drew;by_cases hij:k=a
        ·have hxy:y9=x9:=by rw [←hx,←hy,hij]
         subst hxy;clear hx hy;subst hij;go_region
         go_wp2_with fail;go_meet;exact ⟨rfl,HS⟩
        ·have ne1:¬ k=a:=hij;have ne2:¬ a=k:=fun e=>hij e.symm;clear hij hx hy;go_region
         go_wp2_with fail;go_meet;exact ⟨rfl,HS⟩
       case rest=>
        obtain ⟨rfl,HU⟩:=hcut;go_wp2_with fail;go_ret2;refine ⟨?_,?_⟩
        ·rw [HA2.out];rfl
        ·rw [HA2.out];exact HU.out
theorem scanS_stop{d:Array Int}{b i:Nat}(h:¬ i<b∨ltInt d[i]! d[i-1]! = true):Sort.scanSorted ltInt d b i=i:=by
 rw [Sort.scanSorted,if_neg];rcases h with h|h
 ·simp;intro h2;omega
 ·simp [h]
theorem scanS_go{d:Array Int}{b i:Nat}(h:i<b)(hp:ltInt d[i]! d[i-1]! = false):Sort.scanSorted ltInt d b i=Sort.scanSorted ltInt d b (i+1):=by rw [Sort.scanSorted,if_pos (by simp [h,hp])]
theorem shiftD_stop{d:Array Int}{j:Nat}(h:¬ 1≤j∨ltInt d[j]! d[j-1]! = false):Sort.shiftDown ltInt j d=d:=by
 cases j with
 | zero=>rfl
 | succ j=>
  rw [Sort.shiftDown,if_pos];rcases h with h|h
  ·omega
  ·simp at h;simp [h]
theorem shiftD_go{d:Array Int}{j:Nat}(h:1≤j)(hp:ltInt d[j]! d[j-1]! = true):Sort.shiftDown ltInt j d=Sort.shiftDown ltInt (j-1) (swp d j (j-1)):=by
 cases j with
 | zero=>omega
 | succ j=>
  rw [Sort.shiftDown,if_neg]
  ·rfl
  ·simp at hp;simp [hp]
theorem shiftU_stop{d:Array Int}{b j:Nat}(h:¬ j<b∨ltInt d[j]! d[j-1]! = false):Sort.shiftUp ltInt b j d=d:=by
 rw [Sort.shiftUp];rcases h with h|h
 ·rw [if_neg h]
 ·split
  ·rw [if_pos (by simp [h])]
  ·rfl
theorem shiftU_go{d:Array Int}{b j:Nat}(h:j<b)(hp:ltInt d[j]! d[j-1]! = true):Sort.shiftUp ltInt b j d=Sort.shiftUp ltInt b (j+1) (swp d j (j-1)):=by rw [Sort.shiftUp,if_pos h,if_neg (by simp [hp])]
def PiTo(w:World)(B g cap n:Nat)(r:Array Int×Bool)(e:Ending)(w':World):Prop:=e=.returned (.bool r.2)∧UT w w' B g cap n r.1
theorem pins_on{B g cap n:Nat}{d:Array Int}{w:World}(h:UA w B g cap n d)(hn:n≤1000000)(a b:Nat)(hab:a+12<b)(hb:b≤n) :
  Calls prog 279 #[.slice (some ⟨g,0,none⟩) n cap,.int .i64 (a:Int),.int .i64 (b:Int)] w (PiTo w B g cap n (Sort.partialInsertionSort ltInt d a b)):=by
 obtain ⟨i0,hi0⟩:∃ i0,a+1=i0:=⟨_,rfl⟩;have e1:IntKind.i64.wrap ((a:Int)+1)=(i0:Int):=by rw [w_inc _ (by omega),hi0]
 have HF:Hid (a<b∧b≤n∧n≤1000000):=Ξ (by omega);have I0:Hid (∃ D,UT w w B g cap n D∧Sort.partialInsertionSort ltInt d a b=Sort.partialIns ltInt a b (5-0) i0 D):=Ξ ⟨d,UT.refl h,by unfold Sort.partialInsertionSort;rw [hi0]⟩;have HI0:Hid (a<i0∧i0≤b):=Ξ (by omega);obtain ⟨l,hl⟩:∃ l,b-a=l:=⟨_,rfl⟩;have el:IntKind.i64.wrap ((b:Int)-(a:Int))=(l:Int):=by rw [w_sub _ _ (by omega) (by omega),hl]
 have HL9:=Ξ hl;generalize hR:Sort.partialInsertionSort ltInt d a b=R at *;clear h hn hab hb hi0 hl hR;go_enter func279,ntmps279;go_wp2_with fail;go_loopw [7,8] (fun u v wr=>∃ i t:Nat,(u=.int .i64 (i:Int)∧v=.int .i64 (t:Int))∧Hid (t≤5∧a<i∧i≤b)∧Hid (∃ D,UT w wr B g cap n D∧R=Sort.partialIns ltInt a b (5-t) i D)) (fun _ v _=>(5-intOf v).toNat)
 case atStart=>exact ⟨i0,0,⟨rfl,rfl⟩,Ξ ⟨by omega,HI0.out.1,HI0.out.2⟩,I0⟩
 case round=>
  obtain ⟨i,t,⟨rfl,rfl⟩,HT,hR⟩:=hrel;clear I0;obtain ⟨D,hu,hd⟩:=hR.out;have HU:=Ξ hu;have HE:=Ξ hd;clear hu hd hR;by_cases ht:t<5
  ·have d1:decide ((t:Int)<5)=true:=Γ (by omega);have d1':decide (t<5)=true:=Γ ht;obtain ⟨s,hs⟩:∃ s,5-t=s+1:=⟨4-t,by omega⟩;have HS0:Hid (5-(t+1)=s∧t<5):=Ξ (by omega);have et:IntKind.i64.wrap ((t:Int)+1)=((t+1:Nat):Int):=w_inc _ (by omega);have HE2:Hid (R=if Sort.scanSorted ltInt D b i=b then (D,true) else if b-a<50 then (D,false) else
    Sort.partialIns ltInt a b s (Sort.scanSorted ltInt D b i) (Sort.fixUp ltInt b (Sort.scanSorted ltInt D b i) (Sort.fixDown ltInt a (Sort.scanSorted ltInt D b i) (swp D (Sort.scanSorted ltInt D b i) (Sort.scanSorted ltInt D b i-1))))):=Ξ (by rw [HE.out,hs,Sort.partialIns_succ])
   clear hs ht HE;go_upto_block 2 with fail;go_cut [7] from 17 to 32 (fun s7 wc=>∃ k:Nat,s7=.int .i64 (k:Int)∧Hid (a<k∧k≤b)∧Hid (Sort.scanSorted ltInt D b i=k)∧Hid (UT w wc B g cap n D))
   case first=>
    go_wp2_with fail;go_loopw [7] (fun u wr=>∃ k:Nat,u=.int .i64 (k:Int)∧Hid (a<k∧k≤b)∧Hid (UT w wr B g cap n D)∧Hid (Sort.scanSorted ltInt D b i=Sort.scanSorted ltInt D b k)) (fun u _=>b-(intOf u).toNat)
    case atStart=>exact ⟨i,rfl,Ξ (by have:=HT.out;omega),HU,Ξ rfl⟩
    case round=>
     obtain ⟨k,rfl,HR,HU,HE⟩:=hrel;by_cases hk:k<b
     ·have d1:decide ((k:Int)<(b:Int))=true:=Γ (by omega);have d1':decide (k<b)=true:=Γ hk;have HK:=Ξ hk;clear hk;have kn:k<n:=by have:=HF.out;have:=HK.out;omega
      have e5:IntKind.i64.wrap ((k:Int)+1)=((k+1:Nat):Int):=w_inc _ (by have:=HF.out;omega);obtain ⟨m,hm⟩:∃ m,k-1=m:=⟨_,rfl⟩;have HM:=Ξ hm;have e6:IntKind.i64.wrap ((k:Int)-1)=(m:Int):=by rw [w_dec _ (by have:=HF.out;omega) (by have:=HR.out;omega),hm]
      clear hm;have mn:m<n:=by have:=HM.out;omega
      have c1:=HU.out.row.cell k kn;have c2:=HU.out.row.cell m mn;generalize hx:D[k]! = x at c1;generalize hy:D[m]! = y at c2;have HX:=Ξ hx;have HY:=Ξ hy;clear hx hy;cases hl:ltInt x y
      ·have HL:=Ξ hl;clear hl;go_upto_region 5 with fail;go_quiet ((go_at_call 280;exact Calls.quiet_of_same (less_is _ _ _ HL.out _)))
       have HU:=Ξ (HU.out.drewN nq);go_wp2_with fail;go_roundw;case rel=>exact ⟨k+1,by go_num,Ξ (by have:=HR.out;have:=HK.out;omega),HU,Ξ (by rw [HE.out,scanS_go HK.out (by rw [HM.out,HX.out,HY.out];exact HL.out)])⟩
       case measure=>simp [intOf];have:=HK.out;omega
      ·have HL:=Ξ hl;clear hl;go_upto_region 5 with fail;go_quiet ((go_at_call 280;exact Calls.quiet_of_same (less_is _ _ _ HL.out _)))
       have HU:=Ξ (HU.out.drewN nq);go_wp2_with fail;go_meet;exact ⟨k,rfl,HR,Ξ (by rw [HE.out,scanS_stop (.inr (by rw [HM.out,HX.out,HY.out];exact HL.out))]),HU⟩
     ·have d1:decide ((k:Int)<(b:Int))=false:=Λ (by omega);have d1':decide (k<b)=false:=Λ hk;have HK:=Ξ hk;clear hk;go_upto_region 5 with fail;go_quiet (fail)
      have HU:=Ξ (HU.out.drewN nq);go_wp2_with fail;go_meet;exact ⟨k,rfl,HR,Ξ (by rw [HE.out,scanS_stop (.inl HK.out)]),HU⟩
   case rest=>
    obtain ⟨k,rfl,HR,HK,HU⟩:=hcut;have HE3:=Ξ HE2.out;rw [HK.out] at HE3;clear HE2;by_cases hkb:k=b
    ·have HKB:=Ξ hkb;have dd:decide ((k:Int)=(b:Int))=true:=Γ (by omega);have dd1:((k:Int) == (b:Int))=true:=by simp;omega
     have dd2:decide (k=b)=true:=Γ hkb;clear hkb;go_wp2_with fail;go_ret;exact ⟨by rw [HE3.out,if_pos HKB.out];rfl,by rw [HE3.out,if_pos HKB.out];exact HU.out⟩
    ·have HKB:=Ξ hkb;have dd:decide ((k:Int)=(b:Int))=false:=Λ (by omega);have dd1:((k:Int) == (b:Int))=false:=by simp;omega
     have dd2:decide (k=b)=false:=Λ hkb;clear hkb;by_cases h50:l<50
     ·have d5:decide ((l:Int)<50)=true:=Γ (by omega);have d5':decide (l<50)=true:=Γ h50;have H50:=Ξ h50;clear h50;go_wp2_with fail;go_ret;exact ⟨by rw [HE3.out,if_neg HKB.out,if_pos (by rw [HL9.out];exact H50.out)];rfl,by rw [HE3.out,if_neg HKB.out,if_pos (by rw [HL9.out];exact H50.out)];exact HU.out⟩
     ·have d5:decide ((l:Int)<50)=false:=Λ (by omega);have d5':decide (l<50)=false:=Λ h50;have HE4:Hid (R=Sort.partialIns ltInt a b s k (Sort.fixUp ltInt b k (Sort.fixDown ltInt a k (swp D k (k-1))))):=Ξ (by rw [HE3.out,if_neg HKB.out,if_neg (by rw [HL9.out];exact h50)]);clear h50 HE3;obtain ⟨m,hm⟩:∃ m,k-1=m:=⟨_,rfl⟩;have HM:=Ξ hm;have e6:IntKind.i64.wrap ((k:Int)-1)=(m:Int):=by rw [w_dec _ (by have:=HF.out;have:=HR.out;omega) (by have:=HR.out;omega),hm]
      rw [hm] at HE4;clear hm;have kn:k<n:=by have:=HF.out;have:=HR.out;have:=HKB.out;omega
      have mn:m<n:=by have:=HM.out;omega
      go_upto_region 11 with fail;go_cut [7] from 42 to 57 (fun s8 wc=>s8=.int .i64 (k:Int)∧Hid (UT w wc B g cap n (swp D k m)))
      case first=>
       have c1:=HU.out.row.cell k kn;have c2:=HU.out.row.cell m mn;have q1:=HU.out.row.free k;have q2:=HU.out.row.free m;generalize hx:(D)[k]! = x9 at c1;generalize hy:(D)[m]! = y9 at c2;have HS:=Ξ (HU.out.swap k m hx hy).drew;have hij:¬ k=m:=(by have:=HM.out;have:=HR.out;omega);have ne1:¬ k=m:=hij;have ne2:¬ m=k:=fun e=>hij e.symm;clear hij hx hy;go_region
       go_wp2_with fail;go_meet;exact ⟨rfl,HS⟩
      case rest=>
       obtain ⟨rfl,HU⟩:=hcut;generalize hD:swp D k m=D1 at *;clear hD;obtain ⟨c,hc⟩:∃ c,k-a=c:=⟨_,rfl⟩;have HC:=Ξ hc;have e7:IntKind.i64.wrap ((k:Int)-(a:Int))=(c:Int):=by rw [w_sub _ _ (by have:=HR.out;omega) (by have:=HF.out;omega),hc]
       clear hc;go_upto_if 61 with fail;go_cut [7] from 61 to 94 (fun s8 wc=>s8=.int .i64 (k:Int)∧Hid (UT w wc B g cap n (Sort.fixDown ltInt a k D1)))
       case first=>
        by_cases h2:2≤c
        ·have d6:decide ((2:Int)≤(c:Int))=true:=Γ (by omega);have d6':decide (2≤c)=true:=Γ h2;have h2i:(2:Int)≤(c:Int):=(by omega);have HFX:Hid (Sort.fixDown ltInt a k D1=Sort.shiftDown ltInt m D1):=Ξ (by unfold Sort.fixDown;rw [if_pos (by rw [HC.out];exact h2),HM.out]);go_wp2_with fail;go_loopw [9] (fun u wr=>∃ j:Nat,u=.int .i64 (j:Int)∧Hid (j<n)∧Hid (∃ D2,UT w wr B g cap n D2∧Sort.shiftDown ltInt m D1=Sort.shiftDown ltInt j D2)) (fun u _=>(intOf u).toNat)
         case atStart=>exact ⟨m,rfl,Ξ mn,Ξ ⟨D1,HU.out,rfl⟩⟩
         case round=>
          obtain ⟨j,rfl,HJ,hR⟩:=hrel;clear HU;obtain ⟨D2,hu,hd⟩:=hR.out;have HU:=Ξ hu;have HE:=Ξ hd;clear hu hd hR;by_cases h1:1≤j
          ·have d7:decide ((1:Int)≤(j:Int))=true:=Γ (by omega);have d7':decide (1≤j)=true:=Γ h1;have H1:=Ξ h1;clear h1;obtain ⟨q,hq⟩:∃ q,j-1=q:=⟨_,rfl⟩;have HQ:=Ξ hq;have e10:IntKind.i64.wrap ((j:Int)-1)=(q:Int):=by rw [w_dec _ (by have:=HF.out;have:=HJ.out;omega) H1.out,hq]
           clear hq;have jn:j<n:=HJ.out;have qn:q<n:=by have:=HQ.out;omega
           have ne1:¬ j=q:=by have:=HQ.out;have:=H1.out;omega
           have ne2:¬ q=j:=by have:=HQ.out;have:=H1.out;omega
           have c1:=HU.out.row.cell j jn;have c2:=HU.out.row.cell q qn;generalize hx:D2[j]! = x at c1;generalize hy:D2[q]! = y at c2;have HX:=Ξ hx;have HY:=Ξ hy;clear hx hy;cases hl:ltInt x y
           ·have HL:=Ξ hl;clear hl;go_upto_region 16 with fail;go_quiet ((go_at_call 280;exact Calls.quiet_of_same (less_is _ _ _ HL.out _)))
            have HU:=Ξ (HU.out.drewN nq);go_wp2_with fail;go_meet;exact ⟨rfl,Ξ (by rw [HFX.out,HE.out,shiftD_stop (.inr (by rw [HQ.out,HX.out,HY.out];exact HL.out))];exact HU.out)⟩
           ·have HL:=Ξ hl;clear hl;go_upto_region 16 with fail;rename World=>wq;go_quiet ((go_at_call 280;exact Calls.quiet_of_same (less_is _ _ _ HL.out _)))
            have HU:=Ξ (HU.out.drewN nq);generalize wq.drewN nq=w5 at *;clear c1 c2;have c1:=HU.out.row.cell j jn;have c2:=HU.out.row.cell q qn;have q1:=HU.out.row.free j;have q2:=HU.out.row.free q;rw [HX.out] at c1;rw [HY.out] at c2;have HS:=Ξ (HU.out.swap j q HX.out HY.out).drew;go_upto_region 17 with fail;go_region
            go_wp2_with fail;go_roundw;case rel=>exact ⟨q,rfl,Ξ (by have:=HQ.out;have:=HJ.out;have:=H1.out;have:=HQ.out;omega),Ξ ⟨_,HS.out,by rw [HE.out,shiftD_go H1.out (by rw [HQ.out,HX.out,HY.out];exact HL.out),HQ.out]⟩⟩
            case measure=>simp [intOf];have:=HQ.out;have:=H1.out;have:=H1.out;have:=HQ.out;omega
          ·have d7:decide ((1:Int)≤(j:Int))=false:=Λ (by omega);have d7':decide (1≤j)=false:=Λ h1;have H1:=Ξ h1;clear h1;go_wp2_with fail;go_meet;exact ⟨rfl,Ξ (by rw [HFX.out,HE.out,shiftD_stop (.inl H1.out)];exact HU.out)⟩
        ·have d6:decide ((2:Int)≤(c:Int))=false:=Λ (by omega);have d6':decide (2≤c)=false:=Λ h2;have h2i:¬ (2:Int)≤(c:Int):=(by omega);have HFX:Hid (Sort.fixDown ltInt a k D1=D1):=Ξ (by unfold Sort.fixDown;rw [if_neg (by rw [HC.out];exact h2)]);go_wp2_with fail;go_meet;exact ⟨rfl,Ξ (by rw [HFX.out];exact HU.out)⟩
       case rest=>
        obtain ⟨rfl,HU⟩:=hcut;generalize hD:Sort.fixDown ltInt a k D1=D3 at *;clear hD e7 HC;obtain ⟨c2,hc⟩:∃ c2,b-k=c2:=⟨_,rfl⟩;have HC:=Ξ hc;have e7:IntKind.i64.wrap ((b:Int)-(k:Int))=(c2:Int):=by rw [w_sub _ _ (by have:=HR.out;omega) (by have:=HF.out;omega),hc]
        clear hc;by_cases h2:2≤c2
        ·have d6:decide ((2:Int)≤(c2:Int))=true:=Γ (by omega);have d6':decide (2≤c2)=true:=Γ h2;have HFX:Hid (Sort.fixUp ltInt b k D3=Sort.shiftUp ltInt b (k+1) D3):=Ξ (by unfold Sort.fixUp;rw [if_pos (by rw [HC.out];exact h2)]);obtain ⟨k1,hk1⟩:∃ k1,k+1=k1:=⟨_,rfl⟩;have HK1:Hid (a<k1∧k1≤b):=Ξ (by have:=HR.out;have:=HKB.out;omega);have e8:IntKind.i64.wrap ((k:Int)+1)=(k1:Int):=by rw [w_inc _ (by have:=HF.out;have:=HR.out;omega),hk1]
         rw [hk1] at HFX;clear h2 hk1;go_wp2_with fail;go_loopw [10] (fun u wr=>∃ j:Nat,u=.int .i64 (j:Int)∧Hid (a<j∧j≤b)∧Hid (∃ D2,UT w wr B g cap n D2∧Sort.shiftUp ltInt b k1 D3=Sort.shiftUp ltInt b j D2)) (fun u _=>b-(intOf u).toNat)
         case atStart=>exact ⟨k1,rfl,HK1,Ξ ⟨D3,HU.out,rfl⟩⟩
         case round=>
          obtain ⟨j,rfl,HJ0,hR⟩:=hrel;clear HU;obtain ⟨D2,hu,hd⟩:=hR.out;have HU:=Ξ hu;have HE:=Ξ hd;clear hu hd hR;by_cases h1:j<b
          ·have d7:decide ((j:Int)<(b:Int))=true:=Γ (by omega);have d7':decide (j<b)=true:=Γ h1;have HB1:=Ξ h1;have HJ:Hid (j<n):=Ξ (by have:=HF.out;omega);have H1:Hid (1≤j):=Ξ (by have:=HJ0.out;omega);have e9:IntKind.i64.wrap ((j:Int)+1)=((j+1:Nat):Int):=w_inc _ (by have:=HF.out;omega);clear h1;obtain ⟨q,hq⟩:∃ q,j-1=q:=⟨_,rfl⟩;have HQ:=Ξ hq;have e10:IntKind.i64.wrap ((j:Int)-1)=(q:Int):=by rw [w_dec _ (by have:=HF.out;have:=HJ.out;omega) H1.out,hq]
           clear hq;have jn:j<n:=HJ.out;have qn:q<n:=by have:=HQ.out;omega
           have ne1:¬ j=q:=by have:=HQ.out;have:=H1.out;omega
           have ne2:¬ q=j:=by have:=HQ.out;have:=H1.out;omega
           have c1:=HU.out.row.cell j jn;have c2:=HU.out.row.cell q qn;generalize hx:D2[j]! = x at c1;generalize hy:D2[q]! = y at c2;have HX:=Ξ hx;have HY:=Ξ hy;clear hx hy;cases hl:ltInt x y
           ·have HL:=Ξ hl;clear hl;go_upto_region 22 with fail;go_quiet ((go_at_call 280;exact Calls.quiet_of_same (less_is _ _ _ HL.out _)))
            have HU:=Ξ (HU.out.drewN nq);go_wp2_with fail;go_roundw;case rel=>exact ⟨k,t+1,⟨rfl,by go_num⟩,Ξ (by have:=HS0.out;have:=HR.out;omega),Ξ ⟨_,HU.out,by rw [HE4.out,HS0.out.1,HFX.out,HE.out,shiftU_stop (.inr (by rw [HQ.out,HX.out,HY.out];exact HL.out))]⟩⟩
            case measure=>simp [intOf];have:=HS0.out;omega
           ·have HL:=Ξ hl;clear hl;go_upto_region 22 with fail;rename World=>wq;go_quiet ((go_at_call 280;exact Calls.quiet_of_same (less_is _ _ _ HL.out _)))
            have HU:=Ξ (HU.out.drewN nq);generalize wq.drewN nq=w5 at *;clear c1 c2;have c1:=HU.out.row.cell j jn;have c2:=HU.out.row.cell q qn;have q1:=HU.out.row.free j;have q2:=HU.out.row.free q;rw [HX.out] at c1;rw [HY.out] at c2;have HS:=Ξ (HU.out.swap j q HX.out HY.out).drew;go_upto_region 23 with fail;go_region
            go_wp2_with fail;go_roundw;case rel=>exact ⟨j+1,by first|go_num|rw [HQ.out],Ξ (by have:=HQ.out;have:=HJ.out;have:=HB1.out;have:=HJ0.out;omega),Ξ ⟨_,HS.out,by rw [HE.out,shiftU_go HB1.out (by rw [HQ.out,HX.out,HY.out];exact HL.out),HQ.out]⟩⟩
            case measure=>simp [intOf];have:=HQ.out;have:=H1.out;have:=HB1.out;have:=HJ0.out;omega
          ·have d7:decide ((j:Int)<(b:Int))=false:=Λ (by omega);have d7':decide (j<b)=false:=Λ h1;have H1:=Ξ h1;clear h1;go_wp2_with fail;go_roundw;case rel=>exact ⟨k,t+1,⟨rfl,by go_num⟩,Ξ (by have:=HS0.out;have:=HR.out;omega),Ξ ⟨_,HU.out,by rw [HE4.out,HS0.out.1,HFX.out,HE.out,shiftU_stop (.inl H1.out)]⟩⟩
           case measure=>simp [intOf];have:=HS0.out;omega
        ·have d6:decide ((2:Int)≤(c2:Int))=false:=Λ (by omega);have d6':decide (2≤c2)=false:=Λ h2;have HFX:Hid (Sort.fixUp ltInt b k D3=D3):=Ξ (by unfold Sort.fixUp;rw [if_neg (by rw [HC.out];exact h2)]);clear h2;go_wp2_with fail;go_roundw;case rel=>exact ⟨k,t+1,⟨rfl,by go_num⟩,Ξ (by have:=HS0.out;have:=HR.out;omega),Ξ ⟨_,HU.out,by rw [HE4.out,HS0.out.1,HFX.out]⟩⟩
         case measure=>simp [intOf];have:=HS0.out;omega
  ·have d1:decide ((t:Int)<5)=false:=Λ (by omega);have d1':decide (t<5)=false:=Λ ht;have HE2:Hid (R=(D,false)):=Ξ (by rw [HE.out,show 5-t=0 by omega];rfl);clear ht;go_wp2_with fail;go_ret;exact ⟨by rw [HE2.out];rfl,by rw [HE2.out];exact HU.out⟩
end Go.Proofs.YtcgmgdjeamidlaaGreat
namespace Go.Proofs.YtcgmgdjeamidlaaGreat
set_option maxRecDepth 100000
set_option maxHeartbeats 16000000
open Go.Sort (swp ltInt PermIn SortedIn)
set_option linter.unusedVariables false
set_option linter.unusedSimpArgs false
theorem lt_iff{x y:Int}:ltInt x y=true↔x<y:=by simp [ltInt]
theorem nlt_iff{x y:Int}:ltInt x y=false↔y≤x:=by simp [ltInt]
structure PdInv(a b:Nat)(d:Array Int)(a' b':Nat)(D:Array Int):Prop where
 h1:a≤a'
 h2:a'≤b'
 h3:b'≤b
 perm:PermIn a b d D
 bel:∀ i,a'≤i→i<b'→a'=0∨D[a'-1]!≤D[i]!
 cont:∀ D',PermIn a' b' D D'→SortedIn ltInt a' b' D'→SortedIn ltInt a b D'
theorem bel_of{a b:Nat}{d:Array Int}(h:Sort.Below ltInt a b d):∀ i,a≤i→i<b→a=0∨d[a-1]!≤d[i]!:=fun i h1 h2=>by
 rcases h with h|h
 ·exact .inl h
 ·exact .inr (nlt_iff.1 (h i h1 h2))
theorem bel_to{a b:Nat}{d:Array Int}(h:∀ i,a≤i→i<b→a=0∨d[a-1]!≤d[i]!):Sort.Below ltInt a b d:=by
 by_cases h0:a=0
 ·exact .inl h0
 ·exact .inr fun i h1 h2=>nlt_iff.2 ((h i h1 h2).resolve_left h0)
theorem PdInv.start{a b:Nat}{d:Array Int}(hab:a≤b)(h:Sort.Below ltInt a b d):PdInv a b d a b d:=
 ⟨Θ _,hab,Θ _,Sort.permIn_refl _ _ _,bel_of h,fun _ _ h=>h⟩
theorem perm_out{a b:Nat}{d d':Array Int}(h:PermIn a b d d')(i:Nat)(hi:i<a∨b≤i):d'[i]! = d[i]!:=h.2.1 i hi
theorem perm_all{a b:Nat}{d d':Array Int}(hb:b≤d.size)(h:PermIn a b d d')(p:Int→Prop)(hp:∀ i,a≤i→i<b→p d[i]!):∀ i,a≤i→i<b→p d'[i]!:=Sort.permIn_all d d' a b p hb h hp
theorem PdInv.perm'{a b:Nat}{d:Array Int}{a' b':Nat}{D D':Array Int}(h:PdInv a b d a' b' D)(hs:b≤D.size)(hp:PermIn a' b' D D'):PdInv a b d a' b' D':=by
 refine ⟨h.h1,h.h2,h.h3,Sort.permIn_trans _ _ _ _ _ h.perm (Sort.permIn_mono _ _ _ _ _ _ h.h1 h.h3 hs hp),?_,fun D2 hp2 hs2=>h.cont D2 (Sort.permIn_trans _ _ _ _ _ hp hp2) hs2⟩;intro i h1 h2;by_cases h0:a'=0
 ·exact .inl h0
 ·refine .inr ?_;rw [perm_out hp (a'-1) (.inl (by omega))];exact perm_all (by have:=h.h3;omega) hp (fun x=>D[a'-1]!≤x) (fun i h1 h2=>(h.bel i h1 h2).resolve_left h0) i h1 h2
theorem PdInv.done{a b:Nat}{d:Array Int}{a' b':Nat}{D D':Array Int}(h:PdInv a b d a' b' D)(hs:b≤D.size)(hp:PermIn a' b' D D')(hd:SortedIn ltInt a' b' D'):PermIn a b d D'∧SortedIn ltInt a b D':=
 ⟨(h.perm' hs hp).perm,h.cont D' hp hd⟩
theorem PdInv.eq{a b:Nat}{d:Array Int}{a' b' p:Nat}{D:Array Int}(h:PdInv a b d a' b' D)(hs:b≤D.size)(hp1:a'≤p)(hp2:p<b')(h0:0<a')(hl:ltInt D[a'-1]! D[p]! = false) :
  ∃ hm:a'<(Sort.partitionEqual ltInt D a' b' p).1∧(Sort.partitionEqual ltInt D a' b' p).1≤b',PdInv a b d (Sort.partitionEqual ltInt D a' b' p).1 b' (Sort.partitionEqual ltInt D a' b' p).2:=by
 have hall:∀ i,a'≤i→i<b'→ltInt D[i]! D[p]! = false:=fun i h1 h2=>by have:=(h.bel i h1 h2).resolve_left (by omega);rw [nlt_iff] at hl ⊢;omega
 obtain ⟨k1,k2,kp,kl,kr⟩:=Sort.partitionEqual_holds (lt:=ltInt) ltInt_swo D a' b' p hp1 hp2 (by have:=h.h3;omega) hall;generalize (Sort.partitionEqual ltInt D a' b' p).1=m at *;generalize (Sort.partitionEqual ltInt D a' b' p).2=D4 at *;have hge:∀ i,a'≤i→i<b'→D[p]!≤D4[i]!:=perm_all (by have:=h.h3;omega) kp (fun x=>D[p]!≤x) fun i h1 h2=>nlt_iff.1 (hall i h1 h2);refine ⟨⟨k1,k2⟩,⟨by have:=h.h1;omega,k2,h.h3,(h.perm' hs kp).perm,fun i h1 h2=>.inr ?_,fun D' hp hd=>?_⟩⟩
 ·have a1:=lt_iff.1 (kr i h1 h2);have a2:=nlt_iff.1 (kl (m-1) (by omega) (by omega));omega
 ·have hsz:D4.size=D.size:=kp.1;have hr:∀ i,m≤i→i<b'→D[p]! < D'[i]!:=perm_all (by have:=h.h3;omega) hp (fun x=>D[p]! < x) fun i h1 h2=>lt_iff.1 (kr i h1 h2);refine h.cont D' (Sort.permIn_trans _ _ _ _ _ kp (Sort.permIn_mono _ _ _ _ _ _ (by omega) (Θ _) (by have:=h.h3;omega) hp)) ?_;intro i j h1 h2 h3;rw [nlt_iff];by_cases hi:i<m
  ·rw [perm_out hp i (.inl hi)];have b1:=nlt_iff.1 (kl i h1 hi);by_cases hj:j<m
   ·rw [perm_out hp j (.inl hj)];have:=hge j (by omega) h3;omega
   ·have:=hr j (by omega) h3;omega
  ·exact nlt_iff.1 (hd i j (by omega) h2 h3)
structure Parted(a' b' m:Nat)(D4:Array Int):Prop where
 m1:a'≤m
 m2:m<b'
 left:∀ i,a'≤i→i<m→D4[i]! < D4[m]!
 right:∀ i,m<i→i<b'→D4[m]!≤D4[i]!
theorem parted_of{a' b' p:Nat}{D:Array Int}(hp1:a'≤p)(hp2:p<b')(hb:b'≤D.size):Parted a' b' (Sort.partition ltInt D a' b' p).1 (Sort.partition ltInt D a' b' p).2.2∧PermIn a' b' D (Sort.partition ltInt D a' b' p).2.2:=by obtain ⟨k1,k2,kp,kl,kr⟩:=Sort.partition_holds (lt:=ltInt) ltInt_swo D a' b' p hp1 hp2 hb;exact ⟨⟨k1,k2,fun i h1 h2=>lt_iff.1 (kl i h1 h2),fun i h1 h2=>nlt_iff.1 (kr i h1 h2)⟩,kp⟩
theorem three{a' b' m:Nat}{D4 D':Array Int}(k:Parted a' b' m D4)(hb:b'≤D4.size){E:Array Int}(pl:PermIn a' m D4 E)(sl:SortedIn ltInt a' m E)(hp:PermIn (m+1) b' E D')(hd:SortedIn ltInt (m+1) b' D'):SortedIn ltInt a' b' D':=by
 have k1:=k.m1;have k2:=k.m2;have hsz:E.size=D4.size:=pl.1;have hm:D'[m]! = D4[m]!:=by rw [perm_out hp m (.inl (by omega)),perm_out pl m (.inr (Θ _))]
 have hl:∀ i,a'≤i→i<m→E[i]! < D4[m]!:=perm_all (by omega) pl (fun x=>x<D4[m]!) k.left;have hr:∀ i,m+1≤i→i<b'→D4[m]!≤D'[i]!:=perm_all (by omega) hp (fun x=>D4[m]!≤x) fun i h1 h2=>by rw [perm_out pl i (.inr (by omega))];exact k.right i (by omega) h2
 intro i j h1 h2 h3;rw [nlt_iff];rcases Nat.lt_trichotomy i m with hi|hi|hi
 ·rw [perm_out hp i (.inl (by omega))];have b1:=hl i h1 hi;rcases Nat.lt_trichotomy j m with hj|hj|hj
  ·rw [perm_out hp j (.inl (by omega))];exact nlt_iff.1 (sl i j h1 h2 hj)
  ·subst hj;rw [hm];omega
  ·have:=hr j hj h3;omega
 ·subst hi;rw [hm];exact hr j h2 h3
 ·exact nlt_iff.1 (hd i j hi h2 h3)
theorem PdInv.left{a b:Nat}{d:Array Int}{a' b' m:Nat}{D E:Array Int}(h:PdInv a b d a' b' D)(hs:b≤D.size)(k:Parted a' b' m D)(pl:PermIn a' m D E)(sl:SortedIn ltInt a' m E):PdInv a b d (m+1) b' E:=by
 have k1:=k.m1;have k2:=k.m2;have hP:PermIn a' b' D E:=Sort.permIn_mono _ _ _ _ _ _ (Θ _) (by omega) (by have:=h.h3;omega) pl;have hsz:E.size=D.size:=pl.1;refine ⟨by have:=h.h1;omega,by omega,h.h3,(h.perm' hs hP).perm,fun i h1 h2=>.inr ?_,fun D' hp hd=>?_⟩
 ·rw [show m+1-1=m by omega,perm_out pl m (.inr (Θ _)),perm_out pl i (.inr (by omega))];exact k.right i (by omega) h2
 ·exact h.cont D' (Sort.permIn_trans _ _ _ _ _ hP (Sort.permIn_mono _ _ _ _ _ _ (by omega) (Θ _) (by have:=h.h3;omega) hp)) (three k (by have:=h.h3;omega) pl sl hp hd)
theorem PdInv.right{a b:Nat}{d:Array Int}{a' b' m:Nat}{D E:Array Int}(h:PdInv a b d a' b' D)(hs:b≤D.size)(k:Parted a' b' m D)(pr:PermIn (m+1) b' D E)(sr:SortedIn ltInt (m+1) b' E):PdInv a b d a' m E:=by
 have k1:=k.m1;have k2:=k.m2;have hP:PermIn a' b' D E:=Sort.permIn_mono _ _ _ _ _ _ (by omega) (Θ _) (by have:=h.h3;omega) pr;have hsz:E.size=D.size:=pr.1;have h':=h.perm' hs hP;refine ⟨h.h1,k1,by have:=h.h3;omega,h'.perm,fun i h1 h2=>h'.bel i h1 (by omega),fun D' hp hd=>?_⟩;have hP2:PermIn a' b' E D':=Sort.permIn_mono _ _ _ _ _ _ (Θ _) (by omega) (by have:=h.h3;omega) hp;refine h.cont D' (Sort.permIn_trans _ _ _ _ _ hP hP2) ?_;have hm:D'[m]! = D[m]!:=by rw [perm_out hp m (.inr (Θ _)),perm_out pr m (.inl (by omega))]
 have hl:∀ i,a'≤i→i<m→D'[i]! < D[m]!:=perm_all (by have:=h.h3;omega) hp (fun x=>x<D[m]!) fun i h1 h2=>by rw [perm_out pr i (.inl (by omega))];exact k.left i h1 h2
 have hr:∀ i,m+1≤i→i<b'→D[m]!≤E[i]!:=perm_all (by have:=h.h3;omega) pr (fun x=>D[m]!≤x) fun i h1 h2=>k.right i (by omega) h2;intro i j h1 h2 h3;rw [nlt_iff];rcases Nat.lt_trichotomy i m with hi|hi|hi
 ·have b1:=hl i h1 hi;rcases Nat.lt_trichotomy j m with hj|hj|hj
  ·exact nlt_iff.1 (hd i j h1 h2 hj)
  ·subst hj;rw [hm];omega
  ·rw [perm_out hp j (.inr (by omega))];have:=hr j hj h3;omega
 ·subst hi;rw [hm,perm_out hp j (.inr (by omega))];exact hr j h2 h3
 ·rw [perm_out hp j (.inr (by omega)),perm_out hp i (.inr (by omega))];exact nlt_iff.1 (sr i j hi h2 h3)
end Go.Proofs.YtcgmgdjeamidlaaGreat
namespace Go.Proofs.YtcgmgdjeamidlaaGreat
set_option maxRecDepth 100000
set_option maxHeartbeats 16000000
open Go.RowKit Go.ChangeShapes Go.WideShapes Go.ChangeAt Go.Proofs.Tryz
open Go.Sort (swp ltInt PermIn SortedIn)
set_option linter.unusedVariables false
set_option linter.unusedSimpArgs false
def PdTo(w:World)(B g cap n a b:Nat)(d:Array Int)(e:Ending)(w':World):Prop:=e=.returned (.tuple #[])∧∃ d',UT w w' B g cap n d'∧PermIn a b d d'∧SortedIn ltInt a b d'
def PdAt(B g cap n m:Nat):Prop:=∀ (a b:Nat) (z:Int) (d:Array Int) (w:World),b-a<m→a≤b→b≤n→0≤z→z≤1000→UA w B g cap n d→Sort.Below ltInt a b d →
  Calls prog 267 #[.slice (some ⟨g,0,none⟩) n cap,.int .i64 (a:Int),.int .i64 (b:Int),.int .i64 z] w (PdTo w B g cap n a b d)
theorem pdq_step{B g cap n m:Nat}(hn:n≤1000000)(IH:PdAt B g cap n m):PdAt B g cap n (m+1):=by
 intro a b z d w hm hab hb hz hz2 h hbel;have HIH:=Ξ IH;have HF:Hid (b-a≤m∧b≤n∧n≤1000000):=Ξ (by omega);have I0:Hid (∃ D,UT w w B g cap n D∧PdInv a b d a b D):=Ξ ⟨d,UT.refl h,PdInv.start hab hbel⟩;have HZ0:=Ξ (Ψ hz hz2);clear IH h hbel hm hab hb hn hz hz2;go_enter func267,ntmps267;go_wp2_with fail;go_loopw [1,2,3,8,9] (fun u1 u2 u3 u8 u9 wr=>∃ (a' b':Nat) (z:Int) (wb wp:Bool),(u1=.int .i64 (a':Int)∧u2=.int .i64 (b':Int)∧u3=.int .i64 z∧u8=.bool wb∧u9=.bool wp)∧Hid (0≤z∧z≤1000)∧Hid (∃ D,UT w wr B g cap n D∧PdInv a b d a' b' D)) (fun u1 u2 _ _ _ _=>(intOf u2-intOf u1).toNat)
 case atStart=>exact ⟨a,b,z,true,true,⟨rfl,rfl,rfl,rfl,rfl⟩,HZ0,I0⟩
 case round=>
  obtain ⟨a',b',z,wb,wp,⟨rfl,rfl,rfl,rfl,rfl⟩,HZ,hR⟩:=hrel;clear I0;obtain ⟨D,hu,hd⟩:=hR.out;have HU:=Ξ hu;have HD:=Ξ hd;have HSZ:Hid (D.size=n):=Ξ hu.row.size;have HR:Hid (a≤a'∧a'≤b'∧b'≤b∧b≤n∧n≤1000000∧b-a≤m):=Ξ ⟨hd.h1,hd.h2,hd.h3,HF.out.2.1,HF.out.2.2,HF.out.1⟩;clear hu hd hR;obtain ⟨l,hl⟩:∃ l,b'-a'=l:=⟨_,rfl⟩;have HL:=Ξ hl;have el:IntKind.i64.wrap ((b':Int)-(a':Int))=(l:Int):=by rw [w_sub _ _ (by have:=HR.out;omega) (by have:=HR.out;omega),hl]
  clear hl;by_cases h12:l≤12
  ·have d1:decide ((l:Int)≤12)=true:=Γ (by omega);have d1':decide (l≤12)=true:=Γ h12;have S:=Ξ (insertion_on HU.out.row HF.out.2.2 a' b' HR.out.2.1 (by have:=HR.out;omega));have HS:=Ξ (Sort.insertionSort_holds (lt:=ltInt) ltInt_swo D a' b' HR.out.2.1 (by rw [HSZ.out];have:=HR.out;omega));clear h12;go_wp2_with fail;refine S.out.mono ?_;rintro _ w2 ⟨rfl,ht⟩;have HT:=Ξ (HU.out.trans ht);clear ht S;go_wp2_with fail;refine bodyPost_ret (results_none rfl _ _ _) rfl ?_;exact ⟨rfl,_,HT.out,HD.out.done (by rw [HSZ.out];exact HF.out.2.1) HS.out.1 HS.out.2⟩
  ·have d1:decide ((l:Int)≤12)=false:=Λ (by omega);have d1':decide (l≤12)=false:=Λ h12;have H12:Hid (a'+12<b'):=Ξ (by have:=HL.out;omega);clear h12;by_cases hz0:z=0
   ·subst hz0;have S:=Ξ (heap_on HU.out.row HF.out.2.2 a' b' (by have:=H12.out;omega) (by have:=HR.out;omega));have HS:=Ξ (Sort.heapSort_holds (lt:=ltInt) ltInt_swo D a' b' HR.out.2.1 (by rw [HSZ.out];have:=HR.out;omega));go_wp2_with fail;refine S.out.mono ?_;rintro _ w2 ⟨rfl,ht⟩;have HT:=Ξ (HU.out.trans ht);clear ht S;go_wp2_with fail;refine bodyPost_ret (results_none rfl _ _ _) rfl ?_;exact ⟨rfl,_,HT.out,HD.out.done (by rw [HSZ.out];exact HF.out.2.1) HS.out.1 HS.out.2⟩
   ·have dz:decide (z=0)=false:=Λ hz0;have dz':(z == 0)=false:=by simpa using hz0
    have ez:IntKind.i64.wrap (z-1)=z-1:=IntWalk.i64_in _ (by have:=HZ.out;omega);have HZ1:Hid (1≤z∧z≤1000):=Ξ (by have:=HZ.out;omega);clear hz0;have K0:Hid (PermIn a' b' D D):=Ξ (Sort.permIn_refl _ _ _);go_upto_if 35 with fail;go_cut [3,8] from 35 to 41 (fun s3 s8 wc=>∃ (z':Int) (D1:Array Int),(s3=.int .i64 z'∧s8=.bool wb)∧Hid (0≤z'∧z'≤1000)∧Hid (UT w wc B g cap n D1)∧Hid (PermIn a' b' D D1))
    case first=>
     cases wb
     ·have S:=Ξ (break_on HU.out.row HF.out.2.2 a' b' H12.out (by have:=HR.out;omega));unfold BrTo at S;go_wp2_with fail;refine S.out.mono ?_;rintro _ w2 ⟨rfl,d2,ht,hp⟩;have HT:=Ξ (HU.out.trans ht);have HP:=Ξ hp;clear ht S hp;go_wp2_with fail;go_meet;exact ⟨z-1,d2,⟨rfl,rfl⟩,Ξ (by have:=HZ1.out;omega),HT,HP⟩
     ·go_wp2_with fail;go_meet;exact ⟨z,D,⟨rfl,rfl⟩,HZ,HU,K0⟩
    case rest=>
     obtain ⟨z',D1,⟨rfl,rfl⟩,HZ,HU,HP1⟩:=hcut;have S:=Ξ (pivot_on HU.out.row HF.out.2.2 a' b' H12.out (by have:=HR.out;omega));unfold PivTo at S;clear el d1 d1' dz dz' ez;go_wp2_with fail;refine S.out.mono ?_;rintro _ w2 ⟨p,h,rfl,hp,hh,hbl⟩;have HU:Hid (UT w w2 B g cap n D1):=Ξ ⟨HU.out.row.only ((Ω [] _).below hbl) (by simp),HU.out.only.below hbl⟩;have HPV:=Ξ hp;clear hp hbl S;go_upto_if 50 with fail;go_cut [11,12] from 50 to 60 (fun s11 s12 wc=>∃ (p':Nat) (h':Int) (D2:Array Int),(s11=.int .i64 (p':Int)∧s12=.int .i64 h')∧Hid (a'≤p'∧p'<b')∧Hid (UT w wc B g cap n D2)∧Hid (PermIn a' b' D D2))
     case first=>
      by_cases h2:h=2
      ·subst h2;have S:=Ξ (reverse_on HU.out.row HF.out.2.2 a' b' (by have:=H12.out;omega) (by have:=HR.out;omega));have HRV:=Ξ (Sort.reverseRange_holds (α:=Int) D1 a' b' HR.out.2.1 (by rw [HU.out.row.size];have:=HR.out;omega));have f1:IntKind.i64.wrap ((b':Int)-1)=((b'-1:Nat):Int):=w_dec _ (by have:=HR.out;omega) (by have:=H12.out;omega);have f2:IntKind.i64.wrap ((p:Int)-(a':Int))=((p-a':Nat):Int):=w_sub _ _ HPV.out.1 (by have:=HPV.out;have:=HR.out;omega);have f3:IntKind.i64.wrap (((b'-1:Nat):Int)-((p-a':Nat):Int))=((b'-1-(p-a'):Nat):Int):=w_sub _ _ (by have:=HPV.out;omega) (by have:=HR.out;omega);go_wp2_with fail;refine S.out.mono ?_;rintro _ w3 ⟨rfl,ht⟩;have HT:=Ξ (HU.out.trans ht);clear ht S;go_wp2_with fail;go_meet;exact ⟨b'-1-(p-a'),1,_,⟨rfl,rfl⟩,Ξ (by have:=HPV.out;omega),HT,Ξ (Sort.permIn_trans _ _ _ _ _ HP1.out HRV.out)⟩
      ·have dh:decide (h=2)=false:=Λ h2;have dh':(h == 2)=false:=by simpa using h2
       clear hh;go_wp2_with fail;go_meet;exact ⟨p,h,D1,⟨rfl,rfl⟩,HPV,HU,HP1⟩
     case rest=>
      obtain ⟨p',h',D2,⟨rfl,rfl⟩,HPV,HU,HP2⟩:=hcut;clear HP1 hh;go_upto_region 15 with fail;go_cut [8,9,68] from 61 to 67 (fun s8 s9 s68 wc=>∃ c:Bool,(s8=.bool wb∧s9=.bool wp∧s68=.bool c)∧Hid (UT w wc B g cap n D2))
      case first=>
       by_cases h1:h'=1
       ·subst h1;cases wb<;>cases wp<;>(go_wp2_with fail;go_meet;exact ⟨_,⟨rfl,rfl,rfl⟩,HU⟩)
       ·have dh:decide (h'=1)=false:=Λ h1;have dh':(h' == 1)=false:=by simpa using h1
        cases wb<;>cases wp<;>(go_wp2_with fail;go_meet;exact ⟨_,⟨rfl,rfl,rfl⟩,HU⟩)
      case rest=>
       obtain ⟨c,⟨rfl,rfl,rfl⟩,HU⟩:=hcut;go_upto_if 68 with fail;go_cut [3] from 68 to 72 (fun s3 wc=>∃ D3:Array Int,s3=.int .i64 z'∧Hid (UT w wc B g cap n D3)∧Hid (PermIn a' b' D D3))
       case first=>
        cases c
        ·go_wp2_with fail;go_meet;exact ⟨D2,rfl,HU,HP2⟩
        ·have S:=Ξ (pins_on HU.out.row HF.out.2.2 a' b' H12.out (by have:=HR.out;omega));unfold PiTo at S;have HPI:=Ξ (Sort.partialInsertionSort_holds (lt:=ltInt) ltInt_swo D2 a' b' (by have:=H12.out;omega) (by rw [HU.out.row.size];have:=HR.out;omega) (bel_to (HD.out.perm' (by rw [HSZ.out];exact HF.out.2.1) HP2.out).bel));generalize Sort.partialInsertionSort ltInt D2 a' b'=r at *;obtain ⟨D3,ok⟩:=r;simp only at S HPI;cases ok
         ·go_wp2_with fail;refine S.out.mono ?_;rintro _ w3 ⟨rfl,ht⟩;have HT:=Ξ (HU.out.trans ht);clear ht S;go_wp2_with fail;go_meet;exact ⟨D3,rfl,HT,Ξ (Sort.permIn_trans _ _ _ _ _ HP2.out HPI.out.1)⟩
         ·go_wp2_with fail;refine S.out.mono ?_;rintro _ w3 ⟨rfl,ht⟩;have HT:=Ξ (HU.out.trans ht);clear ht S;go_wp2_with fail;refine bodyPost_ret (results_none rfl _ _ _) rfl ?_;exact ⟨rfl,_,HT.out,HD.out.done (by rw [HSZ.out];exact HF.out.2.1) (Sort.permIn_trans _ _ _ _ _ HP2.out HPI.out.1) (HPI.out.2 trivial)⟩
       case rest=>
        obtain ⟨D3,rfl,HU,HP3⟩:=hcut;have HD3:=Ξ (HD.out.perm' (by rw [HSZ.out];exact HF.out.2.1) HP3.out);have HS3:Hid (D3.size=n):=Ξ HU.out.row.size;clear HP2 HD HP3 K0 HSZ;have pn:p'<n:=by have:=HPV.out;have:=HR.out;omega
        have PART:Hid (∀ y,UT w y B g cap n D3→Calls prog 282 #[.slice (some ⟨g,0,none⟩) n cap,.int .i64 (a':Int),.int .i64 (b':Int),.int .i64 (p':Int)] y (PnTo y B g cap n (Sort.partition ltInt D3 a' b' p'))):=Ξ fun y hy=>part_on hy.row HF.out.2.2 a' b' p' HPV.out.1 HPV.out.2 (by have:=HR.out;omega);have HK:=Ξ (parted_of HPV.out.1 HPV.out.2 (D:=D3) (by rw [HS3.out];have:=HR.out;omega));unfold PnTo at PART;go_upto_region 17 with fail;go_cut [8,87] from 73 to 86 (fun s8 s87 wc=>∃ c:Bool,(s8=.bool wb∧s87=.bool c)∧Hid (c=true→0<a'∧ltInt D3[a'-1]! D3[p']! = false)∧Hid (UT w wc B g cap n D3))
        case first=>
         by_cases h0:0<a'
         ·have d9:decide ((0:Int)<(a':Int))=true:=Γ (by omega);have d9':decide (0<a')=true:=Γ h0;obtain ⟨q,hq⟩:∃ q,a'-1=q:=⟨_,rfl⟩;have HQ:=Ξ hq;have eq:IntKind.i64.wrap ((a':Int)-1)=(q:Int):=by rw [w_dec _ (by have:=HR.out;omega) (by omega),hq]
          have qn:q<n:=by have:=HR.out;omega
          have H0:=Ξ h0;clear hq h0;have c1:=HU.out.row.cell q qn;have c2:=HU.out.row.cell p' pn;generalize hx:D3[q]! = x at c1;generalize hy:D3[p']! = y at c2;have HX:=Ξ hx;have HY:=Ξ hy;clear hx hy;cases hl:ltInt x y
          ·have HL2:=Ξ hl;clear hl;go_quiet ((go_at_call 280;exact Calls.quiet_of_same (less_is _ _ _ HL2.out _)))
           have HU:=Ξ (HU.out.drewN nq);go_wp2_with fail;go_meet;exact ⟨true,⟨rfl,rfl⟩,Ξ (fun _=>⟨H0.out,by rw [HQ.out,HX.out,HY.out];exact HL2.out⟩),HU⟩
          ·have HL2:=Ξ hl;clear hl;go_quiet ((go_at_call 280;exact Calls.quiet_of_same (less_is _ _ _ HL2.out _)))
           have HU:=Ξ (HU.out.drewN nq);go_wp2_with fail;go_meet;exact ⟨false,⟨rfl,rfl⟩,Ξ (fun h=>by cases h),HU⟩
         ·have d9:decide ((0:Int)<(a':Int))=false:=Λ (by omega);have d9':decide (0<a')=false:=Λ h0;clear h0;go_quiet (fail)
          have HU:=Ξ (HU.out.drewN nq);go_wp2_with fail;go_meet;exact ⟨false,⟨rfl,rfl⟩,Ξ (fun h=>by cases h),HU⟩
        case rest=>
         obtain ⟨c,⟨rfl,rfl⟩,HCc,HU⟩:=hcut;cases c
         ·clear HCc;go_wp2_with fail;refine (PART.out _ HU.out).mono ?_;obtain ⟨⟨mm,al,D4⟩,hR⟩:∃ r,Sort.partition ltInt D3 a' b' p'=r:=⟨_,rfl⟩;rw [hR] at HK ⊢;simp only at HK ⊢;rintro _ w3 ⟨rfl,ht⟩;have HU:=Ξ (HU.out.trans ht);have HD4:=Ξ (HD3.out.perm' (by rw [HS3.out];exact HF.out.2.1) HK.out.2);have HPA:=Ξ HK.out.1;have HS4:Hid (D4.size=n):=Ξ HU.out.row.size;have HM:Hid (a'≤mm∧mm<b'):=Ξ ⟨HPA.out.m1,HPA.out.m2⟩;clear ht hR PART HK HD3 HS3 HPV pn;have g1:IntKind.i64.wrap ((mm:Int)-(a':Int))=((mm-a':Nat):Int):=w_sub _ _ HM.out.1 (by have:=HM.out;have:=HR.out;omega);have g2:IntKind.i64.wrap ((b':Int)-(mm:Int))=((b'-mm:Nat):Int):=w_sub _ _ (by have:=HM.out;omega) (by have:=HR.out;omega);have g3:IntKind.i64.wrap ((mm:Int)+1)=((mm+1:Nat):Int):=w_inc _ (by have:=HM.out;have:=HR.out;omega);obtain ⟨x,hx⟩:∃ x,mm-a'=x:=⟨_,rfl⟩;obtain ⟨y,hy⟩:∃ y,b'-mm=y:=⟨_,rfl⟩;have HXY:Hid (x+a'=mm∧y+mm=b'):=Ξ (by have:=HM.out;omega);rw [hx] at g1;rw [hy] at g2;obtain ⟨q8,hq8⟩:∃ q8,l / 8=q8:=⟨_,rfl⟩;have g4:Int.tdiv (l:Int) 8=(q8:Int):=by rw [←hq8];rfl
          have g5:IntKind.i64.wrap (q8:Int)=(q8:Int):=w_id q8 (by have:=HL.out;have:=HR.out;clear g1 g2 g3 g4;omega);clear hx hy hq8;by_cases hxy:x<y
          ·have d9:decide ((x:Int)<(y:Int))=true:=Γ (by clear g1 g2 g3 g4 g5;omega);have d9':decide (x<y)=true:=Γ hxy;clear hxy;have S:=Ξ (HIH.out a' mm z' D4 w3 (by have:=HR.out;have:=HM.out;clear g1 g2 g3 g4 g5;omega) HM.out.1 (by have:=HR.out;have:=HM.out;clear g1 g2 g3 g4 g5;omega) HZ.out.1 HZ.out.2 HU.out.row (bel_to fun i h1 h2=>HD4.out.bel i h1 (by have:=HM.out;omega)));unfold PdTo at S;go_wp2_with fail;refine S.out.mono ?_;rintro _ w4 ⟨rfl,E,ht,hp,hs⟩;have HT:=Ξ (HU.out.trans ht);have HE:=Ξ (HD4.out.left (by rw [HS4.out];exact HF.out.2.1) HPA.out hp hs);clear ht hp hs S;go_wp2_with fail;go_roundw;case rel=>exact ⟨mm+1,b',z',_,_,⟨by go_num,rfl,rfl,rfl,rfl⟩,HZ,Ξ ⟨E,HT.out,HE.out⟩⟩
           case measure=>simp [intOf];have:=HM.out;omega
          ·have d9:decide ((x:Int)<(y:Int))=false:=Λ (by clear g1 g2 g3 g4 g5;omega);have d9':decide (x<y)=false:=Λ hxy;clear hxy;have S:=Ξ (HIH.out (mm+1) b' z' D4 w3 (by have:=HR.out;have:=HM.out;clear g1 g2 g3 g4 g5;omega) (by have:=HM.out;omega) (by have:=HR.out;have:=HM.out;clear g1 g2 g3 g4 g5;omega) HZ.out.1 HZ.out.2 HU.out.row (bel_to fun i h1 h2=>.inr (HPA.out.right i (by omega) h2)));unfold PdTo at S;obtain ⟨m1,hm1⟩:∃ m1,mm+1=m1:=⟨_,rfl⟩;have HM1:=Ξ hm1;rw [hm1] at g3 S;clear hm1;go_wp2_with fail;refine S.out.mono ?_;rintro _ w4 ⟨rfl,E,ht,hp,hs⟩;have HT:=Ξ (HU.out.trans ht);have HE:=Ξ (HD4.out.right (by rw [HS4.out];exact HF.out.2.1) HPA.out (by rw [HM1.out];exact hp) (by rw [HM1.out];exact hs));clear ht hp hs S;go_wp2_with fail;go_roundw;case rel=>exact ⟨a',mm,z',_,_,⟨rfl,rfl,rfl,rfl,rfl⟩,HZ,Ξ ⟨E,HT.out,HE.out⟩⟩
           case measure=>simp [intOf];have:=HM.out;omega
         ·have HH:=Ξ (HCc.out rfl);have S:=Ξ (partEq_on HU.out.row HF.out.2.2 a' b' p' HPV.out.1 HPV.out.2 (by have:=HR.out;omega));have HE:=Ξ (HD3.out.eq (by rw [HS3.out];exact HF.out.2.1) HPV.out.1 HPV.out.2 HH.out.1 HH.out.2);obtain ⟨⟨mm,D4⟩,hR⟩:∃ r,Sort.partitionEqual ltInt D3 a' b' p'=r:=⟨_,rfl⟩;rw [hR] at S HE;unfold PqTo at S;simp only at S HE;clear hR HCc;go_wp2_with fail;refine S.out.mono ?_;rintro _ w3 ⟨rfl,ht⟩;have HT:=Ξ (HU.out.trans ht);obtain ⟨hmm,hpd⟩:=HE.out;have HPD:=Ξ hpd;have HMM:=Ξ hmm;clear ht S hmm hpd;go_wp2_with fail;go_roundw;case rel=>exact ⟨mm,b',z',_,_,⟨rfl,rfl,rfl,rfl,rfl⟩,HZ,Ξ ⟨D4,HT.out,HPD.out⟩⟩
          case measure=>simp [intOf];have:=HMM.out;omega
theorem pdq_all{B g cap n:Nat}(hn:n≤1000000):∀ m,PdAt B g cap n m
 | 0=>fun a b z d w hm=>by omega
 | m+1=>pdq_step hn (pdq_all hn m)
theorem sort_arr{B g cap n:Nat}{d:Array Int}{w:World}(hn:n≤1000000)(h:UA w B g cap n d) :
  Calls prog 258 #[.slice (some ⟨g,0,none⟩) n cap] w (PdTo w B g cap n 0 n d):=by
 have L:=Ξ (bits_Len (n:Int) w (by omega) (by omega));have hs:=bitLen_small n hn;simp only [Int.toNat_natCast] at L;have P:Hid (∀ z:Int,0≤z→z≤1000→Calls prog 267 #[.slice (some ⟨g,0,none⟩) n cap,.int .i64 0,.int .i64 (n:Int),.int .i64 z] w (PdTo w B g cap n 0 n d)):=Ξ fun z h0 h1=>pdq_all hn (n+1) 0 n z d w (by omega) (by omega) (Θ _) h0 h1 h (.inl rfl);have e1:IntKind.u64.wrap (n:Int)=(n:Int):=IntWalk.u64_in _ (by omega);obtain ⟨k,hk⟩:∃ k,Lib.bitLen n=k:=⟨_,rfl⟩;rw [hk] at L hs;have HS:=Ξ hs;unfold PdTo at P;clear h hn hk hs;go_enter func258,ntmps258;go_wp2_with fail;refine L.out.mono ?_;rintro _ w1 ⟨rfl,hw1⟩;subst w1;go_wp2_with fail;refine (P.out _ (by omega) (by have:=HS.out;omega)).mono ?_;rintro _ w1 ⟨rfl,hp⟩;have HP:=Ξ hp;clear hp P;go_wp2_with fail
 go_end0
 exact ⟨rfl,HP.out⟩
theorem so_insertion_nil(w:World):Calls prog 274 #[.slice none 0 0,.int .i64 0,.int .i64 0] w (fun e w'=>e=.returned (.tuple #[])∧w'=w):=by
 go_enter func274,ntmps274;go_wp2_with fail;go_loopw [6] (fun u wr=>u=.int .i64 1∧Hid (wr=w)) (fun _ _=>0)
 case atStart=>exact ⟨rfl,Ξ rfl⟩
 case round=>
  obtain ⟨rfl,hr⟩:=hrel;have hy9:=hr.out;clear hr;rename World=>y9;subst y9;go_wp2_with fail
  go_end0
  exact ⟨rfl,rfl⟩
theorem so_pdq_nil(z:Int)(w:World):Calls prog 267 #[.slice none 0 0,.int .i64 0,.int .i64 0,.int .i64 z] w (fun e w'=>e=.returned (.tuple #[])∧w'=w):=by
 go_enter func267,ntmps267;go_wp2_with fail;go_loopw [1,2,3] (fun u1 u2 u3 wr=>(u1=.int .i64 0∧u2=.int .i64 0∧u3=.int .i64 z)∧Hid (wr=w)) (fun _ _ _ _=>0)
 case atStart=>exact ⟨⟨rfl,rfl,rfl⟩,Ξ rfl⟩
 case round=>obtain ⟨⟨rfl,rfl,rfl⟩,hr⟩:=hrel;have hy9:=hr.out;clear hr;rename World=>y9;subst y9;go_wp2_with fail;refine (so_insertion_nil _).mono ?_;rintro _ w1 ⟨rfl,hw1⟩;subst w1;go_wp2_with fail;refine bodyPost_ret (results_none rfl _ _ _) rfl ?_;exact ⟨rfl,rfl⟩
theorem so_sort_nil(w:World):Calls prog 258 #[.slice none 0 0] w (fun e w'=>e=.returned (.tuple #[])∧w'=w):=by
 have L:=Ξ (bits_Len 0 w (by omega) (by omega));go_enter func258,ntmps258;go_wp2_with fail;refine L.out.mono ?_;rintro _ w1 ⟨rfl,hw1⟩;subst w1;go_wp2_with fail;refine (so_pdq_nil _ _).mono ?_;rintro _ w1 ⟨rfl,hw1⟩;subst w1;go_wp2_with fail
 go_end0
 exact ⟨rfl,rfl⟩
def SortTo(B:Nat)(v:Value)(xs:List Int)(w:World)(e:Ending)(w':World):Prop:=e=.returned (.tuple #[])∧∃ ys:List Int,ys.Perm xs∧ys.Pairwise (·≤·)∧w'.ownsRow B 34 1 v xs.length (ys.map (Value.int .u64))∧Below B w w'
theorem sort_any{B:Nat}{v:Value}{xs:List Int}{w:World}(hB:B≤w.heap.size)(h:w.ownsRow B 34 1 v xs.length (xs.map (Value.int .u64)))(hn:xs.length≤1000000) :
  Calls prog 258 #[v] w (SortTo B v xs w):=by
 have h0:=h;rcases h.2 with ⟨rfl,hz⟩|⟨g,cap,cur,rfl,hb,hg,hc,hm,hcs,ht⟩
 ·have hx:xs=[]:=List.length_eq_zero_iff.1 hz;subst hx;refine (so_sort_nil w).mono ?_;rintro e w' ⟨he,rfl⟩;exact ⟨he,[],List.Perm.refl _,List.Pairwise.nil,h0,Δ _ _⟩
 ·have hu:UA w B g cap xs.length xs.toArray:=by unfold UA;simpa using h0
  refine (sort_arr hn hu).mono ?_;rintro e w' ⟨he,d',hu',hp,hs⟩;have hsz:=hu'.row.size;refine ⟨he,d'.toList,?_,?_,?_,hu'.only.toBelow hB (by simpa using hu.ge)⟩
  ·have hp3:=hp.2.2;have e1:d'.extract 0 xs.length=d':=by rw [←hsz];simp
   have e2:xs.toArray.extract 0 xs.length=xs.toArray:=(by simp);rw [e1,e2] at hp3;simpa using hp3
  ·rw [List.pairwise_iff_getElem];intro i j hi hj hij;have hi':i<d'.size:=by simpa using hi
   have hj':j<d'.size:=by simpa using hj
   have:=nlt_iff.1 (hs i j (Nat.zero_le _) hij (by omega));rw [getElem!_pos d' i hi',getElem!_pos d' j hj'] at this;simpa using this
  ·exact hu'.row
end Go.Proofs.YtcgmgdjeamidlaaGreat
namespace Go.Proofs.YtcgmgdjeamidlaaGreat
set_option maxRecDepth 100000
set_option maxHeartbeats 16000000
open Go.RowKit Go.ChangeShapes Go.WideShapes Go.ChangeAt Go.Proofs.Tryz
set_option linter.unusedVariables false
set_option linter.unusedSimpArgs false
structure CpInv(d D:Array Int)(i p:Nat):Prop where
 i0:1≤i
 ip:i<p
 size:D.size=d.size
 asc:∀ k l,k<l→l<i→D[k]! < D[l]!
 same:∀ x:Int,(∃ k,k<i∧D[k]! = x)↔∃ k,k<p∧d[k]! = x
 last:D[i-1]! = d[p-1]!
 rest:∀ k,p-1≤k→D[k]! = d[k]!
theorem set_get(D:Array Int)(i k:Nat)(x:Int)(hi:i<D.size):(D.setIfInBounds i x)[k]! = if k=i then x else D[k]!:=by
 by_cases hk:k<D.size
 ·rw [getElem!_pos _ k (by simpa using hk),getElem!_pos D k hk,Array.getElem_setIfInBounds];by_cases e:k=i
  ·subst e;simp
  ·rw [if_neg (fun h=>e h.symm),if_neg e]
 ·have e:k≠i:=by omega
  rw [if_neg e,getElem!_neg _ k (by simpa using hk),getElem!_neg D k hk]
theorem CpInv.skip{d D:Array Int}{i p:Nat}(h:CpInv d D i p)(he:d[p]! = d[p-1]!):CpInv d D i (p+1):=by
 refine ⟨h.i0,by have:=h.ip;omega,h.size,h.asc,fun x=>?_,by rw [h.last,Nat.add_sub_cancel];exact he.symm,fun k hk=>h.rest k (by omega)⟩;rw [h.same x];constructor
 ·rintro ⟨k,h1,h2⟩;exact ⟨k,by omega,h2⟩
 ·rintro ⟨k,h1,h2⟩;by_cases e:k<p
  ·exact ⟨k,e,h2⟩
  ·obtain rfl:k=p:=by omega
   exact ⟨k-1,by have:=h.ip;omega,by rw [←he];exact h2⟩
theorem CpInv.take{d D:Array Int}{i p:Nat}(h:CpInv d D i p)(hp:p<d.size)(hs:d[p-1]! < d[p]!):CpInv d (D.setIfInBounds i D[p]!) (i+1) (p+1):=by
 have hi:i<D.size:=by have:=h.ip;have:=h.size;omega
 have hDp:D[p]! = d[p]!:=h.rest p (by omega);have hip:=h.ip;refine ⟨by omega,by omega,by simp [h.size],fun k l h1 h2=>?_,fun x=>?_,?_,fun k hk=>?_⟩
 ·rw [set_get D i k _ hi,set_get D i l _ hi,if_neg (show ¬ k=i by omega)];by_cases e:l=i
  ·rw [if_pos e,hDp];have h3:D[k]!≤D[i-1]!:=by
    by_cases e2:k=i-1
    ·rw [e2];exact Int.le_refl _
    ·exact Int.le_of_lt (h.asc k (i-1) (by omega) (by omega))
   rw [h.last] at h3;omega
  ·rw [if_neg e];exact h.asc k l h1 (by omega)
 ·constructor
  ·rintro ⟨k,h1,h2⟩;rw [set_get D i k _ hi] at h2;by_cases e:k=i
   ·rw [if_pos e,hDp] at h2;exact ⟨p,by omega,h2⟩
   ·rw [if_neg e] at h2;obtain ⟨k',h3,h4⟩:=(h.same x).1 ⟨k,by omega,h2⟩;exact ⟨k',by omega,h4⟩
  ·rintro ⟨k,h1,h2⟩;by_cases e:k<p
   ·obtain ⟨k',h3,h4⟩:=(h.same x).2 ⟨k,e,h2⟩;exact ⟨k',by omega,by rw [set_get D i k' _ hi,if_neg (by omega)];exact h4⟩
   ·obtain rfl:k=p:=by omega
    exact ⟨i,by omega,by rw [set_get D i i _ hi,if_pos rfl,hDp];exact h2⟩
 ·rw [set_get D i _ _ hi,if_pos (by omega),hDp,Nat.add_sub_cancel]
 ·rw [set_get D i k _ hi,if_neg (by omega)];exact h.rest k (by omega)
theorem only_setCells(g:Nat):∀ (vs:List Value) (o:Nat) {a w:World},Only [g] a w→Only [g] a (w.setCells g o vs)
 | [],_,_,_,h=>h
 | v :: r,o,a,w,h=>only_setCells g r (o+1) (h.setCell (.inl (by simp)) v)
def CompTo(B g n:Nat)(d:Array Int)(w:World)(e:Ending)(w':World):Prop:=∃ (m c:Nat) (ys:List Int),e=.returned (.slice (some ⟨g,0,none⟩) m c)∧ys.length=m∧ys.Pairwise (· < ·)∧(∀ x,x∈ys↔∃ k,k<n∧d[k]! = x)∧(∀ k,k<m→w'.cell? ⟨g,k,none⟩=some (.int .u64 (ys[k]?.getD 0)))∧Only [g] w w'∧m≤n
theorem comp_list(D:Array Int)(m:Nat)(hm:m≤D.size):(D.toList.take m).length=m∧∀ k,k<m→(D.toList.take m)[k]?.getD 0=D[k]!:=by refine ⟨by simp;omega,fun k hk=>?_⟩;rw [List.getElem?_take,if_pos hk,Array.getElem?_toList,getElem!_pos D k (by omega),Array.getElem?_eq_getElem (by omega)];rfl
theorem comp_done{D:Array Int}{m n:Nat}{d:Array Int}(hm:m≤D.size)(asc:∀ k l,k<l→l<m→D[k]! < D[l]!)(same:∀ x:Int,(∃ k,k<m∧D[k]! = x)↔∃ k,k<n∧d[k]! = x) :
  (D.toList.take m).Pairwise (· < ·)∧∀ x,x∈D.toList.take m↔∃ k,k<n∧d[k]! = x:=by
 obtain ⟨hl,hg⟩:=comp_list D m hm;constructor
 ·rw [List.pairwise_iff_getElem];intro i j hi hj hij;have e1:=hg i (by omega);have e2:=hg j (by omega);rw [List.getElem?_eq_getElem hi] at e1;rw [List.getElem?_eq_getElem hj] at e2;simp only [Option.getD_some] at e1 e2;rw [e1,e2];exact asc i j hij (by omega)
 ·intro x;rw [←same x,List.mem_iff_getElem];constructor
  ·rintro ⟨k,hk,rfl⟩;have e1:=hg k (by omega);rw [List.getElem?_eq_getElem hk] at e1;exact ⟨k,by omega,e1.symm⟩
  ·rintro ⟨k,hk,rfl⟩;have hk':k<(D.toList.take m).length:=(by omega);have e1:=hg k hk;rw [List.getElem?_eq_getElem hk'] at e1;exact ⟨k,hk',e1⟩
theorem compact_arr{B g cap n:Nat}{d:Array Int}{w:World}(hn:n≤1000000)(h:UA w B g cap n d)(hs:∀ i j,i<j→j<n→d[i]!≤d[j]!) :
  Calls prog 259 #[.slice (some ⟨g,0,none⟩) n cap] w (CompTo B g n d w):=by
 have HU:=Ξ (UT.refl h);have HSz:Hid (d.size=n):=Ξ h.size;have HS:=Ξ hs;have HC:=Ξ (Ψ h.cap hn);clear h hs hn;by_cases h2:n<2
 ·have d1:decide ((n:Int)<2)=true:=Γ (by omega);have d1':decide (n<2)=true:=Γ h2;have H2:=Ξ h2;clear h2;go_enter func259,ntmps259;go_wp2_with fail;go_ret;obtain ⟨q1,q2⟩:=comp_done (D:=d) (m:=n) (n:=n) (d:=d) (by rw [HSz.out];exact Θ _) (fun k l h1 h3=>by have:=H2.out;omega) (fun x=>Iff.rfl);obtain ⟨q3,q4⟩:=comp_list d n (by rw [HSz.out];exact Θ _);exact ⟨n,cap,_,rfl,q3,q1,q2,fun k hk=>by rw [q4 k hk];exact HU.out.row.cell k hk,Ω _ _,Θ _⟩
 ·have d1:decide ((n:Int)<2)=false:=Λ (by omega);have d1':decide (n<2)=false:=Λ h2;have H2:=Ξ h2;clear h2;go_enter func259,ntmps259;go_wp2_with fail;go_loopw [3] (fun u wr=>∃ i:Nat,u=.int .i64 (i:Int)∧Hid (1≤i∧i≤n)∧Hid (∀ k l,k<l→l<i→d[k]! < d[l]!)∧Hid (UT w wr B g cap n d)) (fun u _=>n-(intOf u).toNat)
  case atStart=>exact ⟨1,rfl,Ξ (by have:=H2.out;omega),Ξ (fun k l h1 h2=>by omega),HU⟩
  case round=>
   obtain ⟨i,rfl,HI,HA,HU⟩:=hrel;by_cases hin:i<n
   ·have d2:decide ((i:Int)<(n:Int))=true:=Γ (by omega);have d2':decide (i<n)=true:=Γ hin;have HN:=Ξ hin;have inn:=hin;obtain ⟨q,hq⟩:∃ q,i-1=q:=⟨_,rfl⟩;have HQ:=Ξ hq;have e1:IntKind.i64.wrap ((i:Int)-1)=(q:Int):=by rw [w_dec _ (by have:=HC.out;omega) HI.out.1,hq]
    have e2:IntKind.i64.wrap ((i:Int)+1)=((i+1:Nat):Int):=w_inc _ (by have:=HC.out;omega);clear hq hin;have qn:q<n:=by have:=HQ.out;omega
    have c1:=HU.out.row.cell i inn;have c2:=HU.out.row.cell q qn;generalize hx:d[i]! = x at c1;generalize hy:d[q]! = y at c2;have HX:=Ξ hx;have HY:=Ξ hy;clear hx hy;by_cases hxy:x=y
    ·have f1:decide (x=y)=true:=Γ hxy;have f2:(x == y)=true:=by simpa using hxy
     have HE:=Ξ hxy;clear hxy;go_upto_region 6 with fail;go_quiet (fail)
     have HU:=Ξ (HU.out.drewN nq);have ci:¬ cap=i:=by have:=HC.out;omega
     have icap:i≤cap:=by have:=HC.out;omega
     have iz:(0:Int)≤(i:Int):=(by omega);have in':i≤n:=(by omega);have J0:Hid (CpInv d d i (i+1)):=Ξ ⟨HI.out.1,by omega,rfl,HA.out,fun x=>⟨fun ⟨k,h1,h2⟩=>⟨k,by omega,h2⟩,fun ⟨k,h1,h2⟩=>by
      by_cases e:k<i
      ·exact ⟨k,e,h2⟩
      ·obtain rfl:k=i:=by omega
       exact ⟨k-1,by have:=HI.out;omega,by rw [←h2,HQ.out,HX.out,HY.out,HE.out]⟩⟩,by rw [Nat.add_sub_cancel,HQ.out,HX.out,HY.out,HE.out],fun k _=>rfl⟩
     go_upto_region 8 with fail;clear c1 c2 f1 f2;obtain ⟨r,hr⟩:∃ r,n-i=r:=⟨_,rfl⟩;have HRR:=Ξ hr;have er:(n:Int)-(i:Int)=(r:Int):=(by omega);have er2:n-i=r:=hr;clear hr;clear e1 e2 HX HY HE HQ qn;generalize wr.drewN nq=w2 at *;go_wp2_with fail;go_loopw [3,5] (fun u v wr=>∃ (s k:Nat),(u=.int .i64 (s:Int)∧v=.int .i64 (k:Int))∧Hid (1≤k∧k≤r)∧Hid (∃ D,CpInv d D s (i+k)∧UT w wr B g cap n D)) (fun _ v _=>n-(intOf v).toNat)
     case atStart=>exact ⟨i,1,⟨rfl,rfl⟩,Ξ (by have:=HRR.out;have:=HN.out;omega),Ξ ⟨d,J0.out,HU.out⟩⟩
     case round=>
      obtain ⟨s,k,⟨rfl,rfl⟩,HK,hR⟩:=hrel;clear HU J0;obtain ⟨D,hd,hu⟩:=hR.out;have HD:=Ξ hd;have HU:=Ξ hu;clear hd hu hR;by_cases hkr:k<r
      ·have g1:decide ((k:Int)<(r:Int))=true:=Γ (by omega);have g1':decide (k<r)=true:=Γ hkr;have HKR:=Ξ hkr;have krr:=hkr;obtain ⟨q,hq⟩:∃ q,k-1=q:=⟨_,rfl⟩;have HQ:=Ξ hq;have e1:IntKind.i64.wrap ((k:Int)-1)=(q:Int):=by rw [w_dec _ (by have:=HC.out;have:=HRR.out;omega) HK.out.1,hq]
       have e2:IntKind.i64.wrap ((k:Int)+1)=((k+1:Nat):Int):=w_inc _ (by have:=HC.out;have:=HRR.out;omega);have qr:q<r:=(by omega);clear hq hkr;have c1:=HU.out.row.cell (i+k) (by have:=HRR.out;have:=HKR.out;omega);have c2:=HU.out.row.cell (i+q) (by have:=HRR.out;have:=HKR.out;have:=HQ.out;omega);generalize hx:D[i+k]! = x at c1;generalize hy:D[i+q]! = y at c2;have HX:Hid (d[i+k]! = x):=Ξ (by rw [←hx,HD.out.rest (i+k) (by omega)]);have HX0:=Ξ hx;have HY:Hid (d[i+k-1]! = y):=Ξ (by rw [←hy,show i+k-1=i+q by have:=HQ.out;have:=HK.out;omega,HD.out.rest (i+q) (by have:=HQ.out;omega)]);clear hx hy;by_cases hxy:x=y
       ·have f1:decide (x=y)=true:=Γ hxy;have f2:(x == y)=true:=by simpa using hxy
        have f3:(x != y)=false:=by simpa using hxy
        have N:Hid (CpInv d D s (i+(k+1))):=Ξ (HD.out.skip (by rw [HX.out,HY.out];exact hxy));clear hxy;go_upto_region 11 with fail;go_quiet (fail)
        have HU:=Ξ (HU.out.drewN nq);go_wp2_with fail;go_roundw;case rel=>exact ⟨s,k+1,⟨rfl,by go_num⟩,Ξ (by have:=HKR.out;omega),Ξ ⟨D,N.out,HU.out⟩⟩
        case measure=>simp [intOf];have:=HKR.out;have:=HRR.out;omega
       ·have f1:decide (x=y)=false:=Λ hxy;have f2:(x == y)=false:=by simpa using hxy
        have f3:(x != y)=true:=by simpa using hxy
        have hik:i+k<d.size:=by rw [HSz.out];have:=HRR.out;have:=HKR.out;omega
        have N:Hid (CpInv d (D.setIfInBounds s x) (s+1) (i+(k+1))):=Ξ (by
         have h3:=HD.out.take hik (by have:=HS.out (i+k-1) (i+k) (by have:=HK.out;omega) (by rw [←HSz.out];exact hik);rw [HX.out,HY.out] at this ⊢;omega)
         rw [HX0.out] at h3;exact h3)
        clear hxy hik;have sn:s<n:=by have:=HD.out.ip;have:=HRR.out;have:=HKR.out;omega
        have es:IntKind.i64.wrap ((s:Int)+1)=((s+1:Nat):Int):=w_inc _ (by have:=HC.out;omega);go_upto_region 11 with fail;go_quiet (fail)
        have HU:=Ξ (HU.out.drewN nq);go_upto_region 12 with fail;rename World=>w3;generalize w3.drewN nq=w4 at *;clear c1 c2;have c1:=HU.out.row.cell (i+k) (by have:=HRR.out;have:=HKR.out;omega);rw [HX0.out] at c1;have c3:=HU.out.row.cell s sn;have q3:=HU.out.row.free s;have P:Hid (UT w (w4.setCell ⟨g,s,none⟩ (.int .u64 x)) B g cap n (D.setIfInBounds s x)):=Ξ ⟨(HU.out.row.put s x).1,HU.out.only.trans (HU.out.row.put s x).2 (by simp)⟩;go_wp2_with fail;go_roundw;case rel=>exact ⟨s+1,k+1,⟨by go_num,by go_num⟩,Ξ (by have:=HKR.out;omega),Ξ ⟨_,N.out,P.out⟩⟩
        case measure=>simp [intOf];have:=HKR.out;have:=HRR.out;omega
      ·have g1:decide ((k:Int)<(r:Int))=false:=Λ (by omega);have g1':decide (k<r)=false:=Λ hkr;have HKR:Hid (i+k=n):=Ξ (by have:=HK.out;have:=HRR.out;have:=HN.out;omega);have HDn:Hid (CpInv d D s n):=Ξ (by rw [←HKR.out];exact HD.out);clear hkr;have sn:s<n:=HDn.out.ip;have cs:¬ cap=s:=by have:=HC.out;omega
       have scap:s≤cap:=by have:=HC.out;omega
       have sn':s≤n:=(by omega);obtain ⟨rr,hrr⟩:∃ rr,n-s=rr:=⟨_,rfl⟩;have HR9:=Ξ hrr;have hcl:∀ ty,(Builtin.clear_ #[48] ty #[.slice (some ⟨g,s,none⟩) rr (cap-s)]).run prog wr=.ok (.tuple #[]) (wr.setCells g s (List.replicate rr (.int .u64 0))):=fun ty=>
        Lib.run_clear_slice wr _ 34 ty _ underlying48 (fun w=>by kernel_rfl) rfl rfl g s rr _ (by omega) (fun j hj=>by rw [HU.out.row.cell (s+j) (by omega)];rfl) (fun j hj=>HU.out.row.free _)
       have PO:Hid (Only [g] w (wr.setCells g s (List.replicate rr (.int .u64 0)))):=Ξ (only_setCells g _ s HU.out.only);have PC:Hid (∀ k,k<s→(wr.setCells g s (List.replicate rr (.int .u64 0))).cell? ⟨g,k,none⟩=some (.int .u64 D[k]!)):=Ξ fun k hk=>by rw [World.cell?_setCells_out g _ s wr ⟨g,k,none⟩ (fun _ _=>.inl hk)];exact HU.out.row.cell k (by omega)
       generalize wr.setCells g s (List.replicate rr (.int .u64 0))=w5 at *;go_wp2_with fail;go_ret;obtain ⟨q1,q2⟩:=comp_done (D:=D) (m:=s) (n:=n) (d:=d) (by rw [HDn.out.size,HSz.out];omega) HDn.out.asc HDn.out.same;obtain ⟨q3,q4⟩:=comp_list D s (by rw [HDn.out.size,HSz.out];omega);exact ⟨s,cap,_,rfl,q3,q1,q2,fun k hk=>by rw [q4 k hk];exact PC.out k hk,PO.out,by omega⟩
    ·have f1:decide (x=y)=false:=Λ hxy;have f2:(x == y)=false:=by simpa using hxy
     have HE:=Ξ hxy;clear hxy;go_upto_region 6 with fail;go_quiet (fail)
     have HU:=Ξ (HU.out.drewN nq);go_wp2_with fail;go_roundw;case rel=>exact ⟨i+1,by go_num,Ξ (by have:=HI.out;have:=HN.out;omega),Ξ (fun k l h1 h2=>by
      by_cases e:l<i
      ·exact HA.out k l h1 e
      ·obtain rfl:l=i:=by omega
       have a1:=HS.out q l (by have:=HQ.out;have:=HI.out;omega) HN.out;have a2:d[k]!≤d[q]!:=by
        by_cases e2:k=q
        ·rw [e2];exact Int.le_refl _
        ·exact HS.out k q (by have:=HQ.out;omega) (by have:=HQ.out;have:=HN.out;omega)
       have a3:=HE.out;rw [←HX.out,←HY.out] at a3;omega),HU⟩
     case measure=>simp [intOf];have:=HN.out;omega
   ·have d2:decide ((i:Int)<(n:Int))=false:=Λ (by omega);have d2':decide (i<n)=false:=Λ hin;have HN:=Ξ hin;clear hin;go_wp2_with fail;go_ret;obtain ⟨q1,q2⟩:=comp_done (D:=d) (m:=n) (n:=n) (d:=d) (by rw [HSz.out];exact Θ _) (fun k l h1 h3=>HA.out k l h1 (by have:=HN.out;omega)) (fun x=>Iff.rfl);obtain ⟨q3,q4⟩:=comp_list d n (by rw [HSz.out];exact Θ _);exact ⟨n,cap,_,rfl,q3,q1,q2,fun k hk=>by rw [q4 k hk];exact HU.out.row.cell k hk,HU.out.only,Θ _⟩
end Go.Proofs.YtcgmgdjeamidlaaGreat
