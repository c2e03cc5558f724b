/- Texts of one proof, joined. -/
import Derived.Test.YtcgmgdjeamidlaaGreatMg02
import Derived.Sort.AssemblyPlain
import Derived.BigRegion
import Derived.BigQuiet
import Derived.Deep.QuietTactic
import Derived.Deep.RegionWith
import Derived.Deep.RegionHeld3
import Derived.Deep.CutRange
import Derived.Deep.CutBlock
namespace Go.Proofs.YtcgmgdjeamidlaaGreat
set_option maxRecDepth 100000
set_option maxHeartbeats 16000000
open Go.RowKit Go.ChangeShapes Go.WideShapes Go.ChangeAt Go.Proofs.Tryz
open Go.Sort (swp ltInt)
set_option linter.unusedVariables false
set_option linter.unusedSimpArgs false
def UA(w:World)(B g cap n:Nat)(d:Array Int):Prop:=w.ownsRow B 34 1 (.slice (some ⟨g,0,none⟩) n cap) n (d.toList.map (Value.int .u64))
theorem UA.size{w:World}{B g cap n:Nat}{d:Array Int}(h:UA w B g cap n d):d.size=n:=by have:=h.1;simpa using this
theorem UA.cell{w:World}{B g cap n:Nat}{d:Array Int}(h:UA w B g cap n d)(k:Nat)(hk:k<n):w.cell? ⟨g,k,none⟩=some (.int .u64 d[k]!):=by have hs:=h.size;rw [World.ownsRow.cellAt h k (by omega),List.getElem?_map,Array.getElem?_toList];rw [Array.getElem?_eq_getElem (by omega)];simp [getElem!_pos d k (by omega)]
theorem UA.free{w:World}{B g cap n:Nat}{d:Array Int}(h:UA w B g cap n d)(k:Nat):w.frozen? ⟨g,k,none⟩=false:=World.ownsRow.frozenAt h k
theorem UA.put{w:World}{B g cap n:Nat}{d:Array Int}(h:UA w B g cap n d)(k:Nat)(x:Int):UA (w.setCell ⟨g,k,none⟩ (.int .u64 x)) B g cap n (d.setIfInBounds k x)∧Only [g] w (w.setCell ⟨g,k,none⟩ (.int .u64 x)):=by refine ⟨?_,(Ω [g] w).setCell (.inl (by simp)) _⟩;have h1:=(World.ownsRow.stored h k (.int .u64 x)).1;unfold UA;rw [Array.toList_setIfInBounds,List.map_set];exact h1
theorem UA.only{w w':World}{B g cap n:Nat}{d:Array Int}{G:List Nat}(h:UA w B g cap n d)(k:Only G w w')(hg:g∉G):UA w' B g cap n d:=
 own_keep h fun b hb=>by simp [Value.ownBlock] at hb;subst hb;exact k.block _ (World.ownsRow.lt h _ rfl).2 hg
theorem UA.lt{w:World}{B g cap n:Nat}{d:Array Int}(h:UA w B g cap n d):g<w.heap.size:=(World.ownsRow.lt h _ rfl).2
theorem UA.ge{w:World}{B g cap n:Nat}{d:Array Int}(h:UA w B g cap n d):B≤g:=(World.ownsRow.lt h _ rfl).1
theorem UA.cap{w:World}{B g cap n:Nat}{d:Array Int}(h:UA w B g cap n d):n≤cap:=by obtain ⟨p,c,e,h1,_⟩:=own_shape h;simp only [Value.slice.injEq] at e;omega
structure UT(w w':World)(B g cap n:Nat)(d:Array Int):Prop where
 row:UA w' B g cap n d
 only:Only [g] w w'
theorem UT.refl{w:World}{B g cap n:Nat}{d:Array Int}(h:UA w B g cap n d):UT w w B g cap n d:=⟨h,Ω _ _⟩
theorem UT.trans{a b c:World}{B g cap n:Nat}{d d':Array Int}(h:UT a b B g cap n d)(k:UT b c B g cap n d'):UT a c B g cap n d':=⟨k.row,h.only.trans k.only (by simp)⟩
theorem UT.drew{a b:World}{B g cap n:Nat}{d:Array Int}(h:UT a b B g cap n d):UT a b.drew B g cap n d:=⟨h.row.only (Ω [] _).drew (by simp),h.only.drew⟩
theorem UT.drewN{a b:World}{B g cap n:Nat}{d:Array Int}(h:UT a b B g cap n d)(m:Nat):UT a (b.drewN m) B g cap n d:=⟨h.row.only ((Ω [] _).drewN m) (by simp),h.only.drewN m⟩
theorem UT.swap{a w:World}{B g cap n:Nat}{d:Array Int}(h:UT a w B g cap n d)(i j:Nat){x y:Int}(hx:d[i]! = x)(hy:d[j]! = y):UT a ((w.setCell ⟨g,i,none⟩ (.int .u64 y)).setCell ⟨g,j,none⟩ (.int .u64 x)) B g cap n (swp d i j):=by obtain ⟨r1,o1⟩:=h.row.put i y;obtain ⟨r2,o2⟩:=r1.put j x;refine ⟨?_,(h.only.trans o1 (by simp)).trans o2 (by simp)⟩;unfold swp;rw [hx,hy];exact r2
theorem isNaN_any(x:Int)(w:World):Calls prog 294 #[.int .u64 x] w fun e w'=>e=.returned (.bool false)∧w'=w:=by
 go_enter func294,ntmps294
 go_wp2
 go_ret;exact ⟨rfl,rfl⟩
theorem less_any(x y:Int)(w:World):Calls prog 280 #[.int .u64 x,.int .u64 y] w fun e w'=>e=.returned (.bool (decide (x<y)))∧w'=w:=by go_enter func280,ntmps280;go_wp2_with fail;refine (isNaN_any _ _).mono ?_;rintro _ w1 ⟨rfl,hw1⟩;subst w1;go_wp2_with fail;go_ret;exact ⟨rfl,rfl⟩
theorem less_is(x y:Int)(b:Bool)(h:ltInt x y=b)(w:World):Calls prog 280 #[.int .u64 x,.int .u64 y] w fun e w'=>e=.returned (.bool b)∧w'=w:=by subst h;exact less_any x y w
theorem ltInt_swo:Sort.SWO ltInt:=⟨fun x=>by simp [ltInt],fun x y z h1 h2=>by simp [ltInt] at *;omega,fun x y z h1 h2=>by simp [ltInt] at *;omega⟩
def STo(w:World)(B g cap n:Nat)(d:Array Int)(e:Ending)(w':World):Prop:=e=.returned (.tuple #[])∧UT w w' B g cap n d
theorem w_add(a b:Nat)(h:a+b≤4000000):IntKind.i64.wrap ((a:Int)+(b:Int))=((a+b:Nat):Int):=by rw [IntWalk.i64_in _ (by omega)];omega
theorem w_sub(a b:Nat)(h:b≤a)(h2:a≤4000000):IntKind.i64.wrap ((a:Int)-(b:Int))=((a-b:Nat):Int):=by rw [IntWalk.i64_in _ (by omega)];omega
theorem w_id(q:Nat)(h:q≤4000000):IntKind.i64.wrap (q:Int)=(q:Int):=IntWalk.i64_in _ (by omega)
theorem w64_id(q:Nat)(h:q≤4000000):wrap64 (q:Int)=(q:Int):=by unfold wrap64;omega
theorem w_inc(q:Nat)(h:q≤4000000):IntKind.i64.wrap ((q:Int)+1)=((q+1:Nat):Int):=by rw [IntWalk.i64_in _ (by omega)];omega
theorem w_dec(q:Nat)(h:q≤4000000)(h0:1≤q):IntKind.i64.wrap ((q:Int)-1)=((q-1:Nat):Int):=by rw [IntWalk.i64_in _ (by omega)];omega
end Go.Proofs.YtcgmgdjeamidlaaGreat
namespace Go.Proofs.YtcgmgdjeamidlaaGreat
set_option maxRecDepth 100000
set_option maxHeartbeats 16000000
open Go.RowKit Go.ChangeShapes Go.WideShapes Go.ChangeAt Go.Proofs.Tryz
open Go.Sort (swp ltInt siftDown heapBuild heapPop)
set_option linter.unusedVariables false
set_option linter.unusedSimpArgs false
def Picks(hi f r:Nat)(d:Array Int)(c:Nat):Prop:=2 * r+1<hi∧((c=2 * r+2∧2 * r+2<hi∧ltInt d[f+(2 * r+1)]! d[f+(2 * r+2)]! = true)∨(c=2 * r+1∧(hi≤2 * r+2∨ltInt d[f+(2 * r+1)]! d[f+(2 * r+2)]! = false)))
theorem sift_end{hi f r:Nat}{d:Array Int}(h:hi≤2 * r+1):siftDown ltInt hi f r d=d:=by rw [siftDown,dif_pos h]
theorem Picks.lt{hi f r c:Nat}{d:Array Int}(h:Picks hi f r d c):c<hi:=by
 rcases h.2 with ⟨rfl,h2,_⟩|⟨rfl,_⟩
 ·exact h2
 ·exact h.1
theorem sift_stop{hi f r c:Nat}{d:Array Int}(h:Picks hi f r d c)(hl:ltInt d[f+r]! d[f+c]! = false):siftDown ltInt hi f r d=d:=by
 obtain ⟨h1,h2⟩:=h;rw [siftDown,dif_neg (by omega)];rcases h2 with ⟨rfl,h3,h4⟩|⟨rfl,h3⟩
 ·rw [if_pos (by rw [show f+(2 * r+1)+1=f+(2 * r+2) by omega,h4];simp;omega)];rw [if_pos (by rw [hl];rfl)]
 ·rw [if_neg,if_pos (by rw [hl];rfl)];rw [show f+(2 * r+1)+1=f+(2 * r+2) by omega];rcases h3 with h3|h3
  ·simp;intro h;omega
  ·simp [h3]
theorem sift_go{hi f r c:Nat}{d:Array Int}(h:Picks hi f r d c)(hl:ltInt d[f+r]! d[f+c]! = true):siftDown ltInt hi f r d=siftDown ltInt hi f c (swp d (f+r) (f+c)):=by
 obtain ⟨h1,h2⟩:=h;rw [siftDown,dif_neg (by omega)];rcases h2 with ⟨rfl,h3,h4⟩|⟨rfl,h3⟩
 ·rw [if_pos (by rw [show f+(2 * r+1)+1=f+(2 * r+2) by omega,h4];simp;omega)];rw [if_neg (by rw [hl];simp),dif_pos h3]
 ·rw [if_neg,if_neg (by rw [hl];simp)];rw [show f+(2 * r+1)+1=f+(2 * r+2) by omega];rcases h3 with h3|h3
  ·simp;intro h;omega
  ·simp [h3]
theorem sift_on{B g cap n:Nat}{d:Array Int}{w:World}(h:UA w B g cap n d)(hn:n≤1000000)(lo hi first:Nat)(hf:first+hi≤n)(hlo:lo≤1000000) :
  Calls prog 295 #[.slice (some ⟨g,0,none⟩) n cap,.int .i64 (lo:Int),.int .i64 (hi:Int),.int .i64 (first:Int)] w (STo w B g cap n (siftDown ltInt hi first lo d)):=by
 have I0:Hid (∃ d',UT w w B g cap n d'∧siftDown ltInt hi first lo d=siftDown ltInt hi first lo d'):=Ξ ⟨d,UT.refl h,rfl⟩;clear h;have HF:=Ξ (Ψ hf hn);clear hf hn;go_enter func295,ntmps295;go_wp2_with fail;go_loopw [8] (fun u wr=>∃ r:Nat,u=.int .i64 (r:Int)∧Hid (r≤1000000)∧Hid (∃ d',UT w wr B g cap n d'∧siftDown ltInt hi first lo d=siftDown ltInt hi first r d')) (fun u _=>hi-(intOf u).toNat)
 case atStart=>exact ⟨lo,rfl,Ξ hlo,I0⟩
 case round=>
  obtain ⟨r,rfl,HR,hR⟩:=hrel;obtain ⟨d',hu,hd⟩:=hR.out;have HU:=Ξ hu;have HD:=Ξ hd;clear hu hd hR;have e1:IntKind.i64.wrap (2 * (r:Int))=((2 * r:Nat):Int):=by have:=HR.out;rw [IntWalk.i64_in _ (by omega)];omega
  have e2:IntKind.i64.wrap (((2 * r:Nat):Int)+1)=((2 * r+1:Nat):Int):=by have:=HR.out;rw [IntWalk.i64_in _ (by omega)];omega
  obtain ⟨c,hc⟩:∃ c,2 * r+1=c:=⟨_,rfl⟩;have HCc:=Ξ hc;rw [hc] at e2;clear hc;generalize hq:2 * r=q at e1 e2;clear hq;by_cases h1:hi≤c
  ·have d1:decide ((hi:Int)≤(c:Int))=true:=Γ (by omega);have d1':decide (hi≤c)=true:=Γ h1;have HH:=Ξ h1;clear h1;go_wp2_with fail;refine bodyPost_ret (results_none rfl _ _ _) rfl ?_;exact ⟨rfl,by rw [HD.out,sift_end (by have:=HH.out;have:=HCc.out;omega)];exact HU.out⟩
  ·have d1:decide ((hi:Int)≤(c:Int))=false:=Λ (by omega);have d1':decide (hi≤c)=false:=Λ h1;have HH:=Ξ h1;clear h1;have e3:IntKind.i64.wrap ((c:Int)+1)=((c+1:Nat):Int):=by have:=HR.out;have:=HCc.out;rw [IntWalk.i64_in _ (by omega)];omega
   obtain ⟨k,hk⟩:∃ k,c+1=k:=⟨_,rfl⟩;have HK:=Ξ hk;rw [hk] at e3;clear hk;by_cases h2:k<hi
   ·have d2:decide ((k:Int)<(hi:Int))=true:=Γ (by omega);have d2':decide (k<hi)=true:=Γ h2;have H2:=Ξ h2;clear h2;obtain ⟨a,ha⟩:∃ a,first+c=a:=⟨_,rfl⟩
    have HA:=Ξ ha;obtain ⟨b,hb⟩:∃ b,a+1=b:=⟨_,rfl⟩;have HB:=Ξ hb;have ea:IntKind.i64.wrap ((first:Int)+(c:Int))=(a:Int):=by rw [w_add _ _ (by have:=HF.out;have:=HH.out;omega),ha]
    have eb:IntKind.i64.wrap ((a:Int)+1)=(b:Int):=by rw [←hb,IntWalk.i64_in _ (by have:=HF.out;have:=HH.out;omega)];omega
    have an:a<n:=by have:=HF.out;have:=HH.out;omega
    have bn:b<n:=by have:=HF.out;have:=HK.out;have:=H2.out;omega
    clear ha hb;have c1:=HU.out.row.cell a an;have c2:=HU.out.row.cell b bn;generalize hx:d'[a]! = x at c1;generalize hy:d'[b]! = y at c2;have HX:=Ξ hx;have HY:=Ξ hy;clear hx hy;cases hl:ltInt x y
    ·have HL:=Ξ hl;clear hl;go_upto_region 3 with fail;go_quiet ((go_at_call 280;exact Calls.quiet_of_same (less_is _ _ _ HL.out _)))
     have P:Hid (Picks hi first r d' c):=Ξ ⟨by have:=HH.out;have:=HCc.out;omega,.inr ⟨HCc.out.symm,.inr (by rw [show first+(2 * r+1)=a by rw [HCc.out,HA.out],show first+(2 * r+2)=b by have:=HCc.out;have:=HA.out;have:=HB.out;omega,HX.out,HY.out];exact HL.out)⟩⟩
     clear ea eb an bn c1 c2 HX HY e1 e2 e3;have HU:=Ξ (HU.out.drewN nq);generalize wr.drewN nq=wr at *;have pl:=P.out.lt;obtain ⟨i,hi9⟩:∃ i,first+r=i:=⟨_,rfl⟩
     obtain ⟨j,hj9⟩:∃ j,first+c=j:=⟨_,rfl⟩
     have HI:=Ξ hi9;have HJ:=Ξ hj9;have ei:IntKind.i64.wrap ((first:Int)+(r:Int))=(i:Int):=by rw [w_add _ _ (by have:=HF.out;have:=HR.out;omega),hi9]
     have ej:IntKind.i64.wrap ((first:Int)+(c:Int))=(j:Int):=by rw [w_add _ _ (by have:=HF.out;omega),hj9]
     have hij:r<c:=by rcases P.out.2 with ⟨h,_⟩|⟨h,_⟩<;>omega
     have jn:j<n:=by have:=HF.out;omega
     have inn:i<n:=(by omega);have ne1:¬ i=j:=(by omega);have ne2:¬ j=i:=(by omega);have HRC:=Ξ hij;clear pl hi9 hj9 hij;have c1:=HU.out.row.cell i inn;have c2:=HU.out.row.cell j jn;have q1:=HU.out.row.free i;have q2:=HU.out.row.free j;generalize hx:d'[i]! = x at c1;generalize hy:d'[j]! = y at c2;have HX:=Ξ hx;have HY:=Ξ hy;clear hx hy;cases hl:ltInt x y
     ·have HL:=Ξ hl;clear hl;go_upto_region 5 with fail;go_quiet ((go_at_call 280;exact Calls.quiet_of_same (less_is _ _ _ HL.out _)))
      go_wp2_with fail;refine bodyPost_ret (results_none rfl _ _ _) rfl ?_;exact ⟨rfl,by rw [HD.out,sift_stop P.out (by rw [HI.out,HJ.out,HX.out,HY.out];exact HL.out)];exact HU.out.drewN nq⟩
     ·have HL:=Ξ hl;clear hl;go_upto_region 5 with fail;go_quiet ((go_at_call 280;exact Calls.quiet_of_same (less_is _ _ _ HL.out _)))
      have HU:=Ξ (HU.out.drewN nq);generalize wr.drewN nq=wr at *;clear c1 c2 q1 q2;have c1:=HU.out.row.cell i inn;have c2:=HU.out.row.cell j jn;have q1:=HU.out.row.free i;have q2:=HU.out.row.free j;rw [HX.out] at c1;rw [HY.out] at c2;have HS:=Ξ (HU.out.swap i j HX.out HY.out).drew;go_upto_region 6 with fail;go_region
      go_wp2_with fail;go_roundw;case rel=>exact ⟨c,rfl,Ξ (by have:=P.out.lt;have:=HF.out;omega),Ξ ⟨_,HS.out,by rw [HD.out,sift_go P.out (by rw [HI.out,HJ.out,HX.out,HY.out];exact HL.out),HI.out,HJ.out]⟩⟩
      case measure=>have:=HRC.out;have:=P.out.lt;simp [intOf];omega
    ·have HL:=Ξ hl;clear hl;go_upto_region 3 with fail;go_quiet ((go_at_call 280;exact Calls.quiet_of_same (less_is _ _ _ HL.out _)))
     have P:Hid (Picks hi first r d' k):=Ξ ⟨by have:=HH.out;have:=HCc.out;omega,.inl ⟨by have:=HCc.out;have:=HK.out;omega,by have:=H2.out;have:=HCc.out;have:=HK.out;omega,by rw [show first+(2 * r+1)=a by rw [HCc.out,HA.out],show first+(2 * r+2)=b by have:=HCc.out;have:=HA.out;have:=HB.out;omega,HX.out,HY.out];exact HL.out⟩⟩
     clear ea eb an bn c1 c2 HX HY;have HU:=Ξ (HU.out.drewN nq);generalize wr.drewN nq=wr at *;have pl:=P.out.lt;obtain ⟨i,hi9⟩:∃ i,first+r=i:=⟨_,rfl⟩
     obtain ⟨j,hj9⟩:∃ j,first+k=j:=⟨_,rfl⟩
     have HI:=Ξ hi9;have HJ:=Ξ hj9;have ei:IntKind.i64.wrap ((first:Int)+(r:Int))=(i:Int):=by rw [w_add _ _ (by have:=HF.out;have:=HR.out;omega),hi9]
     have ej:IntKind.i64.wrap ((first:Int)+(k:Int))=(j:Int):=by rw [w_add _ _ (by have:=HF.out;omega),hj9]
     have hij:r<k:=by rcases P.out.2 with ⟨h,_⟩|⟨h,_⟩<;>omega
     have jn:j<n:=by have:=HF.out;omega
     have inn:i<n:=(by omega);have ne1:¬ i=j:=(by omega);have ne2:¬ j=i:=(by omega);have HRC:=Ξ hij;clear pl hi9 hj9 hij;have c1:=HU.out.row.cell i inn;have c2:=HU.out.row.cell j jn;have q1:=HU.out.row.free i;have q2:=HU.out.row.free j;generalize hx:d'[i]! = x at c1;generalize hy:d'[j]! = y at c2;have HX:=Ξ hx;have HY:=Ξ hy;clear hx hy;cases hl:ltInt x y
     ·have HL:=Ξ hl;clear hl;go_upto_region 5 with fail;go_quiet ((go_at_call 280;exact Calls.quiet_of_same (less_is _ _ _ HL.out _)))
      go_wp2_with fail;refine bodyPost_ret (results_none rfl _ _ _) rfl ?_;exact ⟨rfl,by rw [HD.out,sift_stop P.out (by rw [HI.out,HJ.out,HX.out,HY.out];exact HL.out)];exact HU.out.drewN nq⟩
     ·have HL:=Ξ hl;clear hl;go_upto_region 5 with fail;go_quiet ((go_at_call 280;exact Calls.quiet_of_same (less_is _ _ _ HL.out _)))
      have HU:=Ξ (HU.out.drewN nq);generalize wr.drewN nq=wr at *;clear c1 c2 q1 q2;have c1:=HU.out.row.cell i inn;have c2:=HU.out.row.cell j jn;have q1:=HU.out.row.free i;have q2:=HU.out.row.free j;rw [HX.out] at c1;rw [HY.out] at c2;have HS:=Ξ (HU.out.swap i j HX.out HY.out).drew;go_upto_region 6 with fail;go_region
      go_wp2_with fail;go_roundw;case rel=>exact ⟨k,rfl,Ξ (by have:=P.out.lt;have:=HF.out;omega),Ξ ⟨_,HS.out,by rw [HD.out,sift_go P.out (by rw [HI.out,HJ.out,HX.out,HY.out];exact HL.out),HI.out,HJ.out]⟩⟩
      case measure=>have:=HRC.out;have:=P.out.lt;simp [intOf];omega
   ·have d2:decide ((k:Int)<(hi:Int))=false:=Λ (by omega);have d2':decide (k<hi)=false:=Λ h2;have P:Hid (Picks hi first r d' c):=Ξ ⟨by have:=HH.out;have:=HCc.out;omega,.inr ⟨HCc.out.symm,.inl (by have:=HCc.out;have:=HK.out;omega)⟩⟩;clear h2;go_upto_region 3 with fail;go_quiet (fail)
    have HU:=Ξ (HU.out.drewN nq);generalize wr.drewN nq=wr at *;have pl:=P.out.lt;obtain ⟨i,hi9⟩:∃ i,first+r=i:=⟨_,rfl⟩
    obtain ⟨j,hj9⟩:∃ j,first+c=j:=⟨_,rfl⟩
    have HI:=Ξ hi9;have HJ:=Ξ hj9;have ei:IntKind.i64.wrap ((first:Int)+(r:Int))=(i:Int):=by rw [w_add _ _ (by have:=HF.out;have:=HR.out;omega),hi9]
    have ej:IntKind.i64.wrap ((first:Int)+(c:Int))=(j:Int):=by rw [w_add _ _ (by have:=HF.out;omega),hj9]
    have hij:r<c:=by rcases P.out.2 with ⟨h,_⟩|⟨h,_⟩<;>omega
    have jn:j<n:=by have:=HF.out;omega
    have inn:i<n:=(by omega);have ne1:¬ i=j:=(by omega);have ne2:¬ j=i:=(by omega);have HRC:=Ξ hij;clear pl hi9 hj9 hij;have c1:=HU.out.row.cell i inn;have c2:=HU.out.row.cell j jn;have q1:=HU.out.row.free i;have q2:=HU.out.row.free j;generalize hx:d'[i]! = x at c1;generalize hy:d'[j]! = y at c2;have HX:=Ξ hx;have HY:=Ξ hy;clear hx hy;cases hl:ltInt x y
    ·have HL:=Ξ hl;clear hl;go_upto_region 5 with fail;go_quiet ((go_at_call 280;exact Calls.quiet_of_same (less_is _ _ _ HL.out _)))
     go_wp2_with fail;refine bodyPost_ret (results_none rfl _ _ _) rfl ?_;exact ⟨rfl,by rw [HD.out,sift_stop P.out (by rw [HI.out,HJ.out,HX.out,HY.out];exact HL.out)];exact HU.out.drewN nq⟩
    ·have HL:=Ξ hl;clear hl;go_upto_region 5 with fail;go_quiet ((go_at_call 280;exact Calls.quiet_of_same (less_is _ _ _ HL.out _)))
     have HU:=Ξ (HU.out.drewN nq);generalize wr.drewN nq=wr at *;clear c1 c2 q1 q2;have c1:=HU.out.row.cell i inn;have c2:=HU.out.row.cell j jn;have q1:=HU.out.row.free i;have q2:=HU.out.row.free j;rw [HX.out] at c1;rw [HY.out] at c2;have HS:=Ξ (HU.out.swap i j HX.out HY.out).drew;go_upto_region 6 with fail;go_region
     go_wp2_with fail;go_roundw;case rel=>exact ⟨c,rfl,Ξ (by have:=P.out.lt;have:=HF.out;omega),Ξ ⟨_,HS.out,by rw [HD.out,sift_go P.out (by rw [HI.out,HJ.out,HX.out,HY.out];exact HL.out),HI.out,HJ.out]⟩⟩
     case measure=>have:=HRC.out;have:=P.out.lt;simp [intOf];omega
end Go.Proofs.YtcgmgdjeamidlaaGreat
namespace Go.Proofs.YtcgmgdjeamidlaaGreat
set_option maxRecDepth 100000
set_option maxHeartbeats 16000000
open Go.RowKit Go.ChangeShapes Go.WideShapes Go.ChangeAt Go.Proofs.Tryz
open Go.Sort (swp ltInt siftDown heapBuild heapPop heapSort reverseLoop reverseRange)
set_option linter.unusedVariables false
set_option linter.unusedSimpArgs false
theorem heap_on{B g cap n:Nat}{d:Array Int}{w:World}(h:UA w B g cap n d)(hn:n≤1000000)(a b:Nat)(hab:a<b)(hb:b≤n) :
  Calls prog 275 #[.slice (some ⟨g,0,none⟩) n cap,.int .i64 (a:Int),.int .i64 (b:Int)] w (STo w B g cap n (heapSort ltInt d a b)):=by
 obtain ⟨hi,hhi⟩:∃ hi,b-a=hi:=⟨_,rfl⟩;have e1:IntKind.i64.wrap ((b:Int)-(a:Int))=(hi:Int):=by rw [w_sub _ _ (by omega) (by omega),hhi]
 have e2:IntKind.i64.wrap ((hi:Int)-1)=((hi-1:Nat):Int):=by rw [IntWalk.i64_in _ (by omega)];omega
 obtain ⟨m,hm⟩:∃ m,hi-1=m:=⟨_,rfl⟩;rw [hm] at e2;have e3:Int.tdiv (m:Int) 2=((m / 2:Nat):Int):=by rfl
 have HF:Hid (a+hi≤n∧n≤1000000∧1≤hi):=Ξ (by omega);have I0:Hid (∃ d',UT w w B g cap n d'∧heapBuild ltInt hi a (m / 2+1) d=heapBuild ltInt hi a (m / 2+1) d'):=Ξ ⟨d,UT.refl h,rfl⟩;have HE:Hid (heapSort ltInt d a b=heapPop ltInt a hi (heapBuild ltInt hi a (m / 2+1) d)):=Ξ (by unfold heapSort;rw [hhi,hm]);have SI:Hid (∀ (y:World) (d':Array Int) (lo h':Nat),UA y B g cap n d'→a+h'≤n→lo≤1000000→Calls prog 295 #[.slice (some ⟨g,0,none⟩) n cap,.int .i64 (lo:Int),.int .i64 (h':Int),.int .i64 (a:Int)] y (STo y B g cap n (siftDown ltInt h' a lo d'))):=Ξ fun y d' lo h' hu hf hl=>sift_on hu hn lo h' a hf hl;obtain ⟨q,hq⟩:∃ q,m / 2=q:=⟨_,rfl⟩;have HQ:Hid (q+1≤hi):=Ξ (by omega);have e4:IntKind.i64.wrap (q:Int)=(q:Int):=IntWalk.i64_in _ (by omega);rw [hq] at e3 I0 HE;rw [HE.out];clear h hab hb hhi hm hn hq HE;go_enter func275,ntmps275;go_wp2_with fail;go_loopw [9] (fun u wr=>∃ k:Nat,u=.int .i64 ((k:Int)-1)∧Hid (k≤q+1)∧Hid (∃ d',UT w wr B g cap n d'∧heapBuild ltInt hi a (q+1) d=heapBuild ltInt hi a k d')) (fun u _=>(intOf u+1).toNat)
 case atStart=>exact ⟨q+1,by simp,Ξ (Θ _),I0⟩
 case round=>
  obtain ⟨k,rfl,HK,hR⟩:=hrel;obtain ⟨d',hu,hd⟩:=hR.out;have HU:=Ξ hu;have HD:=Ξ hd;clear hu hd hR;cases k with
  | zero=>
   simp only [Int.natCast_zero,Int.zero_sub];have e5:IntKind.i64.wrap ((hi:Int)-1)=(hi:Int)-1:=IntWalk.i64_in _ (by have:=HF.out;omega);clear e2;go_wp2_with fail;go_loopw [10] (fun u w2=>∃ k:Nat,u=.int .i64 ((k:Int)-1)∧Hid (k≤hi)∧Hid (∃ d'',UT w w2 B g cap n d''∧heapPop ltInt a hi (heapBuild ltInt hi a (q+1) d)=heapPop ltInt a k d'')) (fun u _=>(intOf u+1).toNat)
   case atStart=>exact ⟨hi,rfl,Ξ (Θ _),Ξ ⟨d',HU.out,by rw [HD.out];rfl⟩⟩
   case round=>
    obtain ⟨k,rfl,HK2,hR⟩:=hrel;rename World=>w2;obtain ⟨d2,hu,hd⟩:=hR.out;have HU:=Ξ hu;have HD:=Ξ hd;clear hu hd hR;cases k with
    | zero=>
     simp only [Int.natCast_zero,Int.zero_sub];go_wp2_with fail
     go_end0
     exact ⟨rfl,by rw [HD.out];exact HU.out⟩
    | succ k=>
     have ek:((k+1:Nat):Int)-1=(k:Int):=(by omega);rw [ek];have d1:decide ((0:Int)≤(k:Int))=true:=Γ (by omega);obtain ⟨j,hj⟩:∃ j,a+k=j:=⟨_,rfl⟩;have HJ:=Ξ hj;have ej:IntKind.i64.wrap ((a:Int)+(k:Int))=(j:Int):=by rw [w_add _ _ (by have:=HF.out;have:=HK2.out;omega),hj]
     have jn:j<n:=by have:=HF.out;have:=HK2.out;omega
     have an:a<n:=by have:=HF.out;have:=HK2.out;omega
     have c1:=HU.out.row.cell a an;have c2:=HU.out.row.cell j jn;have q1:=HU.out.row.free a;have q2:=HU.out.row.free j;generalize hx:d2[a]! = x at c1;generalize hy:d2[j]! = y at c2;have HS:=Ξ (HU.out.swap a j hx hy).drew;have e6:IntKind.i64.wrap ((k:Int)-1)=(k:Int)-1:=IntWalk.i64_in _ (by have:=HF.out;have:=HK2.out;omega);have S:=Ξ (SI.out _ _ 0 k HS.out.row (by have:=HF.out;have:=HK2.out;omega) (by omega));have HXY:=Ξ (Ψ hx hy);clear hx hy hj;by_cases hk0:k=0
     ·subst hk0;have haj:j=a:=by have:=HJ.out;omega
      subst haj;have hxy:y=x:=by rw [←HXY.out.1,←HXY.out.2]
      subst hxy;have e7:IntKind.i64.wrap (j:Int)=(j:Int):=IntWalk.i64_in _ (by have:=HF.out;omega);have e8:wrap64 (j:Int)=(j:Int):=by unfold wrap64;have:=HF.out;omega
      go_upto_region 10 with fail;go_region
      go_wp2_with fail;refine S.out.mono ?_;rintro _ w3 ⟨rfl,ht⟩;have HT:=Ξ (HS.out.trans ht);clear ht;go_wp2_with fail;go_roundw;case rel=>exact ⟨0,rfl,Ξ (by omega),Ξ ⟨_,HT.out,by rw [HD.out];show heapPop _ _ _ (siftDown _ _ _ _ (swp _ _ _))=_;rw [HJ.out]⟩⟩
      case measure=>simp [intOf]
     ·have ne1:¬ a=j:=by have:=HJ.out;omega
      have ne2:¬ j=a:=by have:=HJ.out;omega
      clear hk0;go_upto_region 10 with fail;go_region
      go_wp2_with fail;refine S.out.mono ?_;rintro _ w3 ⟨rfl,ht⟩;have HT:=Ξ (HS.out.trans ht);clear ht;go_wp2_with fail;go_roundw;case rel=>exact ⟨k,rfl,Ξ (by have:=HK2.out;omega),Ξ ⟨_,HT.out,by rw [HD.out];show heapPop _ _ _ (siftDown _ _ _ _ (swp _ _ _))=_;rw [HJ.out]⟩⟩
      case measure=>simp [intOf]
  | succ k=>
   have ek:((k+1:Nat):Int)-1=(k:Int):=(by omega);rw [ek];have d1:decide ((0:Int)≤(k:Int))=true:=Γ (by omega);have e5:IntKind.i64.wrap ((k:Int)-1)=(k:Int)-1:=IntWalk.i64_in _ (by have:=HF.out;have:=HK.out;have:=HQ.out;omega);have S:=Ξ (SI.out _ _ k hi HU.out.row HF.out.1 (by have:=HF.out;have:=HK.out;have:=HQ.out;omega));go_wp2_with fail;refine S.out.mono ?_;rintro _ w2 ⟨rfl,ht⟩;have HT:=Ξ (HU.out.trans ht);clear ht;go_wp2_with fail;go_roundw;case rel=>exact ⟨k,rfl,Ξ (by have:=HK.out;omega),Ξ ⟨_,HT.out,HD.out⟩⟩
   case measure=>simp [intOf]
theorem reverse_on{B g cap n:Nat}{d:Array Int}{w:World}(h:UA w B g cap n d)(hn:n≤1000000)(a b:Nat)(hab:a<b)(hb:b≤n) :
  Calls prog 278 #[.slice (some ⟨g,0,none⟩) n cap,.int .i64 (a:Int),.int .i64 (b:Int)] w (STo w B g cap n (reverseRange d a b)):=by
 have e1:IntKind.i64.wrap ((b:Int)-1)=((b-1:Nat):Int):=by rw [IntWalk.i64_in _ (by omega)];omega
 have I0:Hid (∃ d',UT w w B g cap n d'∧reverseRange d a b=reverseLoop a (b-1) d'):=Ξ ⟨d,UT.refl h,rfl⟩;obtain ⟨m,hm⟩:∃ m,b-1=m:=⟨_,rfl⟩;have HF:Hid (m<n∧n≤1000000∧a≤m):=Ξ (by omega);rw [hm] at e1 I0;clear h hab hb hm hn;go_enter func278,ntmps278;go_wp2_with fail;go_loopw [6,7] (fun u v wr=>∃ i j:Nat,(u=.int .i64 (i:Int)∧v=.int .i64 (j:Int))∧Hid (j<n)∧Hid (i≤n)∧Hid (∃ d',UT w wr B g cap n d'∧reverseRange d a b=reverseLoop i j d')) (fun u v _=>(intOf v-intOf u).toNat)
 case atStart=>exact ⟨a,m,⟨rfl,rfl⟩,Ξ HF.out.1,Ξ (by have:=HF.out;omega),I0⟩
 case round=>
  obtain ⟨i,j,⟨rfl,rfl⟩,HJ,HI,hR⟩:=hrel;obtain ⟨d',hu,hd⟩:=hR.out;have HU:=Ξ hu;have HD:=Ξ hd;clear hu hd hR;by_cases hl:i<j
  ·have d1:decide ((i:Int)<(j:Int))=true:=Γ (by omega);have d1':decide (i<j)=true:=Γ hl;have jn:j<n:=HJ.out;have inn:i<n:=(by omega);have ne1:¬ i=j:=(by omega);have ne2:¬ j=i:=(by omega);have e2:IntKind.i64.wrap ((i:Int)+1)=((i+1:Nat):Int):=by rw [IntWalk.i64_in _ (by have:=HF.out;omega)];omega
   have e3:IntKind.i64.wrap ((j:Int)-1)=((j-1:Nat):Int):=by rw [IntWalk.i64_in _ (by have:=HF.out;omega)];omega
   have c1:=HU.out.row.cell i inn;have c2:=HU.out.row.cell j jn;have q1:=HU.out.row.free i;have q2:=HU.out.row.free j;generalize hx:d'[i]! = x at c1;generalize hy:d'[j]! = y at c2;have HS:=Ξ (HU.out.swap i j hx hy).drew;have HL:=Ξ hl;clear hx hy hl;go_upto_region 3 with fail;go_region
   go_wp2_with fail;go_roundw;case rel=>exact ⟨i+1,j-1,⟨by go_num,rfl⟩,Ξ (by have:=HJ.out;omega),Ξ (by have:=HL.out;have:=HJ.out;omega),Ξ ⟨_,HS.out,by rw [HD.out,reverseLoop,if_pos HL.out]⟩⟩
   case measure=>simp [intOf];have:=HL.out;omega
  ·have d1:decide ((i:Int)<(j:Int))=false:=Λ (by omega);have d1':decide (i<j)=false:=Λ hl;have HL:=Ξ hl;clear hl;go_wp2_with fail
   go_end0
   exact ⟨rfl,by rw [HD.out,reverseLoop,if_neg HL.out];exact HU.out⟩
end Go.Proofs.YtcgmgdjeamidlaaGreat
namespace Go.Proofs.YtcgmgdjeamidlaaGreat
set_option maxRecDepth 100000
set_option maxHeartbeats 16000000
open Go.RowKit Go.ChangeShapes Go.WideShapes Go.ChangeAt Go.Proofs.Tryz
open Go.Sort (swp ltInt insInner insOuter insertionSort)
set_option linter.unusedVariables false
set_option linter.unusedSimpArgs false
theorem insInner_stop{a j:Nat}{d:Array Int}(h:j≤a∨ltInt d[j]! d[j-1]! = false):insInner ltInt a j d=d:=by
 cases j with
 | zero=>rfl
 | succ j=>
  unfold insInner;rw [if_neg];rcases h with h|h
  ·simp;intro h2;omega
  ·simp at h ⊢;intro _;exact h
theorem insInner_go{a j:Nat}{d:Array Int}(h:a<j)(hl:ltInt d[j]! d[j-1]! = true):insInner ltInt a j d=insInner ltInt a (j-1) (swp d j (j-1)):=by
 cases j with
 | zero=>omega
 | succ j=>
  rw [insInner,if_pos]
  ·rfl
  ·simp at hl ⊢;exact ⟨by omega,hl⟩
theorem insertion_on{B g cap n:Nat}{d:Array Int}{w:World}(h:UA w B g cap n d)(hn:n≤1000000)(a b:Nat)(hab:a≤b)(hb:b≤n) :
  Calls prog 274 #[.slice (some ⟨g,0,none⟩) n cap,.int .i64 (a:Int),.int .i64 (b:Int)] w (STo w B g cap n (insertionSort ltInt d a b)):=by
 have e1:IntKind.i64.wrap ((a:Int)+1)=((a+1:Nat):Int):=by rw [IntWalk.i64_in _ (by omega)];omega
 have I0:Hid (∃ d',UT w w B g cap n d'∧insertionSort ltInt d a b=insOuter ltInt a b (a+1) d'):=Ξ ⟨d,UT.refl h,rfl⟩;obtain ⟨m,hm⟩:∃ m,a+1=m:=⟨_,rfl⟩;have HF:Hid (b≤n∧n≤1000000∧a+1=m∧a≤b):=Ξ ⟨hb,hn,hm,hab⟩;rw [hm] at e1 I0;clear h hab hb hm hn;go_enter func274,ntmps274;go_wp2_with fail;go_loopw [6] (fun u wr=>∃ i:Nat,u=.int .i64 (i:Int)∧Hid (a<i∧i≤b+1)∧Hid (∃ d',UT w wr B g cap n d'∧insertionSort ltInt d a b=insOuter ltInt a b i d')) (fun u _=>b+1-(intOf u).toNat)
 case atStart=>exact ⟨m,rfl,Ξ (by have:=HF.out;omega),I0⟩
 case round=>
  obtain ⟨i,rfl,HI,hR⟩:=hrel;obtain ⟨d',hu,hd⟩:=hR.out;have HU:=Ξ hu;have HD:=Ξ hd;clear hu hd hR;by_cases hl:i<b
  ·have d1:decide ((i:Int)<(b:Int))=true:=Γ (by omega);have d1':decide (i<b)=true:=Γ hl;have HL:=Ξ hl;clear hl;have e9:IntKind.i64.wrap ((i:Int)+1)=((i+1:Nat):Int):=by have:=HF.out;have:=HL.out;rw [IntWalk.i64_in _ (by omega)];omega
   go_wp2_with fail;go_loopw [7] (fun u w2=>∃ j:Nat,u=.int .i64 (j:Int)∧Hid (j≤i)∧Hid (∃ d2,UT w w2 B g cap n d2∧insInner ltInt a i d'=insInner ltInt a j d2)) (fun u _=>(intOf u).toNat)
   case atStart=>exact ⟨i,rfl,Ξ (Θ _),Ξ ⟨_,HU.out,rfl⟩⟩
   case round=>
    obtain ⟨j,rfl,HJ,hR⟩:=hrel;rename World=>w2;obtain ⟨d2,hu,hd⟩:=hR.out;have HU2:=Ξ hu;have HD2:=Ξ hd;clear hu hd hR;by_cases h0:a<j
    ·have d2':decide ((a:Int)<(j:Int))=true:=Γ (by omega);have d2'':decide (a<j)=true:=Γ h0;have H0:=Ξ h0;clear h0;have jn:j<n:=by have:=HF.out;have:=HJ.out;have:=HL.out;omega
     have es:IntKind.i64.wrap ((j:Int)-1)=((j-1:Nat):Int):=by have:=H0.out;have:=HF.out;rw [IntWalk.i64_in _ (by omega)];omega
     obtain ⟨k,hk⟩:∃ k,j-1=k:=⟨_,rfl⟩;have HK:=Ξ hk;rw [hk] at es;clear hk;have kn:k<n:=by have:=HK.out;omega
     have ne1:¬ j=k:=by have:=HK.out;have:=H0.out;omega
     have ne2:¬ k=j:=by have:=HK.out;have:=H0.out;omega
     have c1:=HU2.out.row.cell j jn;have c2:=HU2.out.row.cell k kn;have q1:=HU2.out.row.free j;have q2:=HU2.out.row.free k;generalize hx:d2[j]! = x at c1;generalize hy:d2[k]! = y at c2;have HX:=Ξ hx;have HY:=Ξ hy;clear hx hy;cases hl:ltInt x y
     ·have HL2:=Ξ hl;clear hl;go_upto_region 4 with fail;go_quiet ((go_at_call 280;exact Calls.quiet_of_same (less_is _ _ _ HL2.out _)))
      go_wp2_with fail;go_roundw;case rel=>exact ⟨i+1,by go_num,Ξ (by have:=HI.out;have:=HL.out;omega),Ξ ⟨d2,HU2.out.drewN nq,by rw [HD.out,insOuter,if_pos HL.out,HD2.out,insInner_stop (.inr (by rw [HK.out,HX.out,HY.out];exact HL2.out))]⟩⟩
      case measure=>simp [intOf];have:=HL.out;omega
     ·have HL2:=Ξ hl;clear hl;go_upto_region 4 with fail;go_quiet ((go_at_call 280;exact Calls.quiet_of_same (less_is _ _ _ HL2.out _)))
      have HU2:=Ξ (HU2.out.drewN nq);generalize w2.drewN nq=w2 at *;clear c1 c2 q1 q2;have c1:=HU2.out.row.cell j jn;have c2:=HU2.out.row.cell k kn;have q1:=HU2.out.row.free j;have q2:=HU2.out.row.free k;rw [HX.out] at c1;rw [HY.out] at c2;have HS:=Ξ (HU2.out.swap j k HX.out HY.out).drew;go_upto_region 6 with fail;go_region
      go_wp2_with fail;go_roundw;case rel=>exact ⟨k,rfl,Ξ (by have:=HJ.out;have:=HK.out;omega),Ξ ⟨_,HS.out,by rw [HD2.out,insInner_go H0.out (by rw [HK.out,HX.out,HY.out];exact HL2.out),HK.out]⟩⟩
      case measure=>simp [intOf];have:=HK.out;have:=H0.out;omega
    ·have d2':decide ((a:Int)<(j:Int))=false:=Λ (by omega);have d2'':decide (a<j)=false:=Λ h0;have H0:=Ξ h0;clear h0;go_upto_region 4 with fail;go_quiet (fail)
     go_wp2_with fail;go_roundw;case rel=>exact ⟨i+1,by go_num,Ξ (by have:=HI.out;have:=HL.out;omega),Ξ ⟨d2,HU2.out.drewN nq,by rw [HD.out,insOuter,if_pos HL.out,HD2.out,insInner_stop (.inl (by have:=H0.out;omega))]⟩⟩
     case measure=>simp [intOf];have:=HL.out;omega
  ·have d1:decide ((i:Int)<(b:Int))=false:=Λ (by omega);have d1':decide (i<b)=false:=Λ hl;have HL:=Ξ hl;clear hl;go_wp2_with fail
   go_end0
   exact ⟨rfl,by rw [HD.out,insOuter,if_neg HL.out];exact HU.out⟩
def SwBox(s:Nat)(w w':World):Prop:=Only [s] w w'∧∃ z:Int,Row w' s #[.int .i64 z] 3
theorem SwBox.trans{s:Nat}{a b c:World}(h:SwBox s a b)(k:SwBox s b c):SwBox s a c:=⟨h.1.trans k.1 (by simp),k.2⟩
def Or2To(s a b:Nat)(w:World)(e:Ending)(w':World):Prop:=∃ x y:Nat,e=.returned (.tuple #[.int .i64 (x:Int),.int .i64 (y:Int)])∧(x=a∨x=b)∧(y=a∨y=b)∧SwBox s w w'
theorem order2_on{B g cap n:Nat}{d:Array Int}{w:World}(h:UA w B g cap n d)(hn:n≤1000000)(a b s:Nat)(ha:a<n)(hb:b<n)(hs:s≠g){z:Int}(hz:Row w s #[.int .i64 z] 3) :
  Calls prog 303 #[.slice (some ⟨g,0,none⟩) n cap,.int .i64 (a:Int),.int .i64 (b:Int),.pointer (some ⟨s,0,none⟩)] w (Or2To s a b w):=by
 have c1:=h.cell a ha;have c2:=h.cell b hb;have HZ:=Ξ hz;generalize hx:d[a]! = x at c1;generalize hy:d[b]! = y at c2;clear h hx hy;cases hl:ltInt y x
 ·have HL:=Ξ hl;clear hl hz;go_enter func303,ntmps303;go_upto_region 1 with fail;go_quiet ((go_at_call 280;exact Calls.quiet_of_same (less_is _ _ _ HL.out _)))
  go_wp2_with fail;go_ret2;exact ⟨a,b,rfl,.inl rfl,.inr rfl,(Ω _ _).drewN _,z,HZ.out.only ((Ω [] _).drewN _) (by simp)⟩
 ·have HL:=Ξ hl;clear hl hz;go_enter func303,ntmps303;go_upto_region 1 with fail;go_quiet ((go_at_call 280;exact Calls.quiet_of_same (less_is _ _ _ HL.out _)))
  have R:Hid (Row (w.drewN nq) s #[.int .i64 z] 3):=Ξ (HZ.out.only ((Ω [] _).drewN _) (by simp));have K:Hid (Only [s] w (w.drewN nq)):=Ξ ((Ω _ _).drewN _);clear c1 c2;generalize w.drewN nq=w1 at *;have c0:=R.out.c 0 (.int .i64 z);have q0:=R.out.free 0;go_wp2_with fail;go_ret2;exact ⟨b,a,rfl,.inr rfl,.inl rfl,K.out.setCell (.inl (by simp)) _,_,R.out.set 0 _⟩
theorem UA.sw{B g cap n s:Nat}{d:Array Int}{w w':World}(h:UA w B g cap n d)(k:SwBox s w w')(hs:s≠g):UA w' B g cap n d:=h.only k.1 (by simpa using fun e=>hs e.symm)
def MedTo(s:Nat)(P:Nat→Prop)(w:World)(e:Ending)(w':World):Prop:=∃ x:Nat,e=.returned (.int .i64 (x:Int))∧P x∧SwBox s w w'
theorem median_on{B g cap n:Nat}{d:Array Int}{w:World}(h:UA w B g cap n d)(hn:n≤1000000)(a b c s lo hi:Nat)(ha:lo≤a∧a<hi)(hb:lo≤b∧b<hi)(hc:lo≤c∧c<hi)(hh:hi≤n)(hs:s≠g){z:Int}(hz:Row w s #[.int .i64 z] 3) :
  Calls prog 299 #[.slice (some ⟨g,0,none⟩) n cap,.int .i64 (a:Int),.int .i64 (b:Int),.int .i64 (c:Int),.pointer (some ⟨s,0,none⟩)] w (MedTo s (fun x=>lo≤x∧x<hi) w):=by
 have O:Hid (∀ (y:World) (a b:Nat),SwBox s w y→lo≤a∧a<hi→lo≤b∧b<hi→Calls prog 303 #[.slice (some ⟨g,0,none⟩) n cap,.int .i64 (a:Int),.int .i64 (b:Int),.pointer (some ⟨s,0,none⟩)] y (Or2To s a b y)):=Ξ fun y a b k h1 h2=>by obtain ⟨z',hz'⟩:=k.2;exact order2_on (h.sw k hs) hn a b s (by omega) (by omega) hs hz'
 have S0:Hid (SwBox s w w):=Ξ ⟨Ω _ _,_,hz⟩;have HA:=Ξ ha;have HB:=Ξ hb;have HC:=Ξ hc;unfold Or2To at O;clear h hz ha hb hc hh hn hs;go_enter func299,ntmps299;go_wp2_with fail;refine (O.out w a b S0.out HA.out HB.out).mono ?_;rintro _ w1 ⟨a1,b1,rfl,h1,h2,hk⟩;have S1:=Ξ hk;have HA1:Hid (lo≤a1∧a1<hi):=Ξ (by have:=HA.out;have:=HB.out;omega);have HB1:Hid (lo≤b1∧b1<hi):=Ξ (by have:=HA.out;have:=HB.out;omega);clear hk h1 h2;go_wp2_with fail;refine (O.out w1 b1 c S1.out HB1.out HC.out).mono ?_;rintro _ w2 ⟨b2,c2,rfl,h1,h2,hk⟩;have S2:=Ξ (S1.out.trans hk);have HB2:Hid (lo≤b2∧b2<hi):=Ξ (by have:=HC.out;have:=HB1.out;omega);clear hk h1 h2;go_wp2_with fail;refine (O.out w2 a1 b2 S2.out HA1.out HB2.out).mono ?_;rintro _ w3 ⟨a3,b3,rfl,h1,h2,hk⟩;have S3:=Ξ (S2.out.trans hk);have HB3:Hid (lo≤b3∧b3<hi):=Ξ (by have:=HA1.out;have:=HB2.out;omega);clear hk h1 h2;go_wp2_with fail;go_ret;exact ⟨b3,rfl,HB3.out,S3.out⟩
theorem adjacent_on{B g cap n:Nat}{d:Array Int}{w:World}(h:UA w B g cap n d)(hn:n≤1000000)(a s lo hi:Nat)(ha:lo+1≤a∧a+1<hi)(hh:hi≤n)(hs:s≠g){z:Int}(hz:Row w s #[.int .i64 z] 3) :
  Calls prog 298 #[.slice (some ⟨g,0,none⟩) n cap,.int .i64 (a:Int),.pointer (some ⟨s,0,none⟩)] w (MedTo s (fun x=>lo≤x∧x<hi) w):=by
 have e1:IntKind.i64.wrap ((a:Int)-1)=((a-1:Nat):Int):=by rw [IntWalk.i64_in _ (by omega)];omega
 have e2:IntKind.i64.wrap ((a:Int)+1)=((a+1:Nat):Int):=by rw [IntWalk.i64_in _ (by omega)];omega
 have M:=Ξ (median_on h hn (a-1) a (a+1) s lo hi (by omega) (by omega) (by omega) hh hs hz);obtain ⟨x,hx⟩:∃ x,a-1=x:=⟨_,rfl⟩;obtain ⟨y,hy⟩:∃ y,a+1=y:=⟨_,rfl⟩;rw [hx] at e1 M;rw [hy] at e2 M;unfold MedTo at M;clear h hz hs hh ha hn hx hy;go_enter func298,ntmps298;go_wp2_with fail;refine M.out.mono ?_;rintro _ w1 ⟨v,rfl,h1,hk⟩;have S1:=Ξ (Ψ h1 hk);clear hk h1;go_wp2_with fail;go_ret;exact ⟨v,rfl,S1.out⟩
end Go.Proofs.YtcgmgdjeamidlaaGreat
namespace Go.Proofs.YtcgmgdjeamidlaaGreat
set_option maxRecDepth 100000
set_option maxHeartbeats 16000000
open Go.RowKit Go.ChangeShapes Go.WideShapes Go.ChangeAt Go.Proofs.Tryz
open Go.Sort (swp ltInt)
set_option linter.unusedVariables false
set_option linter.unusedSimpArgs false
def PivTo(a b:Nat)(w:World)(e:Ending)(w':World):Prop:=∃ (p:Nat) (h:Int),e=.returned (.tuple #[.int .i64 (p:Int),.int .i64 h])∧(a≤p∧p<b)∧(h=0∨h=1∨h=2)∧Below w.heap.size w w'
theorem pivot_on{B g cap n:Nat}{d:Array Int}{w:World}(h:UA w B g cap n d)(hn:n≤1000000)(a b:Nat)(hab:a+12<b)(hb:b≤n) :
  Calls prog 277 #[.slice (some ⟨g,0,none⟩) n cap,.int .i64 (a:Int),.int .i64 (b:Int)] w (PivTo a b w):=by
 obtain ⟨l,hl⟩:∃ l,b-a=l:=⟨_,rfl⟩;have e1:IntKind.i64.wrap ((b:Int)-(a:Int))=(l:Int):=by rw [w_sub _ _ (by omega) (by omega),hl]
 obtain ⟨q,hq⟩:∃ q,l / 4=q:=⟨_,rfl⟩;have e2:Int.tdiv (l:Int) 4=(q:Int):=by rw [←hq];rfl
 have hq4:q≤1000000:=by omega
 have e3:IntKind.i64.wrap (q:Int)=(q:Int):=w_id q (by omega);have e4:IntKind.i64.wrap ((q:Int) * 2)=((q * 2:Nat):Int):=by rw [show ((q:Int) * 2)=((q * 2:Nat):Int) by omega];exact w_id _ (by omega)
 have e5:IntKind.i64.wrap ((q:Int) * 3)=((q * 3:Nat):Int):=by rw [show ((q:Int) * 3)=((q * 3:Nat):Int) by omega];exact w_id _ (by omega)
 obtain ⟨q2,hq2⟩:∃ x,q * 2=x:=⟨_,rfl⟩;obtain ⟨q3,hq3⟩:∃ x,q * 3=x:=⟨_,rfl⟩;rw [hq2] at e4;rw [hq3] at e5;have e6:IntKind.i64.wrap ((a:Int)+(q:Int))=((a+q:Nat):Int):=w_add _ _ (by omega);have e7:IntKind.i64.wrap ((a:Int)+(q2:Int))=((a+q2:Nat):Int):=w_add _ _ (by omega);have e8:IntKind.i64.wrap ((a:Int)+(q3:Int))=((a+q3:Nat):Int):=w_add _ _ (by omega);obtain ⟨i,hi⟩:∃ x,a+q=x:=⟨_,rfl⟩;obtain ⟨j,hj⟩:∃ x,a+q2=x:=⟨_,rfl⟩;obtain ⟨k,hk⟩:∃ x,a+q3=x:=⟨_,rfl⟩;rw [hi] at e6;rw [hj] at e7;rw [hk] at e8;have HN:Hid (a+1≤i∧i<j∧j<k∧k+1<b∧b≤n∧n≤1000000):=Ξ (by
  clear e1 e2 e3 e4 e5 e6 e7 e8;have h4:4 * q≤l∧l<4 * q+4:=by omega
  refine ⟨?_,?_,?_,?_,hb,hn⟩<;>omega)
 clear e1;have e1:IntKind.i64.wrap ((b:Int)-(a:Int))=(l:Int):=by rw [w_sub _ _ (by omega) (by omega),hl]
 have d1:decide ((8:Int)≤(l:Int))=true:=Γ (by omega);have d1':decide (8≤l)=true:=Γ (by omega);have HH:=Ξ h;have HG:Hid (w.heap.size≠g):=Ξ (by have:=h.lt;omega);have e3':wrap64 (q:Int)=(q:Int):=w64_id q (by clear e1 e2 e3 e4 e5 e6 e7 e8 d1 d1';omega);clear h hn hb hab hl hq hq2 hq3 hi hj hk hq4;have R0:Hid (Row (w.alloc (.cells #[.int .i64 0] 3)) w.heap.size #[.int .i64 0] 3):=Ξ (Φ _ _ _);have K0:Hid (Only [] w (w.alloc (.cells #[.int .i64 0] 3))):=Ξ ((Ω [] w).alloc _);go_enter func277,ntmps277;by_cases h50:50≤l
 ·have d2:decide ((50:Int)≤(l:Int))=true:=Γ (by omega);have d2':decide (50≤l)=true:=Γ h50;clear h50;go_wp2_with fail;generalize w.alloc (.cells #[.int .i64 0] 3)=w0 at *;have U0:=Ξ (HH.out.only K0.out (by simp));have A1:=Ξ (adjacent_on U0.out HN.out.2.2.2.2.2 i w.heap.size a b (by have:=HN.out;omega) HN.out.2.2.2.2.1 HG.out R0.out);unfold MedTo at A1;clear e1 e2 e3 e3' e4 e5 e6 e7 e8;refine A1.out.mono ?_;rintro _ w1 ⟨i1,rfl,h1,hk⟩;have S1:=Ξ hk;have I1:=Ξ h1;clear hk h1 A1;go_wp2_with fail;obtain ⟨z1,hz1⟩:=S1.out.2;have A2:=Ξ (adjacent_on (U0.out.sw S1.out HG.out) HN.out.2.2.2.2.2 j w.heap.size a b (by have:=HN.out;omega) HN.out.2.2.2.2.1 HG.out hz1);unfold MedTo at A2;clear hz1;refine A2.out.mono ?_;rintro _ w2 ⟨j1,rfl,h1,hk⟩;have S2:=Ξ (S1.out.trans hk);have J1:=Ξ h1;clear hk h1 A2;go_wp2_with fail;obtain ⟨z2,hz2⟩:=S2.out.2;have A3:=Ξ (adjacent_on (U0.out.sw S2.out HG.out) HN.out.2.2.2.2.2 k w.heap.size a b (by have:=HN.out;omega) HN.out.2.2.2.2.1 HG.out hz2);unfold MedTo at A3;clear hz2;refine A3.out.mono ?_;rintro _ w3 ⟨k1,rfl,h1,hk⟩;have S3:=Ξ (S2.out.trans hk);have K1:=Ξ h1;clear hk h1 A3;go_wp2_with fail;obtain ⟨z3,hz3⟩:=S3.out.2;have A4:=Ξ (median_on (U0.out.sw S3.out HG.out) HN.out.2.2.2.2.2 i1 j1 k1 w.heap.size a b I1.out J1.out K1.out HN.out.2.2.2.2.1 HG.out hz3);unfold MedTo at A4;clear hz3;refine A4.out.mono ?_;rintro _ w4 ⟨p,rfl,h1,hk⟩;have S4:=Ξ (S3.out.trans hk);have P1:=Ξ h1;clear hk h1 A4;obtain ⟨z4,hz4⟩:=S4.out.2;have c0:=hz4.c 0 (.int .i64 z4);clear hz4;have BB:Hid (Below w.heap.size w w4):=Ξ ((K0.out.mono (G:=[w.heap.size]) (by simp)).trans S4.out.1 (by simp) |>.toBelow (Θ _) (by simp));by_cases h0:z4=0
  ·subst h0;go_wp2_with fail;go_ret2;exact ⟨p,1,rfl,P1.out,by simp,BB.out⟩
  ·by_cases h12:z4=12
   ·subst h12;go_wp2_with fail;go_ret2;exact ⟨p,2,rfl,P1.out,by simp,BB.out⟩
   ·have f0:(z4 == 0)=false:=by simpa using h0
    have f0':decide (z4=0)=false:=Λ h0;have f1:(z4 == 12)=false:=by simpa using h12
    have f1':decide (z4=12)=false:=Λ h12;clear h0 h12;go_wp2_with fail;go_ret2;exact ⟨p,0,rfl,P1.out,by simp,BB.out⟩
 ·have d2:decide ((50:Int)≤(l:Int))=false:=Λ (by omega);have d2':decide (50≤l)=false:=Λ h50;clear h50;go_wp2_with fail;generalize w.alloc (.cells #[.int .i64 0] 3)=w0 at *;have U0:=Ξ (HH.out.only K0.out (by simp));have A4:=Ξ (median_on U0.out HN.out.2.2.2.2.2 i j k w.heap.size a b (by have:=HN.out;omega) (by have:=HN.out;omega) (by have:=HN.out;omega) HN.out.2.2.2.2.1 HG.out R0.out);unfold MedTo at A4;clear e1 e2 e3 e3' e4 e5 e6 e7 e8;refine A4.out.mono ?_;rintro _ w4 ⟨p,rfl,h1,hk⟩;have S4:=Ξ hk;have P1:=Ξ h1;clear hk h1 A4;obtain ⟨z4,hz4⟩:=S4.out.2;have c0:=hz4.c 0 (.int .i64 z4);clear hz4;have BB:Hid (Below w.heap.size w w4):=Ξ ((K0.out.mono (G:=[w.heap.size]) (by simp)).trans S4.out.1 (by simp) |>.toBelow (Θ _) (by simp));by_cases h0:z4=0
  ·subst h0;go_wp2_with fail;go_ret2;exact ⟨p,1,rfl,P1.out,by simp,BB.out⟩
  ·by_cases h12:z4=12
   ·subst h12;go_wp2_with fail;go_ret2;exact ⟨p,2,rfl,P1.out,by simp,BB.out⟩
   ·have f0:(z4 == 0)=false:=by simpa using h0
    have f0':decide (z4=0)=false:=Λ h0;have f1:(z4 == 12)=false:=by simpa using h12
    have f1':decide (z4=12)=false:=Λ h12;clear h0 h12;go_wp2_with fail;go_ret2;exact ⟨p,0,rfl,P1.out,by simp,BB.out⟩
end Go.Proofs.YtcgmgdjeamidlaaGreat
