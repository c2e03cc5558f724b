/- Printed small by mini.py. -/
import Derived.Test.YtcgmgdjeamidlaaGreatRsM
import Derived.Deep.RegionHeld3
namespace Go.Proofs.YtcgmgdjeamidlaaGreat
set_option maxRecDepth 100000
set_option maxHeartbeats 16000000
open Go.RowKit Go.ChangeShapes Go.WideShapes Go.ChangeAt Go.Proofs.Tryz
set_option linter.unusedVariables false
set_option linter.unusedSimpArgs false
set_option maxHeartbeats 16000000
theorem rsamei_on{w:World}{a:Option Addr}{n c:Nat}{its:List Rc3}(h:ItR w a its)(hn:its.length=n) :
  Calls prog 153 #[.slice a n c,.slice a n c] w fun e w'=>e=.returned (.bool true)∧Below w.heap.size w w':=by
 have HR:=Ξ h;have HN:=Ξ hn;have HL:Hid (n≤100000):=Ξ (by rw [←hn];exact h.1);clear h hn;go_enter func153,ntmps153;go_wp2_with fail;go_loopw [5] (fun u wr=>∃ j:Nat,u=.int .i64 (j:Int)∧Hid (j≤n)∧Hid (Below w.heap.size w wr)) (fun u _=>n-(intOf u).toNat)
 case atStart=>exact ⟨0,rfl,Ξ (Nat.zero_le _),Ξ (Δ _ _)⟩
 case round=>
  obtain ⟨j,rfl,HK,HB⟩:=hrel;rename World=>w3;by_cases hlt:j<n
  ·have d1:decide ((j:Int)<(n:Int))=true:=Γ (by omega);have d1':decide (j<n)=true:=Γ hlt;have e1:IntKind.i64.wrap ((j:Int)+1)=((j+1:Nat):Int):=IntWalk.i64_in _ (by have:=HL.out;omega);obtain ⟨x,hx⟩:∃ x,its[j]? = some x:=⟨_,List.getElem?_eq_getElem (by rw [HN.out];exact hlt)⟩;obtain ⟨h1,g1,o1,rfl,_⟩:=(HR.out.below HB.out).2 j x hx;have SM:Hid (∀ y',Below w3.heap.size w3 y'→Calls prog 152 #[.agg #[.int .u64 x.key,x.vec.v,x.tag.v],.agg #[.int .u64 x.key,x.vec.v,x.tag.v]] y' fun e w'=>e=.returned (.bool true)∧Below y'.heap.size y' w'):=Ξ fun y' hb=>rsame_ok (h1.below hb) (h1.below hb) rfl;have SO:Hid (∀ y',Below w3.heap.size w3 y'→y'.cell? ⟨g1,o1+j * 3,none⟩=some (.int .u64 x.key)∧y'.cell? ⟨g1,o1+j * 3+1,none⟩=some x.vec.v∧y'.cell? ⟨g1,o1+j * 3+2,none⟩=some x.tag.v):=Ξ fun y' hb=>by obtain ⟨_,b',o',e',_,q⟩:=((HR.out.below HB.out).below hb).2 j x hx;cases e';exact q
   have JM:=Ξ hlt;obtain ⟨xk,xv,xt⟩:=x;unfold Sl.v at SM SO;simp only at SM SO;generalize xv.a=xa1 at *;generalize xv.xs.length=xn1 at *;generalize xv.c=xc1 at *;generalize xt.a=xa2 at *;generalize xt.xs.length=xn2 at *;generalize xt.c=xc2 at *;clear hx h1;go_upto_region 4 with fail;go_wp2_with fail;go_upto_region 6 with fail;have B0:Below w3.heap.size w3 w3.drew:=((Ω [] w3).drew.toBelow (Θ _) (by simp));go_region_held3 (fun y'=>y'.cell? ⟨g1,o1+j * 3,none⟩=some (.int .u64 xk)∧y'.cell? ⟨g1,o1+j * 3+1,none⟩=some (.slice xa1 xn1 xc1)∧y'.cell? ⟨g1,o1+j * 3+2,none⟩=some (.slice xa2 xn2 xc2))
    (first
     | exact SO.out _ X9.out
     | exact SO.out _ B0)
    (first|((with_reducible refine (SM.out w3.drew B0).mono ?_);rintro _ w9 ⟨rfl,hb⟩;have X9:=Ξ (B0.trans (hb.mono (by simp)));clear hb))
   all_goals
    go_wp2_with fail;go_roundw;case rel=>exact ⟨j+1,by go_num,Ξ (by have:=JM.out;omega),Ξ (HB.out.trans (X9.out.mono HB.out.size))⟩
    case measure=>have:=JM.out;simp [intOf];omega
  ·have d1:decide ((j:Int)<(n:Int))=false:=Λ (by omega);have d1':decide (j<n)=false:=Λ hlt;clear hlt;go_wp2_with fail;go_ret;exact ⟨rfl,HB.out⟩
theorem rsameh_on{w:World}{a:Option Addr}{n c:Nat}{hs:List (Int×Int)}(h:HtR w a hs)(hn:hs.length=n) :
  Calls prog 154 #[.slice a n c,.slice a n c] w fun e w'=>e=.returned (.bool true)∧Below w.heap.size w w':=by
 have HR:=Ξ h;have HN:=Ξ hn;have HL:Hid (n≤100000):=Ξ (by rw [←hn];exact h.1);clear h hn;go_enter func154,ntmps154;go_wp2_with fail;go_loopw [5] (fun u wr=>∃ j:Nat,u=.int .i64 (j:Int)∧Hid (j≤n)∧Hid (Below w.heap.size w wr)) (fun u _=>n-(intOf u).toNat)
 case atStart=>exact ⟨0,rfl,Ξ (Nat.zero_le _),Ξ (Δ _ _)⟩
 case round=>
  obtain ⟨j,rfl,HK,HB⟩:=hrel;rename World=>w3;by_cases hlt:j<n
  ·have d1:decide ((j:Int)<(n:Int))=true:=Γ (by omega);have d1':decide (j<n)=true:=Γ hlt;have e1:IntKind.i64.wrap ((j:Int)+1)=((j+1:Nat):Int):=IntWalk.i64_in _ (by have:=HL.out;omega);obtain ⟨x,hx⟩:∃ x,hs[j]? = some x:=⟨_,List.getElem?_eq_getElem (by rw [HN.out];exact hlt)⟩;obtain ⟨g1,o1,rfl,_,c0,c1⟩:=(HR.out.below HB.out).2 j x hx;have JM:=Ξ hlt;have BD:Hid (∀ q,Below w.heap.size w (w3.drewN q)):=Ξ fun q=>below_drewNQ HB.out q;have NQ:=fun w=>neq_hit x.1 x.2 w;obtain ⟨xk,xd⟩:=x;simp only at c0 c1 NQ;clear hx;go_wp2_with fail;go_quiet (fail)
   go_wp2_with fail;go_roundw;case rel=>exact ⟨j+1,by go_num,Ξ (by have:=JM.out;omega),Ξ (BD.out _)⟩
   case measure=>have:=JM.out;simp [intOf];omega
  ·have d1:decide ((j:Int)<(n:Int))=false:=Λ (by omega);have d1':decide (j<n)=false:=Λ hlt;clear hlt;go_wp2_with fail;go_ret;exact ⟨rfl,HB.out⟩
theorem rsametellG{kd mk er pl key:Int}{a1 a2 a3 a4:Option Addr}{n1 n2 n3 n4 c1 c2 c3 c4:Nat}{w:World}
  (hi:(∀ y,Below w.heap.size w y→Calls prog 152 #[.agg #[.int .u64 key,.slice a1 n1 c1,.slice a2 n2 c2],.agg #[.int .u64 key,.slice a1 n1 c1,.slice a2 n2 c2]] y fun e w'=>e=.returned (.bool true)∧Below y.heap.size y w'))
  (hs:(∀ y,Below w.heap.size w y→Calls prog 153 #[.slice a3 n3 c3,.slice a3 n3 c3] y fun e w'=>e=.returned (.bool true)∧Below y.heap.size y w'))
  (hh:(∀ y,Below w.heap.size w y→Calls prog 154 #[.slice a4 n4 c4,.slice a4 n4 c4] y fun e w'=>e=.returned (.bool true)∧Below y.heap.size y w')):Calls prog 80 #[.agg #[.int .i64 kd,.int .i64 mk,.int .i64 er,.int .i64 pl,.int .u64 key,.slice a1 n1 c1,.slice a2 n2 c2,.slice a3 n3 c3,.slice a4 n4 c4],.agg #[.int .i64 kd,.int .i64 mk,.int .i64 er,.int .i64 pl,.int .u64 key,.slice a1 n1 c1,.slice a2 n2 c2,.slice a3 n3 c3,.slice a4 n4 c4]] w fun e w'=>e=.returned (.bool true)∧Below w.heap.size w w':=by
 have IS:=Ξ hi;have LS:=Ξ hs;have HS:=Ξ hh;have m0:(kd == kd)=true:=by simp
 have m0':decide (kd=kd)=true:=Γ rfl;have m1:(mk == mk)=true:=by simp
 have m1':decide (mk=mk)=true:=Γ rfl;have m2:(er == er)=true:=by simp
 have m2':decide (er=er)=true:=Γ rfl;have m3:(pl == pl)=true:=by simp
 have m3':decide (pl=pl)=true:=Γ rfl;have RAB:=Ξ (two_boxes w #[.int .i64 kd,.int .i64 mk,.int .i64 er,.int .i64 pl,.int .u64 key,.slice a1 n1 c1,.slice a2 n2 c2,.slice a3 n3 c3,.slice a4 n4 c4] #[.int .i64 kd,.int .i64 mk,.int .i64 er,.int .i64 pl,.int .u64 key,.slice a1 n1 c1,.slice a2 n2 c2,.slice a3 n3 c3,.slice a4 n4 c4] tRp);obtain ⟨l0,l1,l2,l3,l4,l5,l6,l7,l8⟩:=RAB.out.1.cs9;obtain ⟨r0,r1,r2,r3,r4,r5,r6,r7,r8⟩:=RAB.out.2.1.cs9;clear hi hs hh;go_enter func80,ntmps80;go_wp2_with fail;refine (IS.out _ RAB.out.2.2).mono ?_;clear l0 r0 l1 r1 l2 r2 l3 r3 l4 r4 l5 r5 l6 r6 l7 r7 l8 r8;generalize ((w.alloc (.cells #[.int .i64 kd,.int .i64 mk,.int .i64 er,.int .i64 pl,.int .u64 key,.slice a1 n1 c1,.slice a2 n2 c2,.slice a3 n3 c3,.slice a4 n4 c4] tRp)).alloc (.cells #[.int .i64 kd,.int .i64 mk,.int .i64 er,.int .i64 pl,.int .u64 key,.slice a1 n1 c1,.slice a2 n2 c2,.slice a3 n3 c3,.slice a4 n4 c4] tRp))=w1 at *;rintro _ w2 ⟨rfl,hb2⟩;have B2:=Ξ (RAB.out.2.2.trans (hb2.mono RAB.out.2.2.size));have RA2:=Ξ (RAB.out.1.only ((Ω [] _).below hb2) (by simp));have RB2:=Ξ (RAB.out.2.1.only ((Ω [] _).below hb2) (by simp));have l7:=RA2.out.c 7 (.slice a3 n3 c3);have r7:=RB2.out.c 7 (.slice a3 n3 c3);clear hb2 IS RAB;go_wp2_with fail;refine (LS.out w2 B2.out).mono ?_;rintro _ w3 ⟨rfl,hb3⟩;have B3:=Ξ (B2.out.trans (hb3.mono B2.out.size));have RA3:=Ξ (RA2.out.only ((Ω [] _).below hb3) (by simp));have RB3:=Ξ (RB2.out.only ((Ω [] _).below hb3) (by simp));have l8:=RA3.out.c 8 (.slice a4 n4 c4);have r8:=RB3.out.c 8 (.slice a4 n4 c4);clear hb3 LS l7 r7 RA2 RB2;go_wp2_with fail;refine (HS.out w3 B3.out).mono ?_;rintro _ w4 ⟨rfl,hb4⟩;have B4:=Ξ (B3.out.trans (hb4.mono B3.out.size));clear hb4 HS l8 r8 RA3 RB3;go_wp2_with fail;go_ret;exact ⟨rfl,B4.out⟩
end Go.Proofs.YtcgmgdjeamidlaaGreat
