/- Printed small by mini.py. -/
import Derived.Test.YtcgmgdjeamidlaaGreatSrF
namespace Go.Proofs.YtcgmgdjeamidlaaGreat
set_option maxRecDepth 100000
set_option maxHeartbeats 16000000
open Go.RowKit Go.ChangeShapes Go.WideShapes Go.ChangeAt Go.Deep Go.Joins Go.Proofs.Tryz
set_option linter.unusedVariables false
set_option linter.unusedSimpArgs false
set_option maxHeartbeats 4000000
def TotTo(es:List EvS)(W:World)(e:Ending)(w':World):Prop:=∃ T:Int,e=.returned (.int .i64 T)∧(T≤200000→lens es≤200000)∧w'=W
theorem total_on{W:World}{a:Option Addr}{n c:Nat}{es:List EvS}(h:EvsIn W a n es)(hn:n≤60):Calls prog 24 #[.slice a n c] W (TotTo es W):=by
 obtain ⟨h1,_,h2⟩:=h;have H1:=Ξ h1;have H2:=Ξ h2;have HN:=Ξ hn;clear h1 h2 hn;go_enter func24,ntmps24;go_wp2_with fail;go_loopw [3,4] (fun t i wr=>∃ k:Nat,i=.int .i64 (k:Int)∧t=.int .i64 ((lens (es.take k):Nat):Int)∧Hid (k≤n∧lens (es.take k)≤140737488551232)∧wr=W) (fun _ i _=>n-(intOf i).toNat)
 case atStart=>exact ⟨0,rfl,by simp [lens],Ξ ⟨Nat.zero_le _,by simp [lens]⟩,rfl⟩
 case round=>
  obtain ⟨k,rfl,rfl,HK,hw⟩:=hrel;have hw:=hw.symm;subst hw;obtain ⟨t,ht⟩:∃ t,lens (es.take k)=t:=⟨_,rfl⟩;have HT:=Ξ ht;rw [ht] at HK ⊢;clear ht;have ej:IntKind.i64.wrap ((k:Int)+1)=((k+1:Nat):Int):=IntWalk.i64_in _ (by have:=HK.out.1;have:=HN.out;omega);by_cases hgo:k<n∧t≤200000
  ·obtain ⟨hk,ht2⟩:=hgo;have d1:decide ((k:Int)<(n:Int))=true:=Γ (by omega);have d1':decide (k<n)=true:=Γ hk;have d2:decide ((t:Int)≤200000)=true:=Γ (by omega);have d2':decide (t≤200000)=true:=Γ ht2;have j3:(k:Int)<(n:Int):=(by omega);obtain ⟨ev,hev⟩:∃ ev,es[k]? = some ev:=⟨_,List.getElem?_eq_getElem (by have:=H1.out;omega)⟩;obtain ⟨b,off,rfl,q1,hl⟩:∃ b off,a=some ⟨b,off,none⟩∧W.cell? ⟨b,off+k * 2+1,none⟩=some ev.b.v∧ev.b.xs.length≤140737488351232:=by
    rcases H2.out with h0|⟨b,off,e,h⟩
    ·omega
    ·exact ⟨b,off,e,(h k ev hev).c1,(h k ev hev).len⟩
   have e2:IntKind.i64.wrap ((t:Int)+(ev.b.xs.length:Int))=((t+ev.b.xs.length:Nat):Int):=IntWalk.i64_in _ (by omega);have N:Hid (lens (es.take (k+1))=t+ev.b.xs.length∧k+1≤n∧t+ev.b.xs.length≤140737488551232):=Ξ ⟨by rw [lens_next hev,HT.out],by omega,by omega⟩;unfold Sl.v at q1;generalize ev.b.xs.length=el at *;clear hl hk ht2 hev;go_wp2_with fail;go_roundw;case rel=>exact ⟨k+1,by go_num,by rw [N.out.1];go_num,Ξ ⟨N.out.2.1,by rw [N.out.1];exact N.out.2.2⟩,by trivial⟩
   case measure=>have:=N.out.2.1;simp [intOf];omega
  ·have F:Hid (TotTo es W (.returned (.int .i64 (t:Int))) W):=Ξ ⟨t,rfl,fun h=>by
    have hk:k=n:=by have:=HK.out.1;omega
    have h1:=HT.out;rw [List.take_of_length_le (by rw [H1.out];omega)] at h1;omega,rfl⟩
   have h4:(decide ((k:Int)<(n:Int))=false∧decide (k<n)=false)∨(decide ((k:Int)<(n:Int))=true∧decide (k<n)=true∧decide ((t:Int)≤200000)=false∧decide (t≤200000)=false):=by
    by_cases hk:k<n
    ·exact .inr ⟨Γ (by omega),Γ hk,Λ (by omega),Λ (by omega)⟩
    ·exact .inl ⟨Λ (by omega),Λ hk⟩
   clear hgo;rcases h4 with ⟨d1,d1'⟩|⟨d1,d1',d2,d2'⟩;all_goals
    go_wp2_with fail;go_ret;exact F.out
theorem rdk_of{W:World}{a:Option Addr}{n:Nat}{es:List EvS}(h:EvsIn W a n es)(hl:lens es≤200000):EvsRd W.heap.size W a n es:=by
 obtain ⟨h1,_,h2⟩:=h;by_cases h0:n=0
 ·exact ⟨h1,.inl h0⟩
 obtain ⟨b,off,e,h⟩:=h2.resolve_left h0;obtain ⟨ev,hev⟩:∃ ev,es[0]? = some ev:=⟨_,List.getElem?_eq_getElem (by omega)⟩;refine ⟨h1,.inr ⟨b,off,e,World.block_lt_of_cell? W _ (h 0 ev hev).c0,fun i x hx=>?_⟩⟩;obtain ⟨⟨zs,hr,hz⟩,c0,c1,_⟩:=h i x hx;have:=lens_at hx;obtain ⟨a1,a2,a3,a4,a5⟩:=row_rd hr (by omega);rw [←hz] at a1 a2 a5;exact ⟨a1,a5,a2,c0,c1⟩
theorem reset_nil_z{W:World}{lo B p g n:Nat}{x:ShX}{ys:LnS}{Z:List Nat}(h:SchZ W lo B p g n x ys Z):Calls prog 34 #[.pointer (some ⟨g,0,none⟩),.nilIface] W fun e w'=>e=.returned (.int .i64 1)∧w'=W:=by
 have SN:=Ξ (sessions_z h);have hn:=h.good.2.2.2;have dn:decide ((n:Int)=0)=false:=Λ (by omega);have dq:((n:Int) == 0)=false:=by simp;omega
 clear h hn;go_enter func34,ntmps34;go_wp2_with fail;refine SN.out.mono ?_;rintro _ w2 ⟨rfl,hw⟩;subst w2;go_wp2_with fail;go_ret;exact ⟨rfl,rfl⟩
theorem SchZ.low{W:World}{lo lo' B p g n:Nat}{x:ShX}{ys:LnS}{Z:List Nat}(h:SchZ W lo B p g n x ys Z)(hl:lo'≤lo):SchZ W lo' B p g n x ys Z:=by obtain ⟨l,cs,sb,tb,F,SF,h,rfl⟩:=h;have f:=h.fr;exact ⟨l,cs,sb,tb,F,SF,⟨h.inv,h.strm,h.rg,h.rl,h.c0,h.c1,h.c2,h.cl,h.ls,h.n8,h.dis,h.dss,h.gl,h.by_,h.nd,⟨fun b hb=>Nat.le_trans hl (f.1 b hb),fun S hS b hb=>Nat.le_trans hl (f.2.1 S hS b hb),Nat.le_trans hl f.2.2.1,Nat.le_trans hl f.2.2.2⟩⟩,rfl⟩
theorem rd_start{W W1 W2 W3 W4 W5:World}{p g p2 g2 p3:Nat}{F H F2 H2 F3 H3 Z1 Z2:List Nat}(hd1:DbF W1 W.heap.size p (newP 2) F H)(hb1:Below W.heap.size W W1)(hd2:DbF W2 W1.heap.size p2 (newP 2) F2 H2)(hb2:Below W1.heap.size W1 W2)(hd3:DbF W3 W2.heap.size p3 (newP 2) F3 H3)(hb3:Below W2.heap.size W2 W3)
  (hz1:SchZ W4 W.heap.size W.heap.size p g 3 x0S y0S Z1) (hO4:Only [] W3 W4) (hk1:∀ b∈Z1,b∈F∨b∈H∨W3.heap.size≤b) (hz2:SchZ W5 W1.heap.size W1.heap.size p2 g2 3 x0S y0S Z2) (hO5:Only [] W4 W5) (hk2:∀ b∈Z2,b∈F2∨b∈H2∨W4.heap.size≤b):RdM W g g2 p3 0 W5:=by
 have s1:=hb1.size;have s2:=hb2.size;have s3:=hb3.size;have s4:=hO4.size;have s5:=hO5.size;have m1:∀ b,b∈F∨b∈H→b<W1.heap.size:=fun b hb=>hb.elim (hd1.lt.1 b) (hd1.lt.2 b);have m2:∀ b,b∈F2∨b∈H2→W1.heap.size≤b∧b<W2.heap.size:=fun b hb=>hb.elim (fun h=>⟨hd2.ge.1 b h,hd2.lt.1 b h⟩) fun h=>⟨hd2.ge.2 b h,hd2.lt.2 b h⟩;have m3:∀ b,b∈F3∨b∈H3→W2.heap.size≤b∧b<W3.heap.size:=fun b hb=>hb.elim (fun h=>⟨hd3.ge.1 b h,hd3.lt.1 b h⟩) fun h=>⟨hd3.ge.2 b h,hd3.lt.2 b h⟩;have l1:=hz1.lt;have k35:Only [] W3 W5:=hO4.trans hO5 (by simp);have n1:∀ b∈Z1,b<W1.heap.size∨W3.heap.size≤b:=fun b hb=>by
  rcases hk1 b hb with h|h|h
  ·exact .inl (m1 b (.inl h))
  ·exact .inl (m1 b (.inr h))
  ·exact .inr h
 have n2:∀ b∈Z2,(W1.heap.size≤b∧b<W2.heap.size)∨W4.heap.size≤b:=fun b hb=>by
  rcases hk2 b hb with h|h|h
  ·exact .inl (m2 b (.inl h))
  ·exact .inl (m2 b (.inr h))
  ·exact .inr h
 refine ⟨(((hb1.trans (hb2.mono s1)).trans (hb3.mono (by omega))).trans (hO4.toBelow (by omega) (by simp))).trans (hO5.toBelow (by omega) (by simp)),fun _=>⟨W.heap.size,p,W1.heap.size,p2,W2.heap.size,Z1,Z2,F3,H3,hz1.only hO5 (by simp),hz2.low s1,fun b hb hm=>?_,⟨Θ _,by omega⟩,fun _=>⟨hd3.only k35 (by simp),by omega⟩,fun b hb=>⟨fun hm=>?_,fun hm=>?_,?_⟩,fun h=>by omega⟩⟩
 ·have:=l1 b hb;have:=n1 b hb;have:=n2 b hm;omega
 ·have:=m3 b hb;have:=n1 b hm;omega
 ·have:=m3 b hb;have:=n2 b hm;omega
 ·have:=m3 b hb;omega
theorem MdI.same{c:MdC}{i:Nat}{W W':World}(h:MdI c i W)(k:Only [] W W'):MdI c i W':=by obtain ⟨y,zs,Z2,xi,xE,yE,ht,hr,hH,hd,hbl,hc⟩:=h;exact ⟨y,zs,Z2,xi,xE,yE,ht.only k (by simp),hr,hH.only k (by simp),hd,hbl.trans (k.toBelow hbl.size (by simp)),hc⟩
end Go.Proofs.YtcgmgdjeamidlaaGreat
