/- Printed small by mini.py. -/
import Derived.Test.YtcgmgdjeamidlaaGreatSrE
namespace Go.Proofs.YtcgmgdjeamidlaaGreat
set_option maxRecDepth 100000
set_option maxHeartbeats 16000000
open Go.RowKit Go.ChangeShapes Go.WideShapes Go.ChangeAt Go.Deep Go.Joins Go.Proofs.Tryz
set_option linter.unusedVariables false
set_option linter.unusedSimpArgs false
set_option maxHeartbeats 4000000
structure Held(K:List Nat)(P:World→Prop)(w:World):Prop where
 at_:P w
 lt:∀ b∈K,b<w.heap.size
 st:∀ (w1 w2:World) (G:List Nat),P w1→Only G w1 w2→(∀ b∈K,b∉G)→P w2
theorem Held.only{K G:List Nat}{P:World→Prop}{w w':World}(h:Held K P w)(k:Only G w w')(hG:∀ b∈K,b∉G):Held K P w':=⟨h.st _ _ G h.at_ k hG,fun b hb=>Nat.lt_of_lt_of_le (h.lt b hb) k.size,h.st⟩
structure OutAt(L ob:Nat)(cs:Array Value)(os:List (List Int))(w:World):Prop where
 row:Row w ob cs tBs
 told:∀ (i:Nat) (o:List Int),os[i]? = some o→∃ v,cs[i]? = some v∧w.ownsRow L 5 1 v o.length (o.map (Value.int .u8))
abbrev x0S:ShX:=(0,newP 2,List.replicate 3 0)
abbrev y0S:LnS:=List.replicate 3 ([],0)
structure MdC where
 W0:World
 g1:Nat
 g2:Nat
 pf:Nat
 r:Nat
 ob:Nat
 cs:Array Value
 os:List (List Int)
 x1:ShX
 ys1:LnS
 Z1:List Nat
 B1:Nat
 p1:Nat
 B2:Nat
 p2:Nat
 F:List Nat
 H:List Nat
 Bf:Nat
 es:List EvS
def MdC.K(c:MdC):List Nat:=(c.ob :: c.cs.toList.flatMap fun v=>v.ownBlock.toList)++(c.Z1++(c.F++c.H))
abbrev MdC.L(c:MdC):Nat:=c.W0.heap.size
structure MdC.P(c:MdC)(w:World):Prop where
 out:OutAt c.L c.ob c.cs c.os w
 s:SchZ w c.L c.B1 c.p1 c.g1 3 c.x1 c.ys1 c.Z1
 f:c.r=0→DbF w c.Bf c.pf (newP 2) c.F c.H∧c.Bf≤w.heap.size
structure MdC.Ok(c:MdC):Prop where
 r:c.r<2
 lo:c.L≤c.B1∧c.L≤c.Bf
 nf:∀ b,b∈c.F∨b∈c.H→b∉c.Z1
 own:c.r=1→c.p1=c.pf∧c.F=[]∧c.H=[]
 len:c.os.length=c.es.length
 small:lens c.es≤200000∧c.es.length≤60
theorem MdC.P.st(c:MdC):∀ (w1 w2:World) (G:List Nat),c.P w1→Only G w1 w2→(∀ b∈c.K,b∉G)→c.P w2:=fun w1 w2 G h k hG=>by
 unfold MdC.K at hG;simp only [List.mem_append,List.mem_cons] at hG;refine ⟨⟨h.out.row.only k (hG _ (.inl (.inl rfl))),fun i o hi=>?_⟩,h.s.only k fun b hb=>hG b (.inr (.inl hb)),fun h0=>?_⟩
 ·obtain ⟨v,h1,h2⟩:=h.out.told i o hi;refine ⟨v,h1,own_keep h2 fun b hb=>k.block b (h2.lt b hb).2 (hG b (.inl (.inr (List.mem_flatMap.2 ⟨v,?_,by simp [hb]⟩))))⟩;rw [←Array.getElem?_toList] at h1;exact List.mem_of_getElem? h1
 ·obtain ⟨h1,h2⟩:=h.f h0;exact ⟨h1.only k fun b hb=>⟨fun hm=>hG b (.inr (.inr (.inl hm))) hb,fun hm=>hG b (.inr (.inr (.inr hm))) hb⟩,Nat.le_trans h2 k.size⟩
def MdI(c:MdC)(i:Nat)(W:World):Prop:=∃ y zs Z2 xi xE yE,SchZ W c.L c.B2 c.p2 c.g2 3 y zs Z2∧(SimX xi y∧EvsX 3 xi zs ((c.es.drop i).map EvS.e) xE yE (c.os.drop i))∧Held c.K c.P W∧(∀ b∈c.K,b∉Z2)∧Below c.L c.W0 W∧y.1+pend zs≤lens (c.es.take i)+i
theorem MdI.bel{c:MdC}{i:Nat}{W:World}(h:MdI c i W):Below c.L c.W0 W:=by obtain ⟨_,_,_,_,_,_,_,_,_,_,h,_⟩:=h;exact h
theorem lens_next:∀ {es:List EvS} {j:Nat} {x:EvS},es[j]? = some x→lens (es.take (j+1))=lens (es.take j)+x.b.xs.length
 | [],j,x,h=>by simp at h
 | y :: es,0,x,h=>by simp at h;subst h;simp [lens]
 | y :: es,j+1,x,h=>by have ih:=lens_next (es:=es) (j:=j) (x:=x) (by simpa using h);simp [lens] at ih ⊢;omega
theorem drop_next{α:Type}{l:List α}{i:Nat}{x:α}(h:l[i]? = some x):l.drop i=x :: l.drop (i+1):=by obtain ⟨h1,h2⟩:=List.getElem?_eq_some_iff.1 h;rw [List.drop_eq_getElem_cons h1,h2]
def MdTo(c:MdC)(i:Nat)(e:Ending)(W1:World):Prop:=∃ a n cc er o v,e=.returned (.tuple #[.slice a n cc,.int .i64 er])∧Ints .u8 W1 (.slice a n cc) o∧W1.cell? ⟨c.ob,i,none⟩=some v∧Ints .u8 W1 v o∧(∃ a2 n2 c2,v=.slice a2 n2 c2)∧MdI c (i+1) W1
theorem md_step{c:MdC}(ok:c.Ok){i:Nat}{W:World}(h:MdI c i W){ev:EvS}(hev:c.es[i]? = some ev)(hr:SlRd .u8 W ev.b)(hb:IsBy ev.b.xs) :
  Calls prog 29 #[.pointer (some ⟨c.g2,0,none⟩),.int .i64 ev.k,ev.b.v] W (MdTo c i):=by
 obtain ⟨y,zs,Z2,xi,xE,yE,ht,⟨hsim,hrem⟩,hH,hd,hbl,hcn⟩:=h;have hlo:=hbl.size;have hat:=lens_at hev;have hnx:=lens_next hev;have hil:=(List.getElem?_eq_some_iff.1 hev).1;have hsm:=ok.small;refine (feed_any ht hlo (k:=ev.k) hr hb (by omega)).mono ?_;rintro e W1 ⟨v,y',zs',o,er,Z',hE,rfl,ho,hs,hO,hkp,hob,hof⟩;obtain ⟨a,cc,rfl,_,_⟩:=own_shape ho;rw [drop_next hev] at hrem;obtain ⟨x2,ys2,o2,os',r1,r2,r3⟩:=hrem.head;obtain ⟨s1,rfl,rfl⟩:=EvX.same hsim r1 hE;have hoi:c.os[i]? = some o2:=by have h:=List.getElem?_drop (xs:=c.os) (i:=i) (j:=0);rw [r3] at h;exact h.symm
 have hos:c.os.drop (i+1)=os':=by rw [←List.drop_drop,r3];rfl
 have hH1:=hH.only hO hd;obtain ⟨v1,t1,t2⟩:=hH1.at_.out.told i o2 hoi;obtain ⟨a1,c1,e1,_,_⟩:=own_shape t2;have hcn2:=hE.count;refine ⟨a,o2.length,cc,er,o2,v1,rfl,ints_own ho,(hH1.at_.out.row.cell i).trans t1,ints_own t2,⟨_,_,_,e1⟩,y',ys2,Z',x2,xE,yE,hs,⟨s1,by rw [hos];exact r2⟩,hH1,fun b hb hm=>?_,hbl.trans (hO.toBelow hlo fun b hb=>ht.ge b hb),by omega⟩;rcases hkp b hm with h1|h1
 ·exact hd b hb h1
 ·have:=hH.lt b hb;omega
structure RdS(W0:World)(g1 g2 pf r:Nat)(W:World)(B1 p1 B2 p2 Bf:Nat)(Z1 Z2 F H:List Nat):Prop where
 s:SchZ W W0.heap.size B1 p1 g1 3 x0S y0S Z1
 t:SchZ W W0.heap.size B2 p2 g2 3 x0S y0S Z2
 dz:∀ b∈Z1,b∉Z2
 lo:W0.heap.size≤B1∧W0.heap.size≤Bf
 f:r=0→DbF W Bf pf (newP 2) F H∧Bf≤W.heap.size
 fd:∀ b,b∈F∨b∈H→b∉Z1∧b∉Z2∧b<W.heap.size
 own:r=1→p1=pf∧F=[]∧H=[]
def RdM(W0:World)(g1 g2 pf r:Nat)(W:World):Prop:=Below W0.heap.size W0 W∧(r<2→∃ B1 p1 B2 p2 Bf Z1 Z2 F H,RdS W0 g1 g2 pf r W B1 p1 B2 p2 Bf Z1 Z2 F H)
def RdTo(W0:World)(g1 g2 pf r:Nat)(es:List EvS)(e:Ending)(W:World):Prop:=∃ c:MdC,c.Ok∧c.W0=W0∧c.g1=g1∧c.g2=g2∧c.pf=pf∧c.r=r∧c.es=es∧e=.returned (.slice (some ⟨c.ob,0,none⟩) es.length es.length)∧MdI c 0 W
theorem rd_run{W0 W:World}{g1 g2 pf r:Nat}(h:RdM W0 g1 g2 pf r W)(hr:r<2){a:Option Addr}{m cp:Nat}{es:List EvS}(he:EvsRd W0.heap.size W0 a m es)(hm:m≤60)(hl:lens es≤200000) :
  Calls prog 33 #[.pointer (some ⟨g1,0,none⟩),.slice a m cp] W (RdTo W0 g1 g2 pf r es):=by
 obtain ⟨hb,h⟩:=h;obtain ⟨B1,p1,B2,p2,Bf,Z1,Z2,F,H,h⟩:=h hr;have hlo:=hb.size;have hlen:=he.1;refine (run_on h.s (he.only ((Ω [] W0).below hb) (by simp)) hlo hm (by simp [pend];omega)).mono ?_;rintro e W1 ⟨ob,x,ys,os,cs,Z,rfl,hM⟩;have hz:=hM.only.size;have hob:=hM.ob;have l1:=h.s.lt;have l2:=h.t.lt;have hol:os.length=es.length:=by have:=hM.run.len;simpa using this
 have cel:∀ v∈cs.toList,∀ b,v.ownBlock=some b→W.heap.size≤b∧b<W1.heap.size:=fun v hv b hvb=>by obtain ⟨i,hi⟩:=List.mem_iff_getElem?.1 hv;rw [Array.getElem?_toList] at hi;have hi2:=(Array.getElem?_eq_some_iff.1 hi).1;rw [hM.size,←hol] at hi2;obtain ⟨v2,e1,e2,_⟩:=hM.told i _ (List.getElem?_eq_getElem hi2);rw [hi] at e1;cases e1;exact e2.lt b hvb
 have zz:∀ b∈Z,b∈Z1∨W.heap.size≤b:=hM.kp;have lz:=hM.s.lt;refine ⟨⟨W0,g1,g2,pf,r,ob,cs,os,x,ys,Z,B1,p1,B2,p2,F,H,Bf,es⟩,⟨hr,h.lo,fun b hb hm=>?_,h.own,hol,hl,by show es.length≤60;omega⟩,rfl,rfl,rfl,rfl,rfl,rfl,rfl,x0S,y0S,Z2,x0S,x,ys,h.t.only hM.only fun b hb hm=>h.dz b hm hb,⟨SimX.refl _,by simpa using hM.run⟩,⟨⟨⟨hM.row,fun i o hi=>?_⟩,hM.s,fun h0=>?_⟩,fun b hb=>?_,MdC.P.st _⟩,fun b hb hm=>?_,hb.trans (hM.only.toBelow hlo fun b hb=>h.s.ge b hb),by simp [pend]⟩
 ·rcases zz b hm with h1|h1
  ·exact (h.fd b hb).1 h1
  ·have:=(h.fd b hb).2.2;omega
 ·obtain ⟨v,e1,e2,_⟩:=hM.told i o hi;exact ⟨v,e1,own_down e2 hlo⟩
 ·obtain ⟨f1,f2⟩:=h.f h0;exact ⟨f1.only hM.only fun b hb=>⟨fun hm=>(h.fd b (.inl hm)).1 hb,fun hm=>(h.fd b (.inr hm)).1 hb⟩,Nat.le_trans f2 hz⟩
 ·unfold MdC.K at hb;simp only [List.mem_append,List.mem_cons,List.mem_flatMap] at hb;rcases hb with (rfl|⟨v,hv,hvb⟩)|hb|hb
  ·exact hM.row.lt
  ·exact (cel v hv b (by simpa using hvb)).2
  ·exact lz b hb
  ·have:=(h.fd b hb).2.2;omega
 ·unfold MdC.K at hb;have:=l2 b hm;simp only [List.mem_append,List.mem_cons,List.mem_flatMap] at hb;rcases hb with (rfl|⟨v,hv,hvb⟩)|hb|hb
  ·omega
  ·have:=(cel v hv b (by simpa using hvb)).1;omega
  ·rcases zz b hb with h1|h1
   ·exact h.dz b h1 hm
   ·omega
  ·exact (h.fd b hb).2.1 hm
def RdE(W0:World)(g1 g2 pf r:Nat)(W:World):Prop:=RdM W0 g1 g2 pf r W∧∃ B p x Z,SchZ W W0.heap.size B p g1 3 x y0S Z∧x.2.2=List.replicate 3 0
def RdR(c:MdC)(p3:Nat)(e:Ending)(W:World):Prop:=e=.returned (.int .i64 0)∧Calls prog 34 #[.pointer (some ⟨c.g2,0,none⟩),baseV p3] W fun e W'=>e=.returned (.int .i64 0)∧RdE c.W0 c.g1 c.g2 c.pf (c.r+1) W'
theorem md_end{c:MdC}(ok:c.Ok){i p3:Nat}{W W1:World}{F3 H3:List Nat}(h:MdI c i W)(hd3:DbF W1 W.heap.size p3 (newP 2) F3 H3)(hb3:Below W.heap.size W W1) :
  Calls prog 34 #[.pointer (some ⟨c.g1,0,none⟩),baseV c.pf] W1 (RdR c p3):=by
 obtain ⟨y,zs,Z2,xi,xE,yE,ht,_,hH,hdis,hbl,_⟩:=h;have k1:Only [] W W1:=(Ω [] W).below hb3;have z1:=k1.size;have hH1:=hH.only k1 (by simp);have ht1:=ht.only k1 (by simp);have hlo:=hbl.size;have eL:c.L=c.W0.heap.size:=rfl;have lK:=hH.lt;have kZ:∀ b∈c.Z1,b∈c.K:=fun b hb=>by unfold MdC.K;simp [hb]
 have kF:∀ b,b∈c.F∨b∈c.H→b∈c.K:=fun b hb=>by unfold MdC.K;simp;exact .inr (.inr (.inr hb))
 have l2:=ht.lt;have g3:=hd3.ge;have l3:=hd3.lt;have geS:=hH1.at_.s.ge;have key:Calls prog 34 #[.pointer (some ⟨c.g1,0,none⟩),baseV c.pf] W1 fun e W2=>e=.returned (.int .i64 0)∧∃ B x Z',SchZ W2 c.L B c.pf c.g1 3 x y0S Z'∧x.2.2=List.replicate 3 0∧(c.r=0→x=x0S)∧c.L≤B∧Only c.Z1 W1 W2∧∀ b∈Z',b∈c.K∨W1.heap.size≤b:=by
  by_cases h0:c.r=0
  ·obtain ⟨f1,f2⟩:=hH1.at_.f h0;refine (reset_z hH1.at_.s f1 ok.lo.2 f2 (good_new (by omega) (by omega)) ok.nf).mono ?_;rintro e W2 ⟨rfl,Z',a,b,d⟩;refine ⟨rfl,_,_,Z',a,rfl,fun _=>rfl,ok.lo.2,b,fun b hb=>?_⟩;rcases d b hb with h|h|h|h
   ·exact .inl (kZ b h)
   ·exact .inl (kF b (.inl h))
   ·exact .inl (kF b (.inr h))
   ·exact .inr h
  ·have hp:=(ok.own (by have:=ok.r;omega)).1;rw [←hp];refine (reset_own hH1.at_.s ok.lo.1).mono ?_;rintro e W2 ⟨rfl,Z',a,b,d⟩;refine ⟨rfl,_,_,Z',a,rfl,fun h=>(h0 h).elim,ok.lo.1,b,fun b hb=>?_⟩;rcases d b hb with h|h|h|h
   ·exact .inl (kZ b h)
   ·exact .inl (kZ b h)
   ·simp at h
   ·exact .inr h
 refine key.mono ?_;rintro e W2 ⟨rfl,B,x,Z',hs,hx,hx0,hB,hO2,hZ'⟩;have z2:=hO2.size;have ht2:=ht1.only hO2 fun b hb hm=>hdis b (kZ b hm) hb;have ls:=hs.lt;have f32:∀ b,b∈F3∨b∈H3→W.heap.size≤b∧b<W1.heap.size:=fun b hb=>by
  rcases hb with hb|hb
  ·exact ⟨g3.1 b hb,l3.1 b hb⟩
  ·exact ⟨g3.2 b hb,l3.2 b hb⟩
 have hd4:=hd3.only hO2 fun b hb=>⟨fun hm=>by have:=lK b (kZ b hb);have:=(f32 b (.inl hm)).1;omega,fun hm=>by have:=lK b (kZ b hb);have:=(f32 b (.inr hm)).1;omega⟩;refine ⟨rfl,(reset_z ht2 hd4 hlo (by omega) (good_new (by omega) (by omega)) fun b hb hm=>?_).mono ?_⟩
 ·have:=l2 b hm;have:=(f32 b hb).1;omega
 rintro e W3 ⟨rfl,Z3,a3,b3,d3⟩;have dis3:∀ b∈Z',b∉Z2:=fun b hb hm=>by
  rcases hZ' b hb with h|h
  ·exact hdis b h hm
  ·have:=l2 b hm;omega
 have hs3:=hs.only b3 dis3;have bl3:Below c.L c.W0 W3:=((hbl.trans (hb3.mono hlo)).trans (hO2.toBelow (by omega) fun b hb=>geS b hb)).trans (b3.toBelow (by omega) fun b hb=>ht.ge b hb);refine ⟨rfl,⟨bl3,fun hr=>?_⟩,B,c.pf,x,Z',hs3,hx⟩;have h0:c.r=0:=by omega
 rw [hx0 h0] at hs3;refine ⟨B,c.pf,W.heap.size,p3,c.L,Z',Z3,[],[],hs3,a3,fun b hb hm=>?_,⟨hB,Θ _⟩,fun h=>by omega,fun b hb=>by simp at hb,fun _=>⟨rfl,rfl,rfl⟩⟩;have hb1:=ls b hb;rcases d3 b hm with h|h|h|h
 ·exact dis3 b hb h
 ·have:=f32 b (.inl h);rcases hZ' b hb with h9|h9
  ·have:=lK b h9;omega
  ·omega
 ·have:=f32 b (.inr h);rcases hZ' b hb with h9|h9
  ·have:=lK b h9;omega
  ·omega
 ·omega
end Go.Proofs.YtcgmgdjeamidlaaGreat
