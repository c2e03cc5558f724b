/- Printed small by mini.py. -/
import Derived.Test.YtcgmgdjeamidlaaGreatRsP
namespace Go.Proofs.YtcgmgdjeamidlaaGreat
set_option maxRecDepth 100000
set_option maxHeartbeats 16000000
open Go.RowKit Go.ChangeShapes Go.WideShapes Go.ChangeAt Go.Proofs.Tryz
set_option linter.unusedVariables false
set_option linter.unusedSimpArgs false
structure Kpp(Z:List Nat)(w:World)(Z':List Nat)(w':World):Prop where
 size:w.heap.size≤w'.heap.size
 st:∀ b,b<w.heap.size→b∉Z→w'.heap[b]? = w.heap[b]?∧b∉Z'
theorem Kpp.trans{Z Z' Z'':List Nat}{a b c:World}(h:Kpp Z a Z' b)(k:Kpp Z' b Z'' c):Kpp Z a Z'' c:=
 ⟨Nat.le_trans h.size k.size,fun i hi hz=>by obtain ⟨h1,h2⟩:=h.st i hi hz;obtain ⟨k1,k2⟩:=k.st i (Nat.lt_of_lt_of_le hi h.size) h2;exact ⟨k1.trans h1,k2⟩⟩
theorem Kpp.of{Z:List Nat}{w w':World}(h:Only [] w w'):Kpp Z w Z w':=⟨h.size,fun b hb hz=>⟨h.block b hb (by simp),hz⟩⟩
def KvZ(L:Nat)(Z:List Nat)(q:IntKind)(e:TypeId)(w:World)(v:Value)(xs:List Int):Prop:=w.ownsRow L e 1 v xs.length (xs.map (Value.int q))∧∀ b,v.ownBlock=some b→b∉Z
theorem KvZ.keep{L:Nat}{Z Z':List Nat}{q:IntKind}{e:TypeId}{w w':World}{v:Value}{xs:List Int}(h:KvZ L Z q e w v xs)(k:Kpp Z w Z' w'):KvZ L Z' q e w' v xs:=
 ⟨own_keep h.1 fun b hb=>(k.st b (h.1.lt b hb).2 (h.2 b hb)).1,fun b hb=>(k.st b (h.1.lt b hb).2 (h.2 b hb)).2⟩
theorem KvZ.sl{L:Nat}{Z:List Nat}{q:IntKind}{e:TypeId}{w:World}{v:Value}{xs:List Int}(h:KvZ L Z q e w v xs)(hn:xs.length≤1000000):∃ s:Sl,v=s.v∧s.xs=xs∧SlRd q w s∧(s.xs≠[]→∀ b∈s.bs,b<w.heap.size):=by obtain ⟨s,e1,e2,h3,h4⟩:=SlAt.of_own h.1 hn;exact ⟨s,e1,e2,h3.rd,fun _ b hb=>h3.lt b hb⟩
structure SsZ(w:World)(L t g:Nat)(D:PDB)(u:Int)(Z:List Nat):Prop where
 ex:∃ B p F H,Cx t B p g D u F H w∧Z=g :: (F++H)
 lo:∀ b∈Z,L≤b
theorem SsZ.lt{w:World}{L t g:Nat}{D:PDB}{u:Int}{Z:List Nat}(h:SsZ w L t g D u Z):∀ b∈Z,b<w.heap.size:=by
 obtain ⟨B,p,F,H,c,rfl⟩:=h.ex;intro b hb;simp only [List.mem_cons,List.mem_append] at hb;rcases hb with rfl|hb|hb
 ·exact c.row.lt
 ·exact c.db.lt.1 b hb
 ·exact c.db.lt.2 b hb
theorem SsZ.only{w w':World}{L t g:Nat}{D:PDB}{u:Int}{Z G:List Nat}(h:SsZ w L t g D u Z)(k:Only G w w')(hG:∀ b∈Z,b∉G):SsZ w' L t g D u Z:=by obtain ⟨B,p,F,H,c,rfl⟩:=h.ex;simp only [List.mem_cons,List.mem_append] at hG;exact ⟨⟨B,p,F,H,⟨c.db.only k fun b hb=>⟨fun hm=>hG b (.inr (.inl hm)) hb,fun hm=>hG b (.inr (.inr hm)) hb⟩,Nat.le_trans c.base k.size,c.good,c.lim,c.row.only k (hG _ (.inl rfl)),c.ap⟩,rfl⟩,h.lo⟩
def SzTo(wr:World)(L t g:Nat)(D:PDB)(u:Int)(Z:List Nat)(bs:List Int)(e:Ending)(w2:World):Prop:=∃ v zs D' u' Z',e=.returned v∧Step D u bs zs D' u'∧SsZ w2 L (t+1) g D' u' Z'∧Only Z wr w2∧(∀ b∈Z',b∈Z∨wr.heap.size≤b)∧w2.ownsRow L 5 1 v zs.length (zs.map (Value.int .u8))∧∀ b,v.ownBlock=some b→wr.heap.size≤b∧b∉Z'
theorem ss_do0{w1:World}{L t g:Nat}{D:PDB}{u:Int}{Z:List Nat}{s:Sl}(h1:SsZ w1 L t g D u Z)(hL:L≤w1.heap.size)(hr:SlRd .u8 w1 s)(hb:IsBy s.xs)(hc:s.xs.length≤s.c)(ht:t+1<300000) :
  Calls prog 14 #[.pointer (some ⟨g,0,none⟩),s.v] w1 (SzTo w1 L t g D u Z s.xs):=by
 have hlo:=h1.lo;have hlt:=h1.lt;obtain ⟨B,p,F,H,C1,rfl⟩:=h1.ex;refine (do_on C1 hr hb hc ht).mono ?_;rintro e w2 ⟨v2,zs,D',u',F',H',rfl,ho2,hst,hcx,hO,kF,kH,hoff⟩;have hZ:∀ b∈g :: (F'++H'),b∈g :: (F++H)∨w1.heap.size≤b:=fun b hb=>by
  simp only [List.mem_cons,List.mem_append] at hb ⊢;rcases hb with rfl|hb|hb
  ·exact .inl (.inl rfl)
  ·rcases kF b hb with h9|h9
   ·exact .inl (.inr (.inl h9))
   ·exact .inr h9
  ·rcases kH b hb with h9|h9
   ·exact .inl (.inr (.inr h9))
   ·exact .inr h9
 refine ⟨v2,zs,D',u',g :: (F'++H'),rfl,hst,⟨⟨B,p,F',H',hcx,rfl⟩,fun b hb=>?_⟩,hO.mono fun b hb=>.inl ?_,hZ,own_mono ho2 hL,fun b hb=>?_⟩
 ·rcases hZ b hb with h9|h9
  ·exact hlo b h9
  ·omega
 ·simp only [List.mem_cons,List.mem_append] at hb ⊢;rcases hb with rfl|hb
  ·exact .inl rfl
  ·exact .inr (.inl hb)
 ·obtain ⟨h7,h8,h9⟩:=hoff b hb;refine ⟨h7,?_⟩;have hgl:=hlt g (by simp);simp only [List.mem_cons,List.mem_append,not_or];exact ⟨by omega,h8,h9⟩
structure TwoZ(W0:World)(t1 t2 g1 g2:Nat)(D E:PDB)(u v:Int)(Z1 Z2:List Nat)(w:World):Prop where
 a:SsZ w W0.heap.size t1 g1 D u Z1
 b:SsZ w W0.heap.size t2 g2 E v Z2
 dz:∀ b∈Z1,b∉Z2
 bl:Below W0.heap.size W0 w
theorem TwoZ.same{W0:World}{t1 t2 g1 g2:Nat}{D E:PDB}{u v:Int}{Z1 Z2:List Nat}{w w':World}(h:TwoZ W0 t1 t2 g1 g2 D E u v Z1 Z2 w)(k:Only [] w w'):TwoZ W0 t1 t2 g1 g2 D E u v Z1 Z2 w':=⟨h.a.only k (by simp),h.b.only k (by simp),h.dz,h.bl.trans (k.toBelow h.bl.size (by simp))⟩
def TzTo1(W0:World)(t1 t2 g1 g2:Nat)(D E:PDB)(u v:Int)(Z1 Z2:List Nat)(wr:World)(bs:List Int)(e:Ending)(w2:World):Prop:=∃ z zs D' u' Z',e=.returned z∧Step D u bs zs D' u'∧TwoZ W0 (t1+1) t2 g1 g2 D' E u' v Z' Z2 w2∧Kpp (Z1++Z2) wr (Z'++Z2) w2∧KvZ W0.heap.size (Z'++Z2) .u8 5 w2 z zs
def TzTo2(W0:World)(t1 t2 g1 g2:Nat)(D E:PDB)(u v:Int)(Z1 Z2:List Nat)(wr:World)(bs:List Int)(e:Ending)(w2:World):Prop:=∃ z zs E' v' Z',e=.returned z∧Step E v bs zs E' v'∧TwoZ W0 t1 (t2+1) g1 g2 D E' u v' Z1 Z' w2∧Kpp (Z1++Z2) wr (Z1++Z') w2∧KvZ W0.heap.size (Z1++Z') .u8 5 w2 z zs
section
variable {W0 wr w1:World} {t1 t2 g1 g2:Nat} {D E:PDB} {u v:Int} {Z1 Z2:List Nat} {bs:List Int} {e:Ending}
theorem two_one1{s:Sl}(h:TwoZ W0 t1 t2 g1 g2 D E u v Z1 Z2 w1)(hr:SlRd .u8 w1 s)(hb:IsBy s.xs)(hc:s.xs.length≤s.c)(ht:t1+1<300000) :
  Calls prog 14 #[.pointer (some ⟨g1,0,none⟩),s.v] w1 (TzTo1 W0 t1 t2 g1 g2 D E u v Z1 Z2 w1 s.xs):=by
 have hL:=h.bl.size;refine (ss_do0 h.a hL hr hb hc ht).mono ?_;rintro e w2 ⟨z,zs,D',u',Z',rfl,hst,hs,hO,hZ,ho,hof⟩;have l2:=h.b.lt;have l1:=h.a.lt;have dz:∀ b∈Z',b∉Z2:=fun b hb hm=>by
  rcases hZ b hb with h9|h9
  ·exact h.dz b h9 hm
  ·have:=l2 b hm;omega
 refine ⟨z,zs,D',u',Z',rfl,hst,⟨hs,h.b.only hO fun b hb hm=>h.dz b hm hb,dz,h.bl.trans (hO.toBelow hL fun b hb=>h.a.lo b hb)⟩,⟨hO.size,fun b hb hz=>?_⟩,ho,fun b hb=>?_⟩
 ·simp only [List.mem_append,not_or] at hz ⊢;refine ⟨hO.block b hb hz.1,fun hm=>?_,hz.2⟩;rcases hZ b hm with h9|h9
  ·exact hz.1 h9
  ·omega
 ·obtain ⟨h8,h9⟩:=hof b hb;simp only [List.mem_append,not_or];exact ⟨h9,fun hm=>by have:=l2 b hm;omega⟩
theorem two_do1(h:TwoZ W0 t1 t2 g1 g2 D E u v Z1 Z2 wr)(hb:IsBy bs)(hl:bs.length≤1000000)(ht:t1+1<300000)(hg:Gives bs wr e w1) :
  ∃ z,e=.returned z∧Calls prog 14 #[.pointer (some ⟨g1,0,none⟩),z] w1 (TzTo1 W0 t1 t2 g1 g2 D E u v Z1 Z2 wr bs):=by
 obtain ⟨z,rfl,ho,hbl⟩:=hg;refine ⟨z,rfl,?_⟩;obtain ⟨s,rfl,ex,hr,_,hc⟩:=own_sl ho hl;have k:Only [] wr w1:=(Ω [] wr).below hbl;subst ex;refine (two_one1 (h.same k) hr hb hc ht).mono ?_;rintro e w2 ⟨z,zs,D',u',Z',a1,a2,a3,a4,a5⟩;exact ⟨z,zs,D',u',Z',a1,a2,a3,(Kpp.of k).trans a4,a5⟩
theorem two_one2{s:Sl}(h:TwoZ W0 t1 t2 g1 g2 D E u v Z1 Z2 w1)(hr:SlRd .u8 w1 s)(hb:IsBy s.xs)(hc:s.xs.length≤s.c)(ht:t2+1<300000) :
  Calls prog 14 #[.pointer (some ⟨g2,0,none⟩),s.v] w1 (TzTo2 W0 t1 t2 g1 g2 D E u v Z1 Z2 w1 s.xs):=by
 have hL:=h.bl.size;refine (ss_do0 h.b hL hr hb hc ht).mono ?_;rintro e w2 ⟨z,zs,D',u',Z',rfl,hst,hs,hO,hZ,ho,hof⟩;have l2:=h.b.lt;have l1:=h.a.lt;have dz:∀ b∈Z1,b∉Z':=fun b hm hb=>by
  rcases hZ b hb with h9|h9
  ·exact h.dz b hm h9
  ·have:=l1 b hm;omega
 refine ⟨z,zs,D',u',Z',rfl,hst,⟨h.a.only hO fun b hb hm=>h.dz b hb hm,hs,dz,h.bl.trans (hO.toBelow hL fun b hb=>h.b.lo b hb)⟩,⟨hO.size,fun b hb hz=>?_⟩,ho,fun b hb=>?_⟩
 ·simp only [List.mem_append,not_or] at hz ⊢;refine ⟨hO.block b hb hz.2,hz.1,fun hm=>?_⟩;rcases hZ b hm with h9|h9
  ·exact hz.2 h9
  ·omega
 ·obtain ⟨h8,h9⟩:=hof b hb;simp only [List.mem_append,not_or];exact ⟨fun hm=>by have:=l1 b hm;omega,h9⟩
theorem two_do2(h:TwoZ W0 t1 t2 g1 g2 D E u v Z1 Z2 wr)(hb:IsBy bs)(hl:bs.length≤1000000)(ht:t2+1<300000)(hg:Gives bs wr e w1) :
  ∃ z,e=.returned z∧Calls prog 14 #[.pointer (some ⟨g2,0,none⟩),z] w1 (TzTo2 W0 t1 t2 g1 g2 D E u v Z1 Z2 wr bs):=by
 obtain ⟨z,rfl,ho,hbl⟩:=hg;refine ⟨z,rfl,?_⟩;obtain ⟨s,rfl,ex,hr,_,hc⟩:=own_sl ho hl;have k:Only [] wr w1:=(Ω [] wr).below hbl;subst ex;refine (two_one2 (h.same k) hr hb hc ht).mono ?_;rintro e w2 ⟨z,zs,D',u',Z',a1,a2,a3,a4,a5⟩;exact ⟨z,zs,D',u',Z',a1,a2,a3,(Kpp.of k).trans a4,a5⟩
end
theorem good_newd{d:Int}(h:1≤d∧d≤4096):Good 0 (newP d):=⟨h,by simp [newP,vsOf,Vs.no],by simp [newP],by simp [newP],⟨[],by simp,by simp [newP],by simp [newP]⟩,by simp [newP,vsOf,Vs.no],by simp [newP],by simp [newP],by simp [newP]⟩
theorem ss_new{w:World}{L B p:Nat}{d:Int}{F H:List Nat}(hd:1≤d∧d≤4096)(h:DbF w B p (newP d) F H)(hB:L≤B)(hL:B≤w.heap.size):SsZ (w.alloc (.cells #[baseV p,.int .u64 0] tSs)) L 0 w.heap.size (newP d) 0 (w.heap.size :: (F++H)):=by
 have k:Only [] w (w.alloc (.cells #[baseV p,.int .u64 0] tSs)):=(Ω [] w).alloc _;refine ⟨⟨B,p,F,H,⟨h.only k (by simp),Nat.le_trans hL k.size,good_newd hd,by omega,Φ w _ _,⟨fun hm=>?_,fun hm=>?_⟩⟩,rfl⟩,fun b hb=>?_⟩
 ·have:=h.lt.1 _ hm;omega
 ·have:=h.lt.2 _ hm;omega
 ·simp only [List.mem_cons,List.mem_append] at hb;rcases hb with rfl|hb|hb
  ·omega
  ·have:=h.ge.1 b hb;omega
  ·have:=h.ge.2 b hb;omega
theorem two_new{W0 wa wb wc:World}{d:Int}{p1 p2:Nat}{F1 H1 F2 H2:List Nat}(hd:1≤d∧d≤4096)(h1:DbF wa W0.heap.size p1 (newP d) F1 H1)(b1:Below W0.heap.size W0 wa)(h2:DbF wb wa.heap.size p2 (newP d) F2 H2)(b2:Below wa.heap.size wa wb)(hc:wc=wb.alloc (.cells #[baseV p1,.int .u64 0] tSs)) :
  TwoZ W0 0 0 wb.heap.size wc.heap.size (newP d) (newP d) 0 0 (wb.heap.size :: (F1++H1)) (wc.heap.size :: (F2++H2)) (wc.alloc (.cells #[baseV p2,.int .u64 0] tSs)):=by
 have ka:Only [] wa wb:=(Ω [] wa).below b2;have kb:Only [] wb wc:=by rw [hc];exact (Ω [] wb).alloc _
 have kc:Only [] wc (wc.alloc (.cells #[baseV p2,.int .u64 0] tSs)):=(Ω [] wc).alloc _;have z0:=b1.size;have z1:=ka.size;have z2:=kb.size;have S1:=(ss_new hd (h1.only ka (by simp)) (Θ _) (by omega)).only (w':=wc.alloc (.cells #[baseV p2,.int .u64 0] tSs)) (G:=[]) (by rw [←hc];exact kc) (by simp);have S2:=ss_new (L:=W0.heap.size) hd (h2.only kb (by simp)) (by omega) (by omega);have lt1:=h1.lt;have ge2:=h2.ge;have lt2:=h2.lt;have hcs:wc.heap.size=wb.heap.size+1:=by rw [hc];simp
 refine ⟨S1,S2,fun b hb hm=>?_,((b1.trans (b2.mono z0)).trans (kb.toBelow (by omega) (by simp))).trans (kc.toBelow (by omega) (by simp))⟩;simp only [List.mem_cons,List.mem_append] at hb hm;rcases hb with rfl|hb|hb
 ·rcases hm with h|hm|hm
  ·omega
  ·have:=lt2.1 _ hm;omega
  ·have:=lt2.2 _ hm;omega
 ·have:=lt1.1 b hb;rcases hm with rfl|hm|hm
  ·omega
  ·have:=ge2.1 _ hm;omega
  ·have:=ge2.2 _ hm;omega
 ·have:=lt1.2 b hb;rcases hm with rfl|hm|hm
  ·omega
  ·have:=ge2.1 _ hm;omega
  ·have:=ge2.2 _ hm;omega
end Go.Proofs.YtcgmgdjeamidlaaGreat
