/- Texts of one proof, joined. -/
import Derived.Test.YtcgmgdjeamidlaaGreatSePa
import Derived.Test.YtcgmgdjeamidlaaGreatMg22
import Derived.Test.YtcgmgdjeamidlaaGreatMg34
namespace Go.Proofs.YtcgmgdjeamidlaaGreat
set_option maxRecDepth 100000
set_option maxHeartbeats 16000000
open Go.RowKit Go.ChangeShapes Go.WideShapes Go.ChangeAt Go.Proofs.Tryz
set_option linter.unusedVariables false
set_option linter.unusedSimpArgs false
def refB(e place:Int):List Int:=[2]++[e]++leB place 2
def gotB(c:Rc):List Int:=[3]++itemB c
def itemsB(L:List Rc):List Int:=[4]++uvB L.length++L.flatMap fun c=>textB (itemB c)
def hitsB(hs:List (Int×Int)):List Int:=[5]++uvB hs.length++hs.flatMap fun x=>leB x.1 8++leB x.2 8
def SeenL(D:PDB)(o:PTx)(L:List Rc):Prop:=Shows L fun k=>visC (seesR D o k)
def PutS(D:PDB)(u ik:Int)(vec tag:List Int)(m:Int)(zs:List Int)(D':PDB):Prop:=
 (findP u D.op=none∧zs=refB 12 0∧D'=D)∨∃ o,findP u D.op=some o ∧
  (((vec.length:Int)≠D.dim∧zs=refB 9 0∧D'=D) ∨
   ((vec.length:Int)=D.dim∧zs=[1,m]∧∃ v:Ver,vK v=(0,false,ik,vec,tag)∧D'=wroteP D u ik v))
def DelS(D:PDB)(u key:Int)(zs:List Int)(D':PDB):Prop:=
 (findP u D.op=none∧zs=refB 12 0∧D'=D)∨∃ o,findP u D.op=some o ∧
  ((visC (seesR D o key)=none∧zs=refB 7 0∧D'=D)∨((∃ c,visC (seesR D o key)=some c)∧zs=[1,0]∧D'=wroteP D u key goneV))
def GetS(D:PDB)(u key:Int)(zs:List Int):Prop:=
 (findP u D.op=none∧zs=refB 12 0)∨∃ o,findP u D.op=some o ∧
  ((visC (seesR D o key)=none∧zs=refB 7 0)∨∃ c,visC (seesR D o key)=some c∧zs=gotB c)
def ScanS(D:PDB)(u lo hi n:Int)(zs:List Int):Prop:=
 (findP u D.op=none∧zs=refB 12 0)∨∃ o,findP u D.op=some o∧∃ L,SeenL D o L∧zs=itemsB ((L.filter (keepR lo hi)).take n.toNat)
def KnnS(D:PDB)(u:Int)(q:List Int)(n:Int)(zs:List Int):Prop:=
 (findP u D.op=none∧zs=refB 12 0)∨∃ o,findP u D.op=some o ∧
  (((q.length:Int)≠D.dim∧zs=refB 9 0)∨((q.length:Int)=D.dim∧∃ L,SeenL D o L∧zs=hitsB (vc.firstF (L.map (hitC q)) n)))
def ComS(D:PDB)(u:Int)(zs:List Int)(D':PDB):Prop:=
 (findP u D.op=none∧zs=refB 12 0∧D'=D)∨∃ o,findP u D.op=some o ∧
  ((ClashP D o∧zs=refB 11 0∧D'=shutP D u) ∨
   (¬ ClashP D o∧zs=[1,0]∧∃ all',KeysOf D o all' 0∧D'={ shutP D u with last:=D.last+1,all:=all' }∧∀ j,(vsOf all' j).vs=(vsOf D.all j).vs++(match lkV o.wr j with
   | some v=>[{ v with at_:=D.last+1 }]
   | none=>[])))
def AbS(D:PDB)(u:Int)(zs:List Int)(D':PDB):Prop:=
 (findP u D.op=none∧zs=refB 12 0∧D'=D)∨((∃ o,findP u D.op=some o)∧zs=[1,0]∧D'=shutP D u)
def VacS(D:PDB)(zs:List Int)(D':PDB):Prop:=
 zs=[1,0]∧((D.op≠[]∧D'=D)∨(D.op=[]∧∃ all',all'.map (·.1)=D.all.map (·.1)∧(∀ j,(vsOf all' j).vs=lastL (vsOf D.all j).vs)∧D'={ D with all:=all' }))
def BgnS(D:PDB)(u:Int)(zs:List Int)(D':PDB)(u':Int):Prop:=
 (u≠0∧zs=refB 12 0∧D'=D∧u'=u) ∨
 (u=0∧((D.op.length<8∧zs=[1,0]∧u'=D.begun+1∧∃ a b,D'=beginP D a b)∨(¬ D.op.length<8∧zs=refB 5 0∧D'=D∧u'=0)))
def quF(c:Qc):List Int×Int×Int×Int:=allG c.sc (c.fl.map Int.toNat)
def PutFS(D:PDB)(u:Int)(c:Qc)(zs:List Int)(D':PDB):Prop:=
 ((quF c).2.2.2≠0∧zs=refB (quF c).2.2.2 (quF c).2.2.1∧D'=D)∨((quF c).2.2.2=0∧PutS D u c.ik (quF c).1 c.tag (quF c).2.1 zs D')
def KnnFS(D:PDB)(u:Int)(c:Qc)(zs:List Int):Prop:=
 ((quF c).2.2.2≠0∧zs=refB (quF c).2.2.2 (quF c).2.2.1)∨((quF c).2.2.2=0∧KnnS D u (quF c).1 c.n zs)
def DoQ(D:PDB)(u:Int)(c:Qc)(zs:List Int)(D':PDB)(u':Int):Prop:=
 if c.kind=1 then BgnS D u zs D' u'
 else if c.kind=2 then PutS D u c.ik c.vec c.tag 0 zs D'∧u'=u
 else if c.kind=3 then DelS D u c.key zs D'∧u'=u
 else if c.kind=4 then GetS D u c.key zs∧D'=D∧u'=u
 else if c.kind=5 then ScanS D u c.key c.hi c.n zs∧D'=D∧u'=u
 else if c.kind=6 then KnnS D u c.q c.n zs∧D'=D∧u'=u
 else if c.kind=7 then ComS D u zs D'∧u'=0
 else if c.kind=8 then AbS D u zs D'∧u'=0
 else if c.kind=9 then VacS D zs D'∧u'=u
 else if c.kind=10 then PutFS D u c zs D'∧u'=u
 else KnnFS D u c zs∧D'=D∧u'=u
def Step(D:PDB)(u:Int)(b zs:List Int)(D':PDB)(u':Int):Prop:=
 match askQ b with
 | none=>zs=refB 4 0∧D'=D∧u'=u
 | some c=>if u=0∧c.kind≠1∧c.kind≠9 then zs=refB 12 0∧D'=D∧u'=u else DoQ D u c zs D' u'
/-! ### alike DBs answer alike -/
section
variable {D E D' E':PDB} {u v u' v':Int} {zs ys:List Int}
theorem seen_same(h:Sim D E){o o':PTx}(ho:oK o=oK o'){L M:List Rc}(h1:SeenL D o L)(h2:SeenL E o' M):L=M:=Shows.unique h1 (h2.congr fun k=>(h.vis ho k).symm)
theorem PutS.same(h:Sim D E){ik:Int}{vec tag:List Int}{m:Int}(h1:PutS D u ik vec tag m zs D')(h2:PutS E u ik vec tag m ys E'):zs=ys∧Sim D' E':=by
 rcases h1 with ⟨a1,a2,a3⟩|⟨o,a1,a2⟩
 ·rcases h2 with ⟨b1,b2,b3⟩|⟨o',b1,b2⟩
  ·exact ⟨by rw [a2,b2],by rw [a3,b3];exact h⟩
  ·rw [h.find_none a1] at b1;cases b1
 ·obtain ⟨o2,c1,c2⟩:=h.find_some a1;rcases h2 with ⟨b1,b2,b3⟩|⟨o',b1,b2⟩
  ·rw [b1] at c1;cases c1
  ·rw [h.dim] at a2;rcases a2 with ⟨a2,a3,a4⟩|⟨a2,a3,w,a4,a5⟩
   ·rcases b2 with ⟨b2,b3,b4⟩|⟨b2,b3,w',b4,b5⟩
    ·exact ⟨by rw [a3,b3],by rw [a4,b4];exact h⟩
    ·exact absurd b2 a2
   ·rcases b2 with ⟨b2,b3,b4⟩|⟨b2,b3,w',b4,b5⟩
    ·exact absurd a2 b2
    ·exact ⟨by rw [a3,b3],by rw [a5,b5];exact h.wrote u ik (a4.trans b4.symm)⟩
theorem DelS.same(h:Sim D E){key:Int}(h1:DelS D u key zs D')(h2:DelS E u key ys E'):zs=ys∧Sim D' E':=by
 rcases h1 with ⟨a1,a2,a3⟩|⟨o,a1,a2⟩
 ·rcases h2 with ⟨b1,b2,b3⟩|⟨o',b1,b2⟩
  ·exact ⟨by rw [a2,b2],by rw [a3,b3];exact h⟩
  ·rw [h.find_none a1] at b1;cases b1
 ·obtain ⟨o2,c1,c2⟩:=h.find_some a1;rcases h2 with ⟨b1,b2,b3⟩|⟨o',b1,b2⟩
  ·rw [b1] at c1;cases c1
  ·rw [b1] at c1;cases c1;rw [h.vis c2] at a2;rcases a2 with ⟨a2,a3,a4⟩|⟨⟨c,a2⟩,a3,a4⟩
   ·rcases b2 with ⟨b2,b3,b4⟩|⟨⟨c',b2⟩,b3,b4⟩
    ·exact ⟨by rw [a3,b3],by rw [a4,b4];exact h⟩
    ·rw [a2] at b2;cases b2
   ·rcases b2 with ⟨b2,b3,b4⟩|⟨⟨c',b2⟩,b3,b4⟩
    ·rw [a2] at b2;cases b2
    ·exact ⟨by rw [a3,b3],by rw [a4,b4];exact h.wrote u key rfl⟩
theorem GetS.same(h:Sim D E){key:Int}(h1:GetS D u key zs)(h2:GetS E u key ys):zs=ys:=by
 rcases h1 with ⟨a1,a2⟩|⟨o,a1,a2⟩
 ·rcases h2 with ⟨b1,b2⟩|⟨o',b1,b2⟩
  ·rw [a2,b2]
  ·rw [h.find_none a1] at b1;cases b1
 ·obtain ⟨o2,c1,c2⟩:=h.find_some a1;rcases h2 with ⟨b1,b2⟩|⟨o',b1,b2⟩
  ·rw [b1] at c1;cases c1
  ·rw [b1] at c1;cases c1;rw [h.vis c2] at a2;rcases a2 with ⟨a2,a3⟩|⟨c,a2,a3⟩
   ·rcases b2 with ⟨b2,b3⟩|⟨c',b2,b3⟩
    ·rw [a3,b3]
    ·rw [a2] at b2;cases b2
   ·rcases b2 with ⟨b2,b3⟩|⟨c',b2,b3⟩
    ·rw [a2] at b2;cases b2
    ·rw [a2] at b2;cases b2;rw [a3,b3]
theorem ScanS.same(h:Sim D E){lo hi n:Int}(h1:ScanS D u lo hi n zs)(h2:ScanS E u lo hi n ys):zs=ys:=by
 rcases h1 with ⟨a1,a2⟩|⟨o,a1,L,a2,a3⟩
 ·rcases h2 with ⟨b1,b2⟩|⟨o',b1,b2⟩
  ·rw [a2,b2]
  ·rw [h.find_none a1] at b1;cases b1
 ·obtain ⟨o2,c1,c2⟩:=h.find_some a1;rcases h2 with ⟨b1,b2⟩|⟨o',b1,M,b2,b3⟩
  ·rw [b1] at c1;cases c1
  ·rw [b1] at c1;cases c1;rw [a3,b3,seen_same h c2 a2 b2]
theorem KnnS.same(h:Sim D E){q:List Int}{n:Int}(h1:KnnS D u q n zs)(h2:KnnS E u q n ys):zs=ys:=by
 rcases h1 with ⟨a1,a2⟩|⟨o,a1,a2⟩
 ·rcases h2 with ⟨b1,b2⟩|⟨o',b1,b2⟩
  ·rw [a2,b2]
  ·rw [h.find_none a1] at b1;cases b1
 ·obtain ⟨o2,c1,c2⟩:=h.find_some a1;rcases h2 with ⟨b1,b2⟩|⟨o',b1,b2⟩
  ·rw [b1] at c1;cases c1
  ·rw [b1] at c1;cases c1;rw [h.dim] at a2;rcases a2 with ⟨a2,a3⟩|⟨a2,L,a3,a4⟩
   ·rcases b2 with ⟨b2,b3⟩|⟨b2,M,b3,b4⟩
    ·rw [a3,b3]
    ·exact absurd b2 a2
   ·rcases b2 with ⟨b2,b3⟩|⟨b2,M,b3,b4⟩
    ·exact absurd a2 b2
    ·rw [a4,b4,seen_same h c2 a3 b3]
theorem ComS.same(h:Sim D E)(h1:ComS D u zs D')(h2:ComS E u ys E'):zs=ys∧Sim D' E':=by
 rcases h1 with ⟨a1,a2,a3⟩|⟨o,a1,a2⟩
 ·rcases h2 with ⟨b1,b2,b3⟩|⟨o',b1,b2⟩
  ·exact ⟨by rw [a2,b2],by rw [a3,b3];exact h⟩
  ·rw [h.find_none a1] at b1;cases b1
 ·obtain ⟨o2,c1,c2⟩:=h.find_some a1;rcases h2 with ⟨b1,b2,b3⟩|⟨o',b1,b2⟩
  ·rw [b1] at c1;cases c1
  ·rw [b1] at c1;cases c1;rw [h.clash c2] at a2;obtain ⟨_,n1⟩:=findP_some a1;obtain ⟨_,n2⟩:=findP_some b1;rcases a2 with ⟨a2,a3,a4⟩|⟨a2,a3,p,_,a4,a5⟩
   ·rcases b2 with ⟨b2,b3,b4⟩|⟨b2,b3,q,_,b4,b5⟩
    ·exact ⟨by rw [a3,b3],by rw [a4,b4];exact h.shut u⟩
    ·exact absurd a2 b2
   ·rcases b2 with ⟨b2,b3,b4⟩|⟨b2,b3,q,_,b4,b5⟩
    ·exact absurd b2 a2
    ·have:=h.commit c2 a5 b5;rw [n1,n2] at this;exact ⟨by rw [a3,b3],by rw [a4,b4];exact this⟩
theorem AbS.same(h:Sim D E)(h1:AbS D u zs D')(h2:AbS E u ys E'):zs=ys∧Sim D' E':=by
 rcases h1 with ⟨a1,a2,a3⟩|⟨⟨o,a1⟩,a2,a3⟩
 ·rcases h2 with ⟨b1,b2,b3⟩|⟨⟨o',b1⟩,b2,b3⟩
  ·exact ⟨by rw [a2,b2],by rw [a3,b3];exact h⟩
  ·rw [h.find_none a1] at b1;cases b1
 ·obtain ⟨o2,c1,c2⟩:=h.find_some a1;rcases h2 with ⟨b1,b2,b3⟩|⟨⟨o',b1⟩,b2,b3⟩
  ·rw [b1] at c1;cases c1
  ·exact ⟨by rw [a2,b2],by rw [a3,b3];exact h.shut u⟩
theorem Sim.size(h:Sim D E):D.op.length=E.op.length:=by simpa using congrArg List.length h.op
theorem VacS.same(h:Sim D E)(h1:VacS D zs D')(h2:VacS E ys E'):zs=ys∧Sim D' E':=by
 obtain ⟨a1,a2⟩:=h1;obtain ⟨b1,b2⟩:=h2;have hs:=h.size;refine ⟨by rw [a1,b1],?_⟩;rcases a2 with ⟨a2,a3⟩|⟨a2,p,_,a3,a4⟩
 ·rcases b2 with ⟨b2,b3⟩|⟨b2,q,_,b3,b4⟩
  ·rw [a3,b3];exact h
  ·exact absurd (List.length_eq_zero_iff.1 (by rw [hs,b2];rfl)) a2
 ·rcases b2 with ⟨b2,b3⟩|⟨b2,q,_,b3,b4⟩
  ·exact absurd (List.length_eq_zero_iff.1 (by rw [←hs,a2];rfl)) b2
  ·rw [a4,b4];exact h.vac a3 b3
theorem BgnS.same(h:Sim D E)(h1:BgnS D u zs D' u')(h2:BgnS E u ys E' v'):zs=ys∧u'=v'∧Sim D' E':=by
 rcases h1 with ⟨a1,a2,a3,a4⟩|⟨a1,a2⟩
 ·rcases h2 with ⟨b1,b2,b3,b4⟩|⟨b1,b2⟩
  ·exact ⟨by rw [a2,b2],by rw [a4,b4],by rw [a3,b3];exact h⟩
  ·exact absurd b1 a1
 ·rcases h2 with ⟨b1,b2,b3,b4⟩|⟨b1,b2⟩
  ·exact absurd a1 b1
  ·rw [h.size] at a2;rcases a2 with ⟨a2,a3,a4,p,q,a5⟩|⟨a2,a3,a4,a5⟩
   ·rcases b2 with ⟨b2,b3,b4,p',q',b5⟩|⟨b2,b3,b4,b5⟩
    ·exact ⟨by rw [a3,b3],by rw [a4,b4,h.begun],by rw [a5,b5];exact h.opened _ _ _ _⟩
    ·exact absurd a2 b2
   ·rcases b2 with ⟨b2,b3,b4,p',q',b5⟩|⟨b2,b3,b4,b5⟩
    ·exact absurd b2 a2
    ·exact ⟨by rw [a3,b3],by rw [a5,b5],by rw [a4,b4];exact h⟩
theorem PutFS.same(h:Sim D E){c:Qc}(h1:PutFS D u c zs D')(h2:PutFS E u c ys E'):zs=ys∧Sim D' E':=by
 rcases h1 with ⟨a1,a2,a3⟩|⟨a1,a2⟩
 ·rcases h2 with ⟨b1,b2,b3⟩|⟨b1,b2⟩
  ·exact ⟨by rw [a2,b2],by rw [a3,b3];exact h⟩
  ·exact absurd b1 a1
 ·rcases h2 with ⟨b1,b2,b3⟩|⟨b1,b2⟩
  ·exact absurd a1 b1
  ·exact a2.same h b2
theorem KnnFS.same(h:Sim D E){c:Qc}(h1:KnnFS D u c zs)(h2:KnnFS E u c ys):zs=ys:=by
 rcases h1 with ⟨a1,a2⟩|⟨a1,a2⟩
 ·rcases h2 with ⟨b1,b2⟩|⟨b1,b2⟩
  ·rw [a2,b2]
  ·exact absurd b1 a1
 ·rcases h2 with ⟨b1,b2⟩|⟨b1,b2⟩
  ·exact absurd a1 b1
  ·exact a2.same h b2
theorem DoQ.same(h:Sim D E){c:Qc}(h1:DoQ D u c zs D' u')(h2:DoQ E u c ys E' v'):zs=ys∧u'=v'∧Sim D' E':=by
 unfold DoQ at h1 h2;by_cases k1:c.kind=1
 ·rw [if_pos k1] at h1 h2;exact h1.same h h2
 rw [if_neg k1] at h1 h2;by_cases k2:c.kind=2
 ·rw [if_pos k2] at h1 h2;obtain ⟨r1,r2⟩:=h1.1.same h h2.1;exact ⟨r1,by rw [h1.2,h2.2],r2⟩
 rw [if_neg k2] at h1 h2;by_cases k3:c.kind=3
 ·rw [if_pos k3] at h1 h2;obtain ⟨r1,r2⟩:=h1.1.same h h2.1;exact ⟨r1,by rw [h1.2,h2.2],r2⟩
 rw [if_neg k3] at h1 h2;by_cases k4:c.kind=4
 ·rw [if_pos k4] at h1 h2;exact ⟨h1.1.same h h2.1,by rw [h1.2.2,h2.2.2],by rw [h1.2.1,h2.2.1];exact h⟩
 rw [if_neg k4] at h1 h2;by_cases k5:c.kind=5
 ·rw [if_pos k5] at h1 h2;exact ⟨h1.1.same h h2.1,by rw [h1.2.2,h2.2.2],by rw [h1.2.1,h2.2.1];exact h⟩
 rw [if_neg k5] at h1 h2;by_cases k6:c.kind=6
 ·rw [if_pos k6] at h1 h2;exact ⟨h1.1.same h h2.1,by rw [h1.2.2,h2.2.2],by rw [h1.2.1,h2.2.1];exact h⟩
 rw [if_neg k6] at h1 h2;by_cases k7:c.kind=7
 ·rw [if_pos k7] at h1 h2;obtain ⟨r1,r2⟩:=h1.1.same h h2.1;exact ⟨r1,by rw [h1.2,h2.2],r2⟩
 rw [if_neg k7] at h1 h2;by_cases k8:c.kind=8
 ·rw [if_pos k8] at h1 h2;obtain ⟨r1,r2⟩:=h1.1.same h h2.1;exact ⟨r1,by rw [h1.2,h2.2],r2⟩
 rw [if_neg k8] at h1 h2;by_cases k9:c.kind=9
 ·rw [if_pos k9] at h1 h2;obtain ⟨r1,r2⟩:=h1.1.same h h2.1;exact ⟨r1,by rw [h1.2,h2.2],r2⟩
 rw [if_neg k9] at h1 h2;by_cases k10:c.kind=10
 ·rw [if_pos k10] at h1 h2;obtain ⟨r1,r2⟩:=h1.1.same h h2.1;exact ⟨r1,by rw [h1.2,h2.2],r2⟩
 rw [if_neg k10] at h1 h2;exact ⟨h1.1.same h h2.1,by rw [h1.2.2,h2.2.2],by rw [h1.2.1,h2.2.1];exact h⟩
theorem Step.same{b:List Int}(h:Sim D E)(h1:Step D u b zs D' u')(h2:Step E u b ys E' v'):zs=ys∧u'=v'∧Sim D' E':=by
 unfold Step at h1 h2;cases hq:askQ b with
 | none=>
  rw [hq] at h1 h2;exact ⟨by rw [h1.1,h2.1],by rw [h1.2.2,h2.2.2],by rw [h1.2.1,h2.2.1];exact h⟩
 | some c=>
  rw [hq] at h1 h2;simp only at h1 h2;by_cases k:u=0∧c.kind≠1∧c.kind≠9
  ·rw [if_pos k] at h1 h2;exact ⟨by rw [h1.1,h2.1],by rw [h1.2.2,h2.2.2],by rw [h1.2.1,h2.2.1];exact h⟩
  ·rw [if_neg k] at h1 h2;exact h1.same h h2
end
structure RcGd(dim key:Int)(c:Rc):Prop where
 keyed:c.1=key
 len:(c.2.1.length:Int)=dim
 i32:vc.In32 c.2.1
 tag:c.2.2.length≤1024
 by_:IsBy c.2.2
 k0:0≤key
 k1:key<18446744073709551616
def VerGd(dim key:Int)(v:Ver):Prop:=v.gone=false→RcGd dim key (v.key,v.vec.xs,v.tag.xs)
structure Good(t:Nat)(D:PDB):Prop where
 dim:1≤D.dim∧D.dim≤4096
 vers:∀ k,∀ v∈(vsOf D.all k).vs,VerGd D.dim k v
 wvers:∀ o∈D.op,∀ y∈o.wr,VerGd D.dim y.1 y.2
 ne:∀ x∈D.all,x.2.vs≠[]
 keys:∃ K:List Int,K.length≤t∧(∀ x∈D.all,x.1∈K)∧∀ o∈D.op,∀ y∈o.wr,y.1∈K
 vlen:∀ k,(vsOf D.all k).vs.length≤t
 nums:0≤D.begun∧D.begun≤t∧0≤D.last∧D.last≤t
 opn:D.op.length≤8
 ops:∀ o∈D.op,0<o.n∧o.n≤D.begun
theorem wlkV_some{l:List (Int×Ver)}{k:Int}{v:Ver}(h:lkV l k=some v):(k,v)∈l:=by
 unfold lkV at h;rw [Option.map_eq_some_iff] at h;obtain ⟨y,hy,rfl⟩:=h;have h1:=List.mem_of_find?_eq_some hy;have h2:y.1=k:=by simpa using List.find?_some hy
 rw [←h2];exact h1
theorem wvsOf_keys{l:List (Int×Vs)}{k:Int}{v:Ver}(h:v∈(vsOf l k).vs):∃ x∈l,x.1=k∧vsOf l k=x.2:=by
 unfold vsOf at h ⊢;cases hf:l.find? fun x=>decide (x.1=k) with
 | none=>rw [hf] at h;simp [Vs.no] at h
 | some x=>exact ⟨x,List.mem_of_find?_eq_some hf,by simpa using List.find?_some hf,by simp⟩
theorem visC_gd{dim key:Int}{v:Ver}{c:Rc}(h:VerGd dim key v)(hc:visC (some v)=some c):RcGd dim key c:=by obtain ⟨u,hu,hg,rfl⟩:=visC_some hc;cases hu;exact h hg
theorem wnodup_len:∀ (l K:List Int),l.Nodup→(∀ x∈l,x∈K)→l.length≤K.length:=by
 intro l;induction l with
 | nil=>intro K _ _;simp
 | cons x l ih=>
  intro K hn hs;obtain ⟨h1,h2⟩:=List.nodup_cons.1 hn;have hx:=hs x (by simp);have:=ih (K.erase x) h2 fun y hy=>(List.mem_erase_of_ne (fun e=>h1 (by rw [←e];exact hy))).2 (hs y (List.mem_cons_of_mem _ hy));rw [List.length_erase_of_mem hx] at this;have:=List.length_pos_of_mem hx;simp only [List.length_cons];omega
section
variable {t:Nat} {D:PDB}
theorem Good.seen(h:Good t D){o:PTx}(ho:o∈D.op){k:Int}{c:Rc}(hc:visC (seesR D o k)=some c):RcGd D.dim k c:=by
 unfold seesR at hc;cases hl:lkV o.wr k with
 | some v=>rw [hl] at hc;exact visC_gd (h.wvers o ho (k,v) (wlkV_some hl)) hc
 | none=>
  rw [hl] at hc;obtain ⟨v,hv,_⟩:=visC_some hc;have hc':visC (asofL (vsOf D.all k).vs o.start)=some c:=hc;have hv':asofL (vsOf D.all k).vs o.start=some v:=hv;rw [hv'] at hc';exact visC_gd (h.vers k v (asofL_mem hv')) hc'
theorem sees_key{o:PTx}{k:Int}(hc:visC (seesR D o k)≠none):k∈D.all.map (·.1)∨k∈o.wr.map (·.1):=by
 unfold seesR at hc;cases hl:lkV o.wr k with
 | some v=>exact .inr (List.mem_map.2 ⟨(k,v),wlkV_some hl,rfl⟩)
 | none=>
  rw [hl] at hc;obtain ⟨c,hc⟩:=Option.ne_none_iff_exists'.1 hc;obtain ⟨v,hv,_⟩:=visC_some hc;obtain ⟨x,hx,he,_⟩:=wvsOf_keys (asofL_mem hv);exact .inl (List.mem_map.2 ⟨x,hx,he⟩)
theorem Good.list(h:Good t D){o:PTx}(ho:o∈D.op){zs:List Int}(hz:zs.Pairwise (· < ·))(hm:∀ x,x∈zs↔x∈D.all.map (·.1)∨x∈o.wr.map (·.1)):SeenL D o (zs.filterMap fun k=>visC (seesR D o k)):=
 shows_list hz (fun k c hc=>(h.seen ho hc).keyed) fun k hk=>(hm k).2 (sees_key hk)
theorem Good.listed(h:Good t D){o:PTx}(ho:o∈D.op){L:List Rc}(hL:SeenL D o L):∀ c∈L,RcGd D.dim c.1 c:=fun c hc=>h.seen ho ((hL.mem c).1 hc)
theorem Good.mono(h:Good t D){s:Nat}(hs:t≤s):Good s D:=by obtain ⟨K,k1,k2,k3⟩:=h.keys;exact ⟨h.dim,h.vers,h.wvers,h.ne,⟨K,by omega,k2,k3⟩,fun k=>by have:=h.vlen k;omega,by have:=h.nums;omega,h.opn,h.ops⟩
theorem Good.small(h:Good t D)(ht:t≤400000){w:World}{B p ba bo:Nat}(hD:DbAt w B p ba bo D):Small D:=by
 obtain ⟨K,k1,k2,k3⟩:=h.keys;have h1:=wnodup_len (D.all.map (·.1)) K (all_nodup hD.am) fun x hx=>by obtain ⟨y,hy,rfl⟩:=List.mem_map.1 hx;exact k2 y hy
 refine ⟨by simp at h1;omega,fun k=>by have:=h.vlen k;omega,fun o ho=>?_,by have:=h.opn;omega⟩;have h2:=wnodup_len (o.wr.map (·.1)) K (wr_nodup (hD.oa o ho).2) fun x hx=>by obtain ⟨y,hy,rfl⟩:=List.mem_map.1 hx;exact k3 o ho y hy
 simp at h2;omega
theorem Good.opened(h:Good t D)(hl:D.op.length<8)(a b:Nat):Good (t+1) (beginP D a b):=by
 obtain ⟨K,k1,k2,k3⟩:=h.keys;have hn:=h.nums;refine ⟨h.dim,h.vers,?_,h.ne,⟨K,by omega,k2,?_⟩,fun k=>by have:=h.vlen k;show (vsOf D.all k).vs.length≤_;omega,?_,?_,?_⟩
 ·intro o ho y hy;rcases List.mem_append.1 ho with ho|ho
  ·exact h.wvers o ho y hy
  ·simp only [List.mem_singleton] at ho;subst ho;simp at hy
 ·intro o ho y hy;rcases List.mem_append.1 ho with ho|ho
  ·exact k3 o ho y hy
  ·simp only [List.mem_singleton] at ho;subst ho;simp at hy
 ·show 0≤D.begun+1∧D.begun+1≤_∧0≤D.last∧D.last≤_;omega
 ·show (D.op++_).length≤8;simp;omega
 ·intro o ho;show 0<o.n∧o.n≤D.begun+1;rcases List.mem_append.1 ho with ho|ho
  ·have:=h.ops o ho;omega
  ·simp only [List.mem_singleton] at ho;subst ho;show 0<D.begun+1∧D.begun+1≤D.begun+1;omega
theorem Good.wrote(h:Good t D)(n k:Int){v:Ver}(hv:VerGd D.dim k v):Good (t+1) (wroteP D n k v):=by
 obtain ⟨K,k1,k2,k3⟩:=h.keys;have hn:=h.nums;have old:∀ o∈(wroteP D n k v).op,∃ x∈D.op,o.n=x.n∧∀ y∈o.wr,y=(k,v)∨y∈x.wr:=fun o ho=>by
  obtain ⟨x,hx,e⟩:=List.mem_map.1 ho;refine ⟨x,hx,?_⟩;by_cases hxn:x.n=n
  ·rw [if_pos hxn] at e;rw [←e];exact ⟨rfl,fun y hy=>mem_upV hy⟩
  ·rw [if_neg hxn] at e;rw [←e];exact ⟨rfl,fun y hy=>.inr hy⟩
 refine ⟨h.dim,h.vers,fun o ho y hy=>?_,h.ne,⟨k :: K,by simp;omega,fun x hx=>List.mem_cons_of_mem _ (k2 x hx),fun o ho y hy=>?_⟩,fun j=>by have:=h.vlen j;show (vsOf D.all j).vs.length≤_;omega,?_,?_,fun o ho=>?_⟩
 ·obtain ⟨x,hx,_,hw⟩:=old o ho;rcases hw y hy with rfl|hy
  ·exact hv
  ·exact h.wvers x hx y hy
 ·obtain ⟨x,hx,_,hw⟩:=old o ho;rcases hw y hy with rfl|hy
  ·exact List.mem_cons_self ..
  ·exact List.mem_cons_of_mem _ (k3 x hx y hy)
 ·show 0≤D.begun∧D.begun≤_∧0≤D.last∧D.last≤_;omega
 ·show (D.op.map _).length≤8;rw [List.length_map];exact h.opn
 ·obtain ⟨x,hx,e,_⟩:=old o ho;rw [e];exact h.ops x hx
theorem Good.shut(h:Good t D)(n:Int):Good (t+1) (shutP D n):=by obtain ⟨K,k1,k2,k3⟩:=h.keys;have mem:∀ y∈(shutP D n).op,y∈D.op:=fun y hy=>(List.mem_filter.1 hy).1;have hn:=h.nums;exact ⟨h.dim,h.vers,fun o ho=>h.wvers o (mem o ho),h.ne,⟨K,by omega,k2,fun o ho=>k3 o (mem o ho)⟩,fun k=>by have:=h.vlen k;show (vsOf D.all k).vs.length≤_;omega,by show 0≤D.begun∧D.begun≤_∧0≤D.last∧D.last≤_;omega,Nat.le_trans (List.length_filter_le _ _) h.opn,fun o ho=>h.ops o (mem o ho)⟩
theorem Good.commit(h:Good t D){o:PTx}(ho:o∈D.op){all':List (Int×Vs)}(hk:KeysOf D o all' 0)
  (hall:∀ j,(vsOf all' j).vs=(vsOf D.all j).vs++(match lkV o.wr j with
   | some v=>[{ v with at_:=D.last+1 }]
   | none=>[])) (n:Int):Good (t+1) { shutP D n with last:=D.last+1,all:=all' }:=by
 obtain ⟨K,k1,k2,k3⟩:=h.keys;have mem:∀ y∈(shutP D n).op,y∈D.op:=fun y hy=>(List.mem_filter.1 hy).1;have hn:=h.nums;refine ⟨h.dim,?_,fun o ho=>h.wvers o (mem o ho),hk.ne h.ne,⟨K,by omega,?_,fun o ho=>k3 o (mem o ho)⟩,?_,by show 0≤D.begun∧D.begun≤_∧0≤D.last+1∧D.last+1≤_;omega,Nat.le_trans (List.length_filter_le _ _) h.opn,fun o ho=>h.ops o (mem o ho)⟩
 ·intro k v hv;have hv':v∈(vsOf all' k).vs:=hv;rw [hall k] at hv';rcases List.mem_append.1 hv' with hv'|hv'
  ·exact h.vers k v hv'
  ·cases hl:lkV o.wr k with
   | none=>rw [hl] at hv';simp at hv'
   | some u=>
    rw [hl] at hv';simp at hv';subst hv';exact h.wvers o ho (k,u) (wlkV_some hl)
 ·intro y hy;rcases hk.mem y hy with h9|h9
  ·obtain ⟨z,hz,e⟩:=List.mem_map.1 h9;rw [←e];exact k2 z hz
  ·obtain ⟨z,hz,e⟩:=List.mem_map.1 h9;rw [←e];exact k3 o ho z hz
 ·intro k;show (vsOf all' k).vs.length≤_;rw [hall k,List.length_append];have:=h.vlen k;cases lkV o.wr k<;>simp<;>omega
theorem lastL_sub{vs:List Ver}{v:Ver}(h:v∈lastL vs):v∈vs:=List.mem_of_mem_drop h
theorem Good.vac(h:Good t D)(hd:(D.all.map (·.1)).Nodup){all':List (Int×Vs)}(he:all'.map (·.1)=D.all.map (·.1))(hv:∀ j,(vsOf all' j).vs=lastL (vsOf D.all j).vs):Good (t+1) { D with all:=all' }:=by
 obtain ⟨K,k1,k2,k3⟩:=h.keys;have hn:=h.nums;refine ⟨h.dim,fun k v hm=>?_,h.wvers,?_,⟨K,by omega,?_,k3⟩,fun k=>?_,by show 0≤D.begun∧D.begun≤_∧0≤D.last∧D.last≤_;omega,h.opn,h.ops⟩
 ·have hm':v∈(vsOf all' k).vs:=hm;rw [hv k] at hm';exact h.vers k v (lastL_sub hm')
 ·intro x hx e;have hx1:x.1∈D.all.map (·.1):=by rw [←he];exact List.mem_map.2 ⟨x,hx,rfl⟩
  obtain ⟨y,hy,hyx⟩:=List.mem_map.1 hx1;have e1:vsOf all' x.1=x.2:=vsOf_of_mem (by rw [he];exact hd) hx;have e2:vsOf D.all y.1=y.2:=vsOf_of_mem hd hy;have h3:=hv x.1;rw [e1,e,←hyx,e2] at h3;have h4:=h.ne y hy;have h5:=congrArg List.length h3;unfold lastL at h5;have:=List.length_pos_iff.2 h4;simp at h5;omega
 ·intro x hx;have hx1:x.1∈D.all.map (·.1):=by rw [←he];exact List.mem_map.2 ⟨x,hx,rfl⟩
  obtain ⟨y,hy,hyx⟩:=List.mem_map.1 hx1;rw [←hyx];exact k2 y hy
 ·show (vsOf all' k).vs.length≤_;rw [hv k];have:=h.vlen k;unfold lastL;simp;omega
end
/-! ### requests as reading makes them -/
theorem in32_of{xs:List Int}(h:∀ z∈xs,-2147483648≤z∧z<2147483648):vc.In32 xs:=fun i=>by
 cases hx:xs[i]? with
 | none=>simp
 | some z=>have:=h z (List.mem_of_getElem? hx);simp;omega
theorem or7:∀ a b:Fin 8,0≤bits .or .i64 (a.val:Int) (b.val:Int)∧bits .or .i64 (a.val:Int) (b.val:Int)≤7:=by decide
theorem or_bd{a b:Int}(h1:0≤a∧a≤7)(h2:0≤b∧b≤7):0≤bits .or .i64 a b∧bits .or .i64 a b≤7:=by
 have h:=or7 ⟨a.toNat,by omega⟩ ⟨b.toNat,by omega⟩;simp only at h
 rwa [show ((a.toNat:Nat):Int)=a by omega,show ((b.toNat:Nat):Int)=b by omega] at h
theorem markL_bd(k:Int)(l:List Nat):∀ m:Int,0≤m∧m≤7→0≤l.foldl (fun m x=>bits .or .i64 m (quantG x k).2.1) m∧l.foldl (fun m x=>bits .or .i64 m (quantG x k).2.1) m≤7:=by
 induction l with
 | nil=>intro m h;exact h
 | cons x l ih=>
  intro m h;rw [List.foldl_cons];have:=quantG_wf x k;exact ih _ (or_bd h (by omega))
theorem firstBad_bd{k:Int}:∀ {l:List Nat} {i:Nat} {e:Int},firstBad k l=some (i,e)→i<l.length∧0≤e∧e≤10
 | [],_,_,h=>by simp [firstBad] at h
 | x :: l,i,e,h=>by
  unfold firstBad at h;have hx:=quantG_wf x k;by_cases h0:(quantG x k).2.2=0
  ·rw [if_pos h0,Option.map_eq_some_iff] at h;obtain ⟨⟨j,f⟩,h1,h2⟩:=h;simp only [Prod.mk.injEq] at h2;obtain ⟨rfl,rfl⟩:=h2;have:=firstBad_bd h1;simp only [List.length_cons];omega
  ·rw [if_neg h0] at h;simp only [Option.some.injEq,Prod.mk.injEq] at h;obtain ⟨rfl,rfl⟩:=h;simp only [List.length_cons];omega
theorem quF_gd(c:Qc):(∀ z∈(quF c).1,-2147483648≤z∧z<2147483648)∧0≤(quF c).2.1∧(quF c).2.1≤7∧0≤(quF c).2.2.2∧(quF c).2.2.2≤10∧0≤(quF c).2.2.1∧(quF c).2.2.1<4096:=by
 unfold quF allG;by_cases h1:c.sc < -64∨64<c.sc
 ·rw [if_pos h1];simp
 rw [if_neg h1];by_cases h2:(c.fl.map Int.toNat).length=0∨4096<(c.fl.map Int.toNat).length
 ·rw [if_pos h2];simp
 rw [if_neg h2];cases h3:firstBad c.sc (c.fl.map Int.toNat) with
 | none=>
  refine ⟨fun z hz=>?_,?_,?_,by simp,by simp,by simp,by simp⟩
  ·obtain ⟨y,_,rfl⟩:=List.mem_map.1 hz;have:=quantG_wf y c.sc;omega
  ·exact (markL_bd c.sc _ 0 (by omega)).1
  ·exact (markL_bd c.sc _ 0 (by omega)).2
 | some p=>
  obtain ⟨i,e⟩:=p;have:=firstBad_bd h3;refine ⟨by simp,by simp,by simp,?_,?_,?_,?_⟩<;>simp only<;>omega
end Go.Proofs.YtcgmgdjeamidlaaGreat
