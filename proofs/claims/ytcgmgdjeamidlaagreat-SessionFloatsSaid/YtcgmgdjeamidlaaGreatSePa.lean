/- Texts of one proof, joined. -/
import Derived.Test.YtcgmgdjeamidlaaGreatPlKn
import Derived.Test.YtcgmgdjeamidlaaGreatMg22
import Derived.Test.YtcgmgdjeamidlaaGreatMg28
namespace Go.Proofs.YtcgmgdjeamidlaaGreat
set_option maxRecDepth 100000
set_option maxHeartbeats 16000000
open Go.RowKit Go.ChangeShapes Go.WideShapes Go.ChangeAt Go.Proofs.Tryz
set_option linter.unusedVariables false
set_option linter.unusedSimpArgs false
abbrev VK:=Int×Bool×Int×List Int×List Int
def vK(v:Ver):VK:=(v.at_,v.gone,v.key,v.vec.xs,v.tag.xs)
abbrev OK3:=Int×Int×List (Int×VK)
def wK(l:List (Int×Ver)):List (Int×VK):=l.map fun y=>(y.1,vK y.2)
def oK(o:PTx):OK3:=(o.n,o.start,wK o.wr)
structure Sim(D E:PDB):Prop where
 dim:D.dim=E.dim
 begun:D.begun=E.begun
 last:D.last=E.last
 vers:∀ k,(vsOf D.all k).vs.map vK=(vsOf E.all k).vs.map vK
 op:D.op.map oK=E.op.map oK
theorem Sim.refl(D:PDB):Sim D D:=⟨rfl,rfl,rfl,fun _=>rfl,rfl⟩
theorem Sim.symm{D E:PDB}(h:Sim D E):Sim E D:=⟨h.dim.symm,h.begun.symm,h.last.symm,fun k=>(h.vers k).symm,h.op.symm⟩
theorem find_map{α β:Type}(f:α→β)(p:β→Bool)(l:List α):(l.map f).find? p=(l.find? fun x=>p (f x)).map f:=by rw [List.find?_map];rfl
theorem findK{D E:PDB}(h:Sim D E)(n:Int):(findP n D.op).map oK=(findP n E.op).map oK:=by
 have e:∀ l:List PTx,(findP n l).map oK=(l.map oK).find? fun x=>decide (x.1=n):=fun l=>by rw [find_map];rfl
 rw [e,e,h.op]
theorem Sim.find_none{D E:PDB}(h:Sim D E){n:Int}(ho:findP n D.op=none):findP n E.op=none:=by
 have:=findK h n;rw [ho] at this;cases hx:findP n E.op with
 | none=>rfl
 | some o=>rw [hx] at this;cases this
theorem Sim.find_some{D E:PDB}(h:Sim D E){n:Int}{o:PTx}(ho:findP n D.op=some o):∃ o',findP n E.op=some o'∧oK o=oK o':=by
 have:=findK h n;rw [ho] at this;cases hx:findP n E.op with
 | none=>rw [hx] at this;cases this
 | some o'=>rw [hx] at this;exact ⟨o',rfl,Option.some.inj this⟩
theorem lkK{l m:List (Int×Ver)}(h:wK l=wK m)(k:Int):(lkV l k).map vK=(lkV m k).map vK:=by
 have e:∀ l:List (Int×Ver),(lkV l k).map vK=((wK l).find? fun x=>decide (x.1=k)).map (·.2):=fun l=>by unfold lkV wK;rw [find_map,Option.map_map,Option.map_map];rfl
 rw [e,e,h]
theorem asofK{l m:List Ver}(h:l.map vK=m.map vK)(a:Int):(asofL l a).map vK=(asofL m a).map vK:=by
 have e:∀ l:List Ver,(asofL l a).map vK=(l.map vK).reverse.find? fun x=>decide (x.1≤a):=fun l=>by rw [←List.map_reverse,find_map];rfl
 rw [e,e,h]
def visK:Option VK→Option Rc
 | some v=>if v.2.1 then none else some (v.2.2.1,v.2.2.2.1,v.2.2.2.2)
 | none=>none
theorem visC_K(r:Option Ver):visC r=visK (r.map vK):=by cases r<;>rfl
theorem seesK{D E:PDB}(h:Sim D E){o o':PTx}(ho:oK o=oK o')(k:Int):(seesR D o k).map vK=(seesR E o' k).map vK:=by
 unfold oK at ho;simp only [Prod.mk.injEq] at ho;obtain ⟨_,h2,h3⟩:=ho;have h4:=lkK h3 k;unfold seesR;cases h5:lkV o.wr k with
 | some v=>
  rw [h5] at h4;cases h6:lkV o'.wr k with
  | none=>rw [h6] at h4;cases h4
  | some v'=>rw [h6] at h4;exact h4
 | none=>
  rw [h5] at h4;cases h6:lkV o'.wr k with
  | some v'=>rw [h6] at h4;cases h4
  | none=>show (asofL _ o.start).map vK=(asofL _ o'.start).map vK;rw [h2];exact asofK (h.vers k) _
theorem Sim.vis{D E:PDB}(h:Sim D E){o o':PTx}(ho:oK o=oK o')(k:Int):visC (seesR D o k)=visC (seesR E o' k):=by rw [visC_K,visC_K,seesK h ho k]
/-! ### what the calls do -/
theorem Sim.opened{D E:PDB}(h:Sim D E)(a b c d:Nat):Sim (beginP D a b) (beginP E c d):=by refine ⟨h.dim,by show D.begun+1=E.begun+1;rw [h.begun],h.last,h.vers,?_⟩;show (D.op++_).map oK=(E.op++_).map oK;rw [List.map_append,List.map_append,h.op];show _++[(D.begun+1,D.last,[])]=_++[(E.begun+1,E.last,[])];rw [h.begun,h.last]
theorem wK_upV{l m:List (Int×Ver)}(h:wK l=wK m)(k:Int){v v':Ver}(hv:vK v=vK v'):wK (upV k v l)=wK (upV k v' m):=by
 induction l generalizing m with
 | nil=>
  cases m with
  | nil=>simp [wK,upV,hv]
  | cons y m=>simp [wK] at h
 | cons x l ih=>
  cases m with
  | nil=>simp [wK] at h
  | cons y m=>
   simp only [wK,List.map_cons,List.cons.injEq,Prod.mk.injEq] at h;obtain ⟨⟨h1,h2⟩,h3⟩:=h;unfold upV;rw [h1];by_cases e:k=y.1
   ·rw [if_pos e,if_pos e];simp only [wK,List.map_cons,hv];exact congrArg _ h3
   ·rw [if_neg e,if_neg e];have:=ih h3;simp only [wK,List.map_cons] at this ⊢;rw [this,h1,h2]
theorem Sim.wrote{D E:PDB}(h:Sim D E)(n k:Int){v v':Ver}(hv:vK v=vK v'):Sim (wroteP D n k v) (wroteP E n k v'):=by
 refine ⟨h.dim,h.begun,h.last,h.vers,?_⟩;have:=h.op;show (D.op.map _).map oK=(E.op.map _).map oK
 revert this
 generalize D.op=l;generalize E.op=m;intro hl;induction l generalizing m with
 | nil=>
  cases m with
  | nil=>rfl
  | cons y m=>simp at hl
 | cons x l ih=>
  cases m with
  | nil=>simp at hl
  | cons y m=>
   simp only [List.map_cons,List.cons.injEq] at hl;simp only [List.map_cons];rw [ih m hl.2];congr 1;have h1:=hl.1;unfold oK at h1 ⊢;simp only [Prod.mk.injEq] at h1;obtain ⟨a1,a2,a3⟩:=h1;rw [a1];by_cases e:y.n=n
   ·rw [if_pos e,if_pos e];show (y.n,x.start,wK (upV k v x.wr))=(y.n,y.start,wK (upV k v' y.wr));rw [a2,wK_upV a3 k hv]
   ·rw [if_neg e,if_neg e,a1,a2,a3]
theorem Sim.shut{D E:PDB}(h:Sim D E)(n:Int):Sim (shutP D n) (shutP E n):=by
 refine ⟨h.dim,h.begun,h.last,h.vers,?_⟩;have e:∀ l:List PTx,(l.filter fun o=>!decide (o.n=n)).map oK=(l.map oK).filter fun x=>!decide (x.1=n):=fun l=>by rw [List.filter_map];rfl
 show (D.op.filter _).map oK=(E.op.filter _).map oK;rw [e,e,h.op]
theorem Sim.vac{D E:PDB}(h:Sim D E){a b:List (Int×Vs)}(ha:∀ j,(vsOf a j).vs=lastL (vsOf D.all j).vs)(hb:∀ j,(vsOf b j).vs=lastL (vsOf E.all j).vs):Sim { D with all:=a } { E with all:=b }:=by
 refine ⟨h.dim,h.begun,h.last,fun k=>?_,h.op⟩;show (vsOf a k).vs.map vK=(vsOf b k).vs.map vK;rw [ha,hb];unfold lastL;have h1:=h.vers k;have h2:(vsOf D.all k).vs.length=(vsOf E.all k).vs.length:=by simpa using congrArg List.length h1
 rw [List.map_drop,List.map_drop,h1,h2]
theorem clashK{D E:PDB}(h:Sim D E){o o':PTx}(ho:oK o=oK o')(hc:ClashP D o):ClashP E o':=by
 unfold oK at ho;simp only [Prod.mk.injEq] at ho;obtain ⟨_,h2,h3⟩:=ho;obtain ⟨y,hy,v,hv,hs⟩:=hc;have:(y.1,vK y.2)∈wK o'.wr:=by rw [←h3];exact List.mem_map.2 ⟨y,hy,rfl⟩
 obtain ⟨z,hz,e⟩:=List.mem_map.1 this;simp only [Prod.mk.injEq] at e;refine ⟨z,hz,?_⟩;have h4:=congrArg List.getLast? (h.vers y.1);rw [List.getLast?_map,List.getLast?_map,hv] at h4;rw [e.1];cases hl:(vsOf E.all y.1).vs.getLast? with
 | none=>rw [hl] at h4;cases h4
 | some v'=>
  rw [hl] at h4;have h5:=Option.some.inj h4;simp only [vK,Prod.mk.injEq] at h5;exact ⟨v',hl,by rw [←h2,←h5.1];exact hs⟩
theorem Sim.clash{D E:PDB}(h:Sim D E){o o':PTx}(ho:oK o=oK o'):ClashP D o↔ClashP E o':=⟨clashK h ho,clashK h.symm ho.symm⟩
theorem Sim.commit{D E:PDB}(h:Sim D E){o o':PTx}(ho:oK o=oK o'){a b:List (Int×Vs)}
  (ha:∀ j,(vsOf a j).vs=(vsOf D.all j).vs++(match lkV o.wr j with
   | some v=>[{ v with at_:=D.last+1 }]
   | none=>[]))
  (hb:∀ j,(vsOf b j).vs=(vsOf E.all j).vs++(match lkV o'.wr j with
   | some v=>[{ v with at_:=E.last+1 }]
   | none=>[])):Sim { shutP D o.n with last:=D.last+1,all:=a } { shutP E o'.n with last:=E.last+1,all:=b }:=by
 have hn:o.n=o'.n:=congrArg (·.1) ho;refine ⟨h.dim,h.begun,by show D.last+1=E.last+1;rw [h.last],fun k=>?_,by rw [hn];exact (h.shut o'.n).op⟩;show (vsOf a k).vs.map vK=(vsOf b k).vs.map vK;rw [ha,hb,List.map_append,List.map_append,h.vers k];congr 1;have h4:=lkK (congrArg (·.2.2) ho:wK o.wr=wK o'.wr) k;cases h5:lkV o.wr k with
 | none=>
  rw [h5] at h4;cases h6:lkV o'.wr k with
  | none=>rfl
  | some v'=>rw [h6] at h4;cases h4
 | some v=>
  rw [h5] at h4;cases h6:lkV o'.wr k with
  | none=>rw [h6] at h4;cases h4
  | some v'=>
   rw [h6] at h4;have h7:=Option.some.inj h4;simp only [vK,Prod.mk.injEq] at h7;obtain ⟨_,e2,e3,e4,e5⟩:=h7;simp only [List.map_cons,List.map_nil,vK,h.last,e2,e3,e4,e5]
end Go.Proofs.YtcgmgdjeamidlaaGreat
