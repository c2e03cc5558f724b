/- Printed small by mini.py. -/
import Derived.Test.YtcgmgdjeamidlaaGreatSrC
import Derived.Deep.Fields
import Derived.Deep.Slices
import Derived.OpenShut
namespace Go.Proofs.YtcgmgdjeamidlaaGreat
set_option maxRecDepth 100000
set_option maxHeartbeats 16000000
open Go.RowKit Go.ChangeShapes Go.WideShapes Go.ChangeAt Go.Deep Go.Joins Go.Proofs.Tryz
set_option linter.unusedVariables false
set_option linter.unusedSimpArgs false
def EvZ(lo B p g n:Nat)(x:ShX)(ys:LnS)(k:Int)(u:List Int)(Z:List Nat)(W:World)(e:Ending)(W':World):Prop:=
 ∃ v x' ys' o er Z',EvX n x ys k u x' ys' o∧e=.returned (.tuple #[v,.int .i64 er])∧W'.ownsRow W.heap.size 5 1 v o.length (o.map (Value.int .u8))∧SchZ W' lo B p g n x' ys' Z'∧Only Z W W'∧Kp Z Z' W.heap.size∧IsBy o∧∀ b,v.ownBlock=some b→b∉Z'
theorem feed_any{W:World}{lo B p g n:Nat}{x:ShX}{ys:LnS}{Z:List Nat}(h:SchZ W lo B p g n x ys Z)(hlo:lo≤W.heap.size){k:Int}{u:Sl}(hu:SlRd .u8 W u)(hub:IsBy u.xs)(hc:x.1+pend ys+u.xs.length+1<300000) :
  Calls prog 29 #[.pointer (some ⟨g,0,none⟩),.int .i64 k,u.v] W (EvZ lo B p g n x ys k u.xs Z W):=by
 have hg:=h.good;by_cases hk:k<0∨(n:Int)≤k
 ·have h2:=h;obtain ⟨l,cs,sb,tb,F,SF,a,_⟩:=h2;refine (feed_off (er:=16) (u:=u) a.rg a.rl a.n8 (.inl ⟨hk,rfl⟩)).mono ?_;rintro e w' ⟨rfl,hb⟩;have k0:Only [] W w':=(Ω [] W).below hb;exact ⟨_,x,ys,[],16,Z,.inl ⟨hk,rfl,rfl,rfl⟩,rfl,World.ownsRow_nil _ _ _ _,h.only k0 (by simp),k0.mono (by simp),fun b hb=>.inl hb,IsBy.nil,fun b hb=>by simp [Value.ownBlock] at hb⟩
 ·obtain ⟨m,rfl⟩:∃ m:Nat,k=m:=⟨k.toNat,by omega⟩;have hm:m<n:=by omega
  obtain ⟨⟨q1,q2⟩,hq⟩:∃ q,ys[m]? = some q:=⟨_,List.getElem?_eq_getElem (by omega)⟩;have hp:=pend_le hq;simp only at hp;by_cases h0:q2=0
  ·subst h0;refine (feed_z h hlo hq hu hub (by omega) (by rw [List.length_append];omega)).mono ?_;rintro e w' ⟨v,x',q',o,er,Z',hX,rfl,ho,hs,hO,hkp,hob⟩;exact ⟨v,x',_,o,er,Z',.inr ⟨m,_,rfl,hm,hq,.inr ⟨rfl,q',er,hX,rfl⟩⟩,rfl,ho,hs,hO,hkp,hob⟩
  ·have h2:=h;obtain ⟨l,cs,sb,tb,F,SF,a,_⟩:=h2;have hl:=a.ls;obtain ⟨st,hst⟩:∃ st,tb[m]? = some st:=⟨_,List.getElem?_eq_getElem (by omega)⟩;obtain ⟨S0,hS0⟩:∃ S0,SF[m]? = some S0:=⟨_,List.getElem?_eq_getElem (by omega)⟩;refine (feed_off (er:=q2) (u:=u) a.rg a.rl a.n8 (.inr ⟨m,st,q1,S0,rfl,hm,a.c1 m st hst,a.strm m st _ S0 hst hq hS0,h0⟩)).mono ?_;rintro e w' ⟨rfl,hb⟩;have k0:Only [] W w':=(Ω [] W).below hb;exact ⟨_,x,ys,[],q2,Z,.inr ⟨m,_,rfl,hm,hq,.inl ⟨h0,rfl,rfl,rfl⟩⟩,rfl,World.ownsRow_nil _ _ _ _,h.only k0 (by simp),k0.mono (by simp),fun b hb=>.inl hb,IsBy.nil,fun b hb=>by simp [Value.ownBlock] at hb⟩
abbrev tEv:TypeId:=85
structure EvS where
 k:Int
 b:Sl
instance EvS.inh:Inhabited EvS:=⟨⟨0,Sl.no⟩⟩
def EvS.e(x:EvS):Int×List Int:=(x.k,x.b.xs)
structure EvAt(w:World)(b o:Nat)(x:EvS):Prop where
 row:∃ zs,IsRow .u8 w x.b.a x.b.xs.length x.b.c zs∧x.b.xs=zs.take x.b.xs.length
 c0:w.cell? ⟨b,o,none⟩=some (.int .i64 x.k)
 c1:w.cell? ⟨b,o+1,none⟩=some x.b.v
 len:x.b.xs.length≤140737488351232
def EvsIn(w:World)(a:Option Addr)(n:Nat)(es:List EvS):Prop:=es.length=n∧n≤9223372036854775807∧(n=0∨∃ b off,a=some ⟨b,off,none⟩∧∀ i x,es[i]? = some x→EvAt w b (off+i * 2) x)
section
variable {H:Type} {enc:TypeId×Value→H} {W:World}
theorem open_by{fuel:Nat}{v:Value}{x:DataW H×List MemPlace}(h:DataW.trod enc prog W 0 (fun _=>true) true fuel 30 [v]=some x):∃ s:Sl,v=s.v∧(∃ zs,IsRow .u8 W s.a s.xs.length s.c zs∧s.xs=zs.take s.xs.length)∧((∀ N∈x.1.weights prog 30,N≤reachBytes)→s.xs.length≤140737488351232):=by
 rcases open_ints underlying30 underlying5 (by kernel_rfl) h with ⟨hcs,_⟩|⟨a,l,c,zs,hcs,_,hl,hm,hz,hx,hcell,hwz⟩
 ·simp only [List.cons.injEq,and_true] at hcs;exact ⟨Sl.no,hcs,⟨[],.inl ⟨rfl,rfl,rfl,rfl⟩,rfl⟩,fun _=>by simp [Sl.no]⟩
 ·simp only [List.cons.injEq,and_true] at hcs;have hz':zs.length=c:=by simpa using hz
  have hlen:(zs.take l).length=l:=by simp;omega
  refine ⟨⟨some a,c,zs.take l⟩,by rw [hcs];simp [Sl.v,hlen],⟨zs,.inr ⟨a,rfl,by simp only [hlen];exact hl,hm,hz',hcell,hwz⟩,by simp only [hlen]⟩,fun hw=>?_⟩;have hb:prog.bytesOf 5 = 1:=by kernel_rfl
  have h1:=hw ((lits .u8 (zs.take l)).length+(lits .u8 (zs.drop l)).length) (by rw [hx];simp only [DataW.weights,underlying30,hb,Nat.mul_one];exact List.mem_cons.2 (.inl rfl));simp only [lits,List.length_map,List.length_take,List.length_drop,reachBytes] at h1;show (zs.take l).length≤_;omega
theorem wAll_mem{P:Program}{e:TypeId}:∀ {l:List (DataW H)} {d:DataW H},d∈l→∀ n∈d.weights P e,n∈DataW.weightsAll P e l
 | d' :: r,d,hd,n,hn=>by
  simp only [DataW.weightsAll,List.mem_append];rcases List.mem_cons.1 hd with rfl|h
  ·exact .inl hn
  ·exact .inr (wAll_mem h n hn)
theorem evs_in{fuel:Nat}{a:Option Addr}{n c:Nat}{x:DataW H×List MemPlace}(h:DataW.trod enc prog W 0 (fun _=>true) true fuel 76 [.slice a n c]=some x)(hw:∀ N∈x.1.weights prog 76,N≤reachBytes) :
  ∃ es,EvsIn W a n es:=by
 have ce:prog.cellsOf tEv=2:=by kernel_rfl
 have c1:prog.cellsOf 3 = 1:=by kernel_rfl
 have c5:prog.cellsOf 30 = 1:=by kernel_rfl
 rcases open_slice underlying76 h with ⟨hcs,_⟩|⟨ad,len,cap,m,k,D,Pl,hcs,_,hl,hm,hmm,hxx,hx⟩
 ·simp at hcs;obtain ⟨rfl,rfl,rfl⟩:=hcs;exact ⟨[],rfl,by omega,.inl rfl⟩
 ·simp at hcs;obtain ⟨rfl,rfl,rfl⟩:=hcs;simp only [if_true] at hmm;subst hmm;unfold maxLen at hm;by_cases h0:n=0
  ·exact ⟨[],h0 ▸ rfl,by omega,.inl h0⟩
  have hD:∀ i,i<n→∀ N∈(D i).weights prog tEv,N≤reachBytes:=fun i hi N hN=>hw N (by rw [hxx];simp only [DataW.weights,underlying76,List.mem_cons,List.mem_append];exact .inr (.inl (wAll_mem (List.mem_map.2 ⟨i,List.mem_range.2 hi,rfl⟩) N hN)))
  have each:∀ i,i<n→∃ x:EvS,(∃ zs,IsRow .u8 W x.b.a x.b.xs.length x.b.c zs∧x.b.xs=zs.take x.b.xs.length)∧W.cell? (ad.add (i * 2))=some (.int .i64 x.k)∧W.cell? (ad.add (i * 2+1))=some x.b.v∧x.b.xs.length≤140737488351232:=by
   intro i hi;obtain ⟨cs',h1,h2⟩:=hx i (by omega);rw [ce] at h1;obtain ⟨_,hlen,hcell⟩:=World.cells?_some h1;obtain ⟨xs,k2,_,hxD,_,hxl,hf⟩:=DataW.trod_struct underlying85 h2;have hxl':xs.length=2:=hxl;obtain ⟨v0,v1,rfl⟩:∃ v0 v1,cs'=[v0,v1]:=by rcases cs' with _|⟨v0,_|⟨v1,_|⟨v2,r⟩⟩⟩<;>simp at hlen;exact ⟨v0,v1,rfl⟩
   obtain ⟨x0,x1,rfl⟩:∃ x0 x1,xs=[x0,x1]:=by rcases xs with _|⟨x0,_|⟨x1,_|⟨x2,r⟩⟩⟩<;>simp at hxl';exact ⟨x0,x1,rfl⟩
   have t0:DataW.trod enc prog W 0 (fun _=>true) true k2 3 (([v0,v1].drop 0).take (prog.cellsOf 3))=some x0:=hf 0 _ rfl;have t1:DataW.trod enc prog W 0 (fun _=>true) true k2 30 (([v0,v1].drop 1).take (prog.cellsOf 30))=some x1:=hf 1 _ rfl;simp only [c1,c5,List.drop_succ_cons,List.drop_zero,List.take_succ_cons,List.take_zero] at t0 t1;obtain ⟨p0,r0,_,f0⟩:=DataW.trod_int underlying3 t0;obtain ⟨s1,e1,g1,g2⟩:=open_by t1;simp only [List.cons.injEq,and_true] at r0;have q0:=hcell 0 (by omega);have q1:=hcell 1 (by omega);rw [add_add] at q0 q1;simp only [List.getElem?_cons_zero,List.getElem?_cons_succ] at q0 q1;have hDi:D i=.agg [x0.1,x1.1]:=by simpa using (Prod.mk.inj hxD).1
   refine ⟨⟨p0,s1⟩,g1,by rw [←r0];exact q0,by rw [←e1];exact q1,g2 fun N hN=>hD i hi N ?_⟩;rw [hDi];simp only [DataW.weights,underlying85];exact DataW.weights_mem_each (j:=1) (t:=30) rfl rfl N hN
  obtain ⟨f,hf⟩:=choose_lt each;obtain ⟨b,off,path⟩:=ad;have hp:path=none:=by have:=World.cell?_spot (hf 0 (by omega)).2.1;simpa [Addr.add] using this
  subst hp;refine ⟨(List.range n).map f,by simp,by omega,.inr ⟨b,off,rfl,fun i x hx=>?_⟩⟩;have hi:i<n:=by have:=(List.getElem?_eq_some_iff.1 hx).1;simpa using this
  rw [List.getElem?_map,List.getElem?_range hi] at hx;simp only [Option.map_some,Option.some.injEq] at hx;subst hx;obtain ⟨h1,h2,h3,h4⟩:=hf i (by omega);rw [add_plain] at h2 h3;exact ⟨h1,h2,h3,h4⟩
end
end Go.Proofs.YtcgmgdjeamidlaaGreat
