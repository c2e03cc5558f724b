/- Printed small by mini.py. -/
import Derived.Test.YtcgmgdjeamidlaaGreatSrD
namespace Go.Proofs.YtcgmgdjeamidlaaGreat
set_option maxRecDepth 100000
set_option maxHeartbeats 16000000
open Go.RowKit Go.ChangeShapes Go.WideShapes Go.ChangeAt Go.Deep Go.Joins Go.Proofs.Tryz
set_option linter.unusedVariables false
set_option linter.unusedSimpArgs false
set_option maxHeartbeats 4000000
def EvsRd(L:Nat)(w:World)(a:Option Addr)(n:Nat)(es:List EvS):Prop:=es.length=n∧(n=0∨∃ b off,a=some ⟨b,off,none⟩∧b<L∧∀ i x,es[i]? = some x→SlRd .u8 w x.b∧(x.b.xs≠[]→∀ c∈x.b.bs,c<L)∧IsBy x.b.xs∧w.cell? ⟨b,off+i * 2,none⟩=some (.int .i64 x.k)∧w.cell? ⟨b,off+i * 2+1,none⟩=some x.b.v)
theorem EvsRd.only{L:Nat}{w w':World}{a:Option Addr}{n:Nat}{es:List EvS}{G:List Nat}(h:EvsRd L w a n es)(k:Only G w w')(hG:∀ b∈G,L≤b):EvsRd L w' a n es:=by
 obtain ⟨h1,h2⟩:=h;refine ⟨h1,h2.imp id ?_⟩;rintro ⟨b,off,e,hb,h⟩;refine ⟨b,off,e,hb,fun i x hx=>?_⟩;obtain ⟨a1,a2,a3,a4,a5⟩:=h i x hx;have nb:b∉G:=fun hm=>by have:=hG b hm;omega
 exact ⟨a1.only k fun hn c hc hm=>by have:=a2 hn c hc;have:=hG c hm;omega,a2,a3,by rw [k.cell (World.block_lt_of_cell? w _ a4) nb];exact a4,by rw [k.cell (World.block_lt_of_cell? w _ a5) nb];exact a5⟩
def lens(es:List EvS):Nat:=(es.map fun e=>e.b.xs.length).sum
theorem lens_at:∀ {es:List EvS} {j:Nat} {x:EvS},es[j]? = some x→lens (es.take j)+x.b.xs.length≤lens es
 | [],j,x,h=>by simp at h
 | y :: es,0,x,h=>by simp at h;subst h;simp [lens]
 | y :: es,j+1,x,h=>by have ih:=lens_at (es:=es) (j:=j) (x:=x) (by simpa using h);simp [lens] at ih ⊢;omega
theorem EvsX.count{n:Nat}{x x1:ShX}{ys ys1:LnS}{es:List (Int×List Int)}{os:List (List Int)}(h:EvsX n x ys es x1 ys1 os):x1.1+pend ys1≤x.1+pend ys+(es.map fun e=>e.2.length).sum+es.length:=by
 induction h with
 | nil=>simp
 | cons _ _ _ _ _ _ _ _ _ _ _ h _ ih=>
  have:=h.count;simp at ih ⊢;omega
theorem lens_e(es:List EvS):((es.map EvS.e).map fun e=>e.2.length).sum=lens es:=by simp [lens,EvS.e,Function.comp_def]
structure RnM(lo B p g n:Nat)(x0:ShX)(ys0:LnS)(Z0:List Nat)(es:List EvS)(W0:World)(ob j:Nat)(x:ShX)(ys:LnS)(os:List (List Int))(cs:Array Value)(Z:List Nat)(W:World):Prop where
 s:SchZ W lo B p g n x ys Z
 run:EvsX n x0 ys0 ((es.take j).map EvS.e) x ys os
 row:Row W ob cs tBs
 size:cs.size=es.length
 told:∀ (i:Nat) (o:List Int),os[i]? = some o→∃ v,cs[i]? = some v∧W.ownsRow W0.heap.size 5 1 v o.length (o.map (Value.int .u8))∧∀ b,v.ownBlock=some b→b∉Z∧b≠ob
 ob:ob∉Z∧W0.heap.size≤ob
 only:Only Z0 W0 W
 kp:Kp Z0 Z W0.heap.size
theorem RnM.step{lo B p g n:Nat}{x0:ShX}{ys0:LnS}{Z0:List Nat}{es:List EvS}{W0:World}{ob j:Nat}{x:ShX}{ys:LnS}{os:List (List Int)}{cs:Array Value}{Z:List Nat}{W:World}(h:RnM lo B p g n x0 ys0 Z0 es W0 ob j x ys os cs Z W){ev:EvS}(hj:es[j]? = some ev){W1 W2:World}(k1:Only [] W W1){v:Value}{x':ShX}{ys':LnS}{o:List Int}{Z':List Nat}
  (hE:EvX n x ys ev.k ev.b.xs x' ys' o) (ho:W2.ownsRow W1.heap.size 5 1 v o.length (o.map (Value.int .u8))) (hs:SchZ W2 lo B p g n x' ys' Z') (hO:Only Z W1 W2) (hkp:Kp Z Z' W1.heap.size) (hof:∀ b,v.ownBlock=some b→b∉Z') :
  RnM lo B p g n x0 ys0 Z0 es W0 ob (j+1) x' ys' (os++[o]) (cs.setIfInBounds j v) Z' (W2.setCell ⟨ob,j,none⟩ v):=by
 have z1:=k1.size;have z2:=hO.size;have z0:=h.only.size;have lob:=h.row.lt;have hob:=h.ob;have hjl:=(List.getElem?_eq_some_iff.1 hj).1;have k3:Only [ob] W2 (W2.setCell ⟨ob,j,none⟩ v):=(Ω _ W2).setCell (.inl (by simp)) _;have hl:os.length=j:=by have:=h.run.len;simp at this;omega
 have nz:ob∉Z':=fun hm=>by
  rcases hkp ob hm with h1|h1
  ·exact hob.1 h1
  ·omega
 refine ⟨hs.only k3 fun b hb hm=>nz (by simp at hm;exact hm ▸ hb),?_,((h.row.only k1 (by simp)).only hO hob.1).set j v,by simp [h.size],fun i o' hi=>?_,⟨nz,hob.2⟩,((h.only.trans k1 (by simp)).trans hO fun b hb=>h.kp b hb).trans k3 (by intro i hi;simp at hi;right;omega),fun b hb=>?_⟩
 ·have e:es.take (j+1)=es.take j++[ev]:=by rw [List.take_add_one,hj];rfl
  rw [e,List.map_append];exact h.run.snoc hE
 ·by_cases hij:i=j
  ·subst hij;rw [←hl,List.getElem?_append_right (Θ _)] at hi;simp at hi;subst hi;refine ⟨v,by rw [Array.getElem?_setIfInBounds_self_of_lt (by rw [h.size];exact hjl)],own_keep (own_down ho (by omega)) fun b hb=>k3.block b (ho.lt b hb).2 ?_,fun b hb=>⟨hof b hb,?_⟩⟩
   ·have:=(ho.lt b hb).1;simp;omega
   ·have:=(ho.lt b hb).1;omega
  ·have hi2:os[i]? = some o':=by
    rw [List.getElem?_append] at hi;split at hi
    ·exact hi
    ·exfalso;have:=(List.getElem?_eq_some_iff.1 hi).1;simp at this;omega
   obtain ⟨v',c1,c2,c3⟩:=h.told i o' hi2;have lt:=c2.lt;refine ⟨v',by rw [Array.getElem?_setIfInBounds_ne (fun e=>hij e.symm)];exact c1,own_keep (own_keep (own_keep c2 fun b hb=>k1.block b (lt b hb).2 (by simp)) fun b hb=>hO.block b (Nat.lt_of_lt_of_le (lt b hb).2 z1) (c3 b hb).1) fun b hb=>k3.block b (Nat.lt_of_lt_of_le (lt b hb).2 (Nat.le_trans z1 z2)) (by simp;exact (c3 b hb).2),fun b hb=>⟨fun hm=>?_,(c3 b hb).2⟩⟩;rcases hkp b hm with h1|h1
   ·exact (c3 b hb).1 h1
   ·have:=(lt b hb).2;omega
 ·rcases hkp b hb with h1|h1
  ·exact h.kp b h1
  ·exact .inr (by omega)
def RunTo(lo B p g n:Nat)(x0:ShX)(ys0:LnS)(Z0:List Nat)(es:List EvS)(W0:World)(e:Ending)(W:World):Prop:=∃ ob x ys os cs Z,e=.returned (.slice (some ⟨ob,0,none⟩) es.length es.length)∧RnM lo B p g n x0 ys0 Z0 es W0 ob es.length x ys os cs Z W
theorem make_bs(n:Nat)(hn:n≤60):∀ x:World,(Instr.makeSlice 22 (.int .i64 (n:Int)) (.int .i64 (n:Int))).run prog x=.ok (.slice (some ⟨x.heap.size,0,none⟩) n n) (x.alloc (.cells (madeCells #[.slice none 0 0] n) tBs)):=fun x=>by obtain ⟨i,hi,h0,h1,h2⟩:=info_parts (show (prog.info? tBs).map (fun i=>(i.zero,i.size,i.bytes))=some (some (.slice none 0 0),1,24) by kernel_rfl);have hr:=run_make (P:=prog) x 22 tBs i _ underlying22 hi h0 .i64 .i64 n n (by omega) (by omega) (by rw [h2];omega) (by omega);simpa [Value.cells,h1] using hr
theorem run_on{W:World}{lo B p g n:Nat}{x:ShX}{ys:LnS}{Z:List Nat}(h:SchZ W lo B p g n x ys Z){a:Option Addr}{m c:Nat}{es:List EvS}(he:EvsRd lo W a m es)(hlo:lo≤W.heap.size)(hm:m≤60)(hc:x.1+pend ys+lens es+m+1<300000) :
  Calls prog 33 #[.pointer (some ⟨g,0,none⟩),.slice a m c] W (RunTo lo B p g n x ys Z es W):=by
 obtain rfl:=he.1;obtain ⟨m,hme⟩:∃ m,es.length=m:=⟨_,rfl⟩;rw [hme] at hm hc ⊢;have hn:=h.good.2.2.2;have ML:=Ξ hme;have HM:=Ξ hm;have HC:=Ξ hc;have HE:=Ξ he;have HL:=Ξ hlo;have SN:=Ξ (sessions_z h);have mk:=make_bs m hm;have dn:decide ((n:Int)=0)=false:=Λ (by omega);have dq:((n:Int) == 0)=false:=by simp;omega
 have I0:Hid (RnM lo B p g n x ys Z es W W.heap.size 0 x ys [] (madeCells #[.slice none 0 0] m) Z (W.alloc (.cells (madeCells #[.slice none 0 0] m) tBs))):=Ξ (by have k:Only [] W (W.alloc (.cells (madeCells #[.slice none 0 0] m) tBs)):=(Ω [] W).alloc _;refine ⟨h.only k (by simp),by simpa using EvsX.nil x ys,Φ W _ _,by rw [size_madeCells,hme],fun i o hi=>by simp at hi,⟨fun hm=>?_,Θ _⟩,k.mono (by simp),fun b hb=>.inl hb⟩;have:=h.lt _ hm;omega)
 have GE:=Ξ h.ge;clear h hlo hm hc he hn hme;go_enter func33,ntmps33;go_wp2_with fail;refine SN.out.mono ?_;rintro _ w2 ⟨rfl,hw⟩;subst w2;go_wp2_with fail;go_loopw [6,7,16] (fun u6 u7 u wr=>∃ j:Nat,u=.int .i64 (j:Int)∧Hid (j≤m)∧∃ x' ys' os cs Z',Hid (RnM lo B p g n x ys Z es W W.heap.size j x' ys' os cs Z' wr)) (fun _ _ u _=>m-(intOf u).toNat)
 case atStart=>exact ⟨0,rfl,Ξ (Nat.zero_le _),x,ys,[],_,Z,I0⟩
 case round=>
  clear I0;obtain ⟨j,rfl,HJ,x',ys',os,cs,Z',HI⟩:=hrel;rename World=>w3;have ej:IntKind.i64.wrap ((j:Int)+1)=((j+1:Nat):Int):=IntWalk.i64_in _ (by have:=HJ.out;have:=HM.out;omega);by_cases hlt:j<m
  ·have d1:decide ((j:Int)<(m:Int))=true:=Γ (by omega);have d1':decide (j<m)=true:=Γ hlt;have j3:(j:Int)<(m:Int):=(by omega);obtain ⟨ev,hev⟩:∃ ev,es[j]? = some ev:=⟨_,List.getElem?_eq_getElem (by have:=ML.out;omega)⟩;have HV:=Ξ hev;have HR:Hid (EvsRd lo w3 a m es):=Ξ (by have h:=HE.out.only HI.out.only fun b hb=>GE.out b hb;rw [ML.out] at h;exact h);have HX:∃ b off,a=some ⟨b,off,none⟩∧SlRd .u8 w3 ev.b∧IsBy ev.b.xs∧w3.cell? ⟨b,off+j * 2,none⟩=some (.int .i64 ev.k)∧w3.cell? ⟨b,off+j * 2+1,none⟩=some ev.b.v:=by
    rcases HR.out.2 with h0|⟨b,off,e,hb,h⟩
    ·omega
    ·obtain ⟨a1,a2,a3,a4,a5⟩:=h j ev hev;exact ⟨b,off,e,a1,a3,a4,a5⟩
   obtain ⟨b,off,rfl,hsl,hby,q0,q1⟩:=HX;have KA:Hid (Only [] w3 (w3.alloc (.cells #[.int .i64 ev.k,Value.slice ev.b.a ev.b.xs.length ev.b.c] tEv))):=Ξ ((Ω [] w3).alloc _);have r0:=Φ w3 #[.int .i64 ev.k,Value.slice ev.b.a ev.b.xs.length ev.b.c] tEv;have z0:=r0.c 0 (.int .i64 ev.k);have z1:=r0.c 1 (Value.slice ev.b.a ev.b.xs.length ev.b.c);have FD:=Ξ (feed_any (HI.out.s.only KA.out (by simp)) (Nat.le_trans HL.out (Nat.le_trans HI.out.only.size KA.out.size)) (k:=ev.k) (hsl.only KA.out (by simp)) hby (by have h1:=HI.out.run.count;rw [lens_e] at h1;have h2:=lens_at hev;have h3:=HC.out;simp at h1;have:=ML.out;omega))
   unfold Sl.v at FD q1;have J1:Hid (j+1≤m):=Ξ hlt;obtain ⟨qv,hq⟩:∃ q,cs[j]? = some q:=⟨_,Array.getElem?_eq_getElem (by rw [HI.out.size,ML.out];exact hlt)⟩;have HQ:=Ξ hq;clear r0 hsl hby hlt hev hq;go_wp2_with fail;refine FD.out.mono ?_;rintro e w4 ⟨v,x2,ys2,o,er,Z2,hE,rfl,ho,hs,hO,hkp,hob,hof⟩;have N:=Ξ (HI.out.step HV.out KA.out hE ho hs hO hkp hof);obtain ⟨pa,pc,rfl,_,_⟩:=own_shape ho;have r4:Row w4 W.heap.size cs tBs:=(HI.out.row.only KA.out (by simp)).only hO HI.out.ob.1;have c4:w4.cell? ⟨W.heap.size,j,none⟩=some qv:=(r4.cell j).trans HQ.out;have f4:=r4.free j;clear r4 hE ho hs hO hkp hob hof FD q0 q1 z0 z1;go_wp2_with fail;go_roundw;case rel=>exact ⟨j+1,by go_num,J1,_,_,_,_,_,N⟩
   case measure=>have:=J1.out;simp [intOf];omega
  ·have d1:decide ((j:Int)<(m:Int))=false:=Λ (by omega);have d1':decide (j<m)=false:=Λ hlt;obtain rfl:j=m:=by have:=HJ.out;omega
   have N:Hid (RunTo lo B p g n x ys Z es W (.returned (.slice (some ⟨W.heap.size,0,none⟩) j j)) w3):=Ξ (by have h:=ML.out;subst h;exact ⟨_,x',ys',os,cs,Z',rfl,HI.out⟩)
   clear hlt;go_wp2_with fail;go_ret;exact N.out
end Go.Proofs.YtcgmgdjeamidlaaGreat
