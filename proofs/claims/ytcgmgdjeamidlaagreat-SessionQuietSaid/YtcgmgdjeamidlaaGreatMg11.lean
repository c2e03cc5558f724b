/- Texts of one proof, joined. -/
import Derived.Test.YtcgmgdjeamidlaaGreatPlF
import Derived.Sort.CutIn
import Derived.ArgAppend
import Derived.Laws.IdiomRangeMap
namespace Go.Proofs.YtcgmgdjeamidlaaGreat
set_option maxRecDepth 100000
set_option maxHeartbeats 16000000
open Go.RowKit Go.Shelf Go.Proofs.Tryz
set_option linter.unusedVariables false
set_option linter.unusedSimpArgs false
attribute [local go_sem] Oper.semAt_some
theorem wpListIn_look_to{F:Fence}{nF:Nat}{P:Program}(w:World){ops:Array Oper}{rest:List Oper}{o:Oper}{a:Act}{Q:Exit→Act→World→Prop}(hg:o.guard=none)(m x:Operand)(t:TypeId)(hop:o.op=Op.lookup t m x false)(kt et:TypeId)(q:IntKind)(ht:P.underlying t=some (.map kt et))(hk:P.underlying kt=some (.int q))(z:Value)(hz:∀ w,(zeroValue et).run P w=.ok z w)
  (b:Nat) (L:List (Int×Value)) (hm:a.eval m=.map (some b)) (hown:MapAt w b q L) (key:Int) (hx:a.eval x=.int q key) (val:Value) (hv:(lk key L).getD z=val)
  (hK:wpListIn F nF P ops Q rest (a.put o.dst val) w):wpListIn F nF P ops Q (o :: rest) a w:=
 wpListIn_look_at w hg m x t false hop kt et q ht hk z hz b L hm hown key hx (by rw [if_neg (by simp),hv];exact hK)
def itemV(r:Option Ver):Array Value:=match r with
 | some v=>#[.int .u64 v.key,v.vec.v,v.tag.v]
 | none=>#[.int .u64 0,.slice none 0 0,.slice none 0 0]
def okV(r:Option Ver):Bool:=match r with
 | some v=>!v.gone
 | none=>false
def asofL(vs:List Ver)(at_:Int):Option Ver:=vs.reverse.find? fun v=>decide (v.at_≤at_)
def vsOf(l:List (Int×Vs))(key:Int):Vs:=((l.find? fun x=>decide (x.1=key)).map (·.2)).getD Vs.no
theorem lk_vsOf(l:List (Int×Vs))(key:Int):(lk key (vsL l)).getD (.slice none 0 0)=(vsOf l key).v:=by
 unfold vsL vsOf;rw [lk_map (fun x:Int×Vs=>x.1) (fun x=>x.2.v)];cases l.find? fun x=>decide (x.1=key) with
 | none=>rfl
 | some x=>rfl
theorem vsOf_at{w:World}{B p ba bo:Nat}{D:PDB}(h:DbAt w B p ba bo D)(key:Int):VsAt w (vsOf D.all key):=by
 unfold vsOf;cases hf:D.all.find? fun x=>decide (x.1=key) with
 | none=>exact VsAt.no w
 | some x=>exact h.vsd x (List.mem_of_find?_eq_some hf)
theorem run_loadVar_one{w:World}{k:Nat}{b:Value}(hk:Row w k #[b] 4):(loadVar 4 ⟨k,0,none⟩).run prog w=.ok b w:=by have hc:=hk.c 0 b;simp [loadVar,go_sem,hc]
theorem results_item2{fn:Func}{p u:Tmp}(h:fn.results=#[.cell p tIt,.cell u 4])(tmps:Array Value)(w:World)(g k:Nat)(R:Array Value)(b:Value)(hR:R.size=3)(hp:tmps.getD p undef=.pointer (some ⟨g,0,none⟩))(hu:tmps.getD u undef=.pointer (some ⟨k,0,none⟩))(hg:Row w g R tIt)(hk:Row w k #[b] 4):(results fn tmps).run prog w=.ok (.tuple #[.agg R,b]) w:=by
 have hp':tmps[p]?.getD undef=.pointer (some ⟨g,0,none⟩):=by simpa using hp
 have hu':tmps[u]?.getD undef=.pointer (some ⟨k,0,none⟩):=by simpa using hu
 have hc:=hk.c 0 b;simp only [results,h];simp [Sem.run_bind,hp',hu',asAddr,Result.andThen,run_loadVar_row w g _ _ _ _ _ hg underlying37 rfl (by rw [show (prog.info? tIt).map (·.size)=some 3 from by kernel_rfl,hR]),run_loadVar_one hk]
def AsOfTo(r:Option Ver)(w:World)(e:Ending)(w':World):Prop:=e=.returned (.tuple #[.agg (itemV r),.bool (okV r)])∧Below w.heap.size w w'
structure AsI(w W:World)(b4 b6 b7:Nat)(at_:Int)(R:Array Value)(b:Bool):Prop where
 r4:Row W b4 #[.int .u64 at_] 34
 r6:Row W b6 R tIt
 r7:Row W b7 #[.bool b] 4
 bl:Below w.heap.size w W
theorem AsI.of{w W W':World}{b4 b6 b7:Nat}{at_:Int}{R:Array Value}{b:Bool}{row:Option Nat}(h:AsI w W b4 b6 b7 at_ R b)(hg:W.grownBy W' row)(hr:∀ r,row=some r→b4<r∧b6<r∧b7<r∧w.heap.size≤r):AsI w W' b4 b6 b7 at_ R b:=by
 have e:∀ c,(c=b4∨c=b6∨c=b7)→c<W.heap.size→W'.heap[c]? = W.heap[c]?:=fun c hc hl=>hg.block c hl (fun e=>by have:=hr c e.symm;omega);refine ⟨?_,?_,?_,h.bl.trans ?_⟩
 ·have:=h.r4;unfold Row at this ⊢;rw [e _ (.inl rfl) h.r4.lt];exact this
 ·have:=h.r6;unfold Row at this ⊢;rw [e _ (.inr (.inl rfl)) h.r6.lt];exact this
 ·have:=h.r7;unfold Row at this ⊢;rw [e _ (.inr (.inr rfl)) h.r7.lt];exact this
 ·exact (Δ _ _).grown hg h.bl.size (fun k hk=>(hr k hk).2.2.2)
theorem AsI.own{w w2:World}{b4 b6 b7:Nat}{at_:Int}(h:b4<w2.heap.size∧b6<w2.heap.size∧b7<w2.heap.size∧w.heap.size=b4):OwnFrom w2.heap.size (fun (pre:List (Nat×Ver)) W=>AsI w W b4 b6 b7 at_ (itemV none) false∧Below w2.heap.size w2 W∧∀ x∈pre,at_<x.2.at_):=fun s W W' row hi hg hr=>
 ⟨hi.1.of hg (fun r hr'=>by have:=(hr r hr').1;omega),ownFrom_below (β:=Unit) (Θ _) (Θ _) () W W' row hi.2.1 hg hr,hi.2.2⟩
theorem AsI.ownX{w w2:World}{b4 b6 b7:Nat}{at_:Int}(h:b4<w2.heap.size∧b6<w2.heap.size∧b7<w2.heap.size∧w.heap.size=b4)(c:Code):OwnFrom w2.heap.size (fun (pre:List (Nat×Ver)) W=>c=.ret∧∃ pre' x,pre=pre'++[x]∧(∀ y∈pre',at_<y.2.at_)∧x.2.at_≤at_∧AsI w W b4 b6 b7 at_ (itemV (some x.2)) (!x.2.gone)):=fun s W W' row hi hg hr=>by obtain ⟨hc,pre',x,e,hp,hx,ha⟩:=hi;exact ⟨hc,pre',x,e,hp,hx,ha.of hg (fun r hr'=>by have:=(hr r hr').1;omega)⟩
theorem AsI.ownA(B m:Nat)(x:Nat×Ver)(a':Act){f:Nat→Act}{L:Array Value}:OwnFrom B (fun (_:Unit) W=>∃ g,m≤g∧Row W g L tVr∧a'=f g):=fun s W W' row hi hg hr=>by
 obtain ⟨g,h0,h1,h2⟩:=hi;refine ⟨g,h0,?_,h2⟩;have h3:W'.heap[g]? = W.heap[g]?:=hg.block g h1.lt (fun e=>by obtain ⟨o,ho,hc⟩:=(hr g e.symm).2;rw [show W.heap[g]? = _ from h1] at ho;cases ho;cases hc)
 unfold Row at h1 ⊢;rw [h3];exact h1
theorem asofL_none{vs:List Ver}{at_:Int}{ys:List (Nat×Ver)}(h:ys.map (·.2)=vs.reverse)(hy:∀ y∈ys,at_<y.2.at_):asofL vs at_=none:=by unfold asofL;rw [←h,List.find?_eq_none];intro v hv;obtain ⟨y,hm,rfl⟩:=List.mem_map.1 hv;have:=hy y hm;simp;omega
theorem asofL_some{vs:List Ver}{at_:Int}{pre':List (Nat×Ver)}{x:Nat×Ver}{k:Nat}(h:(pre'++[x]).map (·.2)=vs.reverse.take k)(hp:∀ y∈pre',at_<y.2.at_)(hx:x.2.at_≤at_):asofL vs at_=some x.2:=by
 unfold asofL;rw [←List.take_append_drop k vs.reverse,←h,List.find?_append,List.map_append,List.find?_append];rw [List.find?_eq_none.2 (by intro v hv;obtain ⟨y,hm,rfl⟩:=List.mem_map.1 hv;have:=hp y hm;simp;omega)]
 simp [hx]
theorem asof_on{w:World}{B p ba bo:Nat}{D:PDB}(h:DbAt w B p ba bo D)(at_ key:Int)(hl:(vsOf D.all key).vs.length≤1000000) :
  Calls prog 248 #[.pointer (some ⟨p,0,none⟩),.int .u64 at_,.int .u64 key] w (AsOfTo (asofL (vsOf D.all key).vs at_) w):=by
 have hro:Fence.wide.round=none:=rfl;have HV:=Ξ (vsOf_at h key);have H3:Hid (∀ y,Only [] w y→y.cell? ⟨p,3,none⟩=some (.map (some ba))∧MapAt y ba .u64 (vsL D.all)):=Ξ fun y k=>⟨(h.row.only k (by simp)).cell 3,h.am.only k (by simp)⟩;have LK:=Ξ (lk_vsOf D.all key);have HL:=Ξ hl;generalize vsOf D.all key=V at *;generalize vsL D.all=L at *;clear h hl;refine callsIn_wide (n:=5) |>.1 ?_
 refine callsIn_of_wp_marks func248 rfl trivial ?_ hro;simp only [ntmps248,List.size_toArray,List.length_cons,List.length_nil,Nat.reduceAdd,Nat.reduceSub,Array.replicate_succ,Array.replicate_zero,List.push_toArray,List.append_toArray,List.nil_append,List.cons_append]
 gi_upto_region 1 with fail
 have A1:Hid (AsI w (((w.alloc (.cells #[.int .u64 at_] 34)).alloc (.cells #[.int .u64 0,.slice none 0 0,.slice none 0 0] tIt)).alloc (.cells #[.bool false] 4)) w.heap.size (w.heap.size+1) (w.heap.size+1+1) at_ (itemV none) false):=Ξ (by have h2:=Φ (w.alloc (.cells #[.int .u64 at_] 34)) #[.int .u64 0,.slice none 0 0,.slice none 0 0] tIt;rw [World.size_alloc] at h2;have h3:=Φ ((w.alloc (.cells #[.int .u64 at_] 34)).alloc (.cells #[.int .u64 0,.slice none 0 0,.slice none 0 0] tIt)) #[.bool false] 4;rw [World.size_alloc,World.size_alloc] at h3;exact ⟨((Φ w _ _).only ((Ω [] _).alloc _) (by simp)).only ((Ω [] _).alloc _) (by simp),h2.only ((Ω [] _).alloc _) (by simp),h3,((((Δ _ _).alloc (Θ _) _).alloc (by simp) _).alloc (by simp;omega) _)⟩)
 have K1:Hid (Only [] w (((w.alloc (.cells #[.int .u64 at_] 34)).alloc (.cells #[.int .u64 0,.slice none 0 0,.slice none 0 0] tIt)).alloc (.cells #[.bool false] 4))):=Ξ ((((Ω [] w).alloc _).alloc _).alloc _);generalize ((w.alloc (.cells #[.int .u64 at_] 34)).alloc (.cells #[.int .u64 0,.slice none 0 0,.slice none 0 0] tIt)).alloc (.cells #[.bool false] 4)=w1 at *;obtain ⟨c3,m3⟩:=H3.out w1 K1.out;have M3:=Ξ m3;have V1:=Ξ (HV.out.only K1.out (by simp));clear m3;gi_wp2_with (gi_at_lookup;refine wpListIn_look_to _ rfl (.tmp 13) (.tmp 14) tMvs rfl 34 tVrs .u64 underlying105 underlying34 _ zeroVs ba L rfl M3.out key rfl _ LK.out ?_);refine ⟨trivial,(callsIn_wide.2 (back_any V w1)).mono ?_⟩;rintro _ w2 ⟨rfl,hw⟩;have R2:Hid (Row w2 w1.heap.size #[V.v] tVrs):=Ξ (by rw [hw];exact Φ w1 _ _);have K2:Hid (Only [] w1 w2):=Ξ (by rw [hw];exact (Ω [] w1).alloc _);clear hw c3;have V2:=Ξ (V1.out.only K2.out (by simp));have A2:Hid (AsI w w2 w.heap.size (w.heap.size+1) (w.heap.size+1+1) at_ (itemV none) false):=Ξ ⟨A1.out.r4.only K2.out (by simp),A1.out.r6.only K2.out (by simp),A1.out.r7.only K2.out (by simp),A1.out.bl.trans (K2.out.toBelow A1.out.bl.size (by simp))⟩;obtain ⟨Bm,hBm⟩:∃ Bm,w1.heap.size=Bm:=⟨_,rfl⟩;rw [hBm] at R2;rw [hBm];clear hBm;gi_wp2_with fail;obtain ⟨b4,hb4⟩:∃ b4,w.heap.size=b4:=⟨_,rfl⟩;have EQ:Hid (b4<w2.heap.size∧b4+1<w2.heap.size∧b4+1+1<w2.heap.size∧w.heap.size=b4):=Ξ ⟨by rw [←hb4];exact A2.out.r4.lt,by rw [←hb4];exact A2.out.r6.lt,by rw [←hb4];exact A2.out.r7.lt,hb4⟩;rw [hb4] at A1 A2 ⊢;obtain ⟨b6,hb6⟩:∃ b6,b4+1=b6:=⟨_,rfl⟩;have E6:=Ξ hb6;rw [hb6] at A1 A2 EQ ⊢;obtain ⟨b7,hb7⟩:∃ b7,b6+1=b7:=⟨_,rfl⟩;have E7:=Ξ hb7;rw [hb7] at A1 A2 EQ ⊢;clear hb4 hb6 hb7 A1 M3 V1 K1;refine wpIn_rangeFunc_ownH hro (by omega) (gf:=264) (lb:=#[.pointer (some ⟨Bm,0,none⟩)]) rfl trivial (enters_of func264 (by kernel_rfl) rfl)
  (back_stops 4 (by omega) Bm V w2 R2.out V2.out HL.out) Below.trans (fun W l o o' h1 h2 h3 h4=>belowK_b (w:=w2) (Θ _) W l o o' h1 h2 h3 h4) (Δ _ _) (fun _=>rfl)
  (fun pre W=>AsI w W b4 b6 b7 at_ (itemV none) false∧Below w2.heap.size w2 W∧∀ x∈pre,at_<x.2.at_)
  (fun c pre W=>c=.ret∧∃ pre' x,pre=pre'++[x]∧(∀ y∈pre',at_<y.2.at_)∧x.2.at_≤at_∧AsI w W b4 b6 b7 at_ (itemV (some x.2)) (!x.2.gone))
  (AsI.own EQ.out) (fun c=>AsI.ownX EQ.out c)
  ⟨A2.out,Δ _ _,by simp⟩
  (fun x a' W=>∃ g,w2.heap.size≤g∧Row W g #[.int .u64 x.2.at_,.bool x.2.gone,.int .u64 x.2.key,x.2.vec.v,x.2.tag.v] tVr∧a'={ tmps:=#[.pointer (some ⟨p,0,none⟩),.int .u64 at_,.int .u64 key,undef,.pointer (some ⟨b4,0,none⟩),undef,.pointer (some ⟨b6,0,none⟩),.pointer (some ⟨b7,0,none⟩),undef,.pointer (some ⟨g,0,none⟩),.pointer (some ⟨p,0,none⟩),.pointer (some ⟨p,0,none⟩),.pointer (some ⟨p,3,none⟩),.map (some ba),.int .u64 key,V.v,.func (.func 264) #[] #[.pointer (some ⟨Bm,0,none⟩)],.int .i64 (x.1:Int),x.2.val,undef,undef,undef,undef,undef,undef,undef,undef,undef,undef],defers:=[] })
  (fun x a'=>AsI.ownA _ _ x a') ?assign ?body ?done ?stop
 case assign=>intro l pre x W K hI hK;have HI:=Ξ hI;have HK:=Ξ hK;clear hI hK;simp only [encV];unfold Ver.val Sl.v;gi_wp2_with fail;have G:=World.grownBy_alloc W (.cells #[.int .u64 x.2.at_,.bool x.2.gone,.int .u64 x.2.key,x.2.vec.v,x.2.tag.v] tVr) none;refine HK.out _ _ ((KeepsOthers.alloc _ _).from _) ((Δ _ _).grown G HI.out.2.1.size (by simp)) ⟨HI.out.1.of G (by simp),HI.out.2.1.grown G HI.out.2.1.size (by simp),HI.out.2.2⟩ ⟨W.heap.size,HI.out.2.1.size,Φ _ _ _,rfl⟩
 case body=>
  rintro l pre x a' W hl hr hI ⟨g,hgw,hg,rfl⟩ hlt;have ⟨n1,n2,n3,n4,n5,n6⟩:b6≠b7∧b7≠b6∧g≠b6∧g≠b7∧b6≠g∧b7≠g:=by have:=EQ.out;have:=E7.out;omega
  have HGW:=Ξ hgw;clear hgw;have HI:=Ξ hI;have HG:=Ξ hg;have g0:=hg.c 0 (.int .u64 x.2.at_);have g1:=hg.c 1 (.bool x.2.gone);have g2:=hg.c 2 (.int .u64 x.2.key);have g3:=hg.c 3 x.2.vec.v;have g4:=hg.c 4 x.2.tag.v;have a4:=HI.out.1.r4.c 0 (.int .u64 at_);clear hI hg hr;by_cases hle:x.2.at_≤at_
  ·have d1:decide (x.2.at_≤at_)=true:=Γ hle;have HLE:=Ξ hle;clear hle;have ⟨x0,x1,x2,x3⟩:W.cell? ⟨b6,0,none⟩=some (.int .u64 0)∧W.cell? ⟨b6,1,none⟩=some (.slice none 0 0)∧W.cell? ⟨b6,2,none⟩=some (.slice none 0 0)∧W.cell? ⟨b7,0,none⟩=some (.bool false):=⟨HI.out.1.r6.cell 0,HI.out.1.r6.cell 1,HI.out.1.r6.cell 2,HI.out.1.r7.cell 0⟩;have ⟨y0,y1,y2,y3⟩:W.frozen? ⟨b6,0,none⟩=false∧W.frozen? ⟨b6,1,none⟩=false∧W.frozen? ⟨b6,2,none⟩=false∧W.frozen? ⟨b7,0,none⟩=false:=⟨HI.out.1.r6.free 0,HI.out.1.r6.free 1,HI.out.1.r6.free 2,HI.out.1.r7.free 0⟩;have N:Hid (KeepsFrom w2.heap.size W ((((W.setCell ⟨b6,0,none⟩ (.int .u64 x.2.key)).setCell ⟨b6,1,none⟩ x.2.vec.v).setCell ⟨b6,2,none⟩ x.2.tag.v).setCell ⟨b7,0,none⟩ (.bool (!x.2.gone))).drew∧AsI w ((((W.setCell ⟨b6,0,none⟩ (.int .u64 x.2.key)).setCell ⟨b6,1,none⟩ x.2.vec.v).setCell ⟨b6,2,none⟩ x.2.tag.v).setCell ⟨b7,0,none⟩ (.bool (!x.2.gone))).drew b4 b6 b7 at_ (itemV (some x.2)) (!x.2.gone)):=Ξ (by
    have K4:Only [b6] W (((W.setCell ⟨b6,0,none⟩ (.int .u64 x.2.key)).setCell ⟨b6,1,none⟩ x.2.vec.v).setCell ⟨b6,2,none⟩ x.2.tag.v):=(((Ω [b6] W).setCell (.inl (by simp)) _).setCell (.inl (by simp)) _).setCell (.inl (by simp)) _;have h6:=((HI.out.1.r6.set 0 (.int .u64 x.2.key)).set 1 x.2.vec.v).set 2 x.2.tag.v;have h7:=(HI.out.1.r7.only K4 (by simp;omega)).set 0 (.bool (!x.2.gone));have K5:Only [b7] (((W.setCell ⟨b6,0,none⟩ (.int .u64 x.2.key)).setCell ⟨b6,1,none⟩ x.2.vec.v).setCell ⟨b6,2,none⟩ x.2.tag.v) ((((W.setCell ⟨b6,0,none⟩ (.int .u64 x.2.key)).setCell ⟨b6,1,none⟩ x.2.vec.v).setCell ⟨b6,2,none⟩ x.2.tag.v).setCell ⟨b7,0,none⟩ (.bool (!x.2.gone))).drew:=((Ω [b7] _).setCell (.inl (by simp)) _).drew;have KD:∀ y:World,Only [] y y.drew:=fun y=>(Ω [] y).drew;have e4:=EQ.out;have e6:=E6.out;have e7:=E7.out;refine ⟨KeepsOthers.from ?_ _,(HI.out.1.r4.only K4 (by simp;omega)).only K5 (by simp;omega),?_,?_,?_⟩
    ·exact ((((KeepsOthers.setCell _ _ _).trans (KeepsOthers.setCell _ _ _)).trans (KeepsOthers.setCell _ _ _)).trans (KeepsOthers.setCell _ _ _)).trans (KeepsOthers.drew _)
    ·exact (by simpa [itemV] using h6:Row _ b6 (itemV (some x.2)) tIt).only K5 (by simp;omega)
    ·exact (by simpa using h7:Row _ b7 #[.bool (!x.2.gone)] 4).only (KD _) (by simp)
    ·exact (HI.out.1.bl.trans (K4.toBelow HI.out.1.bl.size (by simp;omega))).trans (K5.toBelow (Nat.le_trans HI.out.1.bl.size K4.size) (by simp;omega)))
   unfold Sl.v at g3 g4 N;gi_wp2_with fail
   gi_region
   all_goals
    gi_wp2_with fail;exact ⟨N.out.1,rfl,_,x,rfl,HI.out.2.2,HLE.out,N.out.2⟩
  ·have d1:decide (x.2.at_≤at_)=false:=Λ hle;have HLE:=Ξ hle;clear hle;gi_wp2_with fail;refine ⟨KeepsFrom.refl _ _,Δ _ _,HI.out.1,HI.out.2.1,?_⟩;have hy:∀ y∈pre++[x],at_<y.2.at_:=by
    intro y hy;rcases List.mem_append.1 hy with hy|hy
    ·exact HI.out.2.2 y hy
    ·simp only [List.mem_singleton] at hy;subst hy;have:=HLE.out;omega
   simpa using hy
 case done=>
  rintro D ys W hD hS hI hK;have ⟨n1,n2⟩:b6≠b7∧b7≠b6:=by have:=E7.out;omega
  have HI:=Ξ hI;have HS:=Ξ hS;have HKD:=Ξ hK;clear hI hS hK;have ⟨x0,x1,x2,x3⟩:W.cell? ⟨b6,0,none⟩=some (.int .u64 0)∧W.cell? ⟨b6,1,none⟩=some (.slice none 0 0)∧W.cell? ⟨b6,2,none⟩=some (.slice none 0 0)∧W.cell? ⟨b7,0,none⟩=some (.bool false):=⟨HI.out.1.r6.cell 0,HI.out.1.r6.cell 1,HI.out.1.r6.cell 2,HI.out.1.r7.cell 0⟩;have ⟨y0,y1,y2,y3⟩:W.frozen? ⟨b6,0,none⟩=false∧W.frozen? ⟨b6,1,none⟩=false∧W.frozen? ⟨b6,2,none⟩=false∧W.frozen? ⟨b7,0,none⟩=false:=⟨HI.out.1.r6.free 0,HI.out.1.r6.free 1,HI.out.1.r6.free 2,HI.out.1.r7.free 0⟩;have N:Hid (AsI w ((((W.setCell ⟨b6,0,none⟩ (.int .u64 0)).setCell ⟨b6,1,none⟩ (.slice none 0 0)).setCell ⟨b6,2,none⟩ (.slice none 0 0)).setCell ⟨b7,0,none⟩ (.bool false)) b4 b6 b7 at_ (itemV none) false∧((((W.setCell ⟨b6,0,none⟩ (.int .u64 0)).setCell ⟨b6,1,none⟩ (.slice none 0 0)).setCell ⟨b6,2,none⟩ (.slice none 0 0)).setCell ⟨b7,0,none⟩ (.bool false)).heap[D]? = some (.deferred (some []))):=Ξ (by
   have K4:Only [b6] W (((W.setCell ⟨b6,0,none⟩ (.int .u64 0)).setCell ⟨b6,1,none⟩ (.slice none 0 0)).setCell ⟨b6,2,none⟩ (.slice none 0 0)):=(((Ω [b6] W).setCell (.inl (by simp)) _).setCell (.inl (by simp)) _).setCell (.inl (by simp)) _;have h6:=((HI.out.1.r6.set 0 (.int .u64 0)).set 1 (.slice none 0 0)).set 2 (.slice none 0 0);have h7:=(HI.out.1.r7.only K4 (by simp;omega)).set 0 (.bool false);have K5:Only [b7] (((W.setCell ⟨b6,0,none⟩ (.int .u64 0)).setCell ⟨b6,1,none⟩ (.slice none 0 0)).setCell ⟨b6,2,none⟩ (.slice none 0 0)) ((((W.setCell ⟨b6,0,none⟩ (.int .u64 0)).setCell ⟨b6,1,none⟩ (.slice none 0 0)).setCell ⟨b6,2,none⟩ (.slice none 0 0)).setCell ⟨b7,0,none⟩ (.bool false)):=((Ω [b7] _).setCell (.inl (by simp)) _);have e4:=EQ.out;have e6:=E6.out;have e7:=E7.out;have hDl:D<W.heap.size:=(Array.getElem?_eq_some_iff.1 HKD.out).1;refine ⟨⟨(HI.out.1.r4.only K4 (by simp;omega)).only K5 (by simp;omega),?_,?_,?_⟩,?_⟩
   ·exact (by simpa [itemV] using h6:Row _ b6 (itemV none) tIt).only K5 (by simp;omega)
   ·exact (by simpa using h7:Row _ b7 #[.bool false] 4)
   ·exact (HI.out.1.bl.trans (K4.toBelow HI.out.1.bl.size (by simp;omega))).trans (K5.toBelow (Nat.le_trans HI.out.1.bl.size K4.size) (by simp;omega))
   ·rw [K5.block D (Nat.lt_of_lt_of_le hDl K4.size) (by simp;omega),K4.block D hDl (by simp;omega)];exact HKD.out)
  gi_wp2_with fail;refine ⟨by simp,.inl ⟨_,_,rfl,run_takeDeferred N.out.2,?_⟩⟩;have hD4:b4<D∧b6<D∧b7<D∧w.heap.size≤D:=by have:=EQ.out;omega
  have hf:=N.out.1.of (grownBy_putObj' _ D (.deferred none)) (fun r hr=>by cases hr;exact hD4);refine ⟨_,results_item2 rfl _ _ b6 b7 (itemV none) (.bool false) rfl rfl rfl hf.r6 hf.r7,?_,hf.bl⟩;rw [asofL_none HS.out HI.out.2.2];rfl
 case stop=>
  rintro D c pre W hD hS ⟨rfl,pre',x,rfl,hp,hx,hA⟩ hK;gi_wp2_with fail;refine ⟨by simp,.inl ⟨_,_,rfl,run_takeDeferred hK,?_⟩⟩;have hD4:b4<D∧b6<D∧b7<D∧w.heap.size≤D:=by have:=EQ.out;omega
  have hf:=hA.of (grownBy_putObj' _ D (.deferred none)) (fun r hr=>by cases hr;exact hD4);obtain ⟨k,hS⟩:=hS;refine ⟨_,results_item2 rfl _ _ b6 b7 (itemV (some x.2)) (.bool (!x.2.gone)) rfl rfl rfl hf.r6 hf.r7,?_,hf.bl⟩;rw [asofL_some hS hp hx];rfl
def lkV(l:List (Int×Ver))(key:Int):Option Ver:=(l.find? fun x=>decide (x.1=key)).map (·.2)
theorem lk_wrL(l:List (Int×Ver))(key:Int):lk key (wrL l)=(lkV l key).map Ver.val:=by
 unfold wrL lkV;rw [lk_map (fun x:Int×Ver=>x.1) (fun x=>x.2.val)];cases l.find? fun x=>decide (x.1=key) with
 | none=>rfl
 | some x=>rfl
def seesR(D:PDB)(o:PTx)(key:Int):Option Ver:=match lkV o.wr key with
 | some v=>some v
 | none=>asofL (vsOf D.all key).vs o.start
theorem wpList_look_ok{P:Program}{w:World}{ops:Array Oper}{rest:List Oper}{o:Oper}{a:Act}{Q:Exit→Act→World→Prop}(hg:o.guard=none)(m x:Operand)(t:TypeId)(hop:o.op=Op.lookup t m x true)(kt et:TypeId)(q:IntKind)(ht:P.underlying t=some (.map kt et))(hk:P.underlying kt=some (.int q))(z:Value)(hz:∀ w,(zeroValue et).run P w=.ok z w)
  (b:Nat) (L:List (Int×Value)) (hm:a.eval m=.map (some b)) (hown:MapAt w b q L) (key:Int) (hx:a.eval x=.int q key) (val:Value) (c:Bool) (hv:(lk key L).getD z=val) (hc:(lk key L).isSome=c)
  (hK:wpList P ops Q rest (a.put o.dst (.tuple #[val,.bool c])) w):wpList P ops Q (o :: rest) a w:=
 wpList_look_at w hg m x t true hop kt et q ht hk z hz b L hm hown key hx (by rw [if_pos rfl,hv,hc];exact hK)
theorem results_item_tmp{fn:Func}{p u:Tmp}(h:fn.results=#[.cell p tIt,.tmp u])(tmps:Array Value)(w:World)(g:Nat)(R:Array Value)(hR:R.size=3)(hp:tmps.getD p undef=.pointer (some ⟨g,0,none⟩))(hg:Row w g R tIt):(results fn tmps).run prog w=.ok (.tuple #[.agg R,tmps.getD u undef]) w:=by
 have hp':tmps[p]?.getD undef=.pointer (some ⟨g,0,none⟩):=by simpa using hp
 simp only [results,h];simp [Sem.run_bind,hp',asAddr,Result.andThen,run_loadVar_row w g _ _ _ _ _ hg underlying37 rfl (by rw [show (prog.info? tIt).map (·.size)=some 3 from by kernel_rfl,hR])]
theorem itemV_size(r:Option Ver):(itemV r).size=3:=by cases r<;>rfl
theorem sees_on{w:World}{B p ba bo:Nat}{D:PDB}(h:DbAt w B p ba bo D){o:PTx}(ho:o∈D.op)(key:Int)(hl:(vsOf D.all key).vs.length≤1000000) :
  Calls prog 240 #[.pointer (some ⟨p,0,none⟩),.pointer (some ⟨o.bt,0,none⟩),.int .u64 key] w (AsOfTo (seesR D o key) w):=by
 have H:=Ξ h;have HL:=Ξ hl;have OT:=Ξ (h.oa o ho).1;have t1:(w.alloc (.cells #[.int .u64 0,.slice none 0 0,.slice none 0 0] tIt)).cell? ⟨o.bt,1,none⟩=some (.map (some o.bm)):=(OT.out.only ((Ω [] w).alloc _) (by simp)).cell 1;have OM:=Ξ (h.oa o ho).2;have LW:=Ξ (lk_wrL o.wr key);clear h hl;go_enter func240,ntmps240;cases hv:lkV o.wr key with
 | some v=>
  have SR:Hid (seesR D o key=some v):=Ξ (by simp [seesR,hv]);have L1:Hid ((lk key (wrL o.wr)).getD (.agg #[.int .u64 0,.bool false,.int .u64 0,.slice none 0 0,.slice none 0 0])=v.val∧(lk key (wrL o.wr)).isSome=true):=Ξ (by rw [LW.out,hv];exact ⟨rfl,rfl⟩);have M1:=Ξ (OM.out.only ((Ω [] w).alloc (.cells #[.int .u64 0,.slice none 0 0,.slice none 0 0] tIt)) (by simp));unfold Ver.val at L1;clear hv LW;unfold Sl.v at L1;go_upto_region 2 with (at_lookup;refine wpList_look_ok rfl (.tmp 14) (.tmp 15) tMvr rfl 34 tVr .u64 underlying283 underlying34 _ zeroVr o.bm (wrL o.wr) rfl M1.out key rfl _ _ L1.out.1 L1.out.2 ?_);have R6:Hid (Row ((w.alloc (.cells #[.int .u64 0,.slice none 0 0,.slice none 0 0] tIt)).alloc (.cells #[.int .u64 v.at_,.bool v.gone,.int .u64 v.key,.slice v.vec.a v.vec.xs.length v.vec.c,.slice v.tag.a v.tag.xs.length v.tag.c] tVr)) w.heap.size (itemV none) tIt):=Ξ ((Φ w _ _).only ((Ω [] _).alloc _) (by simp));have K1:Hid (Only [] w ((w.alloc (.cells #[.int .u64 0,.slice none 0 0,.slice none 0 0] tIt)).alloc (.cells #[.int .u64 v.at_,.bool v.gone,.int .u64 v.key,.slice v.vec.a v.vec.xs.length v.vec.c,.slice v.tag.a v.tag.xs.length v.tag.c] tVr))):=Ξ (((Ω [] w).alloc _).alloc _);have R8:Hid (Row ((w.alloc (.cells #[.int .u64 0,.slice none 0 0,.slice none 0 0] tIt)).alloc (.cells #[.int .u64 v.at_,.bool v.gone,.int .u64 v.key,.slice v.vec.a v.vec.xs.length v.vec.c,.slice v.tag.a v.tag.xs.length v.tag.c] tVr)) (w.heap.size+1) #[.int .u64 v.at_,.bool v.gone,.int .u64 v.key,.slice v.vec.a v.vec.xs.length v.vec.c,.slice v.tag.a v.tag.xs.length v.tag.c] tVr):=Ξ (by
   have h3:=Φ (w.alloc (.cells #[.int .u64 0,.slice none 0 0,.slice none 0 0] tIt)) #[.int .u64 v.at_,.bool v.gone,.int .u64 v.key,.slice v.vec.a v.vec.xs.length v.vec.c,.slice v.tag.a v.tag.xs.length v.tag.c] tVr
   rwa [World.size_alloc] at h3)
  have SZ:Hid (w.heap.size+1+1=((w.alloc (.cells #[.int .u64 0,.slice none 0 0,.slice none 0 0] tIt)).alloc (.cells #[.int .u64 v.at_,.bool v.gone,.int .u64 v.key,.slice v.vec.a v.vec.xs.length v.vec.c,.slice v.tag.a v.tag.xs.length v.tag.c] tVr)).heap.size):=Ξ (by simp);generalize ((w.alloc (.cells #[.int .u64 0,.slice none 0 0,.slice none 0 0] tIt)).alloc (.cells #[.int .u64 v.at_,.bool v.gone,.int .u64 v.key,.slice v.vec.a v.vec.xs.length v.vec.c,.slice v.tag.a v.tag.xs.length v.tag.c] tVr))=w1 at *;have OT1:=Ξ (OT.out.only K1.out (by simp));clear t1 M1;have NE:Hid (w.heap.size<w.heap.size+1):=Ξ (by omega);have LT:Hid (∀ b,b<w.heap.size→b<w1.heap.size):=Ξ (fun b hb=>by have:=K1.out.size;omega);obtain ⟨b6,hb6⟩:∃ b6,w.heap.size=b6:=⟨_,rfl⟩;have E6:=Ξ hb6;rw [hb6] at R6 R8 SZ ⊢;clear hb6;have ⟨x0,x1,x2⟩:w1.cell? ⟨b6,0,none⟩=some (.int .u64 0)∧w1.cell? ⟨b6,1,none⟩=some (.slice none 0 0)∧w1.cell? ⟨b6,2,none⟩=some (.slice none 0 0):=⟨R6.out.cell 0,R6.out.cell 1,R6.out.cell 2⟩;have ⟨y0,y1,y2⟩:w1.frozen? ⟨b6,0,none⟩=false∧w1.frozen? ⟨b6,1,none⟩=false∧w1.frozen? ⟨b6,2,none⟩=false:=⟨R6.out.free 0,R6.out.free 1,R6.out.free 2⟩;have ⟨z1,z2,z3,z4⟩:w1.cell? ⟨b6+1,1,none⟩=some (.bool v.gone)∧w1.cell? ⟨b6+1,2,none⟩=some (.int .u64 v.key)∧w1.cell? ⟨b6+1,3,none⟩=some (.slice v.vec.a v.vec.xs.length v.vec.c)∧w1.cell? ⟨b6+1,4,none⟩=some (.slice v.tag.a v.tag.xs.length v.tag.c):=⟨R8.out.cell 1,R8.out.cell 2,R8.out.cell 3,R8.out.cell 4⟩;have N:Hid (AsOfTo (some v) w (.returned (.tuple #[.agg (itemV (some v)),.bool (!v.gone)])) (((w1.setCell ⟨b6,0,none⟩ (.int .u64 v.key)).setCell ⟨b6,1,none⟩ v.vec.v).setCell ⟨b6,2,none⟩ v.tag.v).drew∧Row (((w1.setCell ⟨b6,0,none⟩ (.int .u64 v.key)).setCell ⟨b6,1,none⟩ v.vec.v).setCell ⟨b6,2,none⟩ v.tag.v).drew b6 (itemV (some v)) tIt):=Ξ (by
   have K4:Only [b6] w1 (((w1.setCell ⟨b6,0,none⟩ (.int .u64 v.key)).setCell ⟨b6,1,none⟩ v.vec.v).setCell ⟨b6,2,none⟩ v.tag.v).drew:=((((Ω [b6] w1).setCell (.inl (by simp)) _).setCell (.inl (by simp)) _).setCell (.inl (by simp)) _).drew;have h6:=((R6.out.set 0 (.int .u64 v.key)).set 1 v.vec.v).set 2 v.tag.v;refine ⟨⟨rfl,?_⟩,?_⟩
   ·exact (K1.out.trans (K4.mono (fun i hi=>.inl hi):Only [b6] _ _) (fun i hi=>by simp at hi;subst hi;exact .inr (by have:=E6.out;omega))).toBelow (Θ _) (by simp)
   ·exact (by simpa [itemV] using h6:Row _ b6 (itemV (some v)) tIt).only (Ω [] _).drew (by simp))
  unfold Sl.v at N;go_wp2_with fail;go_region
  all_goals
   go_wp2_with fail;refine bodyPost_ret (results_item_tmp rfl _ _ b6 (itemV (some v)) rfl rfl N.out.2) rfl ?_;rw [SR.out];exact N.out.1
 | none=>
  have SR:Hid (seesR D o key=asofL (vsOf D.all key).vs o.start):=Ξ (by simp [seesR,hv]);have L1:Hid ((lk key (wrL o.wr)).getD (.agg #[.int .u64 0,.bool false,.int .u64 0,.slice none 0 0,.slice none 0 0])=.agg #[.int .u64 0,.bool false,.int .u64 0,.slice none 0 0,.slice none 0 0]∧(lk key (wrL o.wr)).isSome=false):=Ξ (by rw [LW.out,hv];exact ⟨rfl,rfl⟩);have M1:=Ξ (OM.out.only ((Ω [] w).alloc (.cells #[.int .u64 0,.slice none 0 0,.slice none 0 0] tIt)) (by simp));clear hv LW;go_upto_region 2 with (at_lookup;refine wpList_look_ok rfl (.tmp 14) (.tmp 15) tMvr rfl 34 tVr .u64 underlying283 underlying34 _ zeroVr o.bm (wrL o.wr) rfl M1.out key rfl _ _ L1.out.1 L1.out.2 ?_);have R6:Hid (Row ((w.alloc (.cells #[.int .u64 0,.slice none 0 0,.slice none 0 0] tIt)).alloc (.cells #[.int .u64 0,.bool false,.int .u64 0,.slice none 0 0,.slice none 0 0] tVr)) w.heap.size (itemV none) tIt):=Ξ ((Φ w _ _).only ((Ω [] _).alloc _) (by simp));have K1:Hid (Only [] w ((w.alloc (.cells #[.int .u64 0,.slice none 0 0,.slice none 0 0] tIt)).alloc (.cells #[.int .u64 0,.bool false,.int .u64 0,.slice none 0 0,.slice none 0 0] tVr))):=Ξ (((Ω [] w).alloc _).alloc _);have R8:Hid (Row ((w.alloc (.cells #[.int .u64 0,.slice none 0 0,.slice none 0 0] tIt)).alloc (.cells #[.int .u64 0,.bool false,.int .u64 0,.slice none 0 0,.slice none 0 0] tVr)) (w.heap.size+1) #[.int .u64 0,.bool false,.int .u64 0,.slice none 0 0,.slice none 0 0] tVr):=Ξ (by
   have h3:=Φ (w.alloc (.cells #[.int .u64 0,.slice none 0 0,.slice none 0 0] tIt)) #[.int .u64 0,.bool false,.int .u64 0,.slice none 0 0,.slice none 0 0] tVr
   rwa [World.size_alloc] at h3)
  have SZ:Hid (w.heap.size+1+1=((w.alloc (.cells #[.int .u64 0,.slice none 0 0,.slice none 0 0] tIt)).alloc (.cells #[.int .u64 0,.bool false,.int .u64 0,.slice none 0 0,.slice none 0 0] tVr)).heap.size):=Ξ (by simp);generalize ((w.alloc (.cells #[.int .u64 0,.slice none 0 0,.slice none 0 0] tIt)).alloc (.cells #[.int .u64 0,.bool false,.int .u64 0,.slice none 0 0,.slice none 0 0] tVr))=w1 at *;have OT1:=Ξ (OT.out.only K1.out (by simp));clear t1 M1;have NE:Hid (w.heap.size<w.heap.size+1):=Ξ (by omega);have LT:Hid (∀ b,b<w.heap.size→b<w1.heap.size):=Ξ (fun b hb=>by have:=K1.out.size;omega);obtain ⟨b6,hb6⟩:∃ b6,w.heap.size=b6:=⟨_,rfl⟩;have E6:=Ξ hb6;rw [hb6] at R6 R8 SZ ⊢;clear hb6;have ⟨x0,x1,x2⟩:w1.cell? ⟨b6,0,none⟩=some (.int .u64 0)∧w1.cell? ⟨b6,1,none⟩=some (.slice none 0 0)∧w1.cell? ⟨b6,2,none⟩=some (.slice none 0 0):=⟨R6.out.cell 0,R6.out.cell 1,R6.out.cell 2⟩;have ⟨y0,y1,y2⟩:w1.frozen? ⟨b6,0,none⟩=false∧w1.frozen? ⟨b6,1,none⟩=false∧w1.frozen? ⟨b6,2,none⟩=false:=⟨R6.out.free 0,R6.out.free 1,R6.out.free 2⟩;have u0:=OT1.out.c 0 (.int .u64 o.start);have AS:=Ξ (asof_on (H.out.only K1.out (by simp)) o.start key HL.out);go_wp2_with fail;refine AS.out.mono ?_;rintro _ w2 ⟨rfl,hb⟩;have R62:=Ξ (R6.out.only ((Ω [] w1).below hb) (by simp));have HB:=Ξ hb;have ⟨c0,c1,c2⟩:w2.cell? ⟨b6,0,none⟩=some (.int .u64 0)∧w2.cell? ⟨b6,1,none⟩=some (.slice none 0 0)∧w2.cell? ⟨b6,2,none⟩=some (.slice none 0 0):=⟨R62.out.cell 0,R62.out.cell 1,R62.out.cell 2⟩;have ⟨f0,f1,f2⟩:w2.frozen? ⟨b6,0,none⟩=false∧w2.frozen? ⟨b6,1,none⟩=false∧w2.frozen? ⟨b6,2,none⟩=false:=⟨R62.out.free 0,R62.out.free 1,R62.out.free 2⟩;clear hb x0 x1 x2 y0 y1 y2 u0;obtain ⟨k,a1,n1,d1,a2,n2,d2,hI⟩:∃ k a1 n1 d1 a2 n2 d2,itemV (asofL (vsOf D.all key).vs o.start)=#[.int .u64 k,.slice a1 n1 d1,.slice a2 n2 d2]:=by
   cases asofL (vsOf D.all key).vs o.start with
   | none=>exact ⟨_,_,_,_,_,_,_,rfl⟩
   | some x=>exact ⟨_,_,_,_,_,_,_,rfl⟩
  have HII:=Ξ hI;have N:Hid (Below w.heap.size w (((w2.setCell ⟨b6,0,none⟩ (.int .u64 k)).setCell ⟨b6,1,none⟩ (.slice a1 n1 d1)).setCell ⟨b6,2,none⟩ (.slice a2 n2 d2))∧Row (((w2.setCell ⟨b6,0,none⟩ (.int .u64 k)).setCell ⟨b6,1,none⟩ (.slice a1 n1 d1)).setCell ⟨b6,2,none⟩ (.slice a2 n2 d2)) b6 (itemV (asofL (vsOf D.all key).vs o.start)) tIt):=Ξ (by
   have K2:Only [] w w2:=K1.out.below HB.out;have K4:Only [b6] w2 (((w2.setCell ⟨b6,0,none⟩ (.int .u64 k)).setCell ⟨b6,1,none⟩ (.slice a1 n1 d1)).setCell ⟨b6,2,none⟩ (.slice a2 n2 d2)):=(((Ω [b6] w2).setCell (.inl (by simp)) _).setCell (.inl (by simp)) _).setCell (.inl (by simp)) _;have h6:=((R62.out.set 0 (.int .u64 k)).set 1 (.slice a1 n1 d1)).set 2 (.slice a2 n2 d2);refine ⟨?_,?_⟩
   ·exact (K2.trans K4 (fun i hi=>by simp at hi;subst hi;exact .inr (by have:=E6.out;omega))).toBelow (Θ _) (by simp)
   ·rw [HII.out];simpa [itemV] using h6)
  rw [hI];go_wp2_with fail;refine bodyPost_ret (results_item_tmp rfl _ _ b6 (itemV (asofL (vsOf D.all key).vs o.start)) (itemV_size _) rfl N.out.2) rfl ?_;rw [SR.out];exact ⟨rfl,N.out.1⟩
theorem lkV_mem{l:List (Int×Ver)}{key:Int}{v:Ver}(h:lkV l key=some v):∃ y∈l,y.2=v:=by unfold lkV at h;rw [Option.map_eq_some_iff] at h;obtain ⟨y,hy,rfl⟩:=h;exact ⟨y,List.mem_of_find?_eq_some hy,rfl⟩
theorem asofL_mem{l:List Ver}{at_:Int}{v:Ver}(h:asofL l at_=some v):v∈l:=by have:=List.mem_of_find?_eq_some h;simpa using this
theorem seesR_at{w:World}{B p ba bo:Nat}{D:PDB}(h:DbAt w B p ba bo D){o:PTx}(ho:o∈D.op){key:Int}{v:Ver}(hv:seesR D o key=some v):VerAt w v:=by
 unfold seesR at hv;cases hl:lkV o.wr key with
 | some u=>
  rw [hl] at hv;simp only [Option.some.injEq] at hv;subst hv;obtain ⟨y,hy,rfl⟩:=lkV_mem hl;exact h.wrd o ho y hy
 | none=>
  rw [hl] at hv;simp only at hv;exact (vsOf_at h key).each v (asofL_mem hv)
def GetTo(r:Option Ver)(w:World)(e:Ending)(w':World):Prop:=match r with
 | some v=>if v.gone then e=.returned (.tuple #[.agg (itemV none),.int .i64 7])∧Below w.heap.size w w'
  else ∃ va ta:Sl,e=.returned (.tuple #[.agg #[.int .u64 v.key,va.v,ta.v],.int .i64 0])∧va.xs=v.vec.xs∧ta.xs=v.tag.xs∧SlAt .i32 w' va∧SlAt .u8 w' ta∧(∀ b∈va.bs++ta.bs,w.heap.size≤b)∧Below w.heap.size w w'
 | none=>e=.returned (.tuple #[.agg (itemV none),.int .i64 7])∧Below w.heap.size w w'
theorem get_on{w:World}{B p ba bo:Nat}{D:PDB}(h:DbAt w B p ba bo D){n key:Int}{o:PTx}(ho:findP n D.op=some o)(hl:(vsOf D.all key).vs.length≤1000000) :
  Calls prog 232 #[.pointer (some ⟨p,0,none⟩),.int .u64 n,.int .u64 key] w (GetTo (seesR D o key) w):=by
 obtain ⟨hom,rfl⟩:=findP_some ho;have H:=Ξ h;have FI:Hid (∀ y,Only [] w y→Calls prog 237 #[.pointer (some ⟨p,0,none⟩),.int .u64 o.n] y fun e w'=>e=.returned (.tuple #[.pointer (some ⟨o.bt,0,none⟩),.int .i64 0])∧w'=y):=Ξ fun y k=>find_yes (h.only k (by simp)) ho;have SE:Hid (∀ y,Only [] w y→Calls prog 240 #[.pointer (some ⟨p,0,none⟩),.pointer (some ⟨o.bt,0,none⟩),.int .u64 key] y (AsOfTo (seesR D o key) y)):=Ξ fun y k=>sees_on (h.only k (by simp)) hom key hl;have SV:Hid (∀ v,seesR D o key=some v→VerAt w v):=Ξ fun v hv=>seesR_at h hom hv;clear h ho hl;generalize seesR D o key=r at *;go_enter func232,ntmps232;go_wp2_with fail;have R6:Hid (Row (w.alloc (.cells #[.int .u64 0,.slice none 0 0,.slice none 0 0] tIt)) w.heap.size (itemV none) tIt):=Ξ (Φ w _ _);have K1:Hid (Only [] w (w.alloc (.cells #[.int .u64 0,.slice none 0 0,.slice none 0 0] tIt))):=Ξ ((Ω [] w).alloc _);generalize w.alloc (.cells #[.int .u64 0,.slice none 0 0,.slice none 0 0] tIt)=w1 at *;refine (FI.out _ K1.out).mono ?_;rintro _ w2 ⟨rfl,hw⟩;subst w2;go_wp2_with fail;refine (SE.out _ K1.out).mono ?_;rintro _ w2 ⟨rfl,hb⟩;have K2:=Ξ (K1.out.below hb);have R62:=Ξ (R6.out.only ((Ω [] w1).below hb) (by simp));clear hb SE FI R6 K1;have no:okV r=false→GetTo r w (.returned (.tuple #[.agg (itemV none),.int .i64 7]))=GetTo none w (.returned (.tuple #[.agg (itemV none),.int .i64 7])):=by
  intro h;cases r with
  | none=>rfl
  | some v=>
   have hg:v.gone=true:=by simpa [okV] using h
   funext w';simp [GetTo,hg]
 have NO:=Ξ no;clear no;obtain ⟨b6,hb6⟩:∃ b6,w.heap.size=b6:=⟨_,rfl⟩;have E6:=Ξ hb6;rw [hb6] at R62 ⊢;clear hb6;obtain ⟨k,a1,n1,d1,a2,n2,d2,hI⟩:∃ k a1 n1 d1 a2 n2 d2,itemV r=#[.int .u64 k,.slice a1 n1 d1,.slice a2 n2 d2]:=by
  cases r with
  | none=>exact ⟨_,_,_,_,_,_,_,rfl⟩
  | some x=>exact ⟨_,_,_,_,_,_,_,rfl⟩
 have HII:=Ξ hI;rw [hI];clear hI;have K3:Hid (Only [] w (w2.alloc (.cells #[.int .u64 k,.slice a1 n1 d1,.slice a2 n2 d2] tIt))):=Ξ (K2.out.alloc _);have RX:Hid (Row (w2.alloc (.cells #[.int .u64 k,.slice a1 n1 d1,.slice a2 n2 d2] tIt)) b6 (itemV none) tIt):=Ξ (R62.out.only ((Ω [] w2).alloc _) (by simp));have RY:Hid (Row (w2.alloc (.cells #[.int .u64 k,.slice a1 n1 d1,.slice a2 n2 d2] tIt)) w2.heap.size #[.int .u64 k,.slice a1 n1 d1,.slice a2 n2 d2] tIt):=Ξ (Φ _ _ _);have ⟨x0,x1,x2⟩:(w2.alloc (.cells #[.int .u64 k,.slice a1 n1 d1,.slice a2 n2 d2] tIt)).cell? ⟨b6,0,none⟩=some (.int .u64 0)∧(w2.alloc (.cells #[.int .u64 k,.slice a1 n1 d1,.slice a2 n2 d2] tIt)).cell? ⟨b6,1,none⟩=some (.slice none 0 0)∧(w2.alloc (.cells #[.int .u64 k,.slice a1 n1 d1,.slice a2 n2 d2] tIt)).cell? ⟨b6,2,none⟩=some (.slice none 0 0):=⟨RX.out.cell 0,RX.out.cell 1,RX.out.cell 2⟩;have ⟨y0,y1,y2⟩:(w2.alloc (.cells #[.int .u64 k,.slice a1 n1 d1,.slice a2 n2 d2] tIt)).frozen? ⟨b6,0,none⟩=false∧(w2.alloc (.cells #[.int .u64 k,.slice a1 n1 d1,.slice a2 n2 d2] tIt)).frozen? ⟨b6,1,none⟩=false∧(w2.alloc (.cells #[.int .u64 k,.slice a1 n1 d1,.slice a2 n2 d2] tIt)).frozen? ⟨b6,2,none⟩=false:=⟨RX.out.free 0,RX.out.free 1,RX.out.free 2⟩;cases ho:okV r with
 | false=>
  have HO:=Ξ ho;clear ho;go_upto_region 5 with fail;generalize w2.alloc (.cells #[.int .u64 k,.slice a1 n1 d1,.slice a2 n2 d2] tIt)=w3 at *;have N:Hid (Below w.heap.size w (((w3.setCell ⟨b6,0,none⟩ (.int .u64 0)).setCell ⟨b6,1,none⟩ (.slice none 0 0)).setCell ⟨b6,2,none⟩ (.slice none 0 0))∧Row (((w3.setCell ⟨b6,0,none⟩ (.int .u64 0)).setCell ⟨b6,1,none⟩ (.slice none 0 0)).setCell ⟨b6,2,none⟩ (.slice none 0 0)) b6 (itemV none) tIt):=Ξ (by have K4:Only [b6] w3 (((w3.setCell ⟨b6,0,none⟩ (.int .u64 0)).setCell ⟨b6,1,none⟩ (.slice none 0 0)).setCell ⟨b6,2,none⟩ (.slice none 0 0)):=(((Ω [b6] w3).setCell (.inl (by simp)) _).setCell (.inl (by simp)) _).setCell (.inl (by simp)) _;have h6:=((RX.out.set 0 (.int .u64 0)).set 1 (.slice none 0 0)).set 2 (.slice none 0 0);exact ⟨(K3.out.trans K4 (fun i hi=>by simp at hi;subst hi;exact .inr (by have:=E6.out;omega))).toBelow (Θ _) (by simp),by simpa [itemV] using h6⟩)
  go_wp2_with fail;refine bodyPost_ret (results_item_tmp rfl _ _ b6 (itemV none) rfl rfl N.out.2) rfl ?_;show GetTo r w (.returned (.tuple #[.agg (itemV none),.int .i64 7])) _;rw [NO.out HO.out];exact ⟨rfl,N.out.1⟩
 | true=>
  obtain ⟨v,rfl,hg⟩:∃ v,r=some v∧v.gone=false:=by
   cases r with
   | none=>simp [okV] at ho
   | some v=>exact ⟨v,rfl,by simpa [okV] using ho⟩
  have HG:=Ξ hg;have OW:Hid (∀ y,Only [] w y→Calls prog 241 #[.agg #[.int .u64 k,.slice a1 n1 d1,.slice a2 n2 d2]] y (OwnTo v.key v.vec.xs v.tag.xs y)):=Ξ fun y ky=>by rw [←HII.out];exact own_on ((SV.out v rfl).vec.only ky (by simp)) ((SV.out v rfl).tag.only ky (by simp))
  clear ho hg;go_upto_region 5 with fail;obtain ⟨b8,hb8⟩:∃ b8,w2.heap.size=b8:=⟨_,rfl⟩;rw [hb8] at RY ⊢;clear hb8;generalize w2.alloc (.cells #[.int .u64 k,.slice a1 n1 d1,.slice a2 n2 d2] tIt)=w3 at *;have ⟨z0,z1,z2⟩:w3.cell? ⟨b8,0,none⟩=some (.int .u64 k)∧w3.cell? ⟨b8,1,none⟩=some (.slice a1 n1 d1)∧w3.cell? ⟨b8,2,none⟩=some (.slice a2 n2 d2):=⟨RY.out.cell 0,RY.out.cell 1,RY.out.cell 2⟩;go_wp2_with fail;refine (OW.out _ K3.out).mono ?_;rintro _ w4 ⟨va,ta,rfl,hx1,hx2,hs1,hs2,hge,hb⟩;have HB:=Ξ hb;have R64:=Ξ (RX.out.only ((Ω [] w3).below hb) (by simp));clear x0 x1 x2 y0 y1 y2 z0 z1 z2;have HX:Hid (va.xs=v.vec.xs∧ta.xs=v.tag.xs∧SlAt .i32 w4 va∧SlAt .u8 w4 ta∧(∀ b∈va.bs++ta.bs,w3.heap.size≤b)):=Ξ ⟨hx1,hx2,hs1,hs2,hge⟩;clear hx1 hx2 hs1 hs2 hge hb;have ⟨c0,c1,c2⟩:w4.cell? ⟨b6,0,none⟩=some (.int .u64 0)∧w4.cell? ⟨b6,1,none⟩=some (.slice none 0 0)∧w4.cell? ⟨b6,2,none⟩=some (.slice none 0 0):=⟨R64.out.cell 0,R64.out.cell 1,R64.out.cell 2⟩;have ⟨f0,f1,f2⟩:w4.frozen? ⟨b6,0,none⟩=false∧w4.frozen? ⟨b6,1,none⟩=false∧w4.frozen? ⟨b6,2,none⟩=false:=⟨R64.out.free 0,R64.out.free 1,R64.out.free 2⟩;have N:Hid (GetTo (some v) w (.returned (.tuple #[.agg #[.int .u64 v.key,va.v,ta.v],.int .i64 0])) (((w4.setCell ⟨b6,0,none⟩ (.int .u64 v.key)).setCell ⟨b6,1,none⟩ va.v).setCell ⟨b6,2,none⟩ ta.v)∧Row (((w4.setCell ⟨b6,0,none⟩ (.int .u64 v.key)).setCell ⟨b6,1,none⟩ va.v).setCell ⟨b6,2,none⟩ ta.v) b6 #[.int .u64 v.key,va.v,ta.v] tIt):=Ξ (by
   have K4:Only [b6] w4 (((w4.setCell ⟨b6,0,none⟩ (.int .u64 v.key)).setCell ⟨b6,1,none⟩ va.v).setCell ⟨b6,2,none⟩ ta.v):=(((Ω [b6] w4).setCell (.inl (by simp)) _).setCell (.inl (by simp)) _).setCell (.inl (by simp)) _;have h6:=((R64.out.set 0 (.int .u64 v.key)).set 1 va.v).set 2 ta.v;have hx:=HX.out;have e6:=E6.out;have l6:=RX.out.lt;have s3:=K3.out.size;refine ⟨?_,by simpa [itemV] using h6⟩;simp only [GetTo];rw [HG.out];simp only [Bool.false_eq_true,if_false];refine ⟨va,ta,rfl,hx.1,hx.2.1,hx.2.2.1.only K4 ?_,hx.2.2.2.1.only K4 ?_,fun b hb=>by have:=hx.2.2.2.2 b hb;omega,((K3.out.below HB.out).trans K4 (fun i hi=>by simp at hi;subst hi;exact .inr (by omega))).toBelow (Θ _) (by simp)⟩
   ·intro b hb hm;simp at hm;have:=hx.2.2.2.2 b (List.mem_append_left _ hb);omega
   ·intro b hb hm;simp at hm;have:=hx.2.2.2.2 b (List.mem_append_right _ hb);omega)
  unfold Sl.v at N ⊢;go_wp2_with fail;refine bodyPost_ret (results_item_tmp rfl _ _ b6 #[.int .u64 v.key,.slice va.a va.xs.length va.c,.slice ta.a ta.xs.length ta.c] rfl rfl N.out.2) rfl ?_;exact N.out.1
def shutP(D:PDB)(n:Int):PDB:={ D with op:=D.op.filter fun o=>!decide (o.n=n) }
theorem rm_pxL(n:Int)(l:List PTx):rm n (pxL l)=pxL (l.filter fun o=>!decide (o.n=n)):=by unfold rm pxL;rw [List.filter_map];rfl
theorem DbAt.shut{w w':World}{B p ba bo:Nat}{D:PDB}(h:DbAt w B p ba bo D)(n:Int)(k:Only [bo] w w')(hm:MapAt w' bo .u64 (rm n (pxL D.op))) :
  DbAt w' B p ba bo (shutP D n)∧(∀ b∈(shutP D n).own p ba bo,b∈D.own p ba bo)∧(∀ b∈(shutP D n).reads,b∈D.reads):=by
 obtain ⟨a1,a2,a3,a4⟩:=own_apart h.nd;have hbo:bo∈D.own p ba bo:=by simp [PDB.own]
 have k1:∀ b,b∈D.reads→b∉[bo]:=fun b hb=>by simp;rintro rfl;exact h.ap _ hbo hb
 have hsub:List.Sublist (shutP D n).op D.op:=List.filter_sublist;have hpx:List.Sublist (pxB (shutP D n).op) (pxB D.op):=by
  unfold pxB shutP;simp only;generalize D.op=l;induction l with
  | nil=>simp
  | cons x l ih=>
   rw [List.filter_cons];split
   ·simp only [List.flatMap_cons];exact List.Sublist.append (List.Sublist.refl _) ih
   ·simp only [List.flatMap_cons];exact ih.trans (List.sublist_append_right _ _)
 have hown:List.Sublist ((shutP D n).own p ba bo) (D.own p ba bo):=by unfold PDB.own;exact ((hpx.cons_cons _).cons_cons _).cons_cons _
 have hrd:∀ b∈(shutP D n).reads,b∈D.reads:=by
  intro b hb;rcases List.mem_append.1 hb with hb|hb
  ·exact List.mem_append_left _ hb
  ·obtain ⟨x,hx,hb⟩:=List.mem_flatMap.1 hb;exact List.mem_append_right _ (List.mem_flatMap.2 ⟨x,hsub.subset hx,hb⟩)
 refine ⟨⟨h.row.only k (by simp;exact a2),h.am.only k (by simp;exact a3),by unfold shutP;simp only;rw [←rm_pxL];exact hm,?_,?_,?_,h.nd.sublist hown,fun b hb=>h.ge b (hown.subset hb),fun b hb=>h.gr b (hrd b hb),fun b hb hr=>h.ap b (hown.subset hb) (hrd b hr),⟨h.fine.dim,h.fine.begun,h.fine.last,fun o ho=>h.fine.ops o (hsub.subset ho)⟩⟩,fun b hb=>hown.subset hb,hrd⟩
 ·intro x hx;have hx:=hsub.subset hx;exact ⟨(h.oa x hx).1.only k (by simp;exact (a4 _ (mem_pxB hx).1).2.2),(h.oa x hx).2.only k (by simp;exact (a4 _ (mem_pxB hx).2).2.2)⟩
 ·exact fun x (hx:x∈D.all)=>(h.vsd x hx).only k fun b hb=>k1 b (mem_reads1 hx hb)
 ·intro x hx y hy;have hx:=hsub.subset hx;exact (h.wrd x hx y hy).only k fun b hb=>k1 b (mem_reads2 hx hy hb)
def upS(k:Int)(V:Vs):List (Int×Vs)→List (Int×Vs)
 | []=>[(k,V)]
 | x :: l=>if k=x.1 then (k,V) :: l else x :: upS k V l
theorem up_vsL(k:Int)(V:Vs):∀ l,up k V.v (vsL l)=vsL (upS k V l)
 | []=>rfl
 | x :: l=>by
  have ih:=up_vsL k V l;unfold vsL at ih ⊢;simp only [List.map_cons,up,upS];by_cases h:k=x.1
  ·rw [if_pos h,if_pos h];simp [h]
  ·rw [if_neg h,if_neg h,ih];rfl
theorem mem_upS{k:Int}{V:Vs}{y:Int×Vs}:∀ {l},y∈upS k V l→y=(k,V)∨y∈l
 | [],h=>.inl (by simpa [upS] using h)
 | x :: l,h=>by
  unfold upS at h;split at h
  ·rcases List.mem_cons.1 h with h|h
   ·exact .inl h
   ·exact .inr (List.mem_cons_of_mem _ h)
  ·rcases List.mem_cons.1 h with h|h
   ·exact .inr (by rw [h];exact List.mem_cons_self ..)
   ·rcases mem_upS h with h|h
    ·exact .inl h
    ·exact .inr (List.mem_cons_of_mem _ h)
theorem vsOf_cons(x:Int×Vs)(l:List (Int×Vs))(j:Int):vsOf (x :: l) j=if x.1=j then x.2 else vsOf l j:=by unfold vsOf;rw [List.find?_cons];by_cases h:x.1=j<;>simp [h]
theorem vsOf_up(k:Int)(V:Vs)(j:Int):∀ l,vsOf (upS k V l) j=if j=k then V else vsOf l j
 | []=>by
  unfold upS;rw [vsOf_cons];by_cases h:j=k
  ·simp [h]
  ·rw [if_neg (fun e=>h e.symm),if_neg h]
 | x :: l=>by
  have ih:=vsOf_up k V j l;unfold upS;by_cases hk:k=x.1
  ·rw [if_pos hk,vsOf_cons,vsOf_cons];by_cases h:j=k
   ·simp [h]
   ·rw [if_neg h,if_neg (fun e=>h e.symm),if_neg (fun e=>h (by rw [hk,e]))]
  ·rw [if_neg hk,vsOf_cons,vsOf_cons,ih];by_cases h:j=k
   ·subst h;rw [if_neg (fun e=>hk e.symm),if_pos rfl,if_pos rfl]
   ·rw [if_neg h,if_neg h]
def laidP(D:PDB)(k:Int)(V:Vs):PDB:={ D with all:=upS k V D.all }
theorem DbAt.laid{w w':World}{B p ba bo:Nat}{D:PDB}{key:Int}{V:Vs}(h:DbAt w B p ba bo D)(k:Only [ba] w w')(hm:MapAt w' ba .u64 (up key V.v (vsL D.all)))(hv:VsAt w' V)(hB:∀ b∈V.bs,B≤b)(hap:∀ b∈V.bs,b∉D.own p ba bo) :
  DbAt w' B p ba bo (laidP D key V)∧∀ b∈(laidP D key V).reads,b∈D.reads∨b∈V.bs:=by
 obtain ⟨a1,a2,a3,a4⟩:=own_apart h.nd;have hba:ba∈D.own p ba bo:=by simp [PDB.own]
 have k1:∀ b,b∈D.reads→b∉[ba]:=fun b hb=>by simp;rintro rfl;exact h.ap _ hba hb
 have hrd:∀ b∈(laidP D key V).reads,b∈D.reads∨b∈V.bs:=by
  intro b hb;rcases List.mem_append.1 hb with hb|hb
  ·obtain ⟨x,hx,hb⟩:=List.mem_flatMap.1 hb;rcases mem_upS hx with rfl|hx
   ·exact .inr hb
   ·exact .inl (mem_reads1 hx hb)
  ·exact .inl (List.mem_append_right _ hb)
 refine ⟨⟨h.row.only k (by simp;exact a1),by rw [up_vsL] at hm;exact hm,h.om.only k (by simp;exact fun e=>a3 e.symm),?_,?_,?_,h.nd,h.ge,?_,?_,⟨h.fine.dim,h.fine.begun,h.fine.last,h.fine.ops⟩⟩,hrd⟩
 ·intro x hx;exact ⟨(h.oa x hx).1.only k (by simp;exact (a4 _ (mem_pxB hx).1).2.1),(h.oa x hx).2.only k (by simp;exact (a4 _ (mem_pxB hx).2).2.1)⟩
 ·intro x hx;rcases mem_upS hx with rfl|hx
  ·exact hv
  ·exact (h.vsd x hx).only k fun b hb=>k1 b (mem_reads1 hx hb)
 ·exact fun x (hx:x∈D.op) y hy=>(h.wrd x hx y hy).only k fun b hb=>k1 b (mem_reads2 hx hy hb)
 ·intro b hb;rcases hrd b hb with hb|hb
  ·exact h.gr b hb
  ·exact hB b hb
 ·intro b hb hr;rcases hrd b hr with hr|hr
  ·exact h.ap b hb hr
  ·exact hap b hr hb
end Go.Proofs.YtcgmgdjeamidlaaGreat
namespace Go.Proofs.YtcgmgdjeamidlaaGreat
set_option maxRecDepth 100000
set_option maxHeartbeats 16000000
open Go.RowKit Go.Shelf Go.ChangeShapes Go.WideShapes Go.ChangeAt Go.Proofs.Tryz
set_option linter.unusedVariables false
set_option linter.unusedSimpArgs false
def cut1(V:Vs):Value:=.slice V.a V.vs.length V.vs.length
theorem clip_on{w:World}{V:Vs}(h:VsAt w V)(hl:V.vs.length≤1000000):Calls prog 239 #[V.v] w fun e w'=>e=.returned (cut1 V)∧w'=w:=by
 have hc:=h.cap;have hs:=h.src;unfold Vs.v cut1 at *;obtain ⟨m,hm⟩:∃ m,V.vs.length=m:=⟨_,rfl⟩;rw [hm] at hc hl hs ⊢;have HS:=Ξ hs;have HM:=Ξ hm;clear hs hm;cases ha:V.a with
 | none=>
  go_enter func239,ntmps239;go_wp2_with fail;go_ret;exact ⟨rfl,rfl⟩
 | some ad=>
  go_enter func239,ntmps239;go_wp2_with fail;go_ret;exact ⟨rfl,rfl⟩
theorem Vs.of_own{w:World}{B n:Nat}{v:Value}{vs:List Ver}(h:w.ownsRow B tVr 5 v n (verL vs))(hn:vs.length=n)(he:∀ u∈vs,VerAt w u):∃ V:Vs,v=V.v∧V.vs=vs∧VsAt w V∧∀ ad,V.a=some ad→B≤ad.block:=by
 have hlt:=h.lt;rcases h.2 with ⟨rfl,h0⟩|⟨g,cap,cur,rfl,hb,hg,hnc,hcm,hcs,htake⟩
 ·have hx:vs=[]:=List.length_eq_zero_iff.1 (by omega);subst hx;exact ⟨Vs.no,rfl,rfl,VsAt.no w,by simp [Vs.no]⟩
 ·have hcell:∀ j u,(verL vs)[j]? = some u→w.cell? ⟨g,0+j,none⟩=some u:=fun j u hj=>by have hj':=(List.getElem?_eq_some_iff.1 hj).1;rw [verL_len] at hj';rw [Nat.zero_add,h.cellAt j (by omega),hj]
  refine ⟨⟨some ⟨g,0,none⟩,cap,vs⟩,by simp [Vs.v,hn],rfl,⟨.inr ⟨⟨g,0,none⟩,cap,rfl,by rw [verL_len],fun j u hj=>by rw [add_plain];exact hcell j u hj⟩,fun ad ha=>?_,he,⟨by simp;omega,hcm⟩,fun ad ha=>by cases ha;rfl⟩,fun ad ha=>?_⟩
  ·cases ha;exact (hlt _ rfl).2
  ·cases ha;exact (hlt _ rfl).1
theorem infoVer:(prog.info? tVr).map (fun i=>(i.zero,i.size,i.bytes))=some (some (.agg #[.int .u64 0,.bool false,.int .u64 0,.slice none 0 0,.slice none 0 0]),5,72):=by kernel_rfl
theorem vs_append{w:World}{V:Vs}{u:Ver}{b:Nat}(h:VsAt w V)(hl:V.vs.length≤1000000)(hu:VerAt w u)(hb:Row w b u.cells.toArray tVr) :
  ∃ (V':Vs) (w':World),(Builtin.append_ #[tVrs,tVrs] tVrs #[cut1 V,.slice (some ⟨b,0,none⟩) 1 1]).run prog w=.ok V'.v w'∧V'.vs=V.vs++[u]∧VsAt w' V'∧(∀ ad,V'.a=some ad→w.heap.size≤ad.block)∧Only [] w w':=by
 obtain ⟨i0,hi,hz0,hz1,hz2⟩:=info_parts infoVer;have hnews:∀ j x,u.cells[j]? = some x→w.cell? ((⟨b,0,none⟩:Addr).add j)=some x:=fun j x hj=>by rw [add_plain,Nat.zero_add,hb.cell j];simpa using hj
 have hnl:u.cells.length=1 * 5:=by simp [Ver.cells]
 have fin:∀ (v':Value) (w':World),w'.ownsRow w.heap.size tVr 5 v' (V.vs.length+1) (verL V.vs++u.cells)→Only [] w w'→∃ V':Vs,v'=V'.v∧V'.vs=V.vs++[u]∧VsAt w' V'∧∀ ad,V'.a=some ad→w.heap.size≤ad.block:=fun v' w' ho k=>by
  have e:verL V.vs++u.cells=verL (V.vs++[u]):=by rw [verL_append];simp [verL]
  rw [e] at ho;refine Vs.of_own ho (by simp) fun x hx=>?_;rcases List.mem_append.1 hx with hx|hx
  ·exact (h.each x hx).only k (by simp)
  ·simp only [List.mem_singleton] at hx;subst hx;exact hu.only k (by simp)
 rcases h.src with h1|⟨ad,c,e,hlen,hc⟩
 ·have hv:cut1 V=.slice none 0 0:=by obtain ⟨h1,h2,_⟩:=h1;unfold Vs.v at h1;unfold cut1;simp only [Value.slice.injEq] at h1;rw [h1.1,h1.2.1]
  have hvs:V.vs=[]:=List.length_eq_zero_iff.1 (by have:=h1.2.1;omega);obtain ⟨v',w',hrun,ho,hg,_⟩:=append_own_at (P:=prog) w w.heap.size tVrs tVrs tVr i0 _ 5 72 underlying286 hi hz0 hz1 hz2 (by decide) (by omega) (.slice none 0 0) 0 [] (World.ownsRow_nil _ _ _ _) ⟨b,0,none⟩ 1 1 u.cells hnl hnews (by simp [Ver.cells,Sl.v,Value.oneCell']) (by unfold maxLen;omega) (by omega) (Θ _);have k:Only [] w w':=⟨hg.os,hg.tape,hg.output,hg.size,fun i hi hn=>hg.block i hi (by simp [Value.ownBlock])⟩;obtain ⟨V',rfl,a1,a2,a3⟩:=fin v' w' (by rw [hvs];exact ho) k;exact ⟨V',w',by rw [hv];exact hrun,a1,a2,a3,k⟩
 ·have hv:cut1 V=.slice (some ad) V.vs.length V.vs.length:=by unfold Vs.v at e;unfold cut1;simp only [Value.slice.injEq] at e;rw [e.1]
  obtain ⟨v',w',hrun,ho,hg⟩:=run_append_arg_grows (P:=prog) w tVrs tVrs tVr i0 _ 5 72 underlying286 hi hz0 hz1 hz2 (by decide) (by omega) ad V.vs.length V.vs.length (verL V.vs) (verL_len _) hc ⟨b,0,none⟩ 1 1 u.cells hnl hnews (by omega) (by unfold maxLen;omega) (by omega);have k:Only [] w w':=⟨hg.os,hg.tape,hg.output,hg.size,fun i hi hn=>hg.block i hi (by simp)⟩;obtain ⟨V',rfl,a1,a2,a3⟩:=fin v' w' ho k;exact ⟨V',w',by rw [hv];exact hrun,a1,a2,a3,k⟩
theorem mem_rm{k:Int}{L:List (Int×Value)}{p:Int×Value}:p∈rm k L↔p∈L∧p.1≠k:=by simp [rm]
theorem rm_lt{k:Int}{v:Value}:∀ {L:List (Int×Value)},(k,v)∈L→(rm k L).length<L.length:=by
 intro L h;unfold rm;have h1:(k,v)∉L.filter fun p=>!decide (p.1=k):=by simp
 rcases Nat.lt_or_ge (L.filter fun p=>!decide (p.1=k)).length L.length with g|g
 ·exact g
 ·have:=List.filter_eq_self.1 ((List.filter_sublist (l:=L) (p:=fun p=>!decide (p.1=k))).eq_of_length_le g) (k,v) h;simp at this
def ClashAt(V:Vs)(start:Int):Prop:=∃ v,V.vs.getLast? = some v∧start<v.at_
def ClashP(D:PDB)(o:PTx):Prop:=∃ y∈o.wr,ClashAt (vsOf D.all y.1) o.start
def ClearYet(D:PDB)(o:PTx)(left:List (Int×Value)):Prop:=∀ y∈o.wr,(∀ q∈left,q.1≠y.1)→¬ ClashAt (vsOf D.all y.1) o.start
def newV(D:PDB)(v:Ver):Ver:={ v with at_:=D.last+1 }
def laidL(D:PDB)(o:PTx)(left:List (Int×Value))(j:Int):List Ver:=match lkV o.wr j with
 | some v=>if left.any (fun q=>decide (q.1=j)) then [] else [newV D v]
 | none=>[]
structure KeysOf(D:PDB)(o:PTx)(all':List (Int×Vs))(n:Nat):Prop where
 mem:∀ y∈all',y.1∈D.all.map (·.1)∨y.1∈o.wr.map (·.1)
 len:all'.length+n≤D.all.length+o.wr.length
 ne:(∀ x∈D.all,x.2.vs≠[])→∀ y∈all',y.2.vs≠[]
theorem upS_len(k:Int)(V:Vs)(l:List (Int×Vs)):(upS k V l).length≤l.length+1:=by
 induction l with
 | nil=>simp [upS]
 | cons x l ih=>
  unfold upS;split<;>simp<;>omega
structure CmInv(w:World)(B p ba bo r:Nat)(D:PDB)(o:PTx)(left:List (Int×Value))(all':List (Int×Vs))(wr:World):Prop where
 rng:Rng wr o.bm r .u64 (wrL o.wr) left
 db:DbAt wr B p ba bo { shutP D o.n with last:=D.last+1,all:=all' }
 at_:∀ j,(vsOf all' j).vs=(vsOf D.all j).vs++laidL D o left j
 only:Only [p,ba,bo] w wr
 kept:Kept D.reads ({ shutP D o.n with last:=D.last+1,all:=all' }:PDB).reads w
 nr:r∉({ shutP D o.n with last:=D.last+1,all:=all' }:PDB).reads
 keys:KeysOf D o all' left.length
def CommitTo(B p:Nat)(D:PDB)(o:PTx)(F H:List Nat)(w:World)(e:Ending)(w':World):Prop:=∃ F' H',Only F w w'∧Kept F F' w∧Kept H H' w ∧
 ((ClashP D o∧e=.returned (.int .i64 11)∧DbF w' B p (shutP D o.n) F' H') ∨
 (¬ ClashP D o∧e=.returned (.int .i64 0)∧∃ all',DbF w' B p { shutP D o.n with last:=D.last+1,all:=all' } F' H'∧KeysOf D o all' 0∧∀ j,(vsOf all' j).vs=(vsOf D.all j).vs++(match lkV o.wr j with
  | some v=>[{ v with at_:=D.last+1 }]
  | none=>[])))
theorem lkV_of_mem{l:List (Int×Ver)}{x:Int×Ver}(hn:(l.map (·.1)).Nodup)(hx:x∈l):lkV l x.1=some x.2:=by
 unfold lkV;cases hf:l.find? fun y=>decide (y.1=x.1) with
 | none=>
  have:=List.find?_eq_none.1 hf x hx;simp at this
 | some y=>
  have hy:=List.mem_of_find?_eq_some hf;have hj:y.1=x.1:=by simpa using List.find?_some hf
  have:=eq_of_map hn hy hx hj;simp [this]
theorem wr_nodup{w:World}{b:Nat}{l:List (Int×Ver)}(h:MapAt w b .u64 (wrL l)):(l.map (·.1)).Nodup:=by have:=h.nodup;unfold wrL at this;rw [List.map_map] at this;exact this
theorem laidL_still{D:PDB}{o:PTx}{left:List (Int×Value)}{k:Int}{u:Value}(h:(k,u)∈left):laidL D o left k=[]:=by
 unfold laidL;cases lkV o.wr k with
 | none=>rfl
 | some v=>
  have:left.any (fun q=>decide (q.1=k))=true:=List.any_eq_true.2 ⟨_,h,by simp⟩;simp [this]
theorem laidL_step{D:PDB}{o:PTx}{left:List (Int×Value)}{x:Int×Ver}(hn:(o.wr.map (·.1)).Nodup)(hx:x∈o.wr)(j:Int):laidL D o (rm x.1 left) j=if j=x.1 then [newV D x.2] else laidL D o left j:=by
 by_cases hj:j=x.1
 ·subst hj;unfold laidL;rw [lkV_of_mem hn hx];have:(rm x.1 left).any (fun q=>decide (q.1=x.1))=false:=by rw [Bool.eq_false_iff];intro h;obtain ⟨q,hq,he⟩:=List.any_eq_true.1 h;simp [rm] at hq;simp at he;exact hq.2 he
  simp [this]
 ·rw [if_neg hj];unfold laidL;have:(rm x.1 left).any (fun q=>decide (q.1=j))=left.any (fun q=>decide (q.1=j)):=by rw [Bool.eq_iff_iff];simp only [List.any_eq_true,decide_eq_true_eq,rm,List.mem_filter,Bool.not_eq_true',decide_eq_false_iff_not];exact ⟨fun ⟨q,h,e⟩=>⟨q,h.1,e⟩,fun ⟨q,h,e⟩=>⟨q,⟨h,fun e'=>hj (e.symm.trans e')⟩,e⟩⟩
  rw [this]
theorem laidL_done(D:PDB)(o:PTx)(j:Int):laidL D o [] j=match lkV o.wr j with
  | some v=>[{ v with at_:=D.last+1 }]
  | none=>[]:=by
 unfold laidL;cases lkV o.wr j with
 | none=>rfl
 | some v=>simp [newV]
theorem CmInv.step{w wr w8 wf:World}{B p ba bo r:Nat}{D:PDB}{o:PTx}{left:List (Int×Value)}{all':List (Int×Vs)}{x:Int×Ver}{V':Vs}(h0:DbAt w B p ba bo D)(hB:B≤w.heap.size)(ho:o∈D.op)(hx:x∈o.wr)(hr:w.heap.size≤r)
  (h:CmInv w B p ba bo r D o left all' wr) (hm:(x.1,x.2.val)∈left) (k8:Only [r] wr w8) (hR:Rng w8 o.bm r .u64 (wrL o.wr) (rm x.1 left))
  (hV:V'.vs=(vsOf all' x.1).vs++[newV D x.2]) (hVa:VsAt w8 V') (hVb:∀ ad,V'.a=some ad→r<ad.block) (kf:Only [ba] w8 wf) (hS:MapAt wf ba .u64 (up x.1 V'.v (vsL all'))) :
  CmInv w B p ba bo r D o (rm x.1 left) (upS x.1 V' all') wf:=by
 have hown:∀ b,(b=p∨b=ba∨b=bo)→b∈D.own p ba bo:=by rintro b (rfl|rfl|rfl)<;>simp [PDB.own]
 have hltr:=h0.lt;have hbs:∀ b∈V'.bs,r<b∨b∈({ shutP D o.n with last:=D.last+1,all:=all' }:PDB).reads∨b∈x.2.bs:=by
  intro b hb;rcases List.mem_append.1 hb with hb|hb
  ·cases ha:V'.a with
   | none=>rw [ha] at hb;simp at hb
   | some ad=>rw [ha] at hb;simp at hb;subst hb;exact .inl (hVb ad ha)
  ·obtain ⟨v,hv,hb⟩:=List.mem_flatMap.1 hb;rw [hV] at hv;rcases List.mem_append.1 hv with hv|hv
   ·refine .inr (.inl ?_);unfold vsOf at hv;cases hf:all'.find? fun y=>decide (y.1=x.1) with
    | none=>rw [hf] at hv;simp [Vs.no] at hv
    | some y=>
     rw [hf] at hv;exact List.mem_append_left _ (List.mem_flatMap.2 ⟨y,List.mem_of_find?_eq_some hf,List.mem_append_right _ (List.mem_flatMap.2 ⟨v,hv,hb⟩)⟩)
   ·simp only [List.mem_singleton] at hv;subst hv;exact .inr (.inr hb)
 have hxr:∀ b∈x.2.bs,b∈D.reads:=fun b hb=>mem_reads2 ho hx hb;have hro:r∉D.own p ba bo:=fun hh=>by have:=hltr r hh;omega
 have hsub:∀ b,b∈({ shutP D o.n with last:=D.last+1,all:=all' }:PDB).own p ba bo→b∈D.own p ba bo:=by
  intro b hb;simp only [PDB.own,List.mem_cons] at hb ⊢;rcases hb with hb|hb|hb|hb
  ·exact .inl hb
  ·exact .inr (.inl hb)
  ·exact .inr (.inr (.inl hb))
  ·refine .inr (.inr (.inr ?_));obtain ⟨y,hy,hb⟩:=List.mem_flatMap.1 hb;exact List.mem_flatMap.2 ⟨y,(List.mem_filter.1 hy).1,hb⟩
 have hap:∀ b∈V'.bs,b∉D.own p ba bo∧B≤b∧b≠r∧(b∈D.reads∨w.heap.size≤b):=by
  intro b hb;rcases hbs b hb with hb|hb|hb
  ·exact ⟨fun hh=>by have:=hltr b hh;omega,by omega,by omega,.inr (by omega)⟩
  ·refine ⟨fun hh=>?_,h.db.gr b hb,fun e=>h.nr (e ▸ hb),h.kept b hb⟩;rcases h.kept b hb with h1|h1
   ·exact h0.ap b hh h1
   ·have:=hltr b hh;omega
  ·have h1:=hxr b hb;exact ⟨fun hh=>h0.ap b hh h1,h0.gr b h1,fun e=>by have:=h0.ltr b h1;omega,.inl h1⟩
 have d8:=h.db.only k8 (by intro b hb;simp at hb;subst hb;exact ⟨fun hh=>hro (hsub _ hh),h.nr⟩);have hba:=hown ba (.inr (.inl rfl));obtain ⟨l1,l2⟩:=d8.laid (key:=x.1) (V:=V') kf hS (hVa.only kf (by intro b hb;simp;rintro rfl;exact (hap b hb).1 hba)) (fun b hb=>(hap b hb).2.1) (fun b hb hh=>(hap b hb).1 (hsub _ hh));have obm:o.bm≠ba:=((own_apart h0.nd).2.2.2 _ (mem_pxB ho).2).2.1;have wn:(o.wr.map (·.1)).Nodup:=wr_nodup (h0.oa o ho).2;refine ⟨hR.only kf (by simpa using obm) (by simp;rintro rfl;exact hro hba),l1,fun j=>?_,(h.only.trans k8 (by intro i hi;simp at hi;subst hi;exact .inr hr)).trans kf (by intro i hi;simp at hi;subst hi;exact .inl (by simp)),fun b hb=>?_,fun hb=>?_,⟨fun y hy=>?_,?_,fun hne y hy=>?_⟩⟩
 ·rw [vsOf_up,laidL_step wn hx];by_cases hj:j=x.1
  ·subst hj;rw [if_pos rfl,if_pos rfl,hV,h.at_,laidL_still hm];simp
  ·rw [if_neg hj,if_neg hj,h.at_]
 ·rcases l2 b hb with hb|hb
  ·exact h.kept b hb
  ·exact (hap b hb).2.2.2
 ·rcases l2 r hb with hb|hb
  ·exact h.nr hb
  ·exact (hap r hb).2.2.1 rfl
 ·rcases mem_upS hy with rfl|hy
  ·exact .inr (List.mem_map.2 ⟨x,hx,rfl⟩)
  ·exact h.keys.mem y hy
 ·have h1:=h.keys.len;have h2:=upS_len x.1 V' all';have h3:=rm_lt hm;omega
 ·rcases mem_upS hy with rfl|hy
  ·rw [hV];simp
  ·exact h.keys.ne hne y hy
theorem wpList_look_to{P:Program}{w:World}{ops:Array Oper}{rest:List Oper}{o:Oper}{a:Act}{Q:Exit→Act→World→Prop}(hg:o.guard=none)(m x:Operand)(t:TypeId)(hop:o.op=Op.lookup t m x false)(kt et:TypeId)(q:IntKind)(ht:P.underlying t=some (.map kt et))(hk:P.underlying kt=some (.int q))(z:Value)(hz:∀ w,(zeroValue et).run P w=.ok z w)
  (b:Nat) (L:List (Int×Value)) (hm:a.eval m=.map (some b)) (hown:MapAt w b q L) (key:Int) (hx:a.eval x=.int q key) (val:Value) (hv:(lk key L).getD z=val)
  (hK:wpList P ops Q rest (a.put o.dst val) w):wpList P ops Q (o :: rest) a w:=
 wpList_look_at w hg m x t false hop kt et q ht hk z hz b L hm hown key hx (by rw [if_neg (by simp),hv];exact hK)
theorem Rng.left_eq{w:World}{b r:Nat}{q:IntKind}{L left:List (Int×Value)}(h:Rng w b r q L left):w.rangeLeft b r=left.length:=by obtain ⟨es,clock,since,seen,c0,hb,_,_,hr,_,_,_,hl⟩:=h;simp only [World.rangeLeft,hb,hr];have:=congrArg List.length hl;simpa using this
theorem commit_on{w:World}{B p:Nat}{D:PDB}{F H:List Nat}(h:DbF w B p D F H)(hB:B≤w.heap.size){n:Int}{o:PTx}(ho:findP n D.op=some o)(hl:D.last<1000000)(hlen:∀ j,(vsOf D.all j).vs.length≤1000000) :
  Calls prog 229 #[.pointer (some ⟨p,0,none⟩),.int .u64 n] w (CommitTo B p D o F H w):=by
 obtain ⟨ba,bo,h,rfl,rfl⟩:=h;obtain ⟨hom,rfl⟩:=findP_some ho;have H0:=Ξ h;have HOM:=Ξ hom;have HL:=Ξ hl;have HBw:=Ξ hB;have HLN:=Ξ hlen;have F1:=Ξ (find_yes h ho);have c4:=h.row.c 4 (.map (some bo));have OM:=Ξ h.om;clear h ho hom hl hB hlen;go_enter func229,ntmps229;go_wp2_with fail;refine F1.out.mono ?_;rintro _ w1 ⟨rfl,hw1⟩;subst w1;go_upto_region 5 with (at_delete;refine wpList_delete_at _ rfl (.tmp 23) (.tmp 24) tMpx 34 rfl 280 .u64 underlying106 underlying34 bo (pxL D.op) rfl OM.out o.n rfl ?_);intro w1 hm k1 hs1;have S1:=Ξ (H0.out.shut o.n k1 hm);have K1:=Ξ k1;have OT:Hid (Row w1 o.bt #[.int .u64 o.start,.map (some o.bm)] tPx∧MapAt w1 o.bm .u64 (wrL o.wr)):=Ξ (by have a4:=(own_apart H0.out.nd).2.2.2;exact ⟨(H0.out.oa o HOM.out).1.only k1 (by simp;exact (a4 _ (mem_pxB HOM.out).1).2.2),(H0.out.oa o HOM.out).2.only k1 (by simp;exact (a4 _ (mem_pxB HOM.out).2).2.2)⟩)
 clear hm k1 hs1 c4 OM;have t1:=OT.out.1.c 1 (.map (some o.bm));go_wp2_with (at_range;refine wpList_range_at _ rfl (.tmp 28) tMvr rfl 34 tVr .u64 underlying283 o.bm (wrL o.wr) rfl OT.out.2 ?_);intro w2 r2 o2 s2;have B2:Hid (Below w1.heap.size w1 w2):=Ξ (o2.toBelow (Θ _) (by simp));have R2:=Ξ r2;clear r2 o2 s2 t1;go_wp2_with fail;go_loopw [7,8] (fun u v wr=>Hid (∃ left,Rng wr o.bm w1.heap.size .u64 (wrL o.wr) left∧ClearYet D o left∧Below w1.heap.size w1 wr)) (fun u v wr=>wr.rangeLeft o.bm w1.heap.size)
 case atStart=>exact Ξ ⟨_,R2.out,(fun y hy hn=>absurd rfl (hn (y.1,y.2.val) (List.mem_map.2 ⟨y,hy,rfl⟩))),B2.out⟩
 case round=>
  obtain ⟨left,hr,hy,hb⟩:=hrel.out;have RG:=Ξ hr;have HY:=Ξ hy;have HB:=Ξ hb;clear hr hy hb hrel;go_wp2_with (at_next;refine wpList_next_at _ rfl (.tmp 29) rfl o.bm w1.heap.size .u64 (wrL o.wr) left rfl RG.out ?_ ?_)
  ·intro hnil;have HN:=Ξ hnil;clear hnil;go_upto_region 11 with fail;have NC:Hid (¬ ClashP D o):=Ξ (by rintro ⟨y,hy,hc⟩;exact HY.out y hy (by rw [HN.out];simp) hc)
   have DW:=Ξ (S1.out.1.only ((Ω [] w1).below HB.out) (by simp));have T0:=Ξ (OT.out.1.only ((Ω [] w1).below HB.out) (by simp));have M0:=Ξ (OT.out.2.only ((Ω [] w1).below HB.out) (by simp));have KW:Hid (Only [bo] w wr):=Ξ (K1.out.below HB.out);rename World=>w2;have c2:=DW.out.row.c 2 (.int .u64 D.last);have f2:w2.frozen? ⟨p,2,none⟩=false:=DW.out.row.free 2;have e4:IntKind.u64.wrap (D.last+1)=D.last+1:=IntWalk.u64_in _ (by have:=H0.out.fine.last;have:=HL.out;omega);go_upto_region 12 with fail;have hd:=DW.out.head (D':={ shutP D o.n with last:=D.last+1 }) 2 (.int .u64 (D.last+1)) rfl rfl rfl ⟨DW.out.fine.dim,DW.out.fine.begun,by have:=DW.out.fine.last;have:=HL.out;exact ⟨by have:0≤(shutP D o.n).last:=DW.out.fine.last.1;exact Int.le_trans this (by show D.last≤D.last+1;omega),by show D.last+1≤1000000;omega⟩,fun x hx=>by have h1:=DW.out.fine.ops x hx;have h2:x.start≤D.last:=h1.2.2.2;exact ⟨h1.1,h1.2.1,h1.2.2.1,by show x.start≤D.last+1;omega⟩⟩;have hpb:=(own_apart H0.out.nd).2.2.2;have ob:=hpb _ (mem_pxB HOM.out).2;have ot:=hpb _ (mem_pxB HOM.out).1;have D4:=Ξ hd.1;have T4:=Ξ (T0.out.only hd.2 (by simp;exact ot.1));have M4:=Ξ (M0.out.only hd.2 (by simp;exact ob.1));have K4:Hid (Only [p,ba,bo] w (w2.setCell ⟨p,2,none⟩ (.int .u64 (D.last+1)))):=Ξ ((KW.out.mono (fun i hi=>.inl (by simp at hi;simp [hi]))).trans hd.2 (by intro i hi;simp at hi;simp [hi]));have OB:=Ξ ob;have OTN:=Ξ ot;clear hd hpb ob ot c2 f2 e4;generalize w2.setCell ⟨p,2,none⟩ (.int .u64 (D.last+1))=w4 at *;have t1:=T4.out.c 1 (.map (some o.bm));go_wp2_with (at_range;refine wpList_range_at _ rfl (.tmp 67) tMvr rfl 34 tVr .u64 underlying283 o.bm (wrL o.wr) rfl M4.out ?_);intro w5 r5 o5 s5;have I5:Hid (CmInv w B p ba bo w4.heap.size D o (wrL o.wr) D.all w5):=Ξ ⟨r5,D4.out.only o5 (by simp),fun j=>by
    unfold laidL lkV;cases hf:o.wr.find? fun x=>decide (x.1=j) with
    | none=>simp
    | some y=>
     have hy:=List.mem_of_find?_eq_some hf;have hj:y.1=j:=by simpa using List.find?_some hf
     have:(wrL o.wr).any (fun q=>decide (q.1=j))=true:=List.any_eq_true.2 ⟨(y.1,y.2.val),List.mem_map.2 ⟨y,hy,rfl⟩,by simp [hj]⟩;simp [this],K4.out.below (o5.toBelow (Θ _) (by simp)),fun b hb=>.inl (S1.out.2.2 b hb),fun hr=>by have h1:=H0.out.ltr _ (S1.out.2.2 _ hr);have:=K4.out.size;omega,⟨fun y hy=>.inl (List.mem_map.2 ⟨y,hy,rfl⟩),by simp [wrL],fun hne y hy=>hne y hy⟩⟩
   clear r5 o5 s5 t1;go_wp2_with fail;go_loopw [9,10] (fun u v wr=>Hid (∃ left all',CmInv w B p ba bo w4.heap.size D o left all' wr)) (fun u v wr=>wr.rangeLeft o.bm w4.heap.size)
   case atStart=>exact Ξ ⟨_,_,I5.out⟩
   case round=>
    obtain ⟨left,all',hI⟩:=hrel.out;have HI:=Ξ hI;clear hI hrel;go_wp2_with (at_next;refine wpList_next_at _ rfl (.tmp 68) rfl o.bm w4.heap.size .u64 (wrL o.wr) left rfl HI.out.rng ?_ ?_)
    ·intro hnil;have HN2:=Ξ hnil;clear hnil;go_wp2_with fail;go_ret;exact ⟨_,_,HI.out.only.mono (by intro i hi;simp at hi;rcases hi with rfl|rfl|rfl<;>exact .inl (by simp [PDB.own])),fun b hb=>.inl (S1.out.2.1 b hb),HI.out.kept,.inr ⟨NC.out,rfl,all',⟨ba,bo,HI.out.db,rfl,rfl⟩,(by have h9:=HI.out.keys;rw [HN2.out] at h9;exact h9),fun j=>by rw [HI.out.at_ j,HN2.out,laidL_done]⟩⟩
    ·intro k v w6 hmem hr6 ho6 hs6 hen;obtain ⟨x,hx,hkv⟩:=List.mem_map.1 (HI.out.rng.sub _ hmem);simp only [Prod.mk.injEq] at hkv;obtain ⟨rfl,rfl⟩:=hkv;have HX:=Ξ hx;have HM2:=Ξ hmem;have R6:=Ξ hr6;have O6:=Ξ ho6;have D6:=Ξ (HI.out.db.only ho6 (by
      intro b hb;simp at hb;subst hb;have:=K4.out.size;refine ⟨fun h=>?_,fun h=>?_⟩
      ·have:=S1.out.2.1 _ h;have:=H0.out.lt _ this;omega
      ·exact HI.out.nr h))
     clear hmem hr6 ho6 hs6 hx;have DA:∀ cs T,(w6.alloc (.cells cs T)).cell? ⟨p,2,none⟩=some (.int .u64 (D.last+1)):=fun cs T=>(D6.out.row.only ((Ω [] w6).alloc _) (by simp)).cell 2;unfold Ver.val Sl.v at hen ⊢;go_upto_region 16 with fail;obtain ⟨V,hV⟩:∃ V,vsOf all' x.1=V:=⟨_,rfl⟩;obtain ⟨b10,hb10⟩:∃ b10,w6.heap.size=b10:=⟨_,rfl⟩;have E10:=Ξ hb10;have R10:Hid (Row (w6.alloc (.cells #[.int .u64 (D.last+1),.bool x.2.gone,.int .u64 x.2.key,.slice x.2.vec.a x.2.vec.xs.length x.2.vec.c,.slice x.2.tag.a x.2.tag.xs.length x.2.tag.c] tVr)) b10 (newV D x.2).cells.toArray tVr):=Ξ (by rw [←hb10];exact Φ _ _ _);have K7:Hid (Only [] w6 (w6.alloc (.cells #[.int .u64 (D.last+1),.bool x.2.gone,.int .u64 x.2.key,.slice x.2.vec.a x.2.vec.xs.length x.2.vec.c,.slice x.2.tag.a x.2.tag.xs.length x.2.tag.c] tVr))):=Ξ ((Ω [] w6).alloc _);rw [hb10];clear hb10 DA hen;generalize w6.alloc (.cells #[.int .u64 (D.last+1),.bool x.2.gone,.int .u64 x.2.key,.slice x.2.vec.a x.2.vec.xs.length x.2.vec.c,.slice x.2.tag.a x.2.tag.xs.length x.2.tag.c] tVr)=w7 at *;have D7:=Ξ (D6.out.only K7.out (by simp));have V7:Hid (VsAt w7 V):=Ξ (by rw [←hV];exact vsOf_at D7.out x.1);have VL:Hid (V.vs=(vsOf D.all x.1).vs):=Ξ (by rw [←hV,HI.out.at_,laidL_still HM2.out];simp);have U7:Hid (VerAt w7 (newV D x.2)):=Ξ (by have k:=(HI.out.only.trans O6.out (by intro i hi;simp at hi;subst hi;exact .inr K4.out.size)).trans K7.out (by simp);have hu:=(H0.out.wrd o HOM.out x HX.out).only k (fun b hb hm=>H0.out.ap b (by simp at hm;rcases hm with rfl|rfl|rfl<;>simp [PDB.own]) (mem_reads2 HOM.out HX.out hb));exact ⟨hu.vec,hu.tag⟩)
     obtain ⟨ROW,hROW⟩:∃ ROW:Obj,ROW=.cells (newV D x.2).cells.toArray tVr:=⟨_,rfl⟩;have K8:Hid (Only [] w7 (w7.alloc (.cells (newV D x.2).cells.toArray tVr)).drew):=Ξ (((Ω [] w7).alloc _).drew);have c3:w7.drew.cell? ⟨p,3,none⟩=some (.map (some ba)):=(D7.out.row.only (Ω [] w7).drew (by simp)).cell 3;have c3b:(w7.alloc (.cells #[.int .u64 (D.last+1),.bool x.2.gone,.int .u64 x.2.key,.slice x.2.vec.a x.2.vec.xs.length x.2.vec.c,.slice x.2.tag.a x.2.tag.xs.length x.2.tag.c] tVr)).drew.cell? ⟨p,3,none⟩=some (.map (some ba)):=(D7.out.row.only K8.out (by simp)).cell 3;have RD:=R10.out.only (Ω [] w7).drew (by simp);have q0:w7.drew.cell? ⟨b10,0,none⟩=some (.int .u64 (D.last+1)):=RD.cell 0;have q1:w7.drew.cell? ⟨b10,1,none⟩=some (.bool x.2.gone):=RD.cell 1;have q2:w7.drew.cell? ⟨b10,2,none⟩=some (.int .u64 x.2.key):=RD.cell 2;have q3:w7.drew.cell? ⟨b10,3,none⟩=some (.slice x.2.vec.a x.2.vec.xs.length x.2.vec.c):=RD.cell 3;have q4:w7.drew.cell? ⟨b10,4,none⟩=some (.slice x.2.tag.a x.2.tag.xs.length x.2.tag.c):=RD.cell 4;have hlv:(lk x.1 (vsL all')).getD (.slice none 0 0)=.slice V.a V.vs.length V.c:=by rw [lk_vsOf,hV];rfl
     have hlk1:=(D7.out.am.only ((Ω [] w7).drew) (by simp)).look (P:=prog) underlying105 underlying34 (z:=.slice none 0 0) (zeroVs _) x.1 false;have hlk2:=(D7.out.am.only K8.out (by simp)).look (P:=prog) underlying105 underlying34 (z:=.slice none 0 0) (zeroVs _) x.1 false;simp only [Bool.false_eq_true,if_false] at hlk1 hlk2;rw [hlv] at hlk1 hlk2;have BR:Row (w7.alloc (.cells (newV D x.2).cells.toArray tVr)).drew w7.heap.size (newV D x.2).cells.toArray tVr:=(Φ w7 _ _).only (Ω [] _).drew (by simp);obtain ⟨V',w8,hrun,a1,a2,a3,k8⟩:=vs_append (V7.out.only K8.out (by simp)) (by rw [VL.out];exact HLN.out _) (U7.out.only K8.out (by simp)) BR;have c3c:=((D7.out.row.only K8.out (by simp)).only k8 (by simp)).c 3 (.map (some ba));have HA:=Ξ (Ψ a1 (Ψ a2 a3));have KA:=Ξ k8;obtain ⟨es,clock,hb0,hs0,hL0⟩:MapAt w8 ba .u64 (vsL all'):=(D7.out.am.only K8.out (by simp)).only k8 (by simp);have hup:=run_update (P:=prog) (w:=w8) hb0 hL0 underlying105 underlying34 x.1 V'.v;have HS:=Ξ (MapAt.set hb0 hs0 hL0 x.1 V'.v);generalize upObj es clock .u64 x.1 V'.v (vsL all')=ob at hup HS;have N:Hid (CmInv w B p ba bo w4.heap.size D o (rm x.1 left) (upS x.1 V' all') (ChangeMaps.setBlock w8 ba ob)):=Ξ (CmInv.step H0.out HBw.out HOM.out HX.out K4.out.size HI.out HM2.out (((O6.out.trans K7.out (by simp)).trans K8.out (by simp)).trans k8 (by simp)) (((R6.out.only K7.out (by simp) (by simp)).only K8.out (by simp) (by simp)).only k8 (by simp) (by simp)) (by rw [hV];exact a1) a2 (fun ad ha=>by have h1:=a3 ad ha;have h2:=R6.out.lt;have h3:=K7.out.size;have h4:=K8.out.size;omega) setBlock_only HS.out);have CL1:=Ξ (clip_on (V7.out.only ((Ω [] w7).drew) (by simp)) (by rw [VL.out];exact HLN.out _));have CL2:=Ξ (clip_on (V7.out.only K8.out (by simp)) (by rw [VL.out];exact HLN.out _));clear hROW ROW hb0 hs0 hL0 BR hlv RD a1 a2 a3 k8 hV;simp only [Vs.v,cut1,newV,Ver.cells,Sl.v] at hrun hup CL1 CL2 hlk2;go_region_law (first
      | (refine step_append_eq rfl (.tmp 90) (.tmp 92) tVrs rfl (.slice V.a V.vs.length V.vs.length) (.slice (some ⟨w7.heap.size,0,none⟩) 1 1) (.slice V'.a V'.vs.length V'.c) w8 (by simp [Act.eval,Act.put]) (by simp [Act.eval,Act.put]) hrun ?_)
      | (go_simp;go_at_call 239;first|(refine CL1.out.mono ?_)|(refine CL2.out.mono ?_);rintro _ x1 ⟨rfl,hz⟩;subst x1))
     all_goals
      go_wp2_with fail;go_roundw;case rel=>exact Ξ ⟨_,_,N.out⟩
      case measure=>rw [N.out.rng.left_eq,HI.out.rng.left_eq];exact rm_lt HM2.out
  ·intro k v w3 hmem hr3 ho3 hs3 hen;obtain ⟨x,hx,hkv⟩:=List.mem_map.1 (RG.out.sub _ hmem);simp only [Prod.mk.injEq] at hkv;obtain ⟨rfl,rfl⟩:=hkv;have HX:=Ξ hx;have HM2:=Ξ hmem;have R3:=Ξ hr3;have B3:Hid (Below w1.heap.size w1 w3):=Ξ (HB.out.trans (ho3.toBelow (by exact HB.out.size) (by simp)));have D3:=Ξ (S1.out.1.only ((Ω [] w1).below B3.out) (by simp));have T3:=Ξ (OT.out.1.only ((Ω [] w1).below B3.out) (by simp));have t0:=T3.out.c 0 (.int .u64 o.start);have c3:=D3.out.row.c 3 (.map (some ba));have LK:=Ξ (lk_vsOf D.all x.1);have V3:Hid (VsAt w3 (vsOf D.all x.1)):=Ξ (vsOf_at D3.out x.1);have N3:Hid (Rng w3.drew o.bm w1.heap.size .u64 (wrL o.wr) (rm x.1 left)∧Below w1.heap.size w1 w3.drew):=Ξ ⟨R3.out.only ((Ω [] _).drew) (by simp) (by simp),B3.out.trans ((Ω [] w3).drew.toBelow B3.out.size (by simp))⟩;clear hmem hr3 ho3 hs3 hx;unfold Vs.v at LK;rcases List.eq_nil_or_concat (vsOf D.all x.1).vs with hnil|⟨pre,z,hz⟩
   ·have NC:Hid (¬ ClashAt (vsOf D.all x.1) o.start):=Ξ (by rintro ⟨v,hv,_⟩;rw [hnil] at hv;simp at hv);rw [hnil] at LK;clear hnil;go_upto_region 9 with (at_lookup;refine wpList_look_to rfl (.tmp 37) (.tmp 38) tMvs rfl 34 tVrs .u64 underlying105 underlying34 _ zeroVs ba (vsL D.all) rfl D3.out.am x.1 rfl _ LK.out ?_);generalize (vsOf D.all x.1).a=va;generalize (vsOf D.all x.1).c=vc;go_region
    all_goals
     go_wp2_with fail;go_roundw;case rel=>
      refine Ξ ⟨rm x.1 left,N3.out.1,fun y hy hn=>?_,N3.out.2⟩;by_cases e:y.1=x.1
      ·rw [e];exact NC.out
      ·exact HY.out y hy fun q hq e'=>hn q (mem_rm.2 ⟨hq,fun h=>e (e'.symm.trans h)⟩) e'
     case measure=>rw [N3.out.1.left_eq,RG.out.left_eq];exact rm_lt HM2.out
   ·have hx:(vsOf D.all x.1).vs[pre.length]? = some z:=by rw [hz];simp
    have hln:(vsOf D.all x.1).vs.length=pre.length+1:=by rw [hz];simp
    obtain ⟨b,f,ha,hc⟩:=Vs.at_ V3.out hx;have c0:=hc 0 (by omega);simp only [Ver.cells,List.getElem?_cons_zero,Nat.add_zero] at c0;have HLN:=Ξ hln;have HX0:=Ξ hx;have HLS:Hid ((vsOf D.all x.1).vs.getLast? = some z):=Ξ (by rw [hz];simp);have hcap:=V3.out.cap;have e2:IntKind.i64.wrap (pre.length:Int)=(pre.length:Int):=IntWalk.i64_in _ (by unfold maxLen at hcap;omega);have e3:wrap64 (pre.length:Int)=(pre.length:Int):=by unfold wrap64;unfold maxLen at hcap;omega
    rw [hln,ha] at LK;clear hln hx hz hc ha hcap;generalize pre.length=m at *;generalize (vsOf D.all x.1).c=vc at *;go_upto_region 9 with (at_lookup;refine wpList_look_to rfl (.tmp 37) (.tmp 38) tMvs rfl 34 tVrs .u64 underlying105 underlying34 _ zeroVs ba (vsL D.all) rfl D3.out.am x.1 rfl _ LK.out ?_);by_cases hlt:o.start<z.at_
    ·have CL:Hid (ClashP D o):=Ξ ⟨x,HX.out,z,HLS.out,hlt⟩;go_region
     all_goals
      go_wp2_with fail;go_ret;exact ⟨(shutP D o.n).own p ba bo,(shutP D o.n).reads,((K1.out.below B3.out).drew).mono (by intro i hi;simp at hi;subst hi;exact .inl (by simp [PDB.own])),fun b hb=>.inl (S1.out.2.1 b hb),fun b hb=>.inl (S1.out.2.2 b hb),.inl ⟨CL.out,rfl,ba,bo,D3.out.only (Ω [] _).drew (by simp),rfl,rfl⟩⟩
    ·have NC:Hid (¬ ClashAt (vsOf D.all x.1) o.start):=Ξ (by rintro ⟨v,hv,h⟩;rw [HLS.out] at hv;cases hv;exact hlt h);go_region
     all_goals
      go_wp2_with fail;go_roundw;case rel=>
       refine Ξ ⟨rm x.1 left,N3.out.1,fun y hy hn=>?_,N3.out.2⟩;by_cases e:y.1=x.1
       ·rw [e];exact NC.out
       ·exact HY.out y hy fun q hq e'=>hn q (mem_rm.2 ⟨hq,fun h=>e (e'.symm.trans h)⟩) e'
      case measure=>rw [N3.out.1.left_eq,RG.out.left_eq];exact rm_lt HM2.out
end Go.Proofs.YtcgmgdjeamidlaaGreat
namespace Go.Proofs.YtcgmgdjeamidlaaGreat
set_option maxRecDepth 100000
set_option maxHeartbeats 16000000
open Go.RowKit Go.Shelf Go.Proofs.Tryz
set_option linter.unusedVariables false
set_option linter.unusedSimpArgs false
attribute [local go_sem] Oper.semAt_some
theorem Only.grownBy{w w':World}{r:Nat}(k:Only [r] w w'):w.grownBy w' (some r):=⟨k.os,k.tape,k.output,k.size,fun i hi hn=>k.block i hi (by simp;exact fun e=>hn (by rw [e]))⟩
theorem Only.grownNone{w w':World}(k:Only [] w w'):w.grownBy w' none:=⟨k.os,k.tape,k.output,k.size,fun i hi _=>k.block i hi (by simp)⟩
theorem Rng.walks{w w':World}{b r:Nat}{q:IntKind}{L left:List (Int×Value)}(h:Rng w b r q L left)(k:KeepsWalks w w'):Rng w' b r q L left:=by obtain ⟨es,clock,since,seen,c0,h1,h2,h3,h4,h5⟩:=h;exact ⟨es,clock,since,seen,c0,k.same _ _ h1 rfl,h2,h3,k.same _ _ h4 rfl,h5⟩
theorem Rng.isWalk{w:World}{b r:Nat}{q:IntKind}{L left:List (Int×Value)}(h:Rng w b r q L left):∃ o:Obj,w.heap[r]? = some o∧o.isWalk=true:=by obtain ⟨es,clock,since,seen,c0,h1,h2,h3,h4,h5⟩:=h;exact ⟨_,h4,rfl⟩
structure KeysInv(J:List Int→World→Prop)(L:List (Int×Value))(b r B:Nat)(pre:List Int)(left:List (Int×Value))(wr:World):Prop where
 rng:Rng wr b r .u64 L left
 j:J pre wr
 perm:(pre++left.map (·.1)).Perm (L.map (·.1))
 r0:B≤r
theorem perm_rm{k:Int}{v:Value}{left:List (Int×Value)}(hn:(left.map (·.1)).Nodup)(h:(k,v)∈left):(left.map (·.1)).Perm (k :: (rm k left).map (·.1)):=by
 induction left with
 | nil=>simp at h
 | cons p left ih=>
  simp only [List.map_cons,List.nodup_cons] at hn;by_cases e:p.1=k
  ·have e1:rm k (p :: left)=left:=by simp only [rm,List.filter_cons,e,decide_true,Bool.not_true,Bool.false_eq_true,if_false];exact List.filter_eq_self.2 fun x hx=>by simpa using fun hk:x.1=k=>hn.1 (e ▸ hk ▸ List.mem_map.2 ⟨x,hx,rfl⟩)
   rw [e1,List.map_cons,e]
  ·have h':(k,v)∈left:=by
    rcases List.mem_cons.1 h with rfl|h
    ·exact absurd rfl e
    ·exact h
   have e1:rm k (p :: left)=p :: rm k left:=by simp [rm,List.filter_cons,e]
   rw [e1,List.map_cons,List.map_cons];exact ((ih hn.2 h').cons _).trans (List.Perm.swap _ _ _)
theorem Rng.nodup{w:World}{b r:Nat}{q:IntKind}{L left:List (Int×Value)}(h:Rng w b r q L left)(hp:∃ pre:List Int,(pre++left.map (·.1)).Perm (L.map (·.1))):(left.map (·.1)).Nodup:=by obtain ⟨pre,hp⟩:=hp;have:=hp.nodup_iff.2 h.mapAt.nodup;exact (List.nodup_append.1 this).2.1
def MapV(w:World)(v:Value)(q:IntKind)(L:List (Int×Value)):Prop:=(v=.map none∧L=[])∨∃ b,v=.map (some b)∧MapAt w b q L
theorem MapV.only{G:List Nat}{w w':World}{v:Value}{q:IntKind}{L:List (Int×Value)}(h:MapV w v q L)(k:Only G w w')(hG:∀ b,v=.map (some b)→b∉G):MapV w' v q L:=by
 rcases h with h|⟨b,rfl,h⟩
 ·exact .inl h
 ·exact .inr ⟨b,rfl,h.only k (hG b rfl)⟩
theorem keys1_vs(n:Nat)(hn:1≤n)(l Bm b:Nat)(L:List (Int×Value))(J Jx:List Int→World→Prop)(W:World)(hJ:AbidesFrom W.heap.size J)
  (hY:∀ pre x W1,J pre W1→pre.length<L.length→YieldAt Fence.wide (n-1) prog l #[.int .u64 x] W1 fun e W'=>
   (e=.returned (.bool true)∧J (pre++[x]) W'∧KeepsWalks W1 W')∨(e=.returned (.bool false)∧Jx (pre++[x]) W'))
  (hm:W.cell? ⟨Bm,0,none⟩=some (.map (some b))) (hM:MapAt W b .u64 L) (h0:J [] W) :
  CallsIn Fence.wide n prog 265 #[.func (.yield l) #[] #[],.pointer (some ⟨Bm,0,none⟩)] W fun e W'=>(∃ v,e=.returned v) ∧
   ((∃ ys,ys.Perm (L.map (·.1))∧J ys W')∨(∃ pre,True∧Jx pre W')):=by
 have hro:Fence.wide.round=none:=rfl;refine callsIn_of_wp func265 rfl trivial ?_ hro;simp only [ntmps265,List.size_toArray,List.length_cons,List.length_nil,Nat.reduceAdd,Nat.reduceSub,Array.replicate_succ,Array.replicate_zero,List.push_toArray,List.append_toArray,List.nil_append,List.cons_append];gi_wp2_with (gi_at_range;refine wpListIn_range_at _ rfl (.tmp 4) 105 rfl 34 286 .u64 underlying105 b L rfl hM ?_;intro w1 hr1 ho1 hs1);have S1:=Ξ hs1;have I0:Hid (KeysInv J L b W.heap.size W.heap.size [] L w1):=Ξ ⟨hr1,hJ [] W w1 none h0 ho1.grownNone (fun r e=>by cases e),by simp,Θ _⟩;clear hr1 ho1 hs1 h0 hm hM;simp only [Act.put,List.setIfInBounds_toArray,List.set_cons_zero,List.set_cons_succ]
 gi_loopw [3] (fun u wr=>Hid (∃ pre left,KeysInv J L b W.heap.size W.heap.size pre left wr)) (fun u wr=>wr.rangeLeft b W.heap.size)
 case atStart=>exact Ξ ⟨_,_,I0.out⟩
 case round=>
  obtain ⟨pre,left,hi⟩:=hrel.out;have HI:=Ξ hi;have RG:=Ξ hi.rng;clear hi hrel;gi_wp2_with (gi_at_next;refine wpListIn_next_at _ rfl (.tmp 5) rfl b W.heap.size .u64 L left rfl RG.out ?_ ?_)
  ·intro hnil;have HN:=Ξ hnil;clear hnil;gi_wp2_with fail
   go_end0
   refine ⟨⟨_,rfl⟩,.inl ⟨pre,?_,HI.out.j⟩⟩;have h:=HI.out.perm;rw [HN.out] at h;simpa using h
  ·intro k v w2 hmem hr2 ho2 hs2 hen;have PN:=Ξ (perm_rm (RG.out.nodup ⟨pre,HI.out.perm⟩) hmem);have J2:J pre w2:=hJ pre _ w2 (some W.heap.size) HI.out.j ho2.grownBy (fun r e=>by cases e;exact ⟨Θ _,RG.out.isWalk⟩);have hlen:pre.length<L.length:=by have h1:=HI.out.perm.length_eq;simp only [List.length_append,List.length_map] at h1;have h2:0<left.length:=List.length_pos_of_mem hmem;omega
   have HM:=Ξ hmem;have R2:=Ξ hr2;obtain ⟨fn,tmps,assign,body,hy,hR⟩:=hY pre k w2 J2 hlen;clear hmem hr2 ho2 hs2 J2 hlen;gi_wp2_with fail;refine hR.mono ?_;rintro e W3 (⟨rfl,hJ3,hk3⟩|⟨rfl,hJx3⟩)
   ·have N3:Hid (KeysInv J L b W.heap.size W.heap.size (pre++[k]) (rm k left) W3):=Ξ ⟨R2.out.walks hk3,hJ3,by have h:=HI.out.perm;refine List.Perm.trans ?_ h;rw [List.append_assoc];exact List.Perm.append_left _ PN.out.symm,Θ _⟩
    clear hJ3 hk3 hR hy hen;gi_wp2_with fail;go_roundw;case rel=>exact Ξ ⟨_,_,N3.out⟩
    case measure=>rw [N3.out.rng.left_eq,RG.out.left_eq];exact rm_lt HM.out
   ·gi_wp2_with fail;refine bodyPost_ret (results_none rfl _ _ _) rfl ?_;exact ⟨⟨_,rfl⟩,.inr ⟨_,trivial,hJx3⟩⟩
theorem keys1_vs_nil(n:Nat)(l Bm:Nat)(J:List Int→World→Prop)(W:World)(hJ:AbidesFrom W.heap.size J)
  (hm:W.cell? ⟨Bm,0,none⟩=some (.map none)) (h0:J [] W) :
  CallsIn Fence.wide n prog 265 #[.func (.yield l) #[] #[],.pointer (some ⟨Bm,0,none⟩)] W fun e W'=>(∃ v,e=.returned v)∧J [] W':=by
 have hro:Fence.wide.round=none:=rfl;refine callsIn_of_wp func265 rfl trivial ?_ hro;simp only [ntmps265,List.size_toArray,List.length_cons,List.length_nil,Nat.reduceAdd,Nat.reduceSub,Array.replicate_succ,Array.replicate_zero,List.push_toArray,List.append_toArray,List.nil_append,List.cons_append];have hrg:=run_range_nilMap (P:=prog) W 105 34 286 underlying105;have hnx:∀ ty,(Instr.next (.pointer (some ⟨W.heap.size,0,none⟩)) false ty).run prog (W.alloc (.mapIter none 0 #[] 0))=_:=fun ty=>run_next_nilMap _ ty 0 0 #[]
 gi_wp2
 refine wpIn_loop_rounds 1 ?_;rw [roundsIn_succ]
 gi_wp2
 go_end0
 exact ⟨⟨_,rfl⟩,hJ [] W _ none h0 (World.grownBy_alloc W _ none) (fun r e=>by cases e)⟩
theorem keys_stops_vs(n:Nat)(hn:1≤n)(Bm:Nat)(v:Value)(L:List (Int×Value))(w:World)(hBm:Bm<w.heap.size)(hm:w.cell? ⟨Bm,0,none⟩=some v)(hM:MapV w v .u64 L) :
  SeqStopsK Fence.wide n prog 265 #[.pointer (some ⟨Bm,0,none⟩)] (fun x:Int=>#[Value.int .u64 x]) KeepsWalks (fun ys=>ys.Perm (L.map (·.1))) (fun _=>True) L.length w:=fun l J Jx W hW hJ _ hY h0=>by
 rcases hM with ⟨rfl,rfl⟩|⟨b,rfl,hM⟩
 ·refine (keys1_vs_nil n l Bm J W hJ ((hW.cell (p:=⟨Bm,0,none⟩) hBm).trans hm) h0).mono ?_;rintro e W' ⟨he,hj⟩;exact ⟨he,.inl ⟨[],List.Perm.refl _,hj⟩⟩
 ·exact keys1_vs n hn l Bm b L J Jx W hJ hY ((hW.cell (p:=⟨Bm,0,none⟩) hBm).trans hm) (hM.of_block (hW.block b hM.lt)) h0
theorem keys_vs_any(m:Option Nat)(w:World):Calls prog 255 #[.map m] w fun e w'=>e=.returned (.func (.func 265) #[] #[.pointer (some ⟨w.heap.size,0,none⟩)])∧w'=w.alloc (.cells #[.map m] 105):=by
 go_enter func255,ntmps255
 go_wp2
 go_ret;exact ⟨rfl,rfl⟩
theorem keys_vs_enters:∀ args w,(callFunc 265 args).run prog w=.ok (.enter 265 args) w:=enters_of func265 (by kernel_rfl) rfl
theorem keys1_vr(n:Nat)(hn:1≤n)(l Bm b:Nat)(L:List (Int×Value))(J Jx:List Int→World→Prop)(W:World)(hJ:AbidesFrom W.heap.size J)
  (hY:∀ pre x W1,J pre W1→pre.length<L.length→YieldAt Fence.wide (n-1) prog l #[.int .u64 x] W1 fun e W'=>
   (e=.returned (.bool true)∧J (pre++[x]) W'∧KeepsWalks W1 W')∨(e=.returned (.bool false)∧Jx (pre++[x]) W'))
  (hm:W.cell? ⟨Bm,0,none⟩=some (.map (some b))) (hM:MapAt W b .u64 L) (h0:J [] W) :
  CallsIn Fence.wide n prog 266 #[.func (.yield l) #[] #[],.pointer (some ⟨Bm,0,none⟩)] W fun e W'=>(∃ v,e=.returned v) ∧
   ((∃ ys,ys.Perm (L.map (·.1))∧J ys W')∨(∃ pre,True∧Jx pre W')):=by
 have hro:Fence.wide.round=none:=rfl;refine callsIn_of_wp func266 rfl trivial ?_ hro;simp only [ntmps266,List.size_toArray,List.length_cons,List.length_nil,Nat.reduceAdd,Nat.reduceSub,Array.replicate_succ,Array.replicate_zero,List.push_toArray,List.append_toArray,List.nil_append,List.cons_append];gi_wp2_with (gi_at_range;refine wpListIn_range_at _ rfl (.tmp 4) 283 rfl 34 288 .u64 underlying283 b L rfl hM ?_;intro w1 hr1 ho1 hs1);have S1:=Ξ hs1;have I0:Hid (KeysInv J L b W.heap.size W.heap.size [] L w1):=Ξ ⟨hr1,hJ [] W w1 none h0 ho1.grownNone (fun r e=>by cases e),by simp,Θ _⟩;clear hr1 ho1 hs1 h0 hm hM;simp only [Act.put,List.setIfInBounds_toArray,List.set_cons_zero,List.set_cons_succ]
 gi_loopw [3] (fun u wr=>Hid (∃ pre left,KeysInv J L b W.heap.size W.heap.size pre left wr)) (fun u wr=>wr.rangeLeft b W.heap.size)
 case atStart=>exact Ξ ⟨_,_,I0.out⟩
 case round=>
  obtain ⟨pre,left,hi⟩:=hrel.out;have HI:=Ξ hi;have RG:=Ξ hi.rng;clear hi hrel;gi_wp2_with (gi_at_next;refine wpListIn_next_at _ rfl (.tmp 5) rfl b W.heap.size .u64 L left rfl RG.out ?_ ?_)
  ·intro hnil;have HN:=Ξ hnil;clear hnil;gi_wp2_with fail
   go_end0
   refine ⟨⟨_,rfl⟩,.inl ⟨pre,?_,HI.out.j⟩⟩;have h:=HI.out.perm;rw [HN.out] at h;simpa using h
  ·intro k v w2 hmem hr2 ho2 hs2 hen;have PN:=Ξ (perm_rm (RG.out.nodup ⟨pre,HI.out.perm⟩) hmem);have J2:J pre w2:=hJ pre _ w2 (some W.heap.size) HI.out.j ho2.grownBy (fun r e=>by cases e;exact ⟨Θ _,RG.out.isWalk⟩);have hlen:pre.length<L.length:=by have h1:=HI.out.perm.length_eq;simp only [List.length_append,List.length_map] at h1;have h2:0<left.length:=List.length_pos_of_mem hmem;omega
   have HM:=Ξ hmem;have R2:=Ξ hr2;obtain ⟨fn,tmps,assign,body,hy,hR⟩:=hY pre k w2 J2 hlen;clear hmem hr2 ho2 hs2 J2 hlen;gi_wp2_with fail;refine hR.mono ?_;rintro e W3 (⟨rfl,hJ3,hk3⟩|⟨rfl,hJx3⟩)
   ·have N3:Hid (KeysInv J L b W.heap.size W.heap.size (pre++[k]) (rm k left) W3):=Ξ ⟨R2.out.walks hk3,hJ3,by have h:=HI.out.perm;refine List.Perm.trans ?_ h;rw [List.append_assoc];exact List.Perm.append_left _ PN.out.symm,Θ _⟩
    clear hJ3 hk3 hR hy hen;gi_wp2_with fail;go_roundw;case rel=>exact Ξ ⟨_,_,N3.out⟩
    case measure=>rw [N3.out.rng.left_eq,RG.out.left_eq];exact rm_lt HM.out
   ·gi_wp2_with fail;refine bodyPost_ret (results_none rfl _ _ _) rfl ?_;exact ⟨⟨_,rfl⟩,.inr ⟨_,trivial,hJx3⟩⟩
theorem keys1_vr_nil(n:Nat)(l Bm:Nat)(J:List Int→World→Prop)(W:World)(hJ:AbidesFrom W.heap.size J)
  (hm:W.cell? ⟨Bm,0,none⟩=some (.map none)) (h0:J [] W) :
  CallsIn Fence.wide n prog 266 #[.func (.yield l) #[] #[],.pointer (some ⟨Bm,0,none⟩)] W fun e W'=>(∃ v,e=.returned v)∧J [] W':=by
 have hro:Fence.wide.round=none:=rfl;refine callsIn_of_wp func266 rfl trivial ?_ hro;simp only [ntmps266,List.size_toArray,List.length_cons,List.length_nil,Nat.reduceAdd,Nat.reduceSub,Array.replicate_succ,Array.replicate_zero,List.push_toArray,List.append_toArray,List.nil_append,List.cons_append];have hrg:=run_range_nilMap (P:=prog) W 283 34 288 underlying283;have hnx:∀ ty,(Instr.next (.pointer (some ⟨W.heap.size,0,none⟩)) false ty).run prog (W.alloc (.mapIter none 0 #[] 0))=_:=fun ty=>run_next_nilMap _ ty 0 0 #[]
 gi_wp2
 refine wpIn_loop_rounds 1 ?_;rw [roundsIn_succ]
 gi_wp2
 go_end0
 exact ⟨⟨_,rfl⟩,hJ [] W _ none h0 (World.grownBy_alloc W _ none) (fun r e=>by cases e)⟩
theorem keys_stops_vr(n:Nat)(hn:1≤n)(Bm:Nat)(v:Value)(L:List (Int×Value))(w:World)(hBm:Bm<w.heap.size)(hm:w.cell? ⟨Bm,0,none⟩=some v)(hM:MapV w v .u64 L) :
  SeqStopsK Fence.wide n prog 266 #[.pointer (some ⟨Bm,0,none⟩)] (fun x:Int=>#[Value.int .u64 x]) KeepsWalks (fun ys=>ys.Perm (L.map (·.1))) (fun _=>True) L.length w:=fun l J Jx W hW hJ _ hY h0=>by
 rcases hM with ⟨rfl,rfl⟩|⟨b,rfl,hM⟩
 ·refine (keys1_vr_nil n l Bm J W hJ ((hW.cell (p:=⟨Bm,0,none⟩) hBm).trans hm) h0).mono ?_;rintro e W' ⟨he,hj⟩;exact ⟨he,.inl ⟨[],List.Perm.refl _,hj⟩⟩
 ·exact keys1_vr n hn l Bm b L J Jx W hJ hY ((hW.cell (p:=⟨Bm,0,none⟩) hBm).trans hm) (hM.of_block (hW.block b hM.lt)) h0
theorem keys_vr_any(m:Option Nat)(w:World):Calls prog 257 #[.map m] w fun e w'=>e=.returned (.func (.func 266) #[] #[.pointer (some ⟨w.heap.size,0,none⟩)])∧w'=w.alloc (.cells #[.map m] 283):=by
 go_enter func257,ntmps257
 go_wp2
 go_ret;exact ⟨rfl,rfl⟩
theorem keys_vr_enters:∀ args w,(callFunc 266 args).run prog w=.ok (.enter 266 args) w:=enters_of func266 (by kernel_rfl) rfl
attribute [local go_sem] Oper.semAt_some
abbrev tU:TypeId:=34
theorem infoU64:(prog.info? 34).map (fun i=>(i.zero,i.size,i.bytes))=some (some (.int .u64 0),1,8):=by kernel_rfl
def AppTo(S:List Int→Prop)(B:Nat)(xs:List Int)(v0:Value)(w:World)(e:Ending)(w':World):Prop:=∃ ys v,S ys∧e=.returned v∧w'.ownsRow B tU 1 v (xs.length+ys.length) ((xs++ys).map (Value.int .u64))∧(ys=[]→v=v0)∧Below B w w'
theorem appendSeq_in{gf:Nat}{lb:Array Value}{S Sp:List Int→Prop}{N:Nat}(n:Nat)(hn:3≤n)(B:Nat)(xs:List Int)(p0:Option Addr)(n0 c0:Nat)(w:World)(hB:B≤w.heap.size)(hv:w.ownsRow B tU 1 (.slice p0 n0 c0) xs.length (xs.map (Value.int .u64)))(hseq:SeqStopsK Fence.wide (n-1) prog gf lb (fun x:Int=>#[Value.int .u64 x]) KeepsWalks S Sp N w)(eg:∀ args w,(callFunc gf args).run prog w=.ok (.enter gf args) w)(hN:xs.length+N≤1000000) :
  CallsIn Fence.wide n prog 256 #[.slice p0 n0 c0,.func (.func gf) #[] lb] w (AppTo S B xs (.slice p0 n0 c0) w):=by
 have hro:Fence.wide.round=none:=rfl;have h1:1≤n:=by omega
 obtain ⟨i0,hi,hz0,hz1,hz2⟩:=info_parts infoU64;refine callsIn_of_wp_marks func256 rfl trivial ?_ hro;simp only [ntmps256,List.size_toArray,List.length_cons,List.length_nil,Nat.reduceAdd,Nat.reduceSub,Array.replicate_succ,Array.replicate_zero,List.push_toArray,List.append_toArray,List.nil_append,List.cons_append];gi_wp2_with fail;have bO:=Boxed.new w 48 (.slice p0 n0 c0);have hB0:Below w.heap.size w (w.alloc (.cells #[.slice p0 n0 c0] 48)):=(Δ _ w).alloc (Θ _) _;refine wpIn_rangeFunc_ownG hro h1 (gf:=gf) (lb:=lb) rfl trivial eg hseq walksK_t walksK_b hB0 (fun _=>rfl)
  (fun pre W=>(∃ v,Boxed W w.heap.size 48 v∧W.ownsRow B tU 1 v (xs.length+pre.length) ((xs++pre).map (Value.int .u64))∧(pre=[]→v=.slice p0 n0 c0))∧Below B w W)
  (fun _ _ _=>False)
  (OwnFrom.and (Own.from (holdsRow_own B w.heap.size 48 tU 1 (fun pre:List Int=>xs.length+pre.length) (fun pre:List Int=>(xs++pre).map (Value.int .u64)) (fun pre v=>pre=[]→v=.slice p0 n0 c0)) _) (ownFrom_below hB (by simp;omega)))
  (fun _ _ _ _ _ hs _ _=>hs)
  ⟨⟨_,bO,by simpa using hv.alloc _,fun _=>rfl⟩,hB0.mono hB⟩
  (fun x=>{ tmps:=#[.slice p0 n0 c0,.func (.func gf) #[] lb,.pointer (some ⟨w.heap.size,0,none⟩),undef,.slice none 0 0,.int .u64 x,.func (.func gf) #[] lb,.int .u64 x,undef,undef,undef,undef,undef],defers:=[] }) ?assign ?body ?done ?stop
 case assign=>
  intro l x W K hK
  gi_wp2
  exact hK
 case body=>rintro l pre x W ⟨⟨v,hv,hrow,hnil⟩,hBw⟩ hlt;have hc:=hv.cell;have hBW:B≤W.heap.size:=Nat.le_trans hB hBw.size;gi_wp2_with (gi_at_builtin;refine wpListIn_append_own _ rfl _ _ 48 rfl B 34 i0 (.int .u64 0) 1 8 underlying48 hi hz0 hz1 hz2 rfl (by decide) _ _ _ rfl (hrow.alloc _) ⟨W.heap.size,0,none⟩ 1 1 [.int .u64 x] rfl rfl (cell_one_new _ _ _) (by simp [Value.oneCell']) (by unfold maxLen;omega) (by omega) (by simp;omega) ?_;intro v' w1 hown' hgrow _;obtain ⟨g',cap',rfl⟩:=ownsRow_succ hown';obtain ⟨hv1,hv2,hr2,hk2,hb2⟩:=hv.appended (by decide) hrow hBW hB hown' hgrow;have hc1:=hv1.cell;have hf1:=hv1.frozen);exact ⟨hk2.from _,⟨hk2.size,fun k o h hw=>hk2.same k o h (Obj.not_cells_of_walk hw)⟩,⟨_,hv2,by simpa [Nat.add_assoc] using hr2,fun e=>by simp at e⟩,hBw.trans hb2⟩
 case done=>
  rintro D ys W hD hS ⟨⟨v,hv,hrow,hnil⟩,hBw⟩ hK;have hc:=hv.cell
  gi_wp2
  refine ⟨by simp,.inl ⟨_,_,rfl,run_takeDeferred hK,?_⟩⟩;exact ⟨_,results_tmp rfl _ _ _,ys,v,hS,rfl,ownsRow_putObj hrow _ hK rfl,hnil,hBw.trans (belowK_b (w:=w) (by simpa using hB) W D _ _ (by simp at hD;omega) hK rfl rfl)⟩
 case stop=>rintro D c pre W _ _ h _;exact h.elim
theorem collect_any{gf:Nat}{lb:Array Value}{S Sp:List Int→Prop}{N:Nat}(w:World)(hseq:SeqStopsK Fence.wide 3 prog gf lb (fun x:Int=>#[Value.int .u64 x]) KeepsWalks S Sp N w)(eg:∀ args w,(callFunc gf args).run prog w=.ok (.enter gf args) w)(hN:N≤1000000) :
  Calls prog 254 #[.func (.func gf) #[] lb] w (AppTo S w.heap.size [] (.slice none 0 0) w):=by
 have C:=Ξ (callsIn_wide.1 (appendSeq_in 4 (by omega) w.heap.size [] none 0 0 w (Θ _) (World.ownsRow_nil _ _ _ _) hseq eg (by simpa using hN)));clear hseq eg;unfold AppTo at C;go_enter func254,ntmps254;go_wp2_with fail;refine C.out.mono ?_;rintro _ w1 ⟨xs,v,hs,rfl,ho,hn,hb⟩;have P:Hid (S xs∧w1.ownsRow w.heap.size 34 1 v ([].length+xs.length) (([]++xs).map (Value.int .u64))∧(xs=[]→v=.slice none 0 0)∧Below w.heap.size w w1):=Ξ ⟨hs,ho,hn,hb⟩;clear hs ho hb hn C;go_wp2_with fail;go_ret;exact ⟨xs,v,P.out.1,rfl,P.out.2⟩
end Go.Proofs.YtcgmgdjeamidlaaGreat
namespace Go.Proofs.YtcgmgdjeamidlaaGreat
set_option maxRecDepth 100000
set_option maxHeartbeats 16000000
open Go.RowKit Go.ChangeShapes Go.WideShapes Go.ChangeAt Go.Proofs.Tryz
set_option linter.unusedVariables false
set_option linter.unusedSimpArgs false
theorem itemV_shape(r:Option Ver):∃ k a1 n1 d1 a2 n2 d2,itemV r=#[.int .u64 k,.slice a1 n1 d1,.slice a2 n2 d2]:=by
 cases r with
 | none=>exact ⟨_,_,_,_,_,_,_,rfl⟩
 | some x=>exact ⟨_,_,_,_,_,_,_,rfl⟩
theorem seen1_on{w:World}{B p ba bo:Nat}{D:PDB}(h:DbAt w B p ba bo D){o:PTx}(ho:o∈D.op){bx cx:Nat}(hx:Row w bx #[.pointer (some ⟨p,0,none⟩)] 24)(hy:Row w cx #[.pointer (some ⟨o.bt,0,none⟩)] 280)(key:Int)(hl:(vsOf D.all key).vs.length≤1000000) :
  Calls prog 251 #[.int .u64 key,.pointer (some ⟨bx,0,none⟩),.pointer (some ⟨cx,0,none⟩)] w (AsOfTo (seesR D o key) w):=by
 obtain ⟨k,a1,n1,d1,a2,n2,d2,hI⟩:=itemV_shape (seesR D o key);have AS:Hid (∀ y,Only [] w y→Calls prog 240 #[.pointer (some ⟨p,0,none⟩),.pointer (some ⟨o.bt,0,none⟩),.int .u64 key] y (fun e w'=>e=.returned (.tuple #[.agg #[.int .u64 k,.slice a1 n1 d1,.slice a2 n2 d2],.bool (okV (seesR D o key))])∧Below y.heap.size y w')):=Ξ fun y hy=>by have:=sees_on (h.only hy (by simp)) ho key hl;unfold AsOfTo at this;rw [hI] at this;exact this
 unfold AsOfTo;have HI:=Ξ hI;rw [hI];generalize okV (seesR D o key)=ok at *;have R3:Hid (Row (w.alloc (.cells #[.int .u64 0,.slice none 0 0,.slice none 0 0] tIt)) w.heap.size #[.int .u64 0,.slice none 0 0,.slice none 0 0] tIt):=Ξ (Φ _ _ _);have K0:Hid (Only [] w (w.alloc (.cells #[.int .u64 0,.slice none 0 0,.slice none 0 0] tIt))):=Ξ ((Ω [] w).alloc _);have YB:=Ξ (hy.only K0.out (by simp));have XB:=Ξ (hx.only K0.out (by simp));have NE:Hid (cx≠w.heap.size∧bx≠w.heap.size):=Ξ ⟨by have:=hy.lt;omega,by have:=hx.lt;omega⟩;clear h hx hy ho hl hI;go_enter func251,ntmps251;go_upto_region 1 with fail;generalize w.alloc (.cells #[.int .u64 0,.slice none 0 0,.slice none 0 0] tIt)=w1 at *;have x0:=XB.out.c 0 (.pointer (some ⟨p,0,none⟩));have y0:=YB.out.c 0 (.pointer (some ⟨o.bt,0,none⟩));go_wp2_with fail;refine (AS.out w1 K0.out).mono ?_;rintro _ w2 ⟨rfl,b⟩;have X2:=Ξ ((Ω [] w1).below b);have R32:=Ξ (R3.out.only X2.out (by simp));have ⟨g0,g1,g2⟩:w2.cell? ⟨w.heap.size,0,none⟩=some (.int .u64 0)∧w2.cell? ⟨w.heap.size,1,none⟩=some (.slice none 0 0)∧w2.cell? ⟨w.heap.size,2,none⟩=some (.slice none 0 0):=⟨R32.out.cell 0,R32.out.cell 1,R32.out.cell 2⟩;have ⟨f0,f1,f2⟩:w2.frozen? ⟨w.heap.size,0,none⟩=false∧w2.frozen? ⟨w.heap.size,1,none⟩=false∧w2.frozen? ⟨w.heap.size,2,none⟩=false:=⟨R32.out.free 0,R32.out.free 1,R32.out.free 2⟩;clear b x0 y0;all_goals
  go_wp2_with fail;refine bodyPost_ret (results_item_tmp rfl _ _ w.heap.size #[.int .u64 k,.slice a1 n1 d1,.slice a2 n2 d2] rfl rfl ?_) rfl ?_
  ·have h6:=((R32.out.set 0 (.int .u64 k)).set 1 (.slice a1 n1 d1)).set 2 (.slice a2 n2 d2);simpa using h6
  ·refine ⟨rfl,(((K0.out.trans X2.out (by simp)).mono (G:=[w.heap.size]) (by simp)).trans ((((Ω [w.heap.size] w2).setCell (.inl (by simp)) _).setCell (.inl (by simp)) _).setCell (.inl (by simp)) _) (by simp)).toBelow (Θ _) (by simp)⟩
end Go.Proofs.YtcgmgdjeamidlaaGreat
