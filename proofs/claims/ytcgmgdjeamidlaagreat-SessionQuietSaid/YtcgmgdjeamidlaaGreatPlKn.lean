/- Texts of one proof, joined. -/
import Derived.Test.YtcgmgdjeamidlaaGreatMg22
import Derived.Test.YtcgmgdjeamidlaaGreatMg25
namespace Go.Proofs.YtcgmgdjeamidlaaGreat
set_option maxRecDepth 100000
set_option maxHeartbeats 16000000
open Go.RowKit Go.ChangeShapes Go.WideShapes Go.ChangeAt Go.Proofs.Tryz
set_option linter.unusedVariables false
set_option linter.unusedSimpArgs false
abbrev tHitK:TypeId:=118
def hitC(q:List Int)(c:Rc):Int×Int:=(c.1,vc.distF c.2.1 q)
def KnnCo(L:List Rc)(q:List Int)(n:Int)(w:World)(e:Ending)(w':World):Prop:=∃ v,e=.returned (.tuple #[v,.int .i64 0])∧vc.HitsAt w' v (vc.firstF (L.map (hitC q)) n)∧Below w.heap.size w w'∧w'.ownsRow w.heap.size tHitK 2 v (vc.firstF (L.map (hitC q)) n).length (vc.hc (vc.firstF (L.map (hitC q)) n))
def KnnDTo(D:PDB)(o:PTx)(q:List Int)(k:Int)(w:World)(e:Ending)(w':World):Prop:=∃ zs:List Int,zs.Pairwise (· < ·)∧(∀ x,x∈zs↔x∈D.all.map (·.1)∨x∈o.wr.map (·.1))∧KnnCo (zs.filterMap fun k=>visC (seesR D o k)) q k w e w'
theorem hc_snoc(l:List (Int×Int))(x:Int×Int):vc.hc (l++[x])=vc.hc l++[.int .u64 x.1,.int .i64 x.2]:=by rw [vc.hc_append];simp [vc.hc]
theorem ItsAt.cell{w:World}{B:Nat}{a:Option Addr}{n c:Nat}{its:List It}(h:ItsAt w B (.slice a n c) its){j:Nat}{x:It}(hx:its[j]? = some x):∃ g,a=some ⟨g,0,none⟩∧n=its.length∧n≤c∧∀ i,i<3→w.cell? ⟨g,j * 3+i,none⟩=x.cells[i]?:=by
 have hj:=(List.getElem?_eq_some_iff.1 hx).1;have ho:=h.own;rcases ho.2 with ⟨hv,h0⟩|⟨g,cap,cur,hv,_,_,hc,_⟩
 ·omega
 ·simp only [Value.slice.injEq] at hv;obtain ⟨rfl,rfl,rfl⟩:=hv;refine ⟨g,rfl,rfl,hc,fun i hi=>?_⟩;rw [ho.cellAt (j * 3+i) (by omega),itL_get its j x hx i hi]
theorem knn_on{w:World}{B p ba bo:Nat}{D:PDB}(h:DbAt w B p ba bo D)(hs:Small D){n:Int}{o:PTx}(ho:findP n D.op=some o){q:Sl}(hq:SlRd .i32 w q)(hd:(q.xs.length:Int)=D.dim)(h32:vc.In32 q.xs)(hv32:∀ k c,visC (seesR D o k)=some c→vc.In32 c.2.1)(k:Int)(k1 : -9223372036854775808≤k)(k2:k≤9223372036854775807) :
  Calls prog 233 #[.pointer (some ⟨p,0,none⟩),.int .u64 n,q.v,.int .i64 k] w (KnnDTo D o q.xs k w):=by
 obtain ⟨hom,rfl⟩:=findP_some ho;obtain ⟨i0,hi0,hz0,hz1,hz2⟩:=info_parts vc.infoHit;have H:=Ξ h;have FY:=Ξ (find_yes h ho);have SN:=Ξ (seen_on h hs hom);have c0:=h.row.c 0 (.int .i64 D.dim);rw [←hd] at c0;have HQ:=Ξ hq;have Q32:=Ξ h32;have V32:=Ξ hv32;have QL:Hid (q.xs.length≤1000000):=Ξ hq.le;have K12:=Ξ (Ψ k1 k2);unfold ListTo at SN;have QV:Hid (q.v=.slice q.a q.xs.length q.c):=Ξ rfl;have neq:(((q.xs.length:Nat):Int) != (q.xs.length:Int))=false:=by simp
 unfold Sl.v;clear h hs ho hom hq hd h32 hv32 k1 k2;generalize hql:q.xs.length=ql at c0 neq QV QL;have HQL:=Ξ hql;clear hql;go_enter func233,ntmps233;go_wp2_with fail;refine FY.out.mono ?_;rintro _ w1 ⟨rfl,hw⟩;subst w1;go_wp2_with fail;refine SN.out.mono ?_;rintro _ w2 ⟨v,its,zs,rfl,hi,hc,hz,hm,hl,hb⟩;have HI:=Ξ hi;have HC:=Ξ hc;have HZ:=Ξ (Ψ hz hm);have HL:=Ξ hl;have HB:=Ξ hb;obtain ⟨a,ac,rfl,_⟩:=own_shape hi.own;obtain ⟨m,hm2⟩:∃ m,its.length=m:=⟨_,rfl⟩;have HM:=Ξ hm2;rw [hm2] at HI HL ⊢;have V32':Hid (∀ x∈its,vc.In32 x.vec.xs):=Ξ fun x hx=>by have:x.c∈its.map It.c:=List.mem_map.2 ⟨x,hx,rfl⟩;rw [HC.out] at this;obtain ⟨z,_,hz⟩:=List.mem_filterMap.1 this;exact V32.out z _ hz
 clear hi hc hz hm hl hb hm2 SN c0 neq FY;go_wp2_with fail;go_loopw [12,37] (fun u12 u37 wr=>∃ (j:Nat) (pv:Option Addr) (cv:Nat),(u12=.slice pv j cv∧u37=.int .i64 (j:Int))∧Hid (j≤m)∧Hid (wr.ownsRow w2.heap.size tHitK 2 (.slice pv j cv) j (vc.hc ((its.take j).map fun x=>hitC q.xs x.c)))∧Hid (Below w2.heap.size w2 wr)) (fun _ u _=>m-(intOf u).toNat)
 case atStart=>exact ⟨0,none,0,⟨rfl,rfl⟩,Ξ (Nat.zero_le _),Ξ (World.ownsRow_nil _ _ _ _),Ξ (Δ _ _)⟩
 case round=>
  obtain ⟨j,pv,cv,⟨rfl,rfl⟩,HJ,HO,HBW⟩:=hrel;rename World=>w3;have e1:IntKind.i64.wrap ((j:Int)+1)=((j+1:Nat):Int):=w_inc _ (by have:=HL.out;have:=HJ.out;omega);have HI3:=Ξ (HI.out.below HBW.out);by_cases hlt:j<m
  ·have d1:decide ((j:Int)<(m:Int))=true:=Γ (by omega);have d1':decide (j<m)=true:=Γ hlt;have j3:(j:Int)<(m:Int):=(by omega);obtain ⟨x,hx⟩:∃ x,its[j]? = some x:=⟨_,List.getElem?_eq_getElem (by rw [HM.out];exact hlt)⟩;obtain ⟨g2,eg2,-,-,hc⟩:=HI3.out.cell hx;have c0:w3.cell? ⟨g2,j * 3,none⟩=some (.int .u64 x.key):=hc 0 (by omega);have c1:w3.cell? ⟨g2,j * 3+1,none⟩=some (.slice x.vec.a x.vec.xs.length x.vec.c):=hc 1 (by omega);have c2:w3.cell? ⟨g2,j * 3+2,none⟩=some (.slice x.tag.a x.tag.xs.length x.tag.c):=hc 2 (by omega);have HX:=Ξ hx;have XM:=Ξ (List.mem_of_getElem? hx);have JM:=Ξ hlt;have EG2:=Ξ eg2;subst eg2;have DI:Hid (∀ y,Only [] w3 y→Calls prog 243 #[.slice x.vec.a x.vec.xs.length x.vec.c,.slice q.a ql q.c] y fun e w'=>e=.returned (.tuple #[.int .i64 (vc.distF x.vec.xs q.xs),.int .i64 (vc.distE x.vec.xs q.xs)])∧y=w'):=Ξ fun y hy=>by have hxv:=((HI3.out.each x XM.out).1.only hy (by simp));have hq3:=((HQ.out.only ((Ω [] w).below HB.out) (by simp)).only ((Ω [] w2).below HBW.out) (by simp)).only hy (by simp);have:=vc.dist_any x.vec.v q.v x.vec.xs q.xs y hxv.ints hq3.ints (V32'.out x XM.out) Q32.out (by have:=hxv.le;omega) (by have:=hq3.le;omega);rw [QV.out] at this;exact this
   have RX:=Ξ (Φ w3 #[.int .u64 x.key,.slice x.vec.a x.vec.xs.length x.vec.c,.slice x.tag.a x.tag.xs.length x.tag.c] tIt);have O4:Hid (Only [] w3 (w3.alloc (.cells #[.int .u64 x.key,.slice x.vec.a x.vec.xs.length x.vec.c,.slice x.tag.a x.tag.xs.length x.tag.c] tIt))):=Ξ ((Ω [] w3).alloc _);clear hc hx hlt;go_wp2_with fail;have b0:=RX.out.c 0 (.int .u64 x.key);generalize hw4:w3.alloc (.cells #[.int .u64 x.key,.slice x.vec.a x.vec.xs.length x.vec.c,.slice x.tag.a x.tag.xs.length x.tag.c] 37)=w4 at *;have L4:=Ξ (Nat.le_trans HBW.out.size O4.out.size);have HO4:Hid (w4.ownsRow w2.heap.size tHitK 2 (.slice pv j cv) j (vc.hc ((its.take j).map fun x=>hitC q.xs x.c))):=Ξ (own_keep HO.out fun b hb=>O4.out.block b (HO.out.lt b hb).2 (by simp));clear hw4 c0 c1 c2;refine (DI.out w4 O4.out).mono ?_;rintro _ w5 ⟨rfl,rfl⟩;generalize hdf:vc.distF x.vec.xs q.xs=df;have DF:=Ξ hdf;clear hdf;have CE:Hid (∀ k u,[Value.int .u64 x.key,.int .i64 df][k]? = some u→(w4.alloc (.cells #[.int .u64 x.key,.int .i64 df] tHitK)).cell? ((⟨w4.heap.size,0,none⟩:Addr).add k)=some u):=Ξ fun k u hk=>by rw [add_plain,Nat.zero_add];have R:=Φ w4 #[.int .u64 x.key,.int .i64 df] tHitK;have:=R.cell k;rw [this];simpa using hk
   go_wp2_with (at_builtin;refine wpList_append_at rfl (.tmp 48) (.tmp 53) 39 rfl w2.heap.size tHitK i0 _ 2 16 underlying39 hi0 hz0 hz1 hz2 rfl (by decide) (.slice pv j cv) j (vc.hc ((its.take j).map fun x=>hitC q.xs x.c)) rfl (HO4.out.alloc _) ⟨w4.heap.size,0,none⟩ 1 1 [.int .u64 x.key,.int .i64 df] rfl rfl CE.out (by intro u hu;simp at hu;rcases hu with rfl|rfl<;>rfl) (by have:=HL.out;have:=HJ.out;unfold maxLen;omega) (by have:=HL.out;have:=HJ.out;omega) (by have:=L4.out;simp;omega) ?more);case more=>
    intro v2 w6 hown' hgrow hfr;have N6:Hid (Below w2.heap.size w2 w6):=Ξ (((HBW.out.trans (O4.out.toBelow HBW.out.size (by simp))).alloc L4.out _).grown hgrow (by have:=L4.out;simp;omega) (fun b hb=>(HO.out.lt b hb).1));obtain ⟨p2,cc2,rfl,_⟩:=own_shape hown';have O6:Hid (w6.ownsRow w2.heap.size tHitK 2 (.slice p2 (j+1) cc2) (j+1) (vc.hc ((its.take (j+1)).map fun x=>hitC q.xs x.c))):=Ξ (by
     have e:its.take (j+1)=its.take j++[x]:=by rw [List.take_add_one,HX.out];rfl
     rw [e,List.map_append,List.map_singleton,hc_snoc];have:hitC q.xs x.c=(x.key,df):=by unfold hitC It.c;rw [DF.out]
     rw [this];have h9:=hown';rw [←List.map_take] at h9;exact h9)
    clear hown' hgrow hfr b0;go_wp2_with fail;go_roundw;case rel=>exact ⟨j+1,p2,cc2,⟨rfl,by first|rfl|go_num⟩,Ξ (by have:=JM.out;omega),O6,N6⟩
    case measure=>have:=JM.out;simp [intOf];omega
  ·have d1:decide ((j:Int)<(m:Int))=false:=Λ (by omega);have d1':decide (j<m)=false:=Λ hlt;obtain rfl:j=m:=by have:=HJ.out;omega
   have FI:=Ξ (vc.first_any j ((its.take j).map fun x=>hitC q.xs x.c) w3 pv cv k K12.out.1 K12.out.2 (by rw [List.length_map,List.length_take,HM.out];omega) (src_of_own (by decide) HO.out) (by have:=HL.out;omega));clear hlt;go_wp2_with fail;refine FI.out.mono ?_;rintro _ w7 ⟨v,rfl,ho,hb⟩;have N:Hid (KnnDTo D o q.xs k w (.returned (.tuple #[v,.int .i64 0])) w7):=Ξ (by
    have e:(its.take j).map (fun x=>hitC q.xs x.c)=(zs.filterMap fun k=>visC (seesR D o k)).map (hitC q.xs):=by rw [List.take_of_length_le (by rw [HM.out];exact Θ _),←HC.out,List.map_map];rfl
    have hl:((its.take j).map (fun x=>hitC q.xs x.c)).length=j:=by rw [List.length_map,List.length_take,HM.out];omega
    refine ⟨zs,HZ.out.1,HZ.out.2,v,rfl,?_,HB.out.trans ((HBW.out.trans (hb.mono HBW.out.size)).mono HB.out.size),?_⟩
    ·rw [←e];exact vc.hits_of_own ho
    ·rw [←e,vc.firstF_len,hl];exact own_mono ho (Nat.le_trans HB.out.size HBW.out.size))
   obtain ⟨p9,c9,rfl,_⟩:=own_shape ho;clear ho hb;go_wp2_with fail;go_ret2;exact N.out
theorem knn_dim{w:World}{B p ba bo:Nat}{D:PDB}(h:DbAt w B p ba bo D){n:Int}{o:PTx}(ho:findP n D.op=some o){q:Sl}(hq:q.xs.length≤1000000)(hd:(q.xs.length:Int)≠D.dim)(k:Int) :
  Calls prog 233 #[.pointer (some ⟨p,0,none⟩),.int .u64 n,q.v,.int .i64 k] w fun e w'=>e=.returned (.tuple #[.slice none 0 0,.int .i64 9])∧w'=w:=by
 have FY:=Ξ (find_yes h ho);have c0:=h.row.c 0 (.int .i64 D.dim);have neq:((q.xs.length:Int) != D.dim)=true:=by simpa using hd
 have neq2:decide ((q.xs.length:Int)=D.dim)=false:=Λ hd;unfold Sl.v;generalize q.xs.length=ql at *;clear h ho hd;go_enter func233,ntmps233;go_wp2_with fail;refine FY.out.mono ?_;rintro _ w1 ⟨rfl,hw⟩;subst w1;go_wp2_with fail;go_ret2;exact ⟨rfl,rfl⟩
end Go.Proofs.YtcgmgdjeamidlaaGreat
